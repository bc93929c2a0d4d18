/- Parts of the proof, laid together: Ic, If. -/
import Derived.Test.YtddacakmafdgdaaJg7
section
/- Ic: what Go functions of this seat come to, printed by walk.py over the engine. -/
set_option linter.unusedVariables false
set_option linter.unusedSimpArgs false
set_option maxRecDepth 100000
namespace Go.Proofs.Ytddacakmafdgdaa
open Go.RowKit Go.Kn

set_option maxHeartbeats 4000000 in
theorem clusteredR_s (Al Ab : Option Addr) (nl cl nb cb : Nat) (l : List (List Int)) (bs : List Bond3) (limit : Int) (w : World) (hl : RdE intsE 14 w Al nl l) (hb : RdE bondE 3 w Ab nb bs) (hgd : Kn.Good l) (hid : ∀ x ∈ l, 0 ≤ idOf x ∧ idOf x ≤ 1000000) (hb0 : bondsFrom l none bs = 0) (hnb : nb ≤ 1000) (hl0 : 0 ≤ limit) (hl1 : limit ≤ 774192) :
  Calls Try.prog 14 #[Value.slice Al nl cl, Value.slice Ab nb cb, Value.int .i64 limit] w fun e w' => ∃ r, e = .returned r ∧ ∃ fE, Runs l nl (notsOf l bs) limit (firstsOf l bs) fE ∧ Stop l nl (notsOf l bs) limit fE ∧ FOk nl fE ∧ ∃ (A : Option Addr) (c : Nat) (rows : List RRow) (Lo : Hp), r = .slice A rows.length c ∧ rows.map (fun r => natsI r.xs) = idsG l nl fE ∧ OwnR tInts 1 (.slice A rows.length c) rows.length (topV rows) Lo ∧ (∀ r ∈ rows, r.ok) ∧ Mem w No w' (Lo ++ rows.flatMap RRow.L) := by
 refine calls_k (args := [Value.slice Al nl cl, Value.slice Ab nb cb, Value.int .i64 limit]) 354 [(0, Value.slice Al nl cl), (1, Value.slice Ab nb cb), (2, Value.int .i64 limit)] Try.func14 rfl rfl ⟨rfl, rfl, rfl, trivial⟩ ?_
 have hM := Mem.nil w No
 have hbl := hb.len
 have hll := hl.len
 have hl3 : nl ≤ 300 := by have := hgd.len; omega
 obtain ⟨f0, hf0⟩ : ∃ f, f = joinAll (mustsOf l bs) := ⟨_, rfl⟩
 have hms := musts_lt hgd.sorted hb0
 rw [hll] at hms
 have hF0 : FOk nl f0 := by rw [hf0]; exact joinAll_ok hms
 have hidl : (idsG l nl f0).length ≤ (keysOf nl f0).length := by simp [idsG]
 have hidn := ids_nodup hgd.sorted hll hF0
 have hkl := keysOf_len nl f0
 refine k_seq (k_region (sqV (.slice none 0 0) rfl rfl rfl ?_))
 refine r_nil (e_then (k_seq (k_region (sqV (.slice Al nl cl) rfl rfl rfl ?_))))
 refine sqV (.slice Ab nb cb) rfl rfl rfl ?_
 refine r_call (f := 34) (args := #[Value.slice Al nl cl, Value.slice Ab nb cb]) (w' := w) rfl rfl (x_call (vs := [Value.slice Al nl cl, Value.slice Ab nb cb]) (enter34 _ _) rfl rfl) (mustsR_s Al Ab nl cl nb cb l bs w (hl.up hM) (hb.up hM) hgd hb0 hnb) ?_
 rintro v_ w1 ⟨bg, g, rfl, hlab, hM2⟩
 replace hM2 : Mem w No w1 [(bg, .cells (rowC nl (Value.int .i64) (fun q => (g q : Int))) 3 (0, 0))] := by simpa using Mem.call0 hM.drop hM2
 rw [← hf0] at hlab
 refine sqV (.slice (some ⟨bg, 0, none⟩) nl nl) rfl rfl rfl ?_
 refine r_nil (e_then (k_seq (k_region (sqV (.slice none 0 0) rfl rfl rfl ?_))))
 refine r_nil (e_then (k_seq (k_seq (k_region (sqV (.slice Al nl cl) rfl rfl rfl ?_)))))
 refine sqV (.int .i64 (nl : Int)) rfl rfl (x_len rfl rfl) ?_
 refine sqV (.int .i64 0) rfl rfl rfl ?_
 refine r_nil (sqE [(0, .slice Al nl cl), (1, .slice Ab nb cb), (2, .int .i64 limit), (7, .slice (some ⟨bg, 0, none⟩) nl nl), (8, .slice none 0 0), (40, .int .i64 (nl : Int)), (41, .int .i64 0)] rfl (e_then (k_block (k_loop (σ := Nat × Value × Hp × List RRow) (fun ⟨i, vt, Lt, gs⟩ => [(0, .slice Al nl cl), (1, .slice Ab nb cb), (2, .int .i64 limit), (7, .slice (some ⟨bg, 0, none⟩) nl nl), (8, vt), (40, .int .i64 (nl : Int)), (41, .int .i64 (i : Int))]) (fun ⟨i, vt, Lt, gs⟩ w_ => Mem w No w_ ((bg, .cells (rowC nl (.int .i64) (fun q => (g q : Int))) 3 (0, 0)) :: (Lt ++ gs.flatMap RRow.L)) ∧ i ≤ nl ∧ gs.map RRow.xs = grpsTo g nl i ∧ OwnR tInts 1 vt gs.length (topV gs) Lt ∧ ∀ r ∈ gs, r.ok) (fun ⟨i, vt, Lt, gs⟩ => nl - i) (0, .slice none 0 0, [], []) (sqS rfl) ⟨by simpa using hM2, by omega, rfl, OwnR.nil _ _, by simp⟩ ?_))))
 rintro ⟨i, vt, Lt, gs⟩ w3 ⟨hM4, hi, hgx, ht, hgo⟩
 refine sqK [(0, .slice Al nl cl), (1, .slice Ab nb cb), (2, .int .i64 limit), (7, .slice (some ⟨bg, 0, none⟩) nl nl), (8, vt), (40, .int .i64 (nl : Int)), (41, .int .i64 (i : Int))] rfl (k_seq (k_region (sqV (.bool (decide ((i : Int) < (nl : Int)))) rfl rfl rfl ?_)))
 refine r_nil (e_then (k_seq ?_))
 refine k_cond rfl rfl (fun h => ?_) (fun h => ?_)
 ·try simp only [sqC] at h
  refine k_skip (e_then (k_seq (k_block (k_seq (k_region (sqV (.int .i64 (i : Int)) rfl rfl rfl ?_))))))
  refine sqV (.int .i64 (i : Int)) rfl rfl rfl ?_
  refine r_nil (e_then (k_seq (k_region (sqV (.slice none 0 0) rfl rfl rfl ?_))))
  refine r_nil (e_then (k_seq (k_seq (k_region (sqV (.slice (some ⟨bg, 0, none⟩) nl nl) rfl rfl rfl ?_)))))
  refine sqV (.int .i64 (nl : Int)) rfl rfl (x_len rfl rfl) ?_
  refine sqV (.int .i64 0) rfl rfl rfl ?_
  refine r_nil (sqE [(0, .slice Al nl cl), (1, .slice Ab nb cb), (2, .int .i64 limit), (7, .slice (some ⟨bg, 0, none⟩) nl nl), (8, vt), (9, .int .i64 (i : Int)), (10, .slice none 0 0), (40, .int .i64 (nl : Int)), (41, .int .i64 (i : Int)), (44, .slice (some ⟨bg, 0, none⟩) nl nl), (45, .int .i64 (nl : Int)), (46, .int .i64 0)] rfl (e_then (k_block (k_loop (σ := Nat × Value × Hp) (fun ⟨k, v, L⟩ => [(0, .slice Al nl cl), (1, .slice Ab nb cb), (2, .int .i64 limit), (7, .slice (some ⟨bg, 0, none⟩) nl nl), (8, vt), (9, .int .i64 (i : Int)), (10, v), (40, .int .i64 (nl : Int)), (41, .int .i64 (i : Int)), (44, .slice (some ⟨bg, 0, none⟩) nl nl), (45, .int .i64 (nl : Int)), (46, .int .i64 (k : Int))]) (fun ⟨k, v, L⟩ w_ => Mem w No w_ ((bg, .cells (rowC nl (.int .i64) (fun q => (g q : Int))) 3 (0, 0)) :: (L ++ (Lt ++ gs.flatMap RRow.L))) ∧ k ≤ nl ∧ OwnR tInt 1 v (clsN g i k).length (natsV (clsN g i k)) L) (fun ⟨k, v, L⟩ => nl - k) (0, .slice none 0 0, []) (sqS rfl) ⟨hM4, by omega, OwnR.nil _ _⟩ ?_))))
  rintro ⟨k, v, L⟩ w5 ⟨hM6, hk, hr⟩
  refine sqK [(0, .slice Al nl cl), (1, .slice Ab nb cb), (2, .int .i64 limit), (7, .slice (some ⟨bg, 0, none⟩) nl nl), (8, vt), (9, .int .i64 (i : Int)), (10, v), (40, .int .i64 (nl : Int)), (41, .int .i64 (i : Int)), (44, .slice (some ⟨bg, 0, none⟩) nl nl), (45, .int .i64 (nl : Int)), (46, .int .i64 (k : Int))] rfl (k_seq (k_region (sqV (.bool (decide ((k : Int) < (nl : Int)))) rfl rfl rfl ?_)))
  refine r_nil (e_then (k_seq ?_))
  refine k_cond rfl rfl (fun h2 => ?_) (fun h2 => ?_)
  ·try simp only [sqC] at h2
   refine k_skip (e_then (k_seq (k_block (k_seq (k_region ?_)))))
   have hcl := cls_len g i k
   refine sqV (.int .i64 (k : Int)) rfl rfl rfl ?_
   refine sqV (.pointer (some ⟨bg, k, none⟩)) rfl rfl (x_indexAddrL (i := k) (sz := 1) (by omega) rfl rfl rfl rfl (by omega)) ?_
   refine sqV (.int .i64 (g k : Int)) rfl rfl (x_load (hM6.cell 0 rfl (rowC_get (by omega))) rfl rfl) ?_
   refine sqV (.int .i64 (k : Int)) rfl rfl rfl ?_
   refine sqV (.int .i64 (g k : Int)) rfl rfl rfl ?_
   refine r_nil (e_then (k_seq (k_region (sqV (.int .i64 (g k : Int)) rfl rfl rfl ?_))))
   refine sqV (.int .i64 (i : Int)) rfl rfl rfl ?_
   refine sqV (.bool ((g k : Int) == (i : Int))) rfl rfl rfl ?_
   refine r_nil (e_then ?_)
   refine k_cond rfl rfl (fun h3 => ?_) (fun h3 => ?_)
   ·try simp only [sqC] at h3
    refine k_region ?_
    have hgk : g k = i := by omega
    refine sqV (v) rfl rfl rfl ?_
    refine sqV (.int .i64 (k : Int)) rfl rfl rfl ?_
    refine r_new (fun b => .slice (some ⟨b, 0, none⟩) 1 1) (.cells #[Value.int .i64 (k : Int)] 3 (0, 0)) hM6 (by kernel_rfl) rfl rfl ?_
    intro b9 w7 hM8 hb9
    replace hM8 : Mem w No w7 ((b9, .cells #[Value.int .i64 (k : Int)] 3 (0, 0)) :: (bg, .cells (rowC nl (Value.int .i64) (fun q => (g q : Int))) 3 (0, 0)) :: (L ++ (Lt ++ gs.flatMap RRow.L))) := hM8
    refine r_append (bytes := 8) (z := .int .i64 0) (A := some ⟨b9, 0, none⟩) (m := 1) (c := 1) (news := [Value.int .i64 (k : Int)]) hr (hM8.perm (List.perm_append_comm_assoc ([(b9, .cells #[Value.int .i64 (k : Int)] 3 (0, 0)), (bg, .cells (rowC nl (Value.int .i64) (fun q => (g q : Int))) 3 (0, 0))] : Hp) L (Lt ++ gs.flatMap RRow.L))) (fun _ => rfl) (rfl) (hM8.cells 0 rfl) (by simp [Value.oneCell']) (by omega) (by kernel_rfl) (by kernel_rfl) rfl (by decide) (by decide) rfl rfl rfl ?_
    intro v9 L9 w10 hr9 hM11
    replace hM11 := (hM11).perm (List.perm_append_comm_assoc L9 ([(b9, .cells #[Value.int .i64 (k : Int)] 3 (0, 0)), (bg, .cells (rowC nl (Value.int .i64) (fun q => (g q : Int))) 3 (0, 0))] : Hp) (Lt ++ gs.flatMap RRow.L))
    have hone_v9 := hr9.one
    replace hM11 : Mem w No w10 ((b9, .cells #[Value.int .i64 (k : Int)] 3 (0, 0)) :: (bg, .cells (rowC nl (Value.int .i64) (fun q => (g q : Int))) 3 (0, 0)) :: (L9 ++ (Lt ++ gs.flatMap RRow.L))) := hM11
    refine sqV (v9) rfl rfl rfl ?_
    refine r_nil (sqE [(0, .slice Al nl cl), (1, .slice Ab nb cb), (2, .int .i64 limit), (7, .slice (some ⟨bg, 0, none⟩) nl nl), (8, vt), (9, .int .i64 (i : Int)), (10, v9), (40, .int .i64 (nl : Int)), (41, .int .i64 (i : Int)), (44, .slice (some ⟨bg, 0, none⟩) nl nl), (45, .int .i64 (nl : Int)), (46, .int .i64 (k : Int))] rfl (e_blk (e_then (k_region (sqV (.int .i64 ((k : Int) + 1)) rfl rfl (x_addE rfl (by omega) (by omega) rfl rfl) ?_)))))
    refine sqV (.int .i64 ((k : Int) + 1)) rfl rfl rfl ?_
    refine r_nil ?_
    refine e_loop (k + 1, v9, L9) (sqS rfl) ?_ ?_
    ·exact ⟨(hM11.pickT [(b9, .cells #[Value.int .i64 (k : Int)] 3 (0, 0)), (bg, .cells (rowC nl (Value.int .i64) (fun q => (g q : Int))) 3 (0, 0))] (L9 ++ (Lt ++ gs.flatMap RRow.L)) rfl [1] _ (by decide) rfl), by omega, by rw [cls_yes hgk, List.length_append]; simpa [natsV, natsI] using hr9⟩
    ·(try dsimp only); omega
   ·try simp only [sqC] at h3
    refine k_skip (e_blk (e_then (k_region ?_)))
    have hgk : g k ≠ i := by omega
    refine sqV (.int .i64 ((k : Int) + 1)) rfl rfl (x_addE rfl (by omega) (by omega) rfl rfl) ?_
    refine sqV (.int .i64 ((k : Int) + 1)) rfl rfl rfl ?_
    refine r_nil ?_
    refine e_loop (k + 1, v, L) (sqS rfl) ?_ ?_
    ·exact ⟨hM6, by omega, by rw [cls_no hgk]; exact hr⟩
    ·(try dsimp only); omega
  ·try simp only [sqC] at h2
   refine k_exit (e_then_exit (e_loop_exit (e_blk_exit (e_then (k_seq (k_region ?_))))))
   have hkn : k = nl := by omega
   rw [hkn] at hr
   obtain ⟨A9, c9, hv9, _, _, _⟩ := hr.slice
   have hcl := cls_len g i nl
   have hgl : gs.length ≤ i := by have h9 := congrArg List.length hgx; simp at h9; rw [h9]; exact grps_len g nl i
   refine wpR_sub [(0, Value.slice Al nl cl), (1, Value.slice Ab nb cb), (2, Value.int .i64 limit), (7, Value.slice (some ⟨bg, 0, none⟩) nl nl), (8, vt), (9, Value.int .i64 (i : Int)), (10, Value.slice A9 ((clsN g i nl).length) c9), (40, Value.int .i64 (nl : Int)), (41, Value.int .i64 (i : Int)), (44, Value.slice (some ⟨bg, 0, none⟩) nl nl), (45, Value.int .i64 (nl : Int)), (46, Value.int .i64 (k : Int)), (47, Value.bool (decide ((k : Int) < (nl : Int))))] ⟨rfl, rfl, rfl, rfl, rfl, rfl, congrArg some hv9, rfl, rfl, rfl, rfl, rfl, rfl, trivial⟩ ?_
   refine sqV (.slice A9 ((clsN g i nl).length) c9) rfl rfl rfl ?_
   refine sqV (.int .i64 ((clsN g i nl).length : Int)) rfl rfl (x_len rfl rfl) ?_
   refine sqV (.bool (decide (((clsN g i nl).length : Int) > 0))) rfl rfl rfl ?_
   refine r_nil (e_then ?_)
   refine k_cond rfl rfl (fun h4 => ?_) (fun h4 => ?_)
   ·try simp only [sqC] at h4
    refine k_region ?_
    have hne : clsN g i nl ≠ [] := by intro e; rw [e] at h4; simp at h4
    rw [hv9] at hr
    have hM12 : Mem w No w5 ((bg, .cells (rowC nl (Value.int .i64) (fun q => (g q : Int))) 3 (0, 0)) :: (Lt ++ (L ++ gs.flatMap RRow.L))) := hM6.perm (List.Perm.cons _ (List.perm_append_comm_assoc L Lt (gs.flatMap RRow.L)))
    refine sqV (vt) rfl rfl rfl ?_
    refine sqV (.slice A9 ((clsN g i nl).length) c9) rfl rfl rfl ?_
    refine r_new (fun b => .slice (some ⟨b, 0, none⟩) 1 1) (.cells #[Value.slice A9 ((clsN g i nl).length) c9] 30 (0, 0)) hM12 (by kernel_rfl) rfl rfl ?_
    intro b15 w13 hM14 hb15
    replace hM14 : Mem w No w13 ((b15, .cells #[Value.slice A9 ((clsN g i nl).length) c9] 30 (0, 0)) :: (bg, .cells (rowC nl (Value.int .i64) (fun q => (g q : Int))) 3 (0, 0)) :: (Lt ++ (L ++ gs.flatMap RRow.L))) := hM14
    refine r_append (bytes := 24) (z := .slice none 0 0) (A := some ⟨b15, 0, none⟩) (m := 1) (c := 1) (news := [Value.slice A9 (clsN g i nl).length c9]) ht (hM14.perm (List.perm_append_comm_assoc ([(b15, .cells #[Value.slice A9 ((clsN g i nl).length) c9] 30 (0, 0)), (bg, .cells (rowC nl (Value.int .i64) (fun q => (g q : Int))) 3 (0, 0))] : Hp) Lt (L ++ gs.flatMap RRow.L))) (fun _ => rfl) (rfl) (hM14.cells 0 rfl) (by simp [Value.oneCell']) (by omega) (by kernel_rfl) (by kernel_rfl) rfl (by decide) (by decide) rfl rfl rfl ?_
    intro v8 L8 w16 hr8 hM17
    replace hM17 := (hM17).perm (List.perm_append_comm_assoc L8 ([(b15, .cells #[Value.slice A9 ((clsN g i nl).length) c9] 30 (0, 0)), (bg, .cells (rowC nl (Value.int .i64) (fun q => (g q : Int))) 3 (0, 0))] : Hp) (L ++ gs.flatMap RRow.L))
    have hone_v8 := hr8.one
    replace hM17 : Mem w No w16 ((b15, .cells #[Value.slice A9 ((clsN g i nl).length) c9] 30 (0, 0)) :: (bg, .cells (rowC nl (Value.int .i64) (fun q => (g q : Int))) 3 (0, 0)) :: (L8 ++ (L ++ gs.flatMap RRow.L))) := hM17
    refine sqV (v8) rfl rfl rfl ?_
    refine r_nil (sqE [(0, .slice Al nl cl), (1, .slice Ab nb cb), (2, .int .i64 limit), (7, .slice (some ⟨bg, 0, none⟩) nl nl), (8, v8), (40, .int .i64 (nl : Int)), (41, .int .i64 (i : Int))] rfl (e_blk (e_then (k_region (sqV (.int .i64 ((i : Int) + 1)) rfl rfl (x_addE rfl (by omega) (by omega) rfl rfl) ?_)))))
    refine sqV (.int .i64 ((i : Int) + 1)) rfl rfl rfl ?_
    refine r_nil ?_
    refine e_loop (i + 1, v8, L8, gs ++ [⟨.slice A9 (clsN g i nl).length c9, clsN g i nl, L⟩]) (sqS rfl) ?_ ?_
    ·exact ⟨by have h9 := hM17.tail; rw [List.flatMap_append, List.flatMap_cons, List.flatMap_nil, List.append_nil]; exact h9.perm (List.Perm.cons _ (List.Perm.append_left L8 List.perm_append_comm)), by omega, by rw [List.map_append, hgx, grps_yes hne]; rfl, by rw [List.length_append]; simpa [topV] using hr8, fun r hr' => by rcases List.mem_append.1 hr' with h9 | h9; exact hgo r h9; simp at h9; subst h9; exact hr⟩
    ·(try dsimp only); omega
   ·try simp only [sqC] at h4
    refine k_skip (e_blk (e_then (k_region ?_)))
    have hne : clsN g i nl = [] := List.eq_nil_of_length_eq_zero (by omega)
    refine sqV (.int .i64 ((i : Int) + 1)) rfl rfl (x_addE rfl (by omega) (by omega) rfl rfl) ?_
    refine sqV (.int .i64 ((i : Int) + 1)) rfl rfl rfl ?_
    refine r_nil ?_
    refine e_loop (i + 1, vt, Lt, gs) (sqS rfl) ?_ ?_
    ·exact ⟨(hM6).subp ⟨L, List.Perm.cons _ List.perm_append_comm⟩, by omega, by rw [hgx, grps_no hne], ht, hgo⟩
    ·(try dsimp only); omega
 ·try simp only [sqC] at h
  refine k_exit (e_then_exit (e_loop_exit (e_blk_exit (e_then (k_seq (k_region ?_))))))
  have hin : i = nl := by omega
  rw [hin] at hgx
  obtain ⟨hne1, hds1, hbd1, hgln⟩ := groups_distinct hgx
  refine sqV (vt) rfl rfl rfl ?_
  refine r_call (f := 37) (args := #[vt, Value.func (.func 38) #[] #[]]) (w' := w3) rfl rfl (x_call (vs := [vt, Value.func (.func 38) #[] #[]]) (enter37 _ _) rfl rfl) (sortF_s 38 (.inl rfl) vt gs Lt w3 ht hM4.tail.holds hgo hne1 hds1 (fun r hr x hx => by have := hbd1 r hr x hx; omega) (by omega)) ?_
  rintro v_ w18 ⟨rfl, gs1, Lt1, hperm, hsorted, ht1, hM19⟩
  replace hM19 : Mem w No w18 ((bg, .cells (rowC nl (Value.int .i64) (fun q => (g q : Int))) 3 (0, 0)) :: (Lt1 ++ gs.flatMap RRow.L)) := (Mem.call (L1 := Lt) (L2 := ([(bg, .cells (rowC nl (Value.int .i64) (fun q => (g q : Int))) 3 (0, 0))] : Hp) ++ gs.flatMap RRow.L) (hM4.perm (List.perm_append_comm_assoc ([(bg, .cells (rowC nl (Value.int .i64) (fun q => (g q : Int))) 3 (0, 0))] : Hp) Lt _)) hM19).perm (List.perm_append_comm_assoc Lt1 ([(bg, .cells (rowC nl (Value.int .i64) (fun q => (g q : Int))) 3 (0, 0))] : Hp) _)
  refine r_nil (e_then (k_seq (k_region ?_)))
  have hgx1 := groups_order hlab hF0 hgx hperm hsorted
  have hgo1 : ∀ r ∈ gs1, r.ok := fun r hr => hgo r (hperm.mem_iff.1 hr)
  obtain ⟨m, hm⟩ : ∃ m, m = (keysOf nl f0).length := ⟨_, rfl⟩
  have hgl1 : gs1.length = m := by have h9 := congrArg List.length hgx1; simp at h9; omega
  have hgl0 : gs.length = m := by rw [← hgl1, hperm.length_eq]
  rw [hgl0] at ht1
  obtain ⟨At, ct, hvt, hmct, _, _⟩ := ht1.slice
  rw [hvt] at ht1
  have hMx := (hM19).perm (List.Perm.append_left [_] (List.Perm.append_left Lt1 (rows_perm hperm.symm)))
  clear hgx hgo hne1 hds1 hbd1 hgln ht
  have hgx0 : ∀ {i : Nat} {r : RRow} {x : Nat}, gs1[i]? = some r → (keysOf nl f0)[i]? = some x → r.xs = members nl f0 x := fun {i r x} hr hx => by have h1 := congrArg (fun z => z[i]?) hgx1; simp only [List.getElem?_map, hr, hx, Option.map_some] at h1; injection h1
  obtain ⟨gs, hgse⟩ : ∃ q, q = gs1 := ⟨_, rfl⟩
  rw [← hgse] at hMx hgx1 hgo1 hgl1 ht1
  obtain ⟨Lt, hLte⟩ : ∃ q, q = Lt1 := ⟨_, rfl⟩
  rw [← hLte] at hMx ht1
  have hgx0 : ∀ {i : Nat} {r : RRow} {x : Nat}, gs[i]? = some r → (keysOf nl f0)[i]? = some x → r.xs = members nl f0 x := by rw [hgse]; exact hgx0
  have ht := ht1
  have hgo := hgo1
  have hgl := hgl1
  have htop := top_rd ht (Mem.left (L := Lt) hMx.tail).holds
  have hmn : m ≤ 300 := by omega
  refine wpR_sub [(0, Value.slice Al nl cl), (1, Value.slice Ab nb cb), (2, Value.int .i64 limit), (8, Value.slice At m ct)] ⟨rfl, rfl, rfl, congrArg some hvt, trivial⟩ ?_
  have hM20 : Mem w No w18 (Lt ++ gs.flatMap RRow.L) := hMx.tail
  refine sqV (.slice At m ct) rfl rfl rfl ?_
  refine sqV (.int .i64 (m : Int)) rfl rfl (x_len rfl rfl) ?_
  refine sqV (.int .i64 (m : Int)) rfl rfl rfl ?_
  refine r_nil (sqE [(0, .slice Al nl cl), (1, .slice Ab nb cb), (2, .int .i64 limit), (8, .slice At m ct), (13, .int .i64 (m : Int))] rfl (e_then (k_seq ?_)))
  refine k_drawP mixed [0, 1, 0, 4, 3, 31] [some (Value.int .i64 (m : Int)), none, some (Value.int .i64 (m : Int)), none, none] (by kernel_rfl) 5 [] rfl rfl (by kernel_rfl) rfl (fun D V w_ => ∃ tg ta : Nat, (D 1 = true → V 1 = Value.slice (some ⟨tg, 0, none⟩) m m) ∧ (D 3 = true → V 3 = Value.slice (some ⟨ta, 0, none⟩) m m) ∧ (D 4 = true → D 1 = true ∧ V 4 = Value.slice (some ⟨tg, 0, none⟩) m m) ∧ Mem w No w_ (cnd (D 1) (tg, .cells (topC 0 m (fun _ => 0)) 30 (0, 0)) ++ (cnd (D 3) (ta, .cells (topC 0 m (fun _ => 0)) 78 (0, 0)) ++ (Lt ++ gs.flatMap RRow.L)))) (fun V => ⟨0, 0, fun h => Bool.noConfusion h, fun h => Bool.noConfusion h, fun h => Bool.noConfusion h, hM20.drew⟩) trivial ?_ ?_
  ·refine ⟨?_, ?_, ?_, ?_, ?_, trivial⟩
   ·intro D V w_ hd hi hM_
    refine sqG [(13, .int .i64 (m : Int))] rfl rfl rfl ?_
    exact run_val (.int .i64 (m : Int)) (rfl) ⟨sqT, hM_⟩
   ·intro D V w_ hd hi hM_
    refine sqG [(71, .int .i64 (m : Int))] rfl rfl rfl ?_
    obtain ⟨tg, ta, htg_, hta_, hder4_, hM_⟩ := hM_
    rw [show D 1 = false from hi] at hM_
    exact run_val (.slice (some ⟨w_.heap.size, 0, none⟩) m m) (x_makeSlice (n := m) (bytes := 24) (z := .slice none 0 0) rfl rfl (by kernel_rfl) (by kernel_rfl) rfl (by omega) (by omega)) ⟨untold rfl, w_.heap.size, ta, fun _ => rfl, hta_, fun h => absurd (hder4_ h).1 (by rw [show D 1 = false from hi]; decide), (hM_.alloc _)⟩
   ·intro D V w_ hd hi hM_
    refine sqG [(13, .int .i64 (m : Int))] rfl rfl rfl ?_
    exact run_val (.int .i64 (m : Int)) (rfl) ⟨sqT, hM_⟩
   ·intro D V w_ hd hi hM_
    refine sqG [(73, .int .i64 (m : Int))] rfl rfl rfl ?_
    obtain ⟨tg, ta, htg_, hta_, hder4_, hM_⟩ := hM_
    rw [show D 3 = false from hi] at hM_
    exact run_val (.slice (some ⟨w_.heap.size, 0, none⟩) m m) (x_makeSlice (n := m) (bytes := 24) (z := .slice none 0 0) rfl rfl (by kernel_rfl) (by kernel_rfl) rfl (by omega) (by omega)) ⟨untold rfl, tg, w_.heap.size, htg_, fun _ => rfl, hder4_, (hM_.alloc _).ins1⟩
   ·intro D V w_ hd hi hM_
    refine sqG [(72, V 1)] rfl rfl rfl ?_
    obtain ⟨tg, ta, htg_, hta_, hder4_, hM_⟩ := hM_
    exact run_val (V 1) rfl ⟨untold rfl, tg, ta, htg_, hta_, fun _ => ⟨hd 1 rfl, (htg_ (hd 1 rfl))⟩, hM_⟩
  intro D V w21 hall hM22
  obtain ⟨tg, ta, htg_, hta_, hder4_, hM22⟩ := hM22
  replace htg_ := htg_ (hall 1 (by decide))
  replace hta_ := hta_ (hall 3 (by decide))
  replace hder4_ := (hder4_ (hall 4 (by decide))).2
  rw [hall 1 (by decide), hall 3 (by decide)] at hM22
  replace hM22 : Mem w No w21 ((tg, .cells (topC 0 m (fun _ => 0)) 30 (0, 0)) :: (ta, .cells (topC 0 m (fun _ => 0)) 78 (0, 0)) :: (Lt ++ gs.flatMap RRow.L)) := hM22
  refine wpR_sub [(0, Value.slice Al nl cl), (1, Value.slice Ab nb cb), (2, Value.int .i64 limit), (8, Value.slice At m ct), (13, Value.int .i64 (m : Int)), (14, Value.slice (some ⟨tg, 0, none⟩) m m), (74, Value.slice (some ⟨ta, 0, none⟩) m m)] ⟨rfl, rfl, rfl, rfl, rfl, congrArg some hder4_, congrArg some hta_, trivial⟩ ?_
  refine sqV (.slice (some ⟨ta, 0, none⟩) m m) rfl rfl rfl ?_
  refine r_nil (e_then (k_seq (k_seq (k_region (sqV (.int .i64 (m : Int)) rfl rfl rfl ?_)))))
  refine sqV (.int .i64 0) rfl rfl rfl ?_
  refine r_nil (e_then (k_block (k_loop (σ := Nat × (Nat → Nat) × (Nat → Nat)) (fun ⟨i, rg, ra⟩ => [(0, .slice Al nl cl), (1, .slice Ab nb cb), (2, .int .i64 limit), (8, .slice At m ct), (13, .int .i64 (m : Int)), (14, .slice (some ⟨tg, 0, none⟩) m m), (15, .slice (some ⟨ta, 0, none⟩) m m), (75, .int .i64 (m : Int)), (76, .int .i64 (i : Int))]) (fun ⟨i, rg, ra⟩ w_ => Mem w No w_ ((tg, .cells (topC i m rg) 30 (0, 0)) :: (ta, .cells (topC i m ra) 78 (0, 0)) :: (Lt ++ (tabL tInt (.int .i64) i m rg (tabG l nl f0) ++ (tabL tBool .bool i m ra (fun _ _ => false) ++ gs.flatMap RRow.L)))) ∧ i ≤ m) (fun ⟨i, rg, ra⟩ => m - i) (0, fun _ => 0, fun _ => 0) (sqS rfl) ⟨hM22, Nat.zero_le _⟩ ?_)))
  rintro ⟨i, rg, ra⟩ w23 ⟨hM24, hi⟩
  refine sqK [(0, .slice Al nl cl), (1, .slice Ab nb cb), (2, .int .i64 limit), (8, .slice At m ct), (13, .int .i64 (m : Int)), (14, .slice (some ⟨tg, 0, none⟩) m m), (15, .slice (some ⟨ta, 0, none⟩) m m), (75, .int .i64 (m : Int)), (76, .int .i64 (i : Int))] rfl (k_seq (k_region (sqV (.bool (decide ((i : Int) < (m : Int)))) rfl rfl rfl ?_)))
  refine r_nil (e_then (k_seq ?_))
  refine k_cond rfl rfl (fun h => ?_) (fun h => ?_)
  ·try simp only [sqC] at h
   refine k_skip (e_then (k_seq (k_block (k_seq (k_region (sqV (.int .i64 (i : Int)) rfl rfl rfl ?_))))))
   refine sqV (.int .i64 (i : Int)) rfl rfl rfl ?_
   refine r_nil (sqE [(0, .slice Al nl cl), (1, .slice Ab nb cb), (2, .int .i64 limit), (8, .slice At m ct), (13, .int .i64 (m : Int)), (14, .slice (some ⟨tg, 0, none⟩) m m), (15, .slice (some ⟨ta, 0, none⟩) m m), (16, .int .i64 (i : Int)), (75, .int .i64 (m : Int)), (76, .int .i64 (i : Int))] rfl (e_then (k_seq ?_)))
   refine k_drawL mixed [0, 0, 0, 0, 0, 16, 0, 64, 51, 307, 1023, 2047] [some (Value.slice (some ⟨tg, 0, none⟩) m m), some (Value.int .i64 (i : Int)), some (Value.slice (some ⟨ta, 0, none⟩) m m), some (Value.int .i64 (i : Int)), some (Value.int .i64 (m : Int)), none, some (Value.int .i64 (m : Int)), none, some (Value.pointer (some ⟨tg, i, none⟩)), some (undef), some (Value.pointer (some ⟨ta, i, none⟩)), some (undef)] (by kernel_rfl) 11 rfl (by kernel_rfl) (fun D V w_ => ∃ e1 e2 : Nat, (D 5 = true → V 5 = .slice (some ⟨e1, 0, none⟩) m m) ∧ (D 7 = true → V 7 = .slice (some ⟨e2, 0, none⟩) m m) ∧ (D 9 = true → D 5 = true) ∧ Mem w No w_ (cnd (D 5) (e1, .cells (rowC m (Value.int .i64) (fun _ => (0 : Int))) 3 (0, 0)) ++ (cnd (D 7) (e2, .cells (rowC m Value.bool (fun _ => false)) 4 (0, 0)) ++ ((tg, .cells (if D 9 = true then ((topC i m rg).setIfInBounds i (.slice (some ⟨e1, 0, none⟩) m m)) else topC i m rg) 30 (0, 0)) :: (ta, .cells (topC i m ra) 78 (0, 0)) :: (Lt ++ (tabL tInt (.int .i64) i m rg (tabG l nl f0) ++ (tabL tBool .bool i m ra (fun _ _ => false) ++ gs.flatMap RRow.L))))))) (fun V w_ => ∃ e1 e2 : Nat, Mem w No w_ ((e1, .cells (rowC m (Value.int .i64) (fun _ => (0 : Int))) 3 (0, 0)) :: (e2, .cells (rowC m Value.bool (fun _ => false)) 4 (0, 0)) :: (tg, .cells ((topC i m rg).setIfInBounds i (.slice (some ⟨e1, 0, none⟩) m m)) 30 (0, 0)) :: (ta, .cells ((topC i m ra).setIfInBounds i (.slice (some ⟨e2, 0, none⟩) m m)) 78 (0, 0)) :: (Lt ++ (tabL tInt (.int .i64) i m rg (tabG l nl f0) ++ (tabL tBool .bool i m ra (fun _ _ => false) ++ gs.flatMap RRow.L))))) (fun V => ⟨0, 0, fun h => Bool.noConfusion h, fun h => Bool.noConfusion h, fun h => Bool.noConfusion h, hM24.drew⟩) ?_ ?_
   ·refine ⟨?_, ?_, ?_, ?_, ?_, ?_, ?_, ?_, ?_, ?_, ?_, ?_, trivial⟩
    ·intro D V w_ hd hi hM_
     refine sqG [(14, .slice (some ⟨tg, 0, none⟩) m m)] rfl rfl rfl ?_
     exact run_val (.slice (some ⟨tg, 0, none⟩) m m) (rfl) ⟨sqT, hM_⟩
    ·intro D V w_ hd hi hM_
     refine sqG [(16, .int .i64 (i : Int))] rfl rfl rfl ?_
     exact run_val (.int .i64 (i : Int)) (rfl) ⟨sqT, hM_⟩
    ·intro D V w_ hd hi hM_
     refine sqG [(15, .slice (some ⟨ta, 0, none⟩) m m)] rfl rfl rfl ?_
     exact run_val (.slice (some ⟨ta, 0, none⟩) m m) (rfl) ⟨sqT, hM_⟩
    ·intro D V w_ hd hi hM_
     refine sqG [(16, .int .i64 (i : Int))] rfl rfl rfl ?_
     exact run_val (.int .i64 (i : Int)) (rfl) ⟨sqT, hM_⟩
    ·intro D V w_ hd hi hM_
     refine sqG [(13, .int .i64 (m : Int))] rfl rfl rfl ?_
     exact run_val (.int .i64 (m : Int)) (rfl) ⟨sqT, hM_⟩
    ·intro D V w_ hd hi hM_
     refine sqG [(83, .int .i64 (m : Int))] rfl rfl rfl ?_
     obtain ⟨e1, e2, h5, h7, h9, hM9⟩ := hM_
     have hn9 : D 9 = false := dno h9 hi
     rw [show D 5 = false from hi, hn9] at hM9
     simp only [Bool.false_eq_true, if_false] at hM9
     exact run_val _ (x_makeSlice (bytes := 8) (z := .int .i64 0) rfl rfl (by kernel_rfl) (by kernel_rfl) rfl (by omega) (by omega)) ⟨untold rfl, w_.heap.size, e2, fun _ => rfl, h7, fun _ => rfl, by rw [show upd D 5 true 9 = false from hn9]; simp only [Bool.false_eq_true, if_false]; exact hM9.alloc _⟩
    ·intro D V w_ hd hi hM_
     refine sqG [(13, .int .i64 (m : Int))] rfl rfl rfl ?_
     exact run_val (.int .i64 (m : Int)) (rfl) ⟨sqT, hM_⟩
    ·intro D V w_ hd hi hM_
     refine sqG [(85, .int .i64 (m : Int))] rfl rfl rfl ?_
     obtain ⟨e1, e2, h5, h7, h9, hM9⟩ := hM_
     rw [show D 7 = false from hi] at hM9
     exact run_val _ (x_makeSlice (bytes := 1) (z := .bool false) rfl rfl (by kernel_rfl) (by kernel_rfl) rfl (by omega) (by omega)) ⟨untold rfl, e1, w_.heap.size, h5, fun _ => rfl, h9, (hM9.alloc _).ins1⟩
    ·intro D V w_ hd hi hM_
     refine sqG [(79, .slice (some ⟨tg, 0, none⟩) m m), (80, .int .i64 (i : Int))] rfl rfl rfl ?_
     exact run_val (.pointer (some ⟨tg, i, none⟩)) (x_indexAddrL (i := i) (sz := 1) (by omega) rfl rfl rfl rfl (by omega)) ⟨sqT, hM_⟩
    ·intro D V w_ hd hi hM_
     refine sqG [(84, V 5), (87, .pointer (some ⟨tg, i, none⟩))] rfl rfl rfl ?_
     obtain ⟨e1, e2, h5, h7, h9, hM9⟩ := hM_
     have d5 := hd 5 rfl
     rw [h5 d5]
     rw [d5, show D 9 = false from hi] at hM9
     simp only [Bool.false_eq_true, if_false] at hM9
     cases h7c : D 7
     ·rw [h7c] at hM9
      exact o_store1 hM9 1 rfl (by rw [topC_size]; omega) rfl rfl rfl rfl (fun w' h => ⟨sqT, e1, e2, h5, h7, fun _ => d5, by rw [show upd D 9 true 5 = true from d5, show upd D 9 true 7 = false from h7c]; exact h⟩)
     ·rw [h7c] at hM9
      exact o_store1 hM9 2 rfl (by rw [topC_size]; omega) rfl rfl rfl rfl (fun w' h => ⟨sqT, e1, e2, h5, h7, fun _ => d5, by rw [show upd D 9 true 5 = true from d5, show upd D 9 true 7 = true from h7c]; exact h⟩)
    ·intro D V w_ hd hi hM_
     refine sqG [(81, .slice (some ⟨ta, 0, none⟩) m m), (82, .int .i64 (i : Int))] rfl rfl rfl ?_
     exact run_val (.pointer (some ⟨ta, i, none⟩)) (x_indexAddrL (i := i) (sz := 1) (by omega) rfl rfl rfl rfl (by omega)) ⟨sqT, hM_⟩
    ·intro D V w_ hd hi hM_
     refine sqG [(86, V 7), (88, .pointer (some ⟨ta, i, none⟩))] rfl rfl rfl ?_
     obtain ⟨e1, e2, h5, h7, h9, hM9⟩ := hM_
     rw [h7 (hd 7 rfl)]
     rw [hd 5 rfl, hd 7 rfl, hd 9 rfl] at hM9
     simp only [if_true] at hM9
     exact o_store1 hM9 3 rfl (by rw [topC_size]; omega) rfl rfl rfl rfl (fun w' h => ⟨sqT, e1, e2, h⟩)
   intro V w33 hM34
   obtain ⟨e1, e2, hM9⟩ := hM34
   replace hM9 : Mem w No w33 ((e1, .cells (rowC m (Value.int .i64) (fun _ => (0 : Int))) 3 (0, 0)) :: (e2, .cells (rowC m Value.bool (fun _ => false)) 4 (0, 0)) :: (tg, .cells ((topC i m rg).setIfInBounds i (.slice (some ⟨e1, 0, none⟩) m m)) 30 (0, 0)) :: (ta, .cells ((topC i m ra).setIfInBounds i (.slice (some ⟨e2, 0, none⟩) m m)) 78 (0, 0)) :: (Lt ++ (tabL tInt (.int .i64) i m rg (tabG l nl f0) ++ (tabL tBool .bool i m ra (fun _ _ => false) ++ gs.flatMap RRow.L)))) := hM9
   refine e_then (k_seq (k_region (sqV (.int .i64 (m : Int)) rfl rfl rfl ?_)))
   refine sqV (.int .i64 0) rfl rfl rfl ?_
   refine r_nil (e_then (k_block (k_loop (σ := Nat) (fun k => [(0, .slice Al nl cl), (1, .slice Ab nb cb), (2, .int .i64 limit), (8, .slice At m ct), (13, .int .i64 (m : Int)), (14, .slice (some ⟨tg, 0, none⟩) m m), (15, .slice (some ⟨ta, 0, none⟩) m m), (16, .int .i64 (i : Int)), (75, .int .i64 (m : Int)), (76, .int .i64 (i : Int)), (89, .int .i64 (m : Int)), (90, .int .i64 (k : Int))]) (fun k w_ => Mem w No w_ ((e1, .cells (rowC m (.int .i64) (fun q => if q < k then tabG l nl f0 i q else 0)) 3 (0, 0)) :: (e2, .cells (rowC m .bool (fun _ => false)) 4 (0, 0)) :: (tg, .cells ((topC i m rg).setIfInBounds i (.slice (some ⟨e1, 0, none⟩) m m)) 30 (0, 0)) :: (ta, .cells ((topC i m ra).setIfInBounds i (.slice (some ⟨e2, 0, none⟩) m m)) 78 (0, 0)) :: (Lt ++ (tabL tInt (.int .i64) i m rg (tabG l nl f0) ++ (tabL tBool .bool i m ra (fun _ _ => false) ++ gs.flatMap RRow.L)))) ∧ k ≤ m) (fun k => m - k) 0 (sqS rfl) ⟨by rw [← fillG_0]; exact hM9, Nat.zero_le _⟩ ?_)))
   rintro k w35 ⟨hM36, hk⟩
   refine sqK [(0, .slice Al nl cl), (1, .slice Ab nb cb), (2, .int .i64 limit), (8, .slice At m ct), (13, .int .i64 (m : Int)), (14, .slice (some ⟨tg, 0, none⟩) m m), (15, .slice (some ⟨ta, 0, none⟩) m m), (16, .int .i64 (i : Int)), (75, .int .i64 (m : Int)), (76, .int .i64 (i : Int)), (89, .int .i64 (m : Int)), (90, .int .i64 (k : Int))] rfl (k_seq (k_region (sqV (.bool (decide ((k : Int) < (m : Int)))) rfl rfl rfl ?_)))
   refine r_nil (e_then (k_seq ?_))
   refine k_cond rfl rfl (fun h2 => ?_) (fun h2 => ?_)
   ·try simp only [sqC] at h2
    refine k_skip (e_then (k_seq (k_block (k_seq (k_region ?_)))))
    obtain ⟨ri, hri⟩ : ∃ r, gs[i]? = some r := ⟨gs[i]'(by omega), by simp⟩
    have hrim := List.mem_of_getElem? hri
    obtain ⟨Ari, cri, hvri, hnri⟩ := row_slice (hgo ri hrim)
    obtain ⟨rk, hrk⟩ : ∃ r, gs[k]? = some r := ⟨gs[k]'(by omega), by simp⟩
    have hrkm := List.mem_of_getElem? hrk
    obtain ⟨Ark, crk, hvrk, hnrk⟩ := row_slice (hgo rk hrkm)
    obtain ⟨xi, hxi⟩ : ∃ x, (keysOf nl f0)[i]? = some x := ⟨(keysOf nl f0)[i]'(by omega), by simp⟩
    have hxik := mem_keysOf.1 (List.mem_of_getElem? hxi)
    obtain ⟨xk, hxk⟩ : ∃ x, (keysOf nl f0)[k]? = some x := ⟨(keysOf nl f0)[k]'(by omega), by simp⟩
    have hxkk := mem_keysOf.1 (List.mem_of_getElem? hxk)
    have hrix := hgx0 hri hxi
    have hrkx := hgx0 hrk hxk
    have hrib : ∀ p ∈ ri.xs, p < nl := by rw [hrix]; exact fun p hp => (mem_members.1 hp).1
    have hrkb : ∀ p ∈ rk.xs, p < nl := by rw [hrkx]; exact fun p hp => (mem_members.1 hp).1
    have hgap : gapV l ri.xs rk.xs = tabG l nl f0 i k := by rw [hrix, hrkx, tabG, show (keysOf nl f0).getD i 0 = xi by simp [hxi], show (keysOf nl f0).getD k 0 = xk by simp [hxk]]
    have hril : ri.xs.length ≤ nl := by rw [hrix]; exact members_len nl f0 xi
    have hrkl : rk.xs.length ≤ nl := by rw [hrkx]; exact members_len nl f0 xk
    refine sqV (.int .i64 (k : Int)) rfl rfl rfl ?_
    refine sqV (.int .i64 (k : Int)) rfl rfl rfl ?_
    refine r_nil (sqE [(0, .slice Al nl cl), (1, .slice Ab nb cb), (2, .int .i64 limit), (8, .slice At m ct), (13, .int .i64 (m : Int)), (14, .slice (some ⟨tg, 0, none⟩) m m), (15, .slice (some ⟨ta, 0, none⟩) m m), (16, .int .i64 (i : Int)), (17, .int .i64 (k : Int)), (75, .int .i64 (m : Int)), (76, .int .i64 (i : Int)), (89, .int .i64 (m : Int)), (90, .int .i64 (k : Int))] rfl (e_then ?_))
    refine k_drawP mixed [0, 0, 3, 7, 0, 0, 0, 0, 192, 448, 0, 0, 3072, 7168, 16352, 32767, 65535] [some (Value.slice (some ⟨tg, 0, none⟩) m m), some (Value.int .i64 (i : Int)), some (Value.pointer (some ⟨tg, i, none⟩)), some (Value.slice (some ⟨e1, 0, none⟩) m m), some (Value.int .i64 (k : Int)), some (Value.slice Al nl cl), some (Value.slice At m ct), some (Value.int .i64 (i : Int)), some (Value.pointer (some ((adr At).add (i * 1)))), some (Value.slice Ari ri.xs.length cri), some (Value.slice At m ct), some (Value.int .i64 (k : Int)), some (Value.pointer (some ((adr At).add (k * 1)))), some (Value.slice Ark rk.xs.length crk), some (Value.int .i64 (gapV l ri.xs rk.xs))] (by kernel_rfl) 15 [] rfl rfl (by kernel_rfl) rfl (fun D V w_ => Mem w No w_ ((e1, .cells (rowC m (Value.int .i64) (fun q => if q < k then tabG l nl f0 i q else 0)) 3 (0, 0)) :: (e2, .cells (rowC m Value.bool (fun _ => false)) 4 (0, 0)) :: (tg, .cells ((topC i m rg).setIfInBounds i (.slice (some ⟨e1, 0, none⟩) m m)) 30 (0, 0)) :: (ta, .cells ((topC i m ra).setIfInBounds i (.slice (some ⟨e2, 0, none⟩) m m)) 78 (0, 0)) :: (Lt ++ (tabL tInt (.int .i64) i m rg (tabG l nl f0) ++ (tabL tBool .bool i m ra (fun _ _ => false) ++ gs.flatMap RRow.L))))) (fun V => hM36.drew) trivial ?_ ?_
    ·refine ⟨?_, ?_, ?_, ?_, ?_, ?_, ?_, ?_, ?_, ?_, ?_, ?_, ?_, ?_, ?_, trivial⟩
     ·intro D V w_ hd hi hM_
      refine sqG [(14, .slice (some ⟨tg, 0, none⟩) m m)] rfl rfl rfl ?_
      exact run_val (.slice (some ⟨tg, 0, none⟩) m m) (rfl) ⟨sqT, hM_⟩
     ·intro D V w_ hd hi hM_
      refine sqG [(16, .int .i64 (i : Int))] rfl rfl rfl ?_
      exact run_val (.int .i64 (i : Int)) (rfl) ⟨sqT, hM_⟩
     ·intro D V w_ hd hi hM_
      refine sqG [(93, .slice (some ⟨tg, 0, none⟩) m m), (94, .int .i64 (i : Int))] rfl rfl rfl ?_
      exact run_val (.pointer (some ⟨tg, i, none⟩)) (x_indexAddrL (i := i) (sz := 1) (by omega) rfl rfl rfl rfl (by omega)) ⟨sqT, hM_⟩
     ·intro D V w_ hd hi hM_
      refine sqG [(95, .pointer (some ⟨tg, i, none⟩))] rfl rfl rfl ?_
      exact run_val (.slice (some ⟨e1, 0, none⟩) m m) (x_load (hM_.cell 2 rfl (self_get (by rw [topC_size]; omega))) rfl rfl) ⟨sqT, hM_⟩
     ·intro D V w_ hd hi hM_
      refine sqG [(17, .int .i64 (k : Int))] rfl rfl rfl ?_
      exact run_val (.int .i64 (k : Int)) (rfl) ⟨sqT, hM_⟩
     ·intro D V w_ hd hi hM_
      refine sqG [(0, .slice Al nl cl)] rfl rfl rfl ?_
      exact run_val (.slice Al nl cl) (rfl) ⟨sqT, hM_⟩
     ·intro D V w_ hd hi hM_
      refine sqG [(8, .slice At m ct)] rfl rfl rfl ?_
      exact run_val (.slice At m ct) (rfl) ⟨sqT, hM_⟩
     ·intro D V w_ hd hi hM_
      refine sqG [(16, .int .i64 (i : Int))] rfl rfl rfl ?_
      exact run_val (.int .i64 (i : Int)) (rfl) ⟨sqT, hM_⟩
     ·intro D V w_ hd hi hM_
      refine sqG [(99, .slice At m ct), (100, .int .i64 (i : Int))] rfl rfl rfl ?_
      exact run_val (.pointer (some ((adr At).add (i * 1)))) (x_indexAddrN (i := i) (sz := 1) htop.here (by omega) rfl rfl rfl rfl) ⟨sqT, hM_⟩
     ·intro D V w_ hd hi hM_
      refine sqG [(101, .pointer (some ((adr At).add (i * 1))))] rfl rfl rfl ?_
      exact run_val (.slice Ari ri.xs.length cri) (by rw [← hvri]; exact x_load ((top_rd ht (Mem.left (L := Lt) hM_.tail.tail.tail.tail).holds).first hri rfl) rfl rfl) ⟨sqT, hM_⟩
     ·intro D V w_ hd hi hM_
      refine sqG [(8, .slice At m ct)] rfl rfl rfl ?_
      exact run_val (.slice At m ct) (rfl) ⟨sqT, hM_⟩
     ·intro D V w_ hd hi hM_
      refine sqG [(17, .int .i64 (k : Int))] rfl rfl rfl ?_
      exact run_val (.int .i64 (k : Int)) (rfl) ⟨sqT, hM_⟩
     ·intro D V w_ hd hi hM_
      refine sqG [(103, .slice At m ct), (104, .int .i64 (k : Int))] rfl rfl rfl ?_
      exact run_val (.pointer (some ((adr At).add (k * 1)))) (x_indexAddrN (i := k) (sz := 1) htop.here (by omega) rfl rfl rfl rfl) ⟨sqT, hM_⟩
     ·intro D V w_ hd hi hM_
      refine sqG [(105, .pointer (some ((adr At).add (k * 1))))] rfl rfl rfl ?_
      exact run_val (.slice Ark rk.xs.length crk) (by rw [← hvrk]; exact x_load ((top_rd ht (Mem.left (L := Lt) hM_.tail.tail.tail.tail).holds).first hrk rfl) rfl rfl) ⟨sqT, hM_⟩
     ·intro D V w_ hd hi hM_
      refine sqG [(98, .slice Al nl cl), (102, .slice Ari ri.xs.length cri), (106, .slice Ark rk.xs.length crk)] rfl rfl rfl ?_
      refine run_call (f := 35) (args := #[Value.slice Al nl cl, Value.slice Ari ri.xs.length cri, Value.slice Ark rk.xs.length crk]) (w' := w_) (x_call (vs := [Value.slice Al nl cl, Value.slice Ari ri.xs.length cri, Value.slice Ark rk.xs.length crk]) (enter35 _ _) rfl rfl) (gapOfV_s Al Ari Ark nl cl ri.xs.length cri rk.xs.length crk l ri.xs rk.xs w_ (hl.up hM_) hgd (row_rd (hgo ri hrim) hvri (rows_holds (gs := gs) (Mem.past (A := tabL tBool .bool i m ra (fun _ _ => false)) (Mem.past (A := tabL tInt (.int .i64) i m rg (tabG l nl f0)) (Mem.past (A := Lt) hM_.tail.tail.tail.tail))).holds hrim)) (row_rd (hgo rk hrkm) hvrk (rows_holds (gs := gs) (Mem.past (A := tabL tBool .bool i m ra (fun _ _ => false)) (Mem.past (A := tabL tInt (.int .i64) i m rg (tabG l nl f0)) (Mem.past (A := Lt) hM_.tail.tail.tail.tail))).holds hrkm)) hrib hrkb (by omega) (by omega)) ?_
      rintro v_ w2_ ⟨rfl, hM2_⟩
      exact ⟨sqT, hM_.grow hM2_.kept⟩
    intro D V w39 hall hM40
    refine sqR [(0, .slice Al nl cl), (1, .slice Ab nb cb), (2, .int .i64 limit), (8, .slice At m ct), (13, .int .i64 (m : Int)), (14, .slice (some ⟨tg, 0, none⟩) m m), (15, .slice (some ⟨ta, 0, none⟩) m m), (16, .int .i64 (i : Int)), (75, .int .i64 (m : Int)), (76, .int .i64 (i : Int)), (89, .int .i64 (m : Int)), (90, .int .i64 (k : Int)), (96, .slice (some ⟨e1, 0, none⟩) m m), (97, .int .i64 (k : Int)), (107, .int .i64 (gapV l ri.xs rk.xs))] rfl (sqV (.pointer (some ⟨e1, k, none⟩)) rfl rfl (x_indexAddrL (i := k) (sz := 1) (by omega) rfl rfl rfl rfl (by omega)) ?_)
    refine r_store (v := Value.int .i64 (gapV l ri.xs rk.xs)) hM40 0 rfl (by rw [rowC_size]; omega) (by first | rfl | assumption) rfl rfl rfl rfl ?_
    intro w41 hM42
    replace hM42 : Mem w No w41 ((e1, .cells ((rowC m (Value.int .i64) (fun q => if q < k then tabG l nl f0 i q else 0)).setIfInBounds k (Value.int .i64 (gapV l ri.xs rk.xs))) 3 (0, 0)) :: (e2, .cells (rowC m Value.bool (fun _ => false)) 4 (0, 0)) :: (tg, .cells ((topC i m rg).setIfInBounds i (.slice (some ⟨e1, 0, none⟩) m m)) 30 (0, 0)) :: (ta, .cells ((topC i m ra).setIfInBounds i (.slice (some ⟨e2, 0, none⟩) m m)) 78 (0, 0)) :: (Lt ++ (tabL tInt (.int .i64) i m rg (tabG l nl f0) ++ (tabL tBool .bool i m ra (fun _ _ => false) ++ gs.flatMap RRow.L)))) := hM42
    refine r_nil (e_blk (e_then (k_region ?_)))
    rw [hgap, rowI_set (by omega), fillG_step] at hM42
    have hM43 : Mem w No w41 ((e1, .cells (rowC m (Value.int .i64) (fun q => if q < (k + 1) then tabG l nl f0 i q else 0)) 3 (0, 0)) :: (e2, .cells (rowC m Value.bool (fun _ => false)) 4 (0, 0)) :: (tg, .cells ((topC i m rg).setIfInBounds i (.slice (some ⟨e1, 0, none⟩) m m)) 30 (0, 0)) :: (ta, .cells ((topC i m ra).setIfInBounds i (.slice (some ⟨e2, 0, none⟩) m m)) 78 (0, 0)) :: (Lt ++ (tabL tInt (.int .i64) i m rg (tabG l nl f0) ++ (tabL tBool .bool i m ra (fun _ _ => false) ++ gs.flatMap RRow.L)))) := hM42
    refine sqV (.int .i64 ((k : Int) + 1)) rfl rfl (x_addE rfl (by omega) (by omega) rfl rfl) ?_
    refine sqV (.int .i64 ((k : Int) + 1)) rfl rfl rfl ?_
    refine r_nil ?_
    refine e_loop (k + 1) (sqS rfl) ?_ ?_
    ·exact ⟨hM43, by omega⟩
    ·(try dsimp only); omega
   ·try simp only [sqC] at h2
    refine k_exit (e_then_exit (e_loop_exit (e_blk_exit (e_blk (e_then (k_region ?_))))))
    have hkm : k = m := by omega
    rw [hkm, fillG_n, topC_set (by omega), topC_set (by omega)] at hM36
    refine sqV (.int .i64 ((i : Int) + 1)) rfl rfl (x_addE rfl (by omega) (by omega) rfl rfl) ?_
    refine sqV (.int .i64 ((i : Int) + 1)) rfl rfl rfl ?_
    refine r_nil ?_
    refine e_loop (i + 1, fun q => if q = i then e1 else rg q, fun q => if q = i then e2 else ra q) (sqS rfl) ?_ ?_
    ·exact ⟨by rw [tabL_snocG, tabL_snocG]; exact Mem.tabgrow3 (E := [_, _]) hM36, by omega⟩
    ·(try dsimp only); omega
  ·try simp only [sqC] at h
   refine k_exit (e_then_exit (e_loop_exit (e_blk_exit (e_then (k_seq (k_region ?_))))))
   have him : i = m := by omega
   rw [him] at hM24
   have hM44 : Mem w No w23 ((tg, .cells (topC m m rg) 30 (0, 0)) :: (ta, .cells (topC m m ra) 78 (0, 0)) :: (Lt ++ (tabL tInt (.int .i64) m m rg (tabG l nl f0) ++ (tabL tBool .bool m m ra (fun _ _ => false) ++ gs.flatMap RRow.L)))) := hM24
   refine r_new (fun b => .map (some b)) (mapO [] 0) hM44 (by kernel_rfl) rfl rfl ?_
   intro bo w45 hM46 hbo
   replace hM46 : Mem w No w45 ((bo, mapO [] 0) :: (tg, .cells (topC m m rg) 30 (0, 0)) :: (ta, .cells (topC m m ra) 78 (0, 0)) :: (Lt ++ (tabL tInt (.int .i64) m m rg (tabG l nl f0) ++ (tabL tBool .bool m m ra (fun _ _ => false) ++ gs.flatMap RRow.L)))) := hM46
   refine sqV (.map (some bo)) rfl rfl rfl ?_
   refine r_nil (sqE [(0, .slice Al nl cl), (1, .slice Ab nb cb), (2, .int .i64 limit), (8, .slice At m ct), (13, .int .i64 (m : Int)), (14, .slice (some ⟨tg, 0, none⟩) m m), (15, .slice (some ⟨ta, 0, none⟩) m m), (18, .map (some bo))] rfl (e_then (k_seq (k_seq (k_region (sqV (.slice At m ct) rfl rfl rfl ?_))))))
   refine sqV (.int .i64 (m : Int)) rfl rfl (x_len rfl rfl) ?_
   refine sqV (.int .i64 0) rfl rfl rfl ?_
   refine r_nil (e_then (k_block (k_loop (σ := Nat) (fun i => [(0, .slice Al nl cl), (1, .slice Ab nb cb), (2, .int .i64 limit), (8, .slice At m ct), (13, .int .i64 (m : Int)), (14, .slice (some ⟨tg, 0, none⟩) m m), (15, .slice (some ⟨ta, 0, none⟩) m m), (18, .map (some bo)), (112, .slice At m ct), (113, .int .i64 (m : Int)), (114, .int .i64 (i : Int))]) (fun i w_ => Mem w No w_ ((bo, mapO (esOf (plTo (idsG l nl f0) i 0)) (plTo (idsG l nl f0) i 0).length) :: (tg, .cells (topC m m rg) 30 (0, 0)) :: (ta, .cells (topC m m ra) 78 (0, 0)) :: (Lt ++ (tabL tInt (.int .i64) m m rg (tabG l nl f0) ++ (tabL tBool .bool m m ra (fun _ _ => false) ++ gs.flatMap RRow.L)))) ∧ i ≤ m) (fun i => m - i) 0 (sqS rfl) ⟨by rw [plTo_00]; exact hM46, Nat.zero_le _⟩ ?_)))
   rintro i w47 ⟨hM48, hi⟩
   refine sqK [(0, .slice Al nl cl), (1, .slice Ab nb cb), (2, .int .i64 limit), (8, .slice At m ct), (13, .int .i64 (m : Int)), (14, .slice (some ⟨tg, 0, none⟩) m m), (15, .slice (some ⟨ta, 0, none⟩) m m), (18, .map (some bo)), (112, .slice At m ct), (113, .int .i64 (m : Int)), (114, .int .i64 (i : Int))] rfl (k_seq (k_region (sqV (.bool (decide ((i : Int) < (m : Int)))) rfl rfl rfl ?_)))
   refine r_nil (e_then (k_seq ?_))
   refine k_cond rfl rfl (fun h => ?_) (fun h => ?_)
   ·try simp only [sqC] at h
    refine k_skip (e_then (k_seq (k_block (k_seq (k_region ?_)))))
    obtain ⟨ri, hri⟩ : ∃ r, gs[i]? = some r := ⟨gs[i]'(by omega), by simp⟩
    have hrim := List.mem_of_getElem? hri
    obtain ⟨Ari, cri, hvri, hnri⟩ := row_slice (hgo ri hrim)
    obtain ⟨xi, hxi⟩ : ∃ x, (keysOf nl f0)[i]? = some x := ⟨(keysOf nl f0)[i]'(by omega), by simp⟩
    have hxik := mem_keysOf.1 (List.mem_of_getElem? hxi)
    have hrix := hgx0 hri hxi
    have hrib : ∀ p ∈ ri.xs, p < nl := by rw [hrix]; exact fun p hp => (mem_members.1 hp).1
    have hril : ri.xs.length ≤ nl := by rw [hrix]; exact members_len nl f0 xi
    have hii : (idsG l nl f0)[i]? = some (idsAt l nl f0 xi) := ids_get hxi
    refine sqV (.int .i64 (i : Int)) rfl rfl rfl ?_
    refine sqV (.pointer (some ((adr At).add (i * 1)))) rfl rfl (x_indexAddrN (i := i) (sz := 1) htop.here (by omega) rfl rfl rfl rfl) ?_
    refine sqV (.slice Ari ri.xs.length cri) rfl rfl (by rw [← hvri]; exact x_load ((top_rd ht (Mem.left (L := Lt) hM48.tail.tail.tail).holds).first hri rfl) rfl rfl) ?_
    refine sqV (.int .i64 (i : Int)) rfl rfl rfl ?_
    refine sqV (.slice Ari ri.xs.length cri) rfl rfl rfl ?_
    refine r_nil (e_then (k_seq (k_region (sqV (.slice Ari ri.xs.length cri) rfl rfl rfl ?_))))
    refine sqV (.int .i64 (ri.xs.length : Int)) rfl rfl (x_len rfl rfl) ?_
    refine sqV (.int .i64 0) rfl rfl rfl ?_
    refine r_nil (sqE [(0, .slice Al nl cl), (1, .slice Ab nb cb), (2, .int .i64 limit), (8, .slice At m ct), (13, .int .i64 (m : Int)), (14, .slice (some ⟨tg, 0, none⟩) m m), (15, .slice (some ⟨ta, 0, none⟩) m m), (18, .map (some bo)), (19, .int .i64 (i : Int)), (112, .slice At m ct), (113, .int .i64 (m : Int)), (114, .int .i64 (i : Int)), (119, .slice Ari ri.xs.length cri), (120, .int .i64 (ri.xs.length : Int)), (121, .int .i64 0)] rfl (e_then (k_block (k_loop (σ := Nat) (fun k => [(0, .slice Al nl cl), (1, .slice Ab nb cb), (2, .int .i64 limit), (8, .slice At m ct), (13, .int .i64 (m : Int)), (14, .slice (some ⟨tg, 0, none⟩) m m), (15, .slice (some ⟨ta, 0, none⟩) m m), (18, .map (some bo)), (19, .int .i64 (i : Int)), (112, .slice At m ct), (113, .int .i64 (m : Int)), (114, .int .i64 (i : Int)), (119, .slice Ari ri.xs.length cri), (120, .int .i64 (ri.xs.length : Int)), (121, .int .i64 (k : Int))]) (fun k w_ => Mem w No w_ ((bo, mapO (esOf (plTo (idsG l nl f0) i k)) (plTo (idsG l nl f0) i k).length) :: (tg, .cells (topC m m rg) 30 (0, 0)) :: (ta, .cells (topC m m ra) 78 (0, 0)) :: (Lt ++ (tabL tInt (.int .i64) m m rg (tabG l nl f0) ++ (tabL tBool .bool m m ra (fun _ _ => false) ++ gs.flatMap RRow.L)))) ∧ k ≤ ri.xs.length) (fun k => ri.xs.length - k) 0 (sqS rfl) ⟨hM48, Nat.zero_le _⟩ ?_))))
    rintro k w49 ⟨hM50, hk⟩
    refine sqK [(0, .slice Al nl cl), (1, .slice Ab nb cb), (2, .int .i64 limit), (8, .slice At m ct), (13, .int .i64 (m : Int)), (14, .slice (some ⟨tg, 0, none⟩) m m), (15, .slice (some ⟨ta, 0, none⟩) m m), (18, .map (some bo)), (19, .int .i64 (i : Int)), (112, .slice At m ct), (113, .int .i64 (m : Int)), (114, .int .i64 (i : Int)), (119, .slice Ari ri.xs.length cri), (120, .int .i64 (ri.xs.length : Int)), (121, .int .i64 (k : Int))] rfl (k_seq (k_region (sqV (.bool (decide ((k : Int) < (ri.xs.length : Int)))) rfl rfl rfl ?_)))
    refine r_nil (e_then (k_seq ?_))
    refine k_cond rfl rfl (fun h2 => ?_) (fun h2 => ?_)
    ·try simp only [sqC] at h2
     refine k_skip (e_then (k_seq (k_block (k_seq (k_region ?_)))))
     obtain ⟨p, hp⟩ : ∃ p, ri.xs[k]? = some p := ⟨ri.xs[k]'(by omega), by simp⟩
     have hpm := hrib p (List.mem_of_getElem? hp)
     obtain ⟨z, hz⟩ : ∃ z, l[p]? = some z := ⟨l[p]'(by omega), by simp⟩
     have hz14 := hl.size' hz
     have hy : (idsAt l nl f0 xi)[k]? = some (idOf z) := by rw [idsAt, ← hrix, List.getElem?_map, hp]; simp [hz]
     have hmg := esOf_none (plTo_new hidn hii hy)
     refine sqV (.pointer (some ((adr Ari).add (k * 1)))) rfl rfl (x_indexAddrN (i := k) (sz := 1) (HereP.mk (Kn.row_here (hgo ri hrim) hvri)).here (by omega) rfl rfl rfl rfl) ?_
     refine sqV (.int .i64 (p : Int)) rfl rfl (x_loadEInt (row_rd (hgo ri hrim) hvri (rows_holds (gs := gs) (Mem.past (A := tabL tBool .bool m m ra (fun _ _ => false)) (Mem.past (A := tabL tInt (.int .i64) m m rg (tabG l nl f0)) (Mem.past (A := Lt) hM50.tail.tail.tail))).holds hrim)) (natsI_get hp) rfl rfl) ?_
     refine sqV (.int .i64 (p : Int)) rfl rfl rfl ?_
     refine r_nil (e_then (k_region (sqV (.map (some bo)) rfl rfl rfl ?_)))
     refine sqV (.slice Al nl cl) rfl rfl rfl ?_
     refine sqV (.int .i64 (p : Int)) rfl rfl rfl ?_
     refine sqV (.pointer (some ((adr Al).add (p * 14)))) rfl rfl (x_indexAddrN (i := p) (sz := 14) hl.here (by omega) rfl rfl rfl rfl) ?_
     refine sqV (.pointer (some ((adr Al).add (p * 14)))) rfl rfl rfl ?_
     refine sqV (.int .i64 (idOf z)) rfl rfl (x_load ((hl.up hM50).first hz (intsE_0 (by simp at hz14; omega))) rfl rfl) ?_
     refine sqV (.int .i64 (i : Int)) rfl rfl rfl ?_
     refine r_mapNew (k := idOf z) (v := .int .i64 (i : Int)) hM50 0 rfl hmg rfl rfl rfl rfl rfl rfl ?_
     intro w51 hM52
     replace hM52 : Mem w No w51 ((bo, mapO (esOf (plTo (idsG l nl f0) i k) ++ [(⟨idOf z, .int .i64 (i : Int), (plTo (idsG l nl f0) i k).length⟩ : Ent)]) ((plTo (idsG l nl f0) i k).length + 1)) :: (tg, .cells (topC m m rg) 30 (0, 0)) :: (ta, .cells (topC m m ra) 78 (0, 0)) :: (Lt ++ (tabL tInt (.int .i64) m m rg (tabG l nl f0) ++ (tabL tBool .bool m m ra (fun _ _ => false) ++ gs.flatMap RRow.L)))) := hM52
     refine r_nil (e_blk (e_then (k_region (sqV (.int .i64 ((k : Int) + 1)) rfl rfl (x_addE rfl (by omega) (by omega) rfl rfl) ?_))))
     refine sqV (.int .i64 ((k : Int) + 1)) rfl rfl rfl ?_
     refine r_nil (sqE [(0, .slice Al nl cl), (1, .slice Ab nb cb), (2, .int .i64 limit), (8, .slice At m ct), (13, .int .i64 (m : Int)), (14, .slice (some ⟨tg, 0, none⟩) m m), (15, .slice (some ⟨ta, 0, none⟩) m m), (18, .map (some bo)), (19, .int .i64 (i : Int)), (112, .slice At m ct), (113, .int .i64 (m : Int)), (114, .int .i64 (i : Int)), (119, .slice Ari ri.xs.length cri), (120, .int .i64 (ri.xs.length : Int)), (121, .int .i64 ((k : Int) + 1))] rfl ?_)
     refine e_loop (k + 1) (sqS rfl) ?_ ?_
     ·exact ⟨by rw [plTo_step hii hy, esOf_snoc, List.length_append]; exact hM52, by omega⟩
     ·(try dsimp only); omega
    ·try simp only [sqC] at h2
     refine k_exit (e_then_exit (e_loop_exit (e_blk_exit (e_blk (e_then (k_region (sqV (.int .i64 ((i : Int) + 1)) rfl rfl (x_addE rfl (by omega) (by omega) rfl rfl) ?_)))))))
     refine sqV (.int .i64 ((i : Int) + 1)) rfl rfl rfl ?_
     refine r_nil ?_
     refine e_loop (i + 1) (sqS rfl) ?_ ?_
     ·exact ⟨by rw [← plTo_row hii (k := k) (by simp [idsAt]; rw [← hrix]; omega)]; exact hM50, by omega⟩
     ·(try dsimp only); omega
   ·try simp only [sqC] at h
    refine k_exit (e_then_exit (e_loop_exit (e_blk_exit (e_then (k_seq (k_seq (k_region ?_)))))))
    have him : i = m := by omega
    rw [him] at hM48
    have hidm : (idsG l nl f0).length ≤ m := by omega
    have hM53 : Mem w No w47 ((bo, mapO (esOf (plTo (idsG l nl f0) m 0)) (plTo (idsG l nl f0) m 0).length) :: (tg, .cells (topC m m rg) 30 (0, 0)) :: (ta, .cells (topC m m ra) 78 (0, 0)) :: (Lt ++ (tabL tInt (.int .i64) m m rg (tabG l nl f0) ++ (tabL tBool .bool m m ra (fun _ _ => false) ++ gs.flatMap RRow.L)))) := hM48
    refine sqV (.slice Ab nb cb) rfl rfl rfl ?_
    refine sqV (.int .i64 (nb : Int)) rfl rfl (x_len rfl rfl) ?_
    refine sqV (.int .i64 0) rfl rfl rfl ?_
    refine r_nil (e_then (k_block (k_loop (σ := Nat × (Nat → Nat → Bool)) (fun ⟨k, A⟩ => [(0, .slice Al nl cl), (2, .int .i64 limit), (8, .slice At m ct), (13, .int .i64 (m : Int)), (14, .slice (some ⟨tg, 0, none⟩) m m), (15, .slice (some ⟨ta, 0, none⟩) m m), (18, .map (some bo)), (134, .slice Ab nb cb), (135, .int .i64 (nb : Int)), (136, .int .i64 (k : Int))]) (fun ⟨k, A⟩ w_ => Mem w No w_ ((bo, mapO (esOf (plTo (idsG l nl f0) m 0)) (plTo (idsG l nl f0) m 0).length) :: (tg, .cells (topC m m rg) 30 (0, 0)) :: (ta, .cells (topC m m ra) 78 (0, 0)) :: (Lt ++ (tabL tInt (.int .i64) m m rg (tabG l nl f0) ++ (tabL tBool .bool m m ra A ++ gs.flatMap RRow.L)))) ∧ k ≤ nb ∧ ApI (keysOf nl f0) f0 (notsOf l (bs.take k)) A) (fun ⟨k, A⟩ => nb - k) (0, fun _ _ => false) (sqS rfl) ⟨hM53, Nat.zero_le _, apI_0 _ _⟩ ?_)))
    rintro ⟨k, A⟩ w54 ⟨hM55, hk, hA⟩
    refine sqK [(0, .slice Al nl cl), (2, .int .i64 limit), (8, .slice At m ct), (13, .int .i64 (m : Int)), (14, .slice (some ⟨tg, 0, none⟩) m m), (15, .slice (some ⟨ta, 0, none⟩) m m), (18, .map (some bo)), (134, .slice Ab nb cb), (135, .int .i64 (nb : Int)), (136, .int .i64 (k : Int))] rfl (k_seq (k_region (sqV (.bool (decide ((k : Int) < (nb : Int)))) rfl rfl rfl ?_)))
    refine r_nil (e_then (k_seq ?_))
    refine k_cond rfl rfl (fun h => ?_) (fun h => ?_)
    ·try simp only [sqC] at h
     refine k_skip (e_then (k_seq (k_block (k_seq (k_region ?_)))))
     obtain ⟨b, hbk⟩ : ∃ b, bs[k]? = some b := ⟨bs[k]'(by omega), by simp⟩
     obtain ⟨hoa, hob, _⟩ := bonds_ok hb0 b (List.mem_of_getElem? hbk)
     have hpa := place_lt hgd.sorted hoa
     have hpb := place_lt hgd.sorted hob
     rw [hll] at hpa hpb
     obtain ⟨ja, hja⟩ := hF0.idx hpa
     obtain ⟨jb, hjb⟩ := hF0.idx hpb
     have hjal := (List.getElem?_eq_some_iff.1 hja).1
     have hjbl := (List.getElem?_eq_some_iff.1 hjb).1
     have hma := of_id hgd.sorted hll hF0 hidm hoa hja
     have hmb := of_id hgd.sorted hll hF0 hidm hob hjb
     refine sqV (.pointer (some ((adr Ab).add (k * 3)))) rfl rfl (x_indexAddrN (i := k) (sz := 3) hb.here (by omega) rfl rfl rfl rfl) ?_
     refine sqV (.agg (#[.int .i64 b.a, .int .i64 b.b, .bool b.must])) rfl rfl (x_loadElem (enc := bondE) (e := b) (hb.up hM55) hbk rfl rfl rfl) ?_
     refine r_alloc hM55 (z := Value.agg #[Value.int .i64 0, Value.int .i64 0, Value.bool false]) rfl rfl ?_
     intro b58 w56 hM57 hb58
     replace hM57 : Mem w No w56 ((b58, .cells #[Value.int .i64 0, Value.int .i64 0, Value.bool false] 35 (0, 0)) :: (bo, mapO (esOf (plTo (idsG l nl f0) m 0)) (plTo (idsG l nl f0) m 0).length) :: (tg, .cells (topC m m rg) 30 (0, 0)) :: (ta, .cells (topC m m ra) 78 (0, 0)) :: (Lt ++ (tabL tInt (.int .i64) m m rg (tabG l nl f0) ++ (tabL tBool .bool m m ra A ++ gs.flatMap RRow.L)))) := hM57
     refine r_storeRow (vs := (#[Value.int .i64 b.a, Value.int .i64 b.b, Value.bool b.must])) hM57 0 rfl (by rw [show (#[Value.int .i64 b.a, Value.int .i64 b.b, Value.bool b.must]).size = 3 from (by simp [ints_size, *])]; rfl) (by first | (simp [Value.oneCell']; done) | (simp only [List.mem_cons, List.not_mem_nil, or_false, forall_eq_or_imp, forall_eq]; (repeat' constructor) <;> first | assumption | rfl)) (by rw [show (#[Value.int .i64 b.a, Value.int .i64 b.b, Value.bool b.must]).size = 3 from (by simp [ints_size, *])]; rfl) rfl rfl rfl ?_
     intro w59 hM60
     replace hM60 : Mem w No w59 ((b58, .cells (#[Value.int .i64 b.a, Value.int .i64 b.b, Value.bool b.must]) 35 (0, 0)) :: (bo, mapO (esOf (plTo (idsG l nl f0) m 0)) (plTo (idsG l nl f0) m 0).length) :: (tg, .cells (topC m m rg) 30 (0, 0)) :: (ta, .cells (topC m m ra) 78 (0, 0)) :: (Lt ++ (tabL tInt (.int .i64) m m rg (tabG l nl f0) ++ (tabL tBool .bool m m ra A ++ gs.flatMap RRow.L)))) := hM60
     refine r_nil (sqE [(0, .slice Al nl cl), (2, .int .i64 limit), (8, .slice At m ct), (13, .int .i64 (m : Int)), (14, .slice (some ⟨tg, 0, none⟩) m m), (15, .slice (some ⟨ta, 0, none⟩) m m), (18, .map (some bo)), (24, .pointer (some ⟨b58, 0, none⟩)), (134, .slice Ab nb cb), (135, .int .i64 (nb : Int)), (136, .int .i64 (k : Int))] rfl (e_then (k_seq (k_region (sqV (.pointer (some ⟨b58, 2, none⟩)) rfl rfl rfl ?_)))))
     refine sqV (.bool b.must) rfl rfl (x_load (hM60.cell 0 rfl rfl) rfl rfl) ?_
     refine sqV (.bool (!b.must)) rfl rfl rfl ?_
     refine r_nil (e_then ?_)
     refine k_cond rfl rfl (fun h2 => ?_) (fun h2 => ?_)
     ·try simp only [sqC] at h2
      have hmust : b.must = false := by simpa using h2
      refine k_drawP mixed [0, 0, 0, 4, 14, 31, 63, 0, 0, 256, 896, 0, 0, 0, 8192, 28672, 63488, 129024, 0, 0, 524288, 1835008, 4194303, 8388607, 16777215, 33554431] [some (Value.slice (some ⟨ta, 0, none⟩) m m), some (Value.map (some bo)), some (Value.pointer (some ⟨b58, 0, none⟩)), some (Value.int .i64 b.a), some (Value.int .i64 (ja : Int)), some (Value.pointer (some ⟨ta, ja, none⟩)), some (Value.slice (some ⟨ra ja, 0, none⟩) m m), some (Value.map (some bo)), some (Value.pointer (some ⟨b58, 1, none⟩)), some (Value.int .i64 b.b), some (Value.int .i64 (jb : Int)), some (Value.slice (some ⟨ta, 0, none⟩) m m), some (Value.map (some bo)), some (Value.pointer (some ⟨b58, 1, none⟩)), some (Value.int .i64 b.b), some (Value.int .i64 (jb : Int)), some (Value.pointer (some ⟨ta, jb, none⟩)), some (Value.slice (some ⟨ra jb, 0, none⟩) m m), some (Value.map (some bo)), some (Value.pointer (some ⟨b58, 0, none⟩)), some (Value.int .i64 b.a), some (Value.int .i64 (ja : Int))] (by kernel_rfl) 22 [] rfl rfl (by kernel_rfl) rfl (fun D V w_ => Mem w No w_ ((b58, .cells (#[Value.int .i64 b.a, Value.int .i64 b.b, Value.bool b.must]) 35 (0, 0)) :: (bo, mapO (esOf (plTo (idsG l nl f0) m 0)) (plTo (idsG l nl f0) m 0).length) :: (tg, .cells (topC m m rg) 30 (0, 0)) :: (ta, .cells (topC m m ra) 78 (0, 0)) :: (Lt ++ (tabL tInt (.int .i64) m m rg (tabG l nl f0) ++ (tabL tBool .bool m m ra A ++ gs.flatMap RRow.L))))) (fun V => hM60.drew) trivial ?_ ?_
      ·refine ⟨?_, ?_, ?_, ?_, ?_, ?_, ?_, ?_, ?_, ?_, ?_, ?_, ?_, ?_, ?_, ?_, ?_, ?_, ?_, ?_, ?_, ?_, trivial⟩
       ·intro D V w_ hd hi hM_
        refine sqG [(15, .slice (some ⟨ta, 0, none⟩) m m)] rfl rfl rfl ?_
        exact run_val (.slice (some ⟨ta, 0, none⟩) m m) (rfl) ⟨sqT, hM_⟩
       ·intro D V w_ hd hi hM_
        refine sqG [(18, .map (some bo))] rfl rfl rfl ?_
        exact run_val (.map (some bo)) (rfl) ⟨sqT, hM_⟩
       ·intro D V w_ hd hi hM_
        refine sqG [(24, .pointer (some ⟨b58, 0, none⟩))] rfl rfl rfl ?_
        exact run_val (.pointer (some ⟨b58, 0, none⟩)) (rfl) ⟨sqT, hM_⟩
       ·intro D V w_ hd hi hM_
        refine sqG [(145, .pointer (some ⟨b58, 0, none⟩))] rfl rfl rfl ?_
        exact run_val (.int .i64 b.a) (x_load (hM_.cell 0 rfl rfl) rfl rfl) ⟨sqT, hM_⟩
       ·intro D V w_ hd hi hM_
        refine sqG [(144, .map (some bo)), (146, .int .i64 b.a)] rfl rfl rfl ?_
        exact run_val (.int .i64 (ja : Int)) (x_lookupS (hM_.get 1 rfl) hma rfl rfl rfl rfl rfl) ⟨sqT, hM_⟩
       ·intro D V w_ hd hi hM_
        refine sqG [(143, .slice (some ⟨ta, 0, none⟩) m m), (147, .int .i64 (ja : Int))] rfl rfl rfl ?_
        exact run_val (.pointer (some ⟨ta, ja, none⟩)) (x_indexAddrL (i := ja) (sz := 1) (by omega) rfl rfl rfl rfl (by omega)) ⟨sqT, hM_⟩
       ·intro D V w_ hd hi hM_
        refine sqG [(148, .pointer (some ⟨ta, ja, none⟩))] rfl rfl rfl ?_
        exact run_val (.slice (some ⟨ra ja, 0, none⟩) m m) (x_load (hM_.cell 3 rfl (topC_get (by omega) (by omega))) rfl rfl) ⟨sqT, hM_⟩
       ·intro D V w_ hd hi hM_
        refine sqG [(18, .map (some bo))] rfl rfl rfl ?_
        exact run_val (.map (some bo)) (rfl) ⟨sqT, hM_⟩
       ·intro D V w_ hd hi hM_
        refine sqG [(24, .pointer (some ⟨b58, 0, none⟩))] rfl rfl rfl ?_
        exact run_val (.pointer (some ⟨b58, 1, none⟩)) (rfl) ⟨sqT, hM_⟩
       ·intro D V w_ hd hi hM_
        refine sqG [(151, .pointer (some ⟨b58, 1, none⟩))] rfl rfl rfl ?_
        exact run_val (.int .i64 b.b) (x_load (hM_.cell 0 rfl rfl) rfl rfl) ⟨sqT, hM_⟩
       ·intro D V w_ hd hi hM_
        refine sqG [(150, .map (some bo)), (152, .int .i64 b.b)] rfl rfl rfl ?_
        exact run_val (.int .i64 (jb : Int)) (x_lookupS (hM_.get 1 rfl) hmb rfl rfl rfl rfl rfl) ⟨sqT, hM_⟩
       ·intro D V w_ hd hi hM_
        refine sqG [(15, .slice (some ⟨ta, 0, none⟩) m m)] rfl rfl rfl ?_
        exact run_val (.slice (some ⟨ta, 0, none⟩) m m) (rfl) ⟨sqT, hM_⟩
       ·intro D V w_ hd hi hM_
        refine sqG [(18, .map (some bo))] rfl rfl rfl ?_
        exact run_val (.map (some bo)) (rfl) ⟨sqT, hM_⟩
       ·intro D V w_ hd hi hM_
        refine sqG [(24, .pointer (some ⟨b58, 0, none⟩))] rfl rfl rfl ?_
        exact run_val (.pointer (some ⟨b58, 1, none⟩)) (rfl) ⟨sqT, hM_⟩
       ·intro D V w_ hd hi hM_
        refine sqG [(156, .pointer (some ⟨b58, 1, none⟩))] rfl rfl rfl ?_
        exact run_val (.int .i64 b.b) (x_load (hM_.cell 0 rfl rfl) rfl rfl) ⟨sqT, hM_⟩
       ·intro D V w_ hd hi hM_
        refine sqG [(155, .map (some bo)), (157, .int .i64 b.b)] rfl rfl rfl ?_
        exact run_val (.int .i64 (jb : Int)) (x_lookupS (hM_.get 1 rfl) hmb rfl rfl rfl rfl rfl) ⟨sqT, hM_⟩
       ·intro D V w_ hd hi hM_
        refine sqG [(154, .slice (some ⟨ta, 0, none⟩) m m), (158, .int .i64 (jb : Int))] rfl rfl rfl ?_
        exact run_val (.pointer (some ⟨ta, jb, none⟩)) (x_indexAddrL (i := jb) (sz := 1) (by omega) rfl rfl rfl rfl (by omega)) ⟨sqT, hM_⟩
       ·intro D V w_ hd hi hM_
        refine sqG [(159, .pointer (some ⟨ta, jb, none⟩))] rfl rfl rfl ?_
        exact run_val (.slice (some ⟨ra jb, 0, none⟩) m m) (x_load (hM_.cell 3 rfl (topC_get (by omega) (by omega))) rfl rfl) ⟨sqT, hM_⟩
       ·intro D V w_ hd hi hM_
        refine sqG [(18, .map (some bo))] rfl rfl rfl ?_
        exact run_val (.map (some bo)) (rfl) ⟨sqT, hM_⟩
       ·intro D V w_ hd hi hM_
        refine sqG [(24, .pointer (some ⟨b58, 0, none⟩))] rfl rfl rfl ?_
        exact run_val (.pointer (some ⟨b58, 0, none⟩)) (rfl) ⟨sqT, hM_⟩
       ·intro D V w_ hd hi hM_
        refine sqG [(162, .pointer (some ⟨b58, 0, none⟩))] rfl rfl rfl ?_
        exact run_val (.int .i64 b.a) (x_load (hM_.cell 0 rfl rfl) rfl rfl) ⟨sqT, hM_⟩
       ·intro D V w_ hd hi hM_
        refine sqG [(161, .map (some bo)), (163, .int .i64 b.a)] rfl rfl rfl ?_
        exact run_val (.int .i64 (ja : Int)) (x_lookupS (hM_.get 1 rfl) hma rfl rfl rfl rfl rfl) ⟨sqT, hM_⟩
      intro D V w61 hall hM62
      refine sqR [(0, .slice Al nl cl), (2, .int .i64 limit), (8, .slice At m ct), (13, .int .i64 (m : Int)), (14, .slice (some ⟨tg, 0, none⟩) m m), (15, .slice (some ⟨ta, 0, none⟩) m m), (18, .map (some bo)), (134, .slice Ab nb cb), (135, .int .i64 (nb : Int)), (136, .int .i64 (k : Int)), (149, .slice (some ⟨ra ja, 0, none⟩) m m), (153, .int .i64 (jb : Int)), (160, .slice (some ⟨ra jb, 0, none⟩) m m), (164, .int .i64 (ja : Int))] rfl (sqV (.pointer (some ⟨ra ja, jb, none⟩)) rfl rfl (x_indexAddrL (i := jb) (sz := 1) (by omega) rfl rfl rfl rfl (by omega)) ?_)
      refine r_storeT2 (v := true) ([(b58, .cells (#[Value.int .i64 b.a, Value.int .i64 b.b, Value.bool b.must]) 35 (0, 0)), (bo, mapO (esOf (plTo (idsG l nl f0) m 0)) (plTo (idsG l nl f0) m 0).length), (tg, .cells (topC m m rg) 30 (0, 0)), (ta, .cells (topC m m ra) 78 (0, 0))] : Hp) Lt (tabL tInt (.int .i64) m m rg (tabG l nl f0)) hM62 (show ja < m by omega) (show jb < m by omega) rfl rfl rfl rfl rfl ?_
      intro w63 hM64
      replace hM64 : Mem w No w63 ((b58, .cells (#[Value.int .i64 b.a, Value.int .i64 b.b, Value.bool b.must]) 35 (0, 0)) :: (bo, mapO (esOf (plTo (idsG l nl f0) m 0)) (plTo (idsG l nl f0) m 0).length) :: (tg, .cells (topC m m rg) 30 (0, 0)) :: (ta, .cells (topC m m ra) 78 (0, 0)) :: (Lt ++ (tabL tInt (.int .i64) m m rg (tabG l nl f0) ++ (tabL tBool .bool m m ra (upd2 A ja jb true) ++ gs.flatMap RRow.L)))) := hM64
      refine sqV (.pointer (some ⟨ra jb, ja, none⟩)) rfl rfl (x_indexAddrL (i := ja) (sz := 1) (by omega) rfl rfl rfl rfl (by omega)) ?_
      refine r_storeT2 (v := true) ([(b58, .cells (#[Value.int .i64 b.a, Value.int .i64 b.b, Value.bool b.must]) 35 (0, 0)), (bo, mapO (esOf (plTo (idsG l nl f0) m 0)) (plTo (idsG l nl f0) m 0).length), (tg, .cells (topC m m rg) 30 (0, 0)), (ta, .cells (topC m m ra) 78 (0, 0))] : Hp) Lt (tabL tInt (.int .i64) m m rg (tabG l nl f0)) hM64 (show jb < m by omega) (show ja < m by omega) rfl rfl rfl rfl rfl ?_
      intro w65 hM66
      replace hM66 : Mem w No w65 ((b58, .cells (#[Value.int .i64 b.a, Value.int .i64 b.b, Value.bool b.must]) 35 (0, 0)) :: (bo, mapO (esOf (plTo (idsG l nl f0) m 0)) (plTo (idsG l nl f0) m 0).length) :: (tg, .cells (topC m m rg) 30 (0, 0)) :: (ta, .cells (topC m m ra) 78 (0, 0)) :: (Lt ++ (tabL tInt (.int .i64) m m rg (tabG l nl f0) ++ (tabL tBool .bool m m ra (upd2 (upd2 A ja jb true) jb ja true) ++ gs.flatMap RRow.L)))) := hM66
      refine r_nil (e_blk (e_then (k_region (sqV (.int .i64 ((k : Int) + 1)) rfl rfl (x_addE rfl (by omega) (by omega) rfl rfl) ?_))))
      refine sqV (.int .i64 ((k : Int) + 1)) rfl rfl rfl ?_
      refine r_nil ?_
      refine e_loop (k + 1, upd2 (upd2 A ja jb true) jb ja true) (sqS rfl) ?_ ?_
      ·exact ⟨hM66.tail, by omega, by rw [nots_snoc hbk hmust]; exact apI_step (keysOf_sorted nl f0) hja hjb hA⟩
      ·(try dsimp only); omega
     ·try simp only [sqC] at h2
      refine k_skip (e_blk (e_then (k_region ?_)))
      have hmust : b.must = true := by simpa using h2
      refine sqV (.int .i64 ((k : Int) + 1)) rfl rfl (x_addE rfl (by omega) (by omega) rfl rfl) ?_
      refine sqV (.int .i64 ((k : Int) + 1)) rfl rfl rfl ?_
      refine r_nil (sqE [(0, .slice Al nl cl), (2, .int .i64 limit), (8, .slice At m ct), (13, .int .i64 (m : Int)), (14, .slice (some ⟨tg, 0, none⟩) m m), (15, .slice (some ⟨ta, 0, none⟩) m m), (18, .map (some bo)), (134, .slice Ab nb cb), (135, .int .i64 (nb : Int)), (136, .int .i64 ((k : Int) + 1))] rfl ?_)
      refine e_loop (k + 1, A) (sqS rfl) ?_ ?_
      ·exact ⟨hM60.tail, by omega, by rw [nots_same hbk hmust]; exact hA⟩
      ·(try dsimp only); omega
    ·try simp only [sqC] at h
     refine k_exit (e_then_exit (e_loop_exit (e_blk_exit (e_then (k_seq (k_block ?_))))))
     have hkb : bs.take k = bs := List.take_of_length_le (by omega)
     rw [hkb] at hA
     refine k_loop (σ := (Nat → Nat) × (Nat → Nat → Int) × (Nat → Nat → Bool) × List RRow × Hp) (fun ⟨f, G, A, gs, Lt⟩ => [(0, .slice Al nl cl), (2, .int .i64 limit), (8, .slice At m ct), (13, .int .i64 (m : Int)), (14, .slice (some ⟨tg, 0, none⟩) m m), (15, .slice (some ⟨ta, 0, none⟩) m m)]) (fun ⟨f, G, A, gs, Lt⟩ w_ => Mem w No w_ ((tg, .cells (topC m m rg) 30 (0, 0)) :: (ta, .cells (topC m m ra) 78 (0, 0)) :: (Lt ++ (tabL tInt (.int .i64) m m rg G ++ (tabL tBool .bool m m ra A ++ gs.flatMap RRow.L)))) ∧ TabI l nl (keysOf nl f0) f (notsOf l bs) G A ∧ GrsOk nl (keysOf nl f0) f gs ∧ OwnR tInts 1 (.slice At m ct) m (topV gs) Lt ∧ Runs l nl (notsOf l bs) limit f0 f) (fun ⟨f, G, A, gs, Lt⟩ => (keysOf nl f).length) (f0, tabG l nl f0, A, gs, Lt) (sqS rfl) ⟨(hM55.pickT [(bo, mapO (esOf (plTo (idsG l nl f0) m 0)) (plTo (idsG l nl f0) m 0).length), (tg, .cells (topC m m rg) 30 (0, 0)), (ta, .cells (topC m m ra) 78 (0, 0))] (Lt ++ (tabL tInt (.int .i64) m m rg (tabG l nl f0) ++ (tabL tBool .bool m m ra A ++ gs.flatMap RRow.L))) rfl [1, 2] _ (by decide) rfl), tabI_0 hF0 hA, grs_0 hgx1 hgo, ht, .refl _⟩ ?_
     rintro ⟨f, G, A, gs, Lt⟩ w67 ⟨hM68, hT, hGR, ht, hR⟩
     refine sqK [(0, .slice Al nl cl), (2, .int .i64 limit), (8, .slice At m ct), (13, .int .i64 (m : Int)), (14, .slice (some ⟨tg, 0, none⟩) m m), (15, .slice (some ⟨ta, 0, none⟩) m m)] rfl (k_block (k_seq (k_region ?_)))
     have hFOk : FOk nl f := ⟨hT.le, hT.idem⟩
     have hgo := hGR.ok
     have hgl : gs.length = m := by rw [hGR.len, hm]
     refine sqV (.int .i64 (-1)) rfl rfl rfl ?_
     refine sqV (.int .i64 (-1)) rfl rfl rfl ?_
     refine r_nil (e_then (k_seq (k_seq (k_region (sqV (.slice At m ct) rfl rfl rfl ?_)))))
     refine sqV (.int .i64 (m : Int)) rfl rfl (x_len rfl rfl) ?_
     refine sqV (.int .i64 0) rfl rfl rfl ?_
     refine r_nil (e_then (k_block (k_loop (σ := Nat × Option (Nat × Nat)) (fun ⟨i, o⟩ => [(0, .slice Al nl cl), (2, .int .i64 limit), (8, .slice At m ct), (13, .int .i64 (m : Int)), (14, .slice (some ⟨tg, 0, none⟩) m m), (15, .slice (some ⟨ta, 0, none⟩) m m), (25, .int .i64 (aI o)), (26, .int .i64 (bI o)), (169, .int .i64 (m : Int)), (170, .int .i64 (i : Int))]) (fun ⟨i, o⟩ w_ => Mem w No w_ ((tg, .cells (topC m m rg) 30 (0, 0)) :: (ta, .cells (topC m m ra) 78 (0, 0)) :: (Lt ++ (tabL tInt (.int .i64) m m rg G ++ (tabL tBool .bool m m ra A ++ gs.flatMap RRow.L)))) ∧ i ≤ m ∧ BestI (keysOf nl f0) f G A limit (upR m i (i + 1)) o) (fun ⟨i, o⟩ => m - i) (0, none) (sqS rfl) ⟨hM68, Nat.zero_le _, bestI_0⟩ ?_)))
     rintro ⟨i, o⟩ w69 ⟨hM70, hi, hbest⟩
     refine sqK [(0, .slice Al nl cl), (2, .int .i64 limit), (8, .slice At m ct), (13, .int .i64 (m : Int)), (14, .slice (some ⟨tg, 0, none⟩) m m), (15, .slice (some ⟨ta, 0, none⟩) m m), (25, .int .i64 (aI o)), (26, .int .i64 (bI o)), (169, .int .i64 (m : Int)), (170, .int .i64 (i : Int))] rfl (k_seq (k_region (sqV (.bool (decide ((i : Int) < (m : Int)))) rfl rfl rfl ?_)))
     refine r_nil (e_then (k_seq ?_))
     refine k_cond rfl rfl (fun h => ?_) (fun h => ?_)
     ·try simp only [sqC] at h
      refine k_skip (e_then (k_seq (k_block (k_seq (k_region (sqV (.int .i64 (i : Int)) rfl rfl rfl ?_))))))
      refine sqV (.int .i64 (i : Int)) rfl rfl rfl ?_
      refine r_nil (sqE [(0, .slice Al nl cl), (2, .int .i64 limit), (8, .slice At m ct), (13, .int .i64 (m : Int)), (14, .slice (some ⟨tg, 0, none⟩) m m), (15, .slice (some ⟨ta, 0, none⟩) m m), (25, .int .i64 (aI o)), (26, .int .i64 (bI o)), (27, .int .i64 (i : Int)), (169, .int .i64 (m : Int)), (170, .int .i64 (i : Int))] rfl (e_then (k_seq (k_region (sqV (.int .i64 (i : Int)) rfl rfl rfl ?_)))))
      refine sqV (.int .i64 ((i : Int) + 1)) rfl rfl (x_addE rfl (by omega) (by omega) rfl rfl) ?_
      refine sqV (.int .i64 ((i : Int) + 1)) rfl rfl rfl ?_
      refine r_nil (e_then (k_block (k_loop (σ := Nat × Option (Nat × Nat)) (fun ⟨k, o⟩ => [(0, .slice Al nl cl), (2, .int .i64 limit), (8, .slice At m ct), (13, .int .i64 (m : Int)), (14, .slice (some ⟨tg, 0, none⟩) m m), (15, .slice (some ⟨ta, 0, none⟩) m m), (25, .int .i64 (aI o)), (26, .int .i64 (bI o)), (27, .int .i64 (i : Int)), (28, .int .i64 (k : Int)), (169, .int .i64 (m : Int)), (170, .int .i64 (i : Int))]) (fun ⟨k, o⟩ w_ => Mem w No w_ ((tg, .cells (topC m m rg) 30 (0, 0)) :: (ta, .cells (topC m m ra) 78 (0, 0)) :: (Lt ++ (tabL tInt (.int .i64) m m rg G ++ (tabL tBool .bool m m ra A ++ gs.flatMap RRow.L)))) ∧ i + 1 ≤ k ∧ k ≤ m ∧ BestI (keysOf nl f0) f G A limit (upR m i k) o) (fun ⟨k, o⟩ => m - k) (i + 1, o) (sqS rfl) ⟨hM70, by omega, by omega, hbest⟩ ?_)))
      rintro ⟨k, o⟩ w71 ⟨hM72, hk0, hk, hbest⟩
      refine sqK [(0, .slice Al nl cl), (2, .int .i64 limit), (8, .slice At m ct), (13, .int .i64 (m : Int)), (14, .slice (some ⟨tg, 0, none⟩) m m), (15, .slice (some ⟨ta, 0, none⟩) m m), (25, .int .i64 (aI o)), (26, .int .i64 (bI o)), (27, .int .i64 (i : Int)), (28, .int .i64 (k : Int)), (169, .int .i64 (m : Int)), (170, .int .i64 (i : Int))] rfl (k_seq (k_seq (k_region (sqV (.int .i64 (k : Int)) rfl rfl rfl ?_))))
      refine sqV (.int .i64 (m : Int)) rfl rfl rfl ?_
      refine sqV (.bool (decide ((k : Int) < (m : Int)))) rfl rfl rfl ?_
      refine r_nil (e_then ?_)
      refine k_cond rfl rfl (fun h2 => ?_) (fun h2 => ?_)
      ·try simp only [sqC] at h2
       refine k_skip (e_then (k_seq (k_block (k_seq (k_seq (k_region ?_))))))
       obtain ⟨ri, hri⟩ : ∃ r, gs[i]? = some r := ⟨gs[i]'(by omega), by simp⟩
       have hrim := List.mem_of_getElem? hri
       obtain ⟨Ari, cri, hvri, hnri⟩ := row_slice (hgo ri hrim)
       obtain ⟨rk, hrk⟩ : ∃ r, gs[k]? = some r := ⟨gs[k]'(by omega), by simp⟩
       have hrkm := List.mem_of_getElem? hrk
       obtain ⟨Ark, crk, hvrk, hnrk⟩ := row_slice (hgo rk hrkm)
       obtain ⟨xi, hxi⟩ : ∃ x, (keysOf nl f0)[i]? = some x := ⟨(keysOf nl f0)[i]'(by omega), by simp⟩
       have hxik := mem_keysOf.1 (List.mem_of_getElem? hxi)
       obtain ⟨xk, hxk⟩ : ∃ x, (keysOf nl f0)[k]? = some x := ⟨(keysOf nl f0)[k]'(by omega), by simp⟩
       have hxkk := mem_keysOf.1 (List.mem_of_getElem? hxk)
       have halri : Ari.isNone = false → f xi = xi := fun h9 => by rcases Classical.em (f xi = xi) with h10 | h10; exact h10; have h11 := hGR.dead i ri xi hri hxi h10; rw [h11] at hvri; injection hvri with h12 _ _; rw [← h12] at h9; cases h9
       have hddri : Ari.isNone = true → f xi ≠ xi := fun h9 h10 => by have h11 := hGR.alive i ri xi hri hxi h10; have h12 := hnri (by rw [h11]; exact (members_first hFOk ⟨hxik.1, h10⟩).2); rw [h9] at h12; cases h12
       have halrk : Ark.isNone = false → f xk = xk := fun h9 => by rcases Classical.em (f xk = xk) with h10 | h10; exact h10; have h11 := hGR.dead k rk xk hrk hxk h10; rw [h11] at hvrk; injection hvrk with h12 _ _; rw [← h12] at h9; cases h9
       have hddrk : Ark.isNone = true → f xk ≠ xk := fun h9 h10 => by have h11 := hGR.alive k rk xk hrk hxk h10; have h12 := hnrk (by rw [h11]; exact (members_first hFOk ⟨hxkk.1, h10⟩).2); rw [h9] at h12; cases h12
       refine sqV (.slice At m ct) rfl rfl rfl ?_
       refine sqV (.int .i64 (i : Int)) rfl rfl rfl ?_
       refine sqV (.pointer (some ((adr At).add (i * 1)))) rfl rfl (x_indexAddrN (i := i) (sz := 1) htop.here (by omega) rfl rfl rfl rfl) ?_
       refine sqV (.slice Ari ri.xs.length cri) rfl rfl (by rw [← hvri]; exact x_load ((top_rd ht (Mem.left (L := Lt) hM72.tail.tail).holds).first hri rfl) rfl rfl) ?_
       refine sqV (.bool Ari.isNone) rfl rfl (x_eqNil rfl rfl rfl) ?_
       refine sqV (.bool Ari.isNone) rfl rfl rfl ?_
       rcases Bool.eq_false_or_eq_true (Ari.isNone) with g1 | g1
       ·refine wpR_sub [(0, Value.slice Al nl cl), (2, Value.int .i64 limit), (8, Value.slice At m ct), (13, Value.int .i64 (m : Int)), (14, Value.slice (some ⟨tg, 0, none⟩) m m), (15, Value.slice (some ⟨ta, 0, none⟩) m m), (25, Value.int .i64 (aI o)), (26, Value.int .i64 (bI o)), (27, Value.int .i64 (i : Int)), (28, Value.int .i64 (k : Int)), (169, Value.int .i64 (m : Int)), (170, Value.int .i64 (i : Int)), (185, Value.bool true)] ⟨rfl, rfl, rfl, rfl, rfl, rfl, rfl, rfl, rfl, rfl, rfl, rfl, congrArg (fun z => some (Value.bool z)) g1, trivial⟩ ?_
        refine r_no rfl rfl (by decide) rfl ?_
        refine r_no rfl rfl (by decide) rfl ?_
        refine r_no rfl rfl (by decide) rfl ?_
        refine r_no rfl rfl (by decide) rfl ?_
        refine r_no rfl rfl (by decide) rfl ?_
        refine sqV (.bool true) rfl rfl rfl ?_
        refine sqV (.bool true) rfl rfl rfl ?_
        refine r_no rfl rfl (by decide) rfl ?_
        refine r_no rfl rfl (by decide) rfl ?_
        refine r_no rfl rfl (by decide) rfl ?_
        refine r_no rfl rfl (by decide) rfl ?_
        refine r_no rfl rfl (by decide) rfl ?_
        refine r_no rfl rfl (by decide) rfl ?_
        refine r_no rfl rfl (by decide) rfl ?_
        refine sqV (.bool true) rfl rfl rfl ?_
        refine sqV (.bool true) rfl rfl rfl ?_
        refine r_no rfl rfl (by decide) rfl ?_
        refine r_no rfl rfl (by decide) rfl ?_
        refine r_no rfl rfl (by decide) rfl ?_
        refine r_no rfl rfl (by decide) rfl ?_
        refine r_no rfl rfl (by decide) rfl ?_
        refine r_no rfl rfl (by decide) rfl ?_
        refine r_no rfl rfl (by decide) rfl ?_
        refine r_no rfl rfl (by decide) rfl ?_
        refine r_no rfl rfl (by decide) rfl ?_
        refine sqV (.bool true) rfl rfl rfl ?_
        refine r_nil (e_then (k_cond_true rfl rfl ?_))
        refine k_exit (e_then_exit (e_blk_exit (e_then (k_region (sqV (.int .i64 (k : Int)) rfl rfl rfl ?_)))))
        refine sqV (.int .i64 ((k : Int) + 1)) rfl rfl (x_addE rfl (by omega) (by omega) rfl rfl) ?_
        refine sqV (.int .i64 ((k : Int) + 1)) rfl rfl rfl ?_
        refine r_nil (sqE [(0, .slice Al nl cl), (2, .int .i64 limit), (8, .slice At m ct), (13, .int .i64 (m : Int)), (14, .slice (some ⟨tg, 0, none⟩) m m), (15, .slice (some ⟨ta, 0, none⟩) m m), (25, .int .i64 (aI o)), (26, .int .i64 (bI o)), (27, .int .i64 (i : Int)), (28, .int .i64 ((k : Int) + 1)), (169, .int .i64 (m : Int)), (170, .int .i64 (i : Int))] rfl ?_)
        refine e_loop (k + 1, o) (sqS rfl) ?_ ?_
        ·exact ⟨hM72, by omega, by omega, bestI_no hbest (by rintro ⟨x9, y9, hx9, hy9, hfx9, hfy9, ha9, hg9⟩; rw [hxi] at hx9; injection hx9 with hx9; subst hx9; exact hddri (by simpa using g1) hfx9)⟩
        ·(try dsimp only); omega
       ·refine wpR_sub [(0, Value.slice Al nl cl), (2, Value.int .i64 limit), (8, Value.slice At m ct), (13, Value.int .i64 (m : Int)), (14, Value.slice (some ⟨tg, 0, none⟩) m m), (15, Value.slice (some ⟨ta, 0, none⟩) m m), (25, Value.int .i64 (aI o)), (26, Value.int .i64 (bI o)), (27, Value.int .i64 (i : Int)), (28, Value.int .i64 (k : Int)), (169, Value.int .i64 (m : Int)), (170, Value.int .i64 (i : Int)), (185, Value.bool false)] ⟨rfl, rfl, rfl, rfl, rfl, rfl, rfl, rfl, rfl, rfl, rfl, rfl, congrArg (fun z => some (Value.bool z)) g1, trivial⟩ ?_
        refine r_yes rfl rfl ?_
        refine sqV (.slice At m ct) rfl rfl rfl ?_
        refine r_yes rfl rfl ?_
        refine sqV (.int .i64 (k : Int)) rfl rfl rfl ?_
        refine r_yes rfl rfl ?_
        refine sqV (.pointer (some ((adr At).add (k * 1)))) rfl rfl (x_indexAddrN (i := k) (sz := 1) htop.here (by omega) rfl rfl rfl rfl) ?_
        refine r_yes rfl rfl ?_
        refine sqV (.slice Ark rk.xs.length crk) rfl rfl (by rw [← hvrk]; exact x_load ((top_rd ht (Mem.left (L := Lt) hM72.tail.tail).holds).first hrk rfl) rfl rfl) ?_
        refine r_yes rfl rfl ?_
        refine sqV (.bool Ark.isNone) rfl rfl (x_eqNil rfl rfl rfl) ?_
        refine sqV (.bool Ark.isNone) rfl rfl rfl ?_
        refine sqV (.bool Ark.isNone) rfl rfl rfl ?_
        rcases Bool.eq_false_or_eq_true (Ark.isNone) with g2 | g2
        ·refine wpR_sub [(0, Value.slice Al nl cl), (2, Value.int .i64 limit), (8, Value.slice At m ct), (13, Value.int .i64 (m : Int)), (14, Value.slice (some ⟨tg, 0, none⟩) m m), (15, Value.slice (some ⟨ta, 0, none⟩) m m), (25, Value.int .i64 (aI o)), (26, Value.int .i64 (bI o)), (27, Value.int .i64 (i : Int)), (28, Value.int .i64 (k : Int)), (169, Value.int .i64 (m : Int)), (170, Value.int .i64 (i : Int)), (192, Value.bool true)] ⟨rfl, rfl, rfl, rfl, rfl, rfl, rfl, rfl, rfl, rfl, rfl, rfl, congrArg (fun z => some (Value.bool z)) g2, trivial⟩ ?_
         refine r_no rfl rfl (by decide) rfl ?_
         refine r_no rfl rfl (by decide) rfl ?_
         refine r_no rfl rfl (by decide) rfl ?_
         refine r_no rfl rfl (by decide) rfl ?_
         refine r_no rfl rfl (by decide) rfl ?_
         refine r_no rfl rfl (by decide) rfl ?_
         refine r_no rfl rfl (by decide) rfl ?_
         refine sqV (.bool true) rfl rfl rfl ?_
         refine sqV (.bool true) rfl rfl rfl ?_
         refine r_no rfl rfl (by decide) rfl ?_
         refine r_no rfl rfl (by decide) rfl ?_
         refine r_no rfl rfl (by decide) rfl ?_
         refine r_no rfl rfl (by decide) rfl ?_
         refine r_no rfl rfl (by decide) rfl ?_
         refine r_no rfl rfl (by decide) rfl ?_
         refine r_no rfl rfl (by decide) rfl ?_
         refine r_no rfl rfl (by decide) rfl ?_
         refine r_no rfl rfl (by decide) rfl ?_
         refine sqV (.bool true) rfl rfl rfl ?_
         refine r_nil (e_then (k_cond_true rfl rfl ?_))
         refine k_exit (e_then_exit (e_blk_exit (e_then (k_region (sqV (.int .i64 (k : Int)) rfl rfl rfl ?_)))))
         refine sqV (.int .i64 ((k : Int) + 1)) rfl rfl (x_addE rfl (by omega) (by omega) rfl rfl) ?_
         refine sqV (.int .i64 ((k : Int) + 1)) rfl rfl rfl ?_
         refine r_nil ?_
         refine e_loop (k + 1, o) (sqS rfl) ?_ ?_
         ·exact ⟨hM72, by omega, by omega, bestI_no hbest (by rintro ⟨x9, y9, hx9, hy9, hfx9, hfy9, ha9, hg9⟩; rw [hxk] at hy9; injection hy9 with hy9; subst hy9; exact hddrk (by simpa using g2) hfy9)⟩
         ·(try dsimp only); omega
        ·refine wpR_sub [(0, Value.slice Al nl cl), (2, Value.int .i64 limit), (8, Value.slice At m ct), (13, Value.int .i64 (m : Int)), (14, Value.slice (some ⟨tg, 0, none⟩) m m), (15, Value.slice (some ⟨ta, 0, none⟩) m m), (25, Value.int .i64 (aI o)), (26, Value.int .i64 (bI o)), (27, Value.int .i64 (i : Int)), (28, Value.int .i64 (k : Int)), (169, Value.int .i64 (m : Int)), (170, Value.int .i64 (i : Int)), (192, Value.bool false)] ⟨rfl, rfl, rfl, rfl, rfl, rfl, rfl, rfl, rfl, rfl, rfl, rfl, congrArg (fun z => some (Value.bool z)) g2, trivial⟩ ?_
         have halri' := halri (by simpa using g1)
         have halrk' := halrk (by simpa using g2)
         refine r_yes rfl rfl ?_
         refine sqV (.slice (some ⟨ta, 0, none⟩) m m) rfl rfl rfl ?_
         refine r_yes rfl rfl ?_
         refine sqV (.int .i64 (i : Int)) rfl rfl rfl ?_
         refine r_yes rfl rfl ?_
         refine sqV (.pointer (some ⟨ta, i, none⟩)) rfl rfl (x_indexAddrL (i := i) (sz := 1) (by omega) rfl rfl rfl rfl (by omega)) ?_
         refine r_yes rfl rfl ?_
         refine sqV (.slice (some ⟨ra i, 0, none⟩) m m) rfl rfl (x_load (hM72.cell 1 rfl (topC_get (by omega) (by omega))) rfl rfl) ?_
         refine r_yes rfl rfl ?_
         refine sqV (.int .i64 (k : Int)) rfl rfl rfl ?_
         refine r_yes rfl rfl ?_
         refine sqV (.pointer (some ⟨ra i, k, none⟩)) rfl rfl (x_indexAddrL (i := k) (sz := 1) (by omega) rfl rfl rfl rfl (by omega)) ?_
         refine r_yes rfl rfl ?_
         refine sqV (.bool (A i k)) rfl rfl (x_load (hM72.tcell (n := m) (enc := .bool) (g := A) (ty := tBool) (i := i) (List.mem_cons_of_mem _ (List.mem_cons_of_mem _ (List.mem_append_right _ (List.mem_append_right _ (List.mem_append_left _ (tabL_mem (by omega))))))) (by omega)) rfl rfl) ?_
         refine sqV (.bool (A i k)) rfl rfl rfl ?_
         refine sqV (.bool (A i k)) rfl rfl rfl ?_
         rcases Bool.eq_false_or_eq_true (A i k) with g3 | g3
         ·refine wpR_sub [(0, Value.slice Al nl cl), (2, Value.int .i64 limit), (8, Value.slice At m ct), (13, Value.int .i64 (m : Int)), (14, Value.slice (some ⟨tg, 0, none⟩) m m), (15, Value.slice (some ⟨ta, 0, none⟩) m m), (25, Value.int .i64 (aI o)), (26, Value.int .i64 (bI o)), (27, Value.int .i64 (i : Int)), (28, Value.int .i64 (k : Int)), (169, Value.int .i64 (m : Int)), (170, Value.int .i64 (i : Int)), (201, Value.bool true)] ⟨rfl, rfl, rfl, rfl, rfl, rfl, rfl, rfl, rfl, rfl, rfl, rfl, congrArg (fun z => some (Value.bool z)) g3, trivial⟩ ?_
          refine r_no rfl rfl (by decide) rfl ?_
          refine r_no rfl rfl (by decide) rfl ?_
          refine r_no rfl rfl (by decide) rfl ?_
          refine r_no rfl rfl (by decide) rfl ?_
          refine r_no rfl rfl (by decide) rfl ?_
          refine r_no rfl rfl (by decide) rfl ?_
          refine r_no rfl rfl (by decide) rfl ?_
          refine r_no rfl rfl (by decide) rfl ?_
          refine r_no rfl rfl (by decide) rfl ?_
          refine sqV (.bool true) rfl rfl rfl ?_
          refine r_nil (e_then (k_cond_true rfl rfl ?_))
          refine k_exit (e_then_exit (e_blk_exit (e_then (k_region (sqV (.int .i64 (k : Int)) rfl rfl rfl ?_)))))
          refine sqV (.int .i64 ((k : Int) + 1)) rfl rfl (x_addE rfl (by omega) (by omega) rfl rfl) ?_
          refine sqV (.int .i64 ((k : Int) + 1)) rfl rfl rfl ?_
          refine r_nil (sqE [(0, .slice Al nl cl), (2, .int .i64 limit), (8, .slice At m ct), (13, .int .i64 (m : Int)), (14, .slice (some ⟨tg, 0, none⟩) m m), (15, .slice (some ⟨ta, 0, none⟩) m m), (25, .int .i64 (aI o)), (26, .int .i64 (bI o)), (27, .int .i64 (i : Int)), (28, .int .i64 ((k : Int) + 1)), (169, .int .i64 (m : Int)), (170, .int .i64 (i : Int))] rfl ?_)
          refine e_loop (k + 1, o) (sqS rfl) ?_ ?_
          ·exact ⟨hM72, by omega, by omega, bestI_no hbest (by rintro ⟨x9, y9, hx9, hy9, hfx9, hfy9, ha9, hg9⟩; rw [g3] at ha9; cases ha9)⟩
          ·(try dsimp only); omega
         ·refine wpR_sub [(0, Value.slice Al nl cl), (2, Value.int .i64 limit), (8, Value.slice At m ct), (13, Value.int .i64 (m : Int)), (14, Value.slice (some ⟨tg, 0, none⟩) m m), (15, Value.slice (some ⟨ta, 0, none⟩) m m), (25, Value.int .i64 (aI o)), (26, Value.int .i64 (bI o)), (27, Value.int .i64 (i : Int)), (28, Value.int .i64 (k : Int)), (169, Value.int .i64 (m : Int)), (170, Value.int .i64 (i : Int)), (201, Value.bool false)] ⟨rfl, rfl, rfl, rfl, rfl, rfl, rfl, rfl, rfl, rfl, rfl, rfl, congrArg (fun z => some (Value.bool z)) g3, trivial⟩ ?_
          refine r_yes rfl rfl ?_
          refine sqV (.slice (some ⟨tg, 0, none⟩) m m) rfl rfl rfl ?_
          refine r_yes rfl rfl ?_
          refine sqV (.int .i64 (i : Int)) rfl rfl rfl ?_
          refine r_yes rfl rfl ?_
          refine sqV (.pointer (some ⟨tg, i, none⟩)) rfl rfl (x_indexAddrL (i := i) (sz := 1) (by omega) rfl rfl rfl rfl (by omega)) ?_
          refine r_yes rfl rfl ?_
          refine sqV (.slice (some ⟨rg i, 0, none⟩) m m) rfl rfl (x_load (hM72.cell 0 rfl (topC_get (by omega) (by omega))) rfl rfl) ?_
          refine r_yes rfl rfl ?_
          refine sqV (.int .i64 (k : Int)) rfl rfl rfl ?_
          refine r_yes rfl rfl ?_
          refine sqV (.pointer (some ⟨rg i, k, none⟩)) rfl rfl (x_indexAddrL (i := k) (sz := 1) (by omega) rfl rfl rfl rfl (by omega)) ?_
          refine r_yes rfl rfl ?_
          refine sqV (.int .i64 (G i k)) rfl rfl (x_load (hM72.tcell (n := m) (enc := .int .i64) (g := G) (ty := tInt) (i := i) (List.mem_cons_of_mem _ (List.mem_cons_of_mem _ (List.mem_append_right _ (List.mem_append_left _ (tabL_mem (by omega)))))) (by omega)) rfl rfl) ?_
          refine r_yes rfl rfl ?_
          refine sqV (.int .i64 limit) rfl rfl rfl ?_
          refine r_yes rfl rfl ?_
          refine sqV (.bool (decide ((G i k) > limit))) rfl rfl rfl ?_
          refine sqV (.bool (decide ((G i k) > limit))) rfl rfl rfl ?_
          refine r_nil (e_then ?_)
          refine k_cond rfl rfl (fun h4 => ?_) (fun h4 => ?_)
          ·try simp only [sqC] at h4
           refine k_exit (e_then_exit (e_blk_exit (e_then (k_region (sqV (.int .i64 (k : Int)) rfl rfl rfl ?_)))))
           refine sqV (.int .i64 ((k : Int) + 1)) rfl rfl (x_addE rfl (by omega) (by omega) rfl rfl) ?_
           refine sqV (.int .i64 ((k : Int) + 1)) rfl rfl rfl ?_
           refine r_nil ?_
           refine e_loop (k + 1, o) (sqS rfl) ?_ ?_
           ·exact ⟨hM72, by omega, by omega, bestI_no hbest (by rintro ⟨x9, y9, hx9, hy9, hfx9, hfy9, ha9, hg9⟩; omega)⟩
           ·(try dsimp only); omega
          ·try simp only [sqC] at h4
           refine k_skip (e_then (k_seq (k_region (sqV (.int .i64 (aI o)) rfl rfl rfl ?_))))
           refine sqV (.bool (decide ((aI o) < 0))) rfl rfl rfl ?_
           refine sqV (.bool (decide ((aI o) < 0))) rfl rfl rfl ?_
           rcases Bool.eq_false_or_eq_true (decide ((aI o) < 0)) with g5 | g5
           ·refine wpR_sub [(0, Value.slice Al nl cl), (2, Value.int .i64 limit), (8, Value.slice At m ct), (13, Value.int .i64 (m : Int)), (14, Value.slice (some ⟨tg, 0, none⟩) m m), (15, Value.slice (some ⟨ta, 0, none⟩) m m), (25, Value.int .i64 (aI o)), (26, Value.int .i64 (bI o)), (27, Value.int .i64 (i : Int)), (28, Value.int .i64 (k : Int)), (169, Value.int .i64 (m : Int)), (170, Value.int .i64 (i : Int)), (214, Value.bool true)] ⟨rfl, rfl, rfl, rfl, rfl, rfl, rfl, rfl, rfl, rfl, rfl, rfl, congrArg (fun z => some (Value.bool z)) g5, trivial⟩ ?_
            have ho : o = none := aI_neg (of_decide_eq_true g5)
            refine r_no rfl rfl (by decide) rfl ?_
            refine r_no rfl rfl (by decide) rfl ?_
            refine r_no rfl rfl (by decide) rfl ?_
            refine r_no rfl rfl (by decide) rfl ?_
            refine r_no rfl rfl (by decide) rfl ?_
            refine r_no rfl rfl (by decide) rfl ?_
            refine r_no rfl rfl (by decide) rfl ?_
            refine sqV (.bool true) rfl rfl rfl ?_
            refine r_nil (e_then (k_cond_true rfl rfl ?_))
            refine k_region (sqV (.int .i64 (i : Int)) rfl rfl rfl ?_)
            refine sqV (.int .i64 (k : Int)) rfl rfl rfl ?_
            refine sqV (.int .i64 (i : Int)) rfl rfl rfl ?_
            refine sqV (.int .i64 (k : Int)) rfl rfl rfl ?_
            refine r_nil (sqE [(0, .slice Al nl cl), (2, .int .i64 limit), (8, .slice At m ct), (13, .int .i64 (m : Int)), (14, .slice (some ⟨tg, 0, none⟩) m m), (15, .slice (some ⟨ta, 0, none⟩) m m), (25, .int .i64 (i : Int)), (26, .int .i64 (k : Int)), (27, .int .i64 (i : Int)), (28, .int .i64 (k : Int)), (169, .int .i64 (m : Int)), (170, .int .i64 (i : Int))] rfl (e_blk (e_then (k_region (sqV (.int .i64 (k : Int)) rfl rfl rfl ?_)))))
            refine sqV (.int .i64 ((k : Int) + 1)) rfl rfl (x_addE rfl (by omega) (by omega) rfl rfl) ?_
            refine sqV (.int .i64 ((k : Int) + 1)) rfl rfl rfl ?_
            refine r_nil ?_
            refine e_loop (k + 1, some (i, k)) (sqS rfl) ?_ ?_
            ·exact ⟨hM72, by omega, by omega, bestI_yes (by omega) (by omega) hbest ⟨xi, xk, hxi, hxk, halri', halrk', by simpa using g3, by omega⟩ (fun a b e => by rw [ho] at e; cases e)⟩
            ·(try dsimp only); omega
           ·refine wpR_sub [(0, Value.slice Al nl cl), (2, Value.int .i64 limit), (8, Value.slice At m ct), (13, Value.int .i64 (m : Int)), (14, Value.slice (some ⟨tg, 0, none⟩) m m), (15, Value.slice (some ⟨ta, 0, none⟩) m m), (25, Value.int .i64 (aI o)), (26, Value.int .i64 (bI o)), (27, Value.int .i64 (i : Int)), (28, Value.int .i64 (k : Int)), (169, Value.int .i64 (m : Int)), (170, Value.int .i64 (i : Int)), (214, Value.bool false)] ⟨rfl, rfl, rfl, rfl, rfl, rfl, rfl, rfl, rfl, rfl, rfl, rfl, congrArg (fun z => some (Value.bool z)) g5, trivial⟩ ?_
            obtain ⟨a, b, ho⟩ := aI_pos (of_decide_eq_false g5)
            have hbest' := hbest
            rw [ho] at hbest'
            obtain ⟨hd9, ⟨xa, xb, hxa, hxb, halqa', halqb', _, _⟩, _⟩ := hbest'
            have hbest' := hbest
            rw [ho] at hbest'
            have habm : a < b ∧ b < m ∧ (a < i ∨ (a = i ∧ b < k)) := by unfold upR at hd9; omega
            have hxak := mem_keysOf.1 (List.mem_of_getElem? hxa)
            have hxbk := mem_keysOf.1 (List.mem_of_getElem? hxb)
            obtain ⟨qa, hqa⟩ : ∃ r, gs[a]? = some r := ⟨gs[a]'(by omega), by simp⟩
            have hqam := List.mem_of_getElem? hqa
            obtain ⟨Aqa, cqa, hvqa, hnqa⟩ := row_slice (hgo qa hqam)
            obtain ⟨qb, hqb⟩ : ∃ r, gs[b]? = some r := ⟨gs[b]'(by omega), by simp⟩
            have hqbm := List.mem_of_getElem? hqb
            obtain ⟨Aqb, cqb, hvqb, hnqb⟩ := row_slice (hgo qb hqbm)
            refine wpR_sub [(0, Value.slice Al nl cl), (2, Value.int .i64 limit), (8, Value.slice At m ct), (13, Value.int .i64 (m : Int)), (14, Value.slice (some ⟨tg, 0, none⟩) m m), (15, Value.slice (some ⟨ta, 0, none⟩) m m), (25, Value.int .i64 (a : Int)), (26, Value.int .i64 (b : Int)), (27, Value.int .i64 (i : Int)), (28, Value.int .i64 (k : Int)), (169, Value.int .i64 (m : Int)), (170, Value.int .i64 (i : Int)), (214, Value.bool false)] ⟨rfl, rfl, rfl, rfl, rfl, rfl, by rw [ho]; rfl, by rw [ho]; rfl, rfl, rfl, rfl, rfl, rfl, trivial⟩ ?_
            refine r_yes rfl rfl ?_
            refine sqV (.slice At m ct) rfl rfl rfl ?_
            refine r_yes rfl rfl ?_
            refine sqV (.slice (some ⟨tg, 0, none⟩) m m) rfl rfl rfl ?_
            refine r_yes rfl rfl ?_
            refine sqV (.int .i64 (i : Int)) rfl rfl rfl ?_
            refine r_yes rfl rfl ?_
            refine sqV (.int .i64 (k : Int)) rfl rfl rfl ?_
            refine r_yes rfl rfl ?_
            refine sqV (.int .i64 (a : Int)) rfl rfl rfl ?_
            refine r_yes rfl rfl ?_
            refine sqV (.int .i64 (b : Int)) rfl rfl rfl ?_
            refine r_yes rfl rfl ?_
            refine r_call (f := 39) (args := #[Value.slice At m ct, Value.slice (some ⟨tg, 0, none⟩) m m, Value.int .i64 (i : Int), Value.int .i64 (k : Int), Value.int .i64 (a : Int), Value.int .i64 (b : Int)]) (w' := w71) rfl rfl (x_call (vs := [Value.slice At m ct, Value.slice (some ⟨tg, 0, none⟩) m m, Value.int .i64 (i : Int), Value.int .i64 (k : Int), Value.int .i64 (a : Int), Value.int .i64 (b : Int)]) (enter39 _ _) rfl rfl) (earlier_s At m ct tg i k a b ⟨htop.here⟩ (by omega) (by omega) (by omega) (by omega) xi xk xa xb (G i k) (G a b) Ari Ark Aqa Aqb ri.xs.length cri rk.xs.length crk qa.xs.length cqa qb.xs.length cqb (rg i) (rg a) w71 (first_at ht (Mem.left (L := Lt) hM72.tail.tail).holds hri hvri (hgo ri hrim) (rows_holds (gs := gs) (Mem.past (A := tabL tBool .bool m m ra A) (Mem.past (A := tabL tInt (.int .i64) m m rg G) (Mem.past (A := Lt) hM72.tail.tail))).holds hrim) (hGR.alive i ri xi hri hxi halri') hFOk ⟨hxik.1, halri'⟩) (first_at ht (Mem.left (L := Lt) hM72.tail.tail).holds hrk hvrk (hgo rk hrkm) (rows_holds (gs := gs) (Mem.past (A := tabL tBool .bool m m ra A) (Mem.past (A := tabL tInt (.int .i64) m m rg G) (Mem.past (A := Lt) hM72.tail.tail))).holds hrkm) (hGR.alive k rk xk hrk hxk halrk') hFOk ⟨hxkk.1, halrk'⟩) (first_at ht (Mem.left (L := Lt) hM72.tail.tail).holds hqa hvqa (hgo qa hqam) (rows_holds (gs := gs) (Mem.past (A := tabL tBool .bool m m ra A) (Mem.past (A := tabL tInt (.int .i64) m m rg G) (Mem.past (A := Lt) hM72.tail.tail))).holds hqam) (hGR.alive a qa xa hqa hxa halqa') hFOk ⟨hxak.1, halqa'⟩) (first_at ht (Mem.left (L := Lt) hM72.tail.tail).holds hqb hvqb (hgo qb hqbm) (rows_holds (gs := gs) (Mem.past (A := tabL tBool .bool m m ra A) (Mem.past (A := tabL tInt (.int .i64) m m rg G) (Mem.past (A := Lt) hM72.tail.tail))).holds hqbm) (hGR.alive b qb xb hqb hxb halqb') hFOk ⟨hxbk.1, halqb'⟩) (gap_at (G := G) (hM72.cell 0 rfl (topC_get (show i < m by omega) (Nat.le_refl _))) (hM72.tcell (n := m) (enc := .int .i64) (g := G) (ty := tInt) (i := i) (List.mem_cons_of_mem _ (List.mem_cons_of_mem _ (List.mem_append_right _ (List.mem_append_left _ (tabL_mem (show i < m by omega)))))) (show k < m by omega))) (gap_at (G := G) (hM72.cell 0 rfl (topC_get (show a < m by omega) (Nat.le_refl _))) (hM72.tcell (n := m) (enc := .int .i64) (g := G) (ty := tInt) (i := a) (List.mem_cons_of_mem _ (List.mem_cons_of_mem _ (List.mem_append_right _ (List.mem_append_left _ (tabL_mem (show a < m by omega)))))) (show b < m by omega)))) ?_
            rintro v_ w77 ⟨rfl, hM78⟩
            replace hM78 := hM72.grow hM78.kept
            have hord := earlier_lt (g1 := G i k) (g2 := G a b) (keysOf_sorted nl f0) hxi hxk hxa hxb (by omega) habm.1 habm.2.2
            refine sqV (.bool (decide (firstN [cmp3 (G i k) (G a b), cmp3 (min (xi : Int) (xk : Int)) (min (xa : Int) (xb : Int)), cmp3 (max (xi : Int) (xk : Int)) (max (xa : Int) (xb : Int))] < 0))) rfl rfl rfl ?_
            refine r_nil (e_then ?_)
            refine k_cond rfl rfl (fun g6 => ?_) (fun g6 => ?_)
            ·try simp only [sqC] at g6
             refine k_region (sqV (.int .i64 (i : Int)) rfl rfl rfl ?_)
             refine sqV (.int .i64 (k : Int)) rfl rfl rfl ?_
             refine sqV (.int .i64 (i : Int)) rfl rfl rfl ?_
             refine sqV (.int .i64 (k : Int)) rfl rfl rfl ?_
             refine r_nil (e_blk (e_then (k_region (sqV (.int .i64 (k : Int)) rfl rfl rfl ?_))))
             refine sqV (.int .i64 ((k : Int) + 1)) rfl rfl (x_addE rfl (by omega) (by omega) rfl rfl) ?_
             refine sqV (.int .i64 ((k : Int) + 1)) rfl rfl rfl ?_
             refine r_nil (sqE [(0, .slice Al nl cl), (2, .int .i64 limit), (8, .slice At m ct), (13, .int .i64 (m : Int)), (14, .slice (some ⟨tg, 0, none⟩) m m), (15, .slice (some ⟨ta, 0, none⟩) m m), (25, .int .i64 (i : Int)), (26, .int .i64 (k : Int)), (27, .int .i64 (i : Int)), (28, .int .i64 ((k : Int) + 1)), (169, .int .i64 (m : Int)), (170, .int .i64 (i : Int))] rfl ?_)
             refine e_loop (k + 1, some (i, k)) (sqS rfl) ?_ ?_
             ·exact ⟨hM78, by omega, by omega, bestI_yes (by omega) (by omega) hbest ⟨xi, xk, hxi, hxk, halri', halrk', by simpa using g3, by omega⟩ (fun a' b' e => by rw [ho] at e; injection e with e; injection e with e1 e2; subst e1; subst e2; exact hord.1 g6)⟩
             ·(try dsimp only); omega
            ·try simp only [sqC] at g6
             refine k_skip (e_blk (e_then (k_region (sqV (.int .i64 (k : Int)) rfl rfl rfl ?_))))
             refine sqV (.int .i64 ((k : Int) + 1)) rfl rfl (x_addE rfl (by omega) (by omega) rfl rfl) ?_
             refine sqV (.int .i64 ((k : Int) + 1)) rfl rfl rfl ?_
             refine r_nil ?_
             refine e_loop (k + 1, some (a, b)) (sqS rfl) ?_ ?_
             ·exact ⟨hM78, by omega, by omega, bestI_keep hbest' (by rcases Classical.em (G i k < G a b) with h9 | h9; have h10 := hord.2 h9; omega; omega)⟩
             ·(try dsimp only); omega
      ·try simp only [sqC] at h2
       refine k_exit (e_then_exit (e_loop_exit (e_blk_exit (e_blk (e_then (k_region (sqV (.int .i64 ((i : Int) + 1)) rfl rfl (x_addE rfl (by omega) (by omega) rfl rfl) ?_)))))))
       refine sqV (.int .i64 ((i : Int) + 1)) rfl rfl rfl ?_
       refine r_nil ?_
       refine e_loop (i + 1, o) (sqS rfl) ?_ ?_
       ·exact ⟨hM72, by omega, bestI_row hbest (by omega)⟩
       ·(try dsimp only); omega
     ·try simp only [sqC] at h
      refine k_exit (e_then_exit (e_loop_exit (e_blk_exit (e_then (k_seq (k_seq (k_region ?_)))))))
      have hbA := bestI_all hbest (show m ≤ i by omega)
      rw [hm] at hbA
      refine sqV (.int .i64 (aI o)) rfl rfl rfl ?_
      refine sqV (.bool (decide ((aI o) < 0))) rfl rfl rfl ?_
      refine r_nil (e_then ?_)
      refine k_cond rfl rfl (fun hst => ?_) (fun hst => ?_)
      ·try simp only [sqC] at hst
       refine k_exit (e_then_exit (e_blk_ne (by decide) ?_))
       refine e_loop_exit (e_blk_exit (e_then (k_seq (k_region ?_))))
       have ho := aI_neg hst
       rw [ho] at hbA
       obtain ⟨x0, y0, l0, hB, hl0e⟩ := best_of hT hbA
       have hl0e' : l0 = limit + 1 := hl0e
       have hstop : Stop l nl (notsOf l bs) limit f := ⟨gK (keysOf nl f0) G, aK (keysOf nl f0) A, x0, y0, l0, hT.tab, hB, by omega⟩
       refine sqV (.slice none 0 0) rfl rfl rfl ?_
       refine r_nil (sqE [(0, .slice Al nl cl), (8, .slice At m ct), (30, .slice none 0 0)] rfl (e_then (k_seq (k_seq (k_region (sqV (.slice At m ct) rfl rfl rfl ?_))))))
       refine sqV (.int .i64 (m : Int)) rfl rfl (x_len rfl rfl) ?_
       refine sqV (.int .i64 0) rfl rfl rfl ?_
       refine r_nil (e_then (k_block (k_loop (σ := Nat × Value × Hp × List RRow) (fun ⟨i, vo, Lo, rows⟩ => [(0, .slice Al nl cl), (30, vo), (322, .slice At m ct), (323, .int .i64 (m : Int)), (324, .int .i64 (i : Int))]) (fun ⟨i, vo, Lo, rows⟩ w_ => Mem w No w_ ((tg, .cells (topC m m rg) 30 (0, 0)) :: (ta, .cells (topC m m ra) 78 (0, 0)) :: (Lo ++ (rows.flatMap RRow.L ++ (Lt ++ (tabL tInt (.int .i64) m m rg G ++ (tabL tBool .bool m m ra A ++ gs.flatMap RRow.L)))))) ∧ i ≤ m ∧ OwnR tInts 1 vo rows.length (topV rows) Lo ∧ (∀ r ∈ rows, r.ok) ∧ rows.map RRow.xs = outTo l nl f (keysOf nl f0) i) (fun ⟨i, vo, Lo, rows⟩ => m - i) (0, .slice none 0 0, [], []) (sqS rfl) ⟨by simpa using hM70, Nat.zero_le _, OwnR.nil _ _, by simp, by simp [outTo]⟩ ?_)))
       rintro ⟨i, vo, Lo, rows⟩ w79 ⟨hM80, hi, hro, hrk, hrx⟩
       refine sqK [(0, .slice Al nl cl), (30, vo), (322, .slice At m ct), (323, .int .i64 (m : Int)), (324, .int .i64 (i : Int))] rfl (k_seq (k_region (sqV (.bool (decide ((i : Int) < (m : Int)))) rfl rfl rfl ?_)))
       refine r_nil (e_then (k_seq ?_))
       refine k_cond rfl rfl (fun h => ?_) (fun h => ?_)
       ·try simp only [sqC] at h
        refine k_skip (e_then (k_seq (k_block (k_seq (k_region ?_)))))
        obtain ⟨ri, hri⟩ : ∃ r, gs[i]? = some r := ⟨gs[i]'(by omega), by simp⟩
        have hrim := List.mem_of_getElem? hri
        obtain ⟨Ari, cri, hvri, hnri⟩ := row_slice (hgo ri hrim)
        obtain ⟨xi, hxi⟩ : ∃ x, (keysOf nl f0)[i]? = some x := ⟨(keysOf nl f0)[i]'(by omega), by simp⟩
        have hxik := mem_keysOf.1 (List.mem_of_getElem? hxi)
        have hrib : ∀ p ∈ ri.xs, p < nl := by rcases Classical.em (f xi = xi) with h9 | h9; rw [hGR.alive i ri xi hri hxi h9]; exact fun p hp => (mem_members.1 hp).1; have h10 := hGR.dead i ri xi hri hxi h9; rw [h10]; simp
        have hril : ri.xs.length ≤ nl := by rcases Classical.em (f xi = xi) with h9 | h9; rw [hGR.alive i ri xi hri hxi h9]; exact members_len nl f xi; have h10 := hGR.dead i ri xi hri hxi h9; rw [h10]; simp
        refine sqV (.pointer (some ((adr At).add (i * 1)))) rfl rfl (x_indexAddrN (i := i) (sz := 1) htop.here (by omega) rfl rfl rfl rfl) ?_
        refine sqV (.slice Ari ri.xs.length cri) rfl rfl (by rw [← hvri]; exact x_load ((top_rd ht (Mem.left (L := Lt) (Mem.past (A := rows.flatMap RRow.L) (Mem.past (A := Lo) hM80.tail.tail))).holds).first hri rfl) rfl rfl) ?_
        refine sqV (.slice Ari ri.xs.length cri) rfl rfl rfl ?_
        refine r_nil (e_then (k_seq (k_region (sqV (.slice none 0 0) rfl rfl rfl ?_))))
        refine r_nil (sqE [(0, .slice Al nl cl), (30, vo), (32, .slice Ari ri.xs.length cri), (33, .slice none 0 0), (322, .slice At m ct), (323, .int .i64 (m : Int)), (324, .int .i64 (i : Int))] rfl (e_then (k_seq (k_seq (k_region (sqV (.slice Ari ri.xs.length cri) rfl rfl rfl ?_))))))
        refine sqV (.int .i64 (ri.xs.length : Int)) rfl rfl (x_len rfl rfl) ?_
        refine sqV (.int .i64 0) rfl rfl rfl ?_
        refine r_nil (e_then (k_block (k_loop (σ := Nat × Value × Hp) (fun ⟨k, v, L⟩ => [(0, .slice Al nl cl), (30, vo), (33, v), (322, .slice At m ct), (323, .int .i64 (m : Int)), (324, .int .i64 (i : Int)), (328, .slice Ari ri.xs.length cri), (329, .int .i64 (ri.xs.length : Int)), (330, .int .i64 (k : Int))]) (fun ⟨k, v, L⟩ w_ => Mem w No w_ ((tg, .cells (topC m m rg) 30 (0, 0)) :: (ta, .cells (topC m m ra) 78 (0, 0)) :: (L ++ (Lo ++ (rows.flatMap RRow.L ++ (Lt ++ (tabL tInt (.int .i64) m m rg G ++ (tabL tBool .bool m m ra A ++ gs.flatMap RRow.L))))))) ∧ k ≤ ri.xs.length ∧ OwnR tInt 1 v k (natsV ((ri.xs.take k).map (idN l))) L) (fun ⟨k, v, L⟩ => ri.xs.length - k) (0, .slice none 0 0, []) (sqS rfl) ⟨hM80, Nat.zero_le _, OwnR.nil _ _⟩ ?_)))
        rintro ⟨k, v, L⟩ w81 ⟨hM82, hk, hr⟩
        refine sqK [(0, .slice Al nl cl), (30, vo), (33, v), (322, .slice At m ct), (323, .int .i64 (m : Int)), (324, .int .i64 (i : Int)), (328, .slice Ari ri.xs.length cri), (329, .int .i64 (ri.xs.length : Int)), (330, .int .i64 (k : Int))] rfl (k_seq (k_region (sqV (.bool (decide ((k : Int) < (ri.xs.length : Int)))) rfl rfl rfl ?_)))
        refine r_nil (e_then (k_seq ?_))
        refine k_cond rfl rfl (fun h2 => ?_) (fun h2 => ?_)
        ·try simp only [sqC] at h2
         refine k_skip (e_then (k_seq (k_block (k_seq (k_region ?_)))))
         obtain ⟨p, hp⟩ : ∃ p, ri.xs[k]? = some p := ⟨ri.xs[k]'(by omega), by simp⟩
         have hpm := hrib p (List.mem_of_getElem? hp)
         obtain ⟨z, hz⟩ : ∃ z, l[p]? = some z := ⟨l[p]'(by omega), by simp⟩
         have hz14 := hl.size' hz
         have hzi := hid z (List.mem_of_getElem? hz)
         have hidp : (idN l p : Int) = idOf z := by unfold idN idAt; rw [show l.getD p [] = z by simp [hz]]; omega
         refine sqV (.pointer (some ((adr Ari).add (k * 1)))) rfl rfl (x_indexAddrN (i := k) (sz := 1) (HereP.mk (Kn.row_here (hgo ri hrim) hvri)).here (by omega) rfl rfl rfl rfl) ?_
         refine sqV (.int .i64 (p : Int)) rfl rfl (x_loadEInt (row_rd (hgo ri hrim) hvri (rows_holds (gs := gs) (Mem.past (A := tabL tBool .bool m m ra A) (Mem.past (A := tabL tInt (.int .i64) m m rg G) (Mem.past (A := Lt) (Mem.past (A := rows.flatMap RRow.L) (Mem.past (A := Lo) (Mem.past (A := L) hM82.tail.tail)))))).holds hrim)) (natsI_get hp) rfl rfl) ?_
         refine sqV (.int .i64 (p : Int)) rfl rfl rfl ?_
         refine r_nil (e_then (k_region (sqV (v) rfl rfl rfl ?_)))
         refine sqV (.slice Al nl cl) rfl rfl rfl ?_
         refine sqV (.int .i64 (p : Int)) rfl rfl rfl ?_
         refine sqV (.pointer (some ((adr Al).add (p * 14)))) rfl rfl (x_indexAddrN (i := p) (sz := 14) hl.here (by omega) rfl rfl rfl rfl) ?_
         refine sqV (.pointer (some ((adr Al).add (p * 14)))) rfl rfl rfl ?_
         refine sqV (.int .i64 (idOf z)) rfl rfl (x_load ((hl.up hM82).first hz (intsE_0 (by simp at hz14; omega))) rfl rfl) ?_
         refine r_new (fun b => .slice (some ⟨b, 0, none⟩) 1 1) (.cells #[Value.int .i64 (idOf z)] 3 (0, 0)) hM82 (by kernel_rfl) rfl rfl ?_
         intro b85 w83 hM84 hb85
         replace hM84 : Mem w No w83 ((b85, .cells #[Value.int .i64 (idOf z)] 3 (0, 0)) :: (tg, .cells (topC m m rg) 30 (0, 0)) :: (ta, .cells (topC m m ra) 78 (0, 0)) :: (L ++ (Lo ++ (rows.flatMap RRow.L ++ (Lt ++ (tabL tInt (.int .i64) m m rg G ++ (tabL tBool .bool m m ra A ++ gs.flatMap RRow.L))))))) := hM84
         refine r_append (bytes := 8) (z := .int .i64 0) (A := some ⟨b85, 0, none⟩) (m := 1) (c := 1) (news := [Value.int .i64 (idOf z)]) hr (hM84.perm (List.perm_append_comm_assoc ([(b85, .cells #[Value.int .i64 (idOf z)] 3 (0, 0)), (tg, .cells (topC m m rg) 30 (0, 0)), (ta, .cells (topC m m ra) 78 (0, 0))] : Hp) L (Lo ++ (rows.flatMap RRow.L ++ (Lt ++ (tabL tInt (.int .i64) m m rg G ++ (tabL tBool .bool m m ra A ++ gs.flatMap RRow.L))))))) (fun _ => rfl) (rfl) (hM84.cells 0 rfl) (by simp [Value.oneCell']) (by omega) (by kernel_rfl) (by kernel_rfl) rfl (by decide) (by decide) rfl rfl rfl ?_
         intro v9 L9 w86 hr9 hM87
         replace hM87 := (hM87).perm (List.perm_append_comm_assoc L9 ([(b85, .cells #[Value.int .i64 (idOf z)] 3 (0, 0)), (tg, .cells (topC m m rg) 30 (0, 0)), (ta, .cells (topC m m ra) 78 (0, 0))] : Hp) (Lo ++ (rows.flatMap RRow.L ++ (Lt ++ (tabL tInt (.int .i64) m m rg G ++ (tabL tBool .bool m m ra A ++ gs.flatMap RRow.L))))))
         have hone_v9 := hr9.one
         replace hM87 : Mem w No w86 ((b85, .cells #[Value.int .i64 (idOf z)] 3 (0, 0)) :: (tg, .cells (topC m m rg) 30 (0, 0)) :: (ta, .cells (topC m m ra) 78 (0, 0)) :: (L9 ++ (Lo ++ (rows.flatMap RRow.L ++ (Lt ++ (tabL tInt (.int .i64) m m rg G ++ (tabL tBool .bool m m ra A ++ gs.flatMap RRow.L))))))) := hM87
         refine sqV (v9) rfl rfl rfl ?_
         refine r_nil (sqE [(0, .slice Al nl cl), (30, vo), (33, v9), (322, .slice At m ct), (323, .int .i64 (m : Int)), (324, .int .i64 (i : Int)), (328, .slice Ari ri.xs.length cri), (329, .int .i64 (ri.xs.length : Int)), (330, .int .i64 (k : Int))] rfl (e_blk (e_then (k_region (sqV (.int .i64 ((k : Int) + 1)) rfl rfl (x_addE rfl (by omega) (by omega) rfl rfl) ?_)))))
         refine sqV (.int .i64 ((k : Int) + 1)) rfl rfl rfl ?_
         refine r_nil ?_
         refine e_loop (k + 1, v9, L9) (sqS rfl) ?_ ?_
         ·exact ⟨(hM87.pickT [(b85, .cells #[Value.int .i64 (idOf z)] 3 (0, 0)), (tg, .cells (topC m m rg) 30 (0, 0)), (ta, .cells (topC m m ra) 78 (0, 0))] (L9 ++ (Lo ++ (rows.flatMap RRow.L ++ (Lt ++ (tabL tInt (.int .i64) m m rg G ++ (tabL tBool .bool m m ra A ++ gs.flatMap RRow.L)))))) rfl [1, 2] _ (by decide) rfl), by omega, by rw [take_snoc' hp, List.map_append]; simpa [natsV, natsI, hidp] using hr9⟩
         ·(try dsimp only); omega
        ·try simp only [sqC] at h2
         refine k_exit (e_then_exit (e_loop_exit (e_blk_exit (e_then (k_seq (k_region ?_))))))
         have hkn : ri.xs.take k = ri.xs := List.take_of_length_le (by omega)
         rw [hkn] at hr
         have hke : k = (ri.xs.map (idN l)).length := by simp; omega
         rw [hke] at hr
         obtain ⟨A9, c9, hv9, _, _, _⟩ := hr.slice
         have hrl : rows.length ≤ i := by have h9 := congrArg List.length hrx; simp at h9; rw [h9]; exact out_len
         refine wpR_sub [(0, Value.slice Al nl cl), (30, vo), (33, Value.slice A9 ((ri.xs.map (idN l)).length) c9), (322, Value.slice At m ct), (323, Value.int .i64 (m : Int)), (324, Value.int .i64 (i : Int)), (328, Value.slice Ari ri.xs.length cri), (329, Value.int .i64 (ri.xs.length : Int)), (330, Value.int .i64 (k : Int)), (331, Value.bool (decide ((k : Int) < (ri.xs.length : Int))))] ⟨rfl, rfl, congrArg some hv9, rfl, rfl, rfl, rfl, rfl, rfl, rfl, trivial⟩ ?_
         refine sqV (.slice A9 ((ri.xs.map (idN l)).length) c9) rfl rfl rfl ?_
         refine sqV (.int .i64 ((ri.xs.map (idN l)).length : Int)) rfl rfl (x_len rfl rfl) ?_
         refine sqV (.bool (decide (((ri.xs.map (idN l)).length : Int) > 0))) rfl rfl rfl ?_
         refine r_nil (e_then ?_)
         refine k_cond rfl rfl (fun h4 => ?_) (fun h4 => ?_)
         ·try simp only [sqC] at h4
          refine k_region ?_
          have hne : ri.xs ≠ [] := by intro e; rw [e] at h4; simp at h4
          have hal : f xi = xi := by rcases Classical.em (f xi = xi) with h9 | h9; exact h9; have h10 := hGR.dead i ri xi hri hxi h9; rw [h10] at hne; exact absurd rfl hne
          have hrix := hGR.alive i ri xi hri hxi hal
          rw [hv9] at hr
          have hM88 : Mem w No w81 ((tg, .cells (topC m m rg) 30 (0, 0)) :: (ta, .cells (topC m m ra) 78 (0, 0)) :: (Lo ++ (L ++ (rows.flatMap RRow.L ++ (Lt ++ (tabL tInt (.int .i64) m m rg G ++ (tabL tBool .bool m m ra A ++ gs.flatMap RRow.L))))))) := hM82.perm (List.Perm.append_left ([(tg, .cells (topC m m rg) 30 (0, 0)), (ta, .cells (topC m m ra) 78 (0, 0))] : Hp) (List.perm_append_comm_assoc L Lo (rows.flatMap RRow.L ++ (Lt ++ (tabL tInt (.int .i64) m m rg G ++ (tabL tBool .bool m m ra A ++ gs.flatMap RRow.L))))))
          refine sqV (vo) rfl rfl rfl ?_
          refine sqV (.slice A9 ((ri.xs.map (idN l)).length) c9) rfl rfl rfl ?_
          refine r_new (fun b => .slice (some ⟨b, 0, none⟩) 1 1) (.cells #[Value.slice A9 ((ri.xs.map (idN l)).length) c9] 30 (0, 0)) hM88 (by kernel_rfl) rfl rfl ?_
          intro b91 w89 hM90 hb91
          replace hM90 : Mem w No w89 ((b91, .cells #[Value.slice A9 ((ri.xs.map (idN l)).length) c9] 30 (0, 0)) :: (tg, .cells (topC m m rg) 30 (0, 0)) :: (ta, .cells (topC m m ra) 78 (0, 0)) :: (Lo ++ (L ++ (rows.flatMap RRow.L ++ (Lt ++ (tabL tInt (.int .i64) m m rg G ++ (tabL tBool .bool m m ra A ++ gs.flatMap RRow.L))))))) := hM90
          refine r_append (bytes := 24) (z := .slice none 0 0) (A := some ⟨b91, 0, none⟩) (m := 1) (c := 1) (news := [Value.slice A9 (ri.xs.map (idN l)).length c9]) hro (hM90.perm (List.perm_append_comm_assoc ([(b91, .cells #[Value.slice A9 ((ri.xs.map (idN l)).length) c9] 30 (0, 0)), (tg, .cells (topC m m rg) 30 (0, 0)), (ta, .cells (topC m m ra) 78 (0, 0))] : Hp) Lo (L ++ (rows.flatMap RRow.L ++ (Lt ++ (tabL tInt (.int .i64) m m rg G ++ (tabL tBool .bool m m ra A ++ gs.flatMap RRow.L))))))) (fun _ => rfl) (rfl) (hM90.cells 0 rfl) (by simp [Value.oneCell']) (by omega) (by kernel_rfl) (by kernel_rfl) rfl (by decide) (by decide) rfl rfl rfl ?_
          intro v8 L8 w92 hr8 hM93
          replace hM93 := (hM93).perm (List.perm_append_comm_assoc L8 ([(b91, .cells #[Value.slice A9 ((ri.xs.map (idN l)).length) c9] 30 (0, 0)), (tg, .cells (topC m m rg) 30 (0, 0)), (ta, .cells (topC m m ra) 78 (0, 0))] : Hp) (L ++ (rows.flatMap RRow.L ++ (Lt ++ (tabL tInt (.int .i64) m m rg G ++ (tabL tBool .bool m m ra A ++ gs.flatMap RRow.L))))))
          have hone_v8 := hr8.one
          replace hM93 : Mem w No w92 ((b91, .cells #[Value.slice A9 ((ri.xs.map (idN l)).length) c9] 30 (0, 0)) :: (tg, .cells (topC m m rg) 30 (0, 0)) :: (ta, .cells (topC m m ra) 78 (0, 0)) :: (L8 ++ (L ++ (rows.flatMap RRow.L ++ (Lt ++ (tabL tInt (.int .i64) m m rg G ++ (tabL tBool .bool m m ra A ++ gs.flatMap RRow.L))))))) := hM93
          refine sqV (v8) rfl rfl rfl ?_
          refine r_nil (e_blk (e_then (k_region (sqV (.int .i64 ((i : Int) + 1)) rfl rfl (x_addE rfl (by omega) (by omega) rfl rfl) ?_))))
          refine sqV (.int .i64 ((i : Int) + 1)) rfl rfl rfl ?_
          refine r_nil (sqE [(0, .slice Al nl cl), (30, v8), (322, .slice At m ct), (323, .int .i64 (m : Int)), (324, .int .i64 ((i : Int) + 1))] rfl ?_)
          refine e_loop (i + 1, v8, L8, rows ++ [⟨.slice A9 (ri.xs.map (idN l)).length c9, ri.xs.map (idN l), L⟩]) (sqS rfl) ?_ ?_
          ·exact ⟨by have h9 := hM93.tail; rw [List.flatMap_append, List.flatMap_cons, List.flatMap_nil, List.append_nil, List.append_assoc]; exact h9.perm (List.Perm.append_left [_, _] (List.Perm.append_left L8 (List.perm_append_comm_assoc L (rows.flatMap RRow.L) (Lt ++ (tabL tInt (.int .i64) m m rg G ++ (tabL tBool .bool m m ra A ++ gs.flatMap RRow.L)))))), by omega, by rw [List.length_append]; simpa [topV] using hr8, fun r hr' => by rcases List.mem_append.1 hr' with h9 | h9; exact hrk r h9; rw [List.mem_singleton] at h9; subst h9; exact hr, by rw [List.map_append, hrx, out_yes hxi hal, ← hrix]; rfl⟩
          ·(try dsimp only); omega
         ·try simp only [sqC] at h4
          refine k_skip (e_blk (e_then (k_region ?_)))
          have hxe : ri.xs = [] := List.eq_nil_of_length_eq_zero (by simpa using h4)
          have hdd : f xi ≠ xi := fun h9 => by have h10 := hGR.alive i ri xi hri hxi h9; rw [hxe] at h10; exact (members_first hFOk ⟨hxik.1, h9⟩).2 h10.symm
          refine sqV (.int .i64 ((i : Int) + 1)) rfl rfl (x_addE rfl (by omega) (by omega) rfl rfl) ?_
          refine sqV (.int .i64 ((i : Int) + 1)) rfl rfl rfl ?_
          refine r_nil ?_
          refine e_loop (i + 1, vo, Lo, rows) (sqS rfl) ?_ ?_
          ·exact ⟨(hM82).subp ⟨L, List.Perm.append_left [_, _] List.perm_append_comm⟩, by omega, hro, hrk, by rw [hrx, out_no hxi hdd]⟩
          ·(try dsimp only); omega
       ·try simp only [sqC] at h
        refine k_exit (e_then_exit (e_loop_exit (e_blk_exit (e_then (k_seq (k_region ?_))))))
        have him : i = (keysOf nl f0).length := by omega
        rw [him] at hrx
        have hrl : rows.length ≤ m := by have h9 := congrArg List.length hrx; simp at h9; rw [h9, hm]; exact out_len
        obtain ⟨hne9, hds9, hbd9, hfin9⟩ := out_final (rows2 := rows) hgd.sorted hll hid hFOk (keysOf_sorted nl f0) (fun x hx => hT.lt x hx) (fun x hx => hT.keys x hx) hrx
        refine sqV (vo) rfl rfl rfl ?_
        refine r_call (f := 37) (args := #[vo, Value.func (.func 41) #[] #[]]) (w' := w79) rfl rfl (x_call (vs := [vo, Value.func (.func 41) #[] #[]]) (enter37 _ _) rfl rfl) (sortF_s 41 (.inr rfl) vo rows Lo w79 hro (Mem.left (L := Lo ++ rows.flatMap RRow.L) (L' := (Lt ++ (tabL tInt (.int .i64) m m rg G ++ (tabL tBool .bool m m ra A ++ gs.flatMap RRow.L)))) (by rw [List.append_assoc]; exact hM80.tail.tail)).holds hrk hne9 hds9 hbd9 (by omega)) ?_
        rintro v_ w94 ⟨rfl, rows2, Lo2, hperm, hsorted, hro2, hM95⟩
        replace hM95 : Mem w No w94 ((tg, .cells (topC m m rg) 30 (0, 0)) :: (ta, .cells (topC m m ra) 78 (0, 0)) :: (Lo2 ++ (rows.flatMap RRow.L ++ (Lt ++ (tabL tInt (.int .i64) m m rg G ++ (tabL tBool .bool m m ra A ++ gs.flatMap RRow.L)))))) := (Mem.call (L1 := Lo) (L2 := ([(tg, .cells (topC m m rg) 30 (0, 0)), (ta, .cells (topC m m ra) 78 (0, 0))] : Hp) ++ (rows.flatMap RRow.L ++ (Lt ++ (tabL tInt (.int .i64) m m rg G ++ (tabL tBool .bool m m ra A ++ gs.flatMap RRow.L))))) (hM80.perm (List.perm_append_comm_assoc ([(tg, .cells (topC m m rg) 30 (0, 0)), (ta, .cells (topC m m ra) 78 (0, 0))] : Hp) Lo _)) hM95).perm (List.perm_append_comm_assoc Lo2 ([(tg, .cells (topC m m rg) 30 (0, 0)), (ta, .cells (topC m m ra) 78 (0, 0))] : Hp) _)
        refine r_nil (e_then (k_seq (k_region ?_)))
        obtain ⟨_, _, _, hfin8⟩ := out_final (rows2 := rows2) hgd.sorted hll hid hFOk (keysOf_sorted nl f0) (fun x hx => hT.lt x hx) (fun x hx => hT.keys x hx) hrx
        obtain ⟨Ao, co, hvo, _, _, _⟩ := hro2.slice
        refine sqV (vo) rfl rfl rfl ?_
        refine sqV (vo) rfl rfl rfl ?_
        refine r_nil (e_then (k_ret (e_ret1 rfl rfl ?_)))
        rw [hvo] at hro2 ⊢
        exact ⟨_, rfl, f, by have h9 := hR; rw [hf0] at h9; exact h9, hstop, hFOk, Ao, co, rows2, Lo2, by rw [hperm.length_eq], hfin8 hperm hsorted, by rw [hperm.length_eq]; exact hro2, fun r hr => hrk r (hperm.mem_iff.1 hr), (Mem.left (L := Lo2 ++ rows.flatMap RRow.L) (L' := (Lt ++ (tabL tInt (.int .i64) m m rg G ++ (tabL tBool .bool m m ra A ++ gs.flatMap RRow.L)))) (by rw [List.append_assoc]; exact hM95.tail.tail)).perm (List.Perm.append_left Lo2 (rows_perm hperm.symm))⟩
      ·try simp only [sqC] at hst
       refine k_skip (e_then (k_seq ?_))
       obtain ⟨a, b, ho⟩ := aI_pos (o := o) (by omega)
       rw [ho] at hbA
       obtain ⟨x, y, least, hB, hx, hy, hleast, hll9⟩ := best_of hT hbA
       obtain ⟨hd9, ⟨x2, y2, hx2, hy2, hfx, hfy, _, _⟩, _⟩ := hbA
       rw [hx] at hx2
       injection hx2 with hx2
       subst hx2
       rw [hy] at hy2
       injection hy2 with hy2
       subst hy2
       have hxy := (sidx_lt (keysOf_sorted nl f0) hx hy).2 hd9.1
       have hxk' : isKey nl f x := ⟨hT.lt x (List.mem_of_getElem? hx), hfx⟩
       have hyk' : isKey nl f y := ⟨hT.lt y (List.mem_of_getElem? hy), hfy⟩
       have habm : a < b ∧ b < m := ⟨hd9.1, by rw [hm]; exact hd9.2⟩
       obtain ⟨pa, hpa⟩ : ∃ r, gs[a]? = some r := ⟨gs[a]'(by omega), by simp⟩
       have hpam := List.mem_of_getElem? hpa
       obtain ⟨Apa, cpa, hvpa, hnpa⟩ := row_slice (hgo pa hpam)
       obtain ⟨pb, hpb⟩ : ∃ r, gs[b]? = some r := ⟨gs[b]'(by omega), by simp⟩
       have hpbm := List.mem_of_getElem? hpb
       obtain ⟨Apb, cpb, hvpb, hnpb⟩ := row_slice (hgo pb hpbm)
       have hpax := hGR.alive a pa x hpa hx hfx
       have hpbx := hGR.alive b pb y hpb hy hfy
       have hpal : pa.xs.length ≤ nl := by rw [hpax]; exact members_len nl f x
       have hpbl : pb.xs.length ≤ nl := by rw [hpbx]; exact members_len nl f y
       have hpo := hgo pa hpam
       unfold RRow.ok at hpo
       rw [hvpa] at hpo
       refine wpK_sub [(0, Value.slice Al nl cl), (2, Value.int .i64 limit), (8, Value.slice At m ct), (13, Value.int .i64 (m : Int)), (14, Value.slice (some ⟨tg, 0, none⟩) m m), (15, Value.slice (some ⟨ta, 0, none⟩) m m), (25, Value.int .i64 (a : Int)), (26, Value.int .i64 (b : Int)), (227, Value.bool (decide ((aI o) < 0)))] ⟨rfl, rfl, rfl, rfl, rfl, rfl, by rw [ho]; rfl, by rw [ho]; rfl, rfl, trivial⟩ ?_
       refine k_drawP mixed [0, 0, 0, 0, 12, 28, 0, 0, 192, 448, 1020, 2047, 4095] [some (Value.slice At m ct), some (Value.int .i64 (a : Int)), some (Value.slice At m ct), some (Value.int .i64 (a : Int)), some (Value.pointer (some ((adr At).add (a * 1)))), some (Value.slice Apa pa.xs.length cpa), some (Value.slice At m ct), some (Value.int .i64 (b : Int)), some (Value.pointer (some ((adr At).add (b * 1)))), some (Value.slice Apb pb.xs.length cpb)] (by kernel_rfl) 10 [(0, Value.slice At m ct), (1, Value.int .i64 (a : Int))] rfl rfl (by kernel_rfl) rfl (fun D V w_ => Mem w No w_ ((tg, .cells (topC m m rg) 30 (0, 0)) :: (ta, .cells (topC m m ra) 78 (0, 0)) :: (Lt ++ (tabL tInt (.int .i64) m m rg G ++ (tabL tBool .bool m m ra A ++ gs.flatMap RRow.L))))) (fun V => hM70.drew) ⟨⟨rfl, fun o_ V w_ ho => by obtain rfl := Option.some.inj ho; exact goal_of [(8, Value.slice At m ct)] rfl ⟨rfl, trivial⟩ rfl (run_val (Value.slice At m ct) rfl ⟨rfl, rfl⟩), fun D V w_ h => h⟩, ⟨rfl, fun o_ V w_ ho => by obtain rfl := Option.some.inj ho; exact goal_of [(25, Value.int .i64 (a : Int))] rfl ⟨rfl, trivial⟩ rfl (run_val (Value.int .i64 (a : Int)) rfl ⟨rfl, rfl⟩), fun D V w_ h => h⟩, trivial⟩ ?_ ?_
       ·refine ⟨?_, ?_, ?_, ?_, ?_, ?_, ?_, ?_, ?_, ?_, trivial⟩
        ·intro D V w_ hd hi hM_
         refine sqG [(8, .slice At m ct)] rfl rfl rfl ?_
         exact run_val (.slice At m ct) (rfl) ⟨sqT, hM_⟩
        ·intro D V w_ hd hi hM_
         refine sqG [(25, .int .i64 (a : Int))] rfl rfl rfl ?_
         exact run_val (.int .i64 (a : Int)) (rfl) ⟨sqT, hM_⟩
        ·intro D V w_ hd hi hM_
         refine sqG [(8, .slice At m ct)] rfl rfl rfl ?_
         exact run_val (.slice At m ct) (rfl) ⟨sqT, hM_⟩
        ·intro D V w_ hd hi hM_
         refine sqG [(25, .int .i64 (a : Int))] rfl rfl rfl ?_
         exact run_val (.int .i64 (a : Int)) (rfl) ⟨sqT, hM_⟩
        ·intro D V w_ hd hi hM_
         refine sqG [(230, .slice At m ct), (231, .int .i64 (a : Int))] rfl rfl rfl ?_
         exact run_val (.pointer (some ((adr At).add (a * 1)))) (x_indexAddrN (i := a) (sz := 1) htop.here (by omega) rfl rfl rfl rfl) ⟨sqT, hM_⟩
        ·intro D V w_ hd hi hM_
         refine sqG [(232, .pointer (some ((adr At).add (a * 1))))] rfl rfl rfl ?_
         exact run_val (.slice Apa pa.xs.length cpa) (by rw [← hvpa]; exact x_load ((top_rd ht (Mem.left (L := Lt) hM_.tail.tail).holds).first hpa rfl) rfl rfl) ⟨sqT, hM_⟩
        ·intro D V w_ hd hi hM_
         refine sqG [(8, .slice At m ct)] rfl rfl rfl ?_
         exact run_val (.slice At m ct) (rfl) ⟨sqT, hM_⟩
        ·intro D V w_ hd hi hM_
         refine sqG [(26, .int .i64 (b : Int))] rfl rfl rfl ?_
         exact run_val (.int .i64 (b : Int)) (rfl) ⟨sqT, hM_⟩
        ·intro D V w_ hd hi hM_
         refine sqG [(234, .slice At m ct), (235, .int .i64 (b : Int))] rfl rfl rfl ?_
         exact run_val (.pointer (some ((adr At).add (b * 1)))) (x_indexAddrN (i := b) (sz := 1) htop.here (by omega) rfl rfl rfl rfl) ⟨sqT, hM_⟩
        ·intro D V w_ hd hi hM_
         refine sqG [(236, .pointer (some ((adr At).add (b * 1))))] rfl rfl rfl ?_
         exact run_val (.slice Apb pb.xs.length cpb) (by rw [← hvpb]; exact x_load ((top_rd ht (Mem.left (L := Lt) hM_.tail.tail).holds).first hpb rfl) rfl rfl) ⟨sqT, hM_⟩
       intro D V w96 hall hM97
       refine sqR [(0, .slice Al nl cl), (2, .int .i64 limit), (8, .slice At m ct), (13, .int .i64 (m : Int)), (14, .slice (some ⟨tg, 0, none⟩) m m), (15, .slice (some ⟨ta, 0, none⟩) m m), (25, .int .i64 (a : Int)), (26, .int .i64 (b : Int)), (228, .slice At m ct), (229, .int .i64 (a : Int)), (233, .slice Apa pa.xs.length cpa), (237, .slice Apb pb.xs.length cpb)] rfl ?_
       have hpbr : RdE intE 1 w96 Apb pb.xs.length (natsI pb.xs) := row_rd (hgo pb hpbm) hvpb (rows_holds (gs := gs) (Mem.past (A := tabL tBool .bool m m ra A) (Mem.past (A := tabL tInt (.int .i64) m m rg G) (Mem.past (A := Lt) hM97.tail.tail))).holds hpbm)
       have hM98 : Mem w No w96 ((tg, .cells (topC m m rg) 30 (0, 0)) :: (ta, .cells (topC m m ra) 78 (0, 0)) :: (pa.L ++ (Lt ++ (tabL tInt (.int .i64) m m rg G ++ (tabL tBool .bool m m ra A ++ (gs.eraseIdx a).flatMap RRow.L))))) := Mem.outRow3 (E := [_, _]) hM97 hpa
       refine r_append (bytes := 8) (z := .int .i64 0) (A := Apb) (m := pb.xs.length) (c := cpb) (news := (natsV pb.xs)) hpo (hM98.perm (List.perm_append_comm_assoc ([(tg, .cells (topC m m rg) 30 (0, 0)), (ta, .cells (topC m m ra) 78 (0, 0))] : Hp) pa.L (Lt ++ (tabL tInt (.int .i64) m m rg G ++ (tabL tBool .bool m m ra A ++ (gs.eraseIdx a).flatMap RRow.L))))) (hpbr.here) (by simp [natsV, natsI]) (hpbr.cellsI) (by intro u hu; obtain ⟨z9, _, rfl⟩ := List.mem_map.1 hu; rfl) (by omega) (by kernel_rfl) (by kernel_rfl) rfl (by decide) (by decide) rfl rfl rfl ?_
       intro v9 L9 w99 hr9 hM100
       replace hM100 := (hM100).perm (List.perm_append_comm_assoc L9 ([(tg, .cells (topC m m rg) 30 (0, 0)), (ta, .cells (topC m m ra) 78 (0, 0))] : Hp) (Lt ++ (tabL tInt (.int .i64) m m rg G ++ (tabL tBool .bool m m ra A ++ (gs.eraseIdx a).flatMap RRow.L))))
       have hone_v9 := hr9.one
       replace hM100 : Mem w No w99 ((tg, .cells (topC m m rg) 30 (0, 0)) :: (ta, .cells (topC m m ra) 78 (0, 0)) :: (L9 ++ (Lt ++ (tabL tInt (.int .i64) m m rg G ++ (tabL tBool .bool m m ra A ++ (gs.eraseIdx a).flatMap RRow.L))))) := hM100
       refine sqV (.pointer (some ((adr At).add (a * 1)))) rfl rfl (x_indexAddrN (i := a) (sz := 1) htop.here (by omega) rfl rfl rfl rfl) ?_
       refine r_storeOwn2 (v := v9) (i := a) ([(tg, .cells (topC m m rg) 30 (0, 0)), (ta, .cells (topC m m ra) 78 (0, 0))] : Hp) L9 ht hM100 (show a < m by omega) hone_v9 rfl rfl rfl rfl ?_
       intro w101 Lt2 ht2 hM102
       replace hM102 : Mem w No w101 ((tg, .cells (topC m m rg) 30 (0, 0)) :: (ta, .cells (topC m m ra) 78 (0, 0)) :: (L9 ++ (Lt2 ++ (tabL tInt (.int .i64) m m rg G ++ (tabL tBool .bool m m ra A ++ (gs.eraseIdx a).flatMap RRow.L))))) := hM102
       refine r_nil (sqE [(0, .slice Al nl cl), (2, .int .i64 limit), (8, .slice At m ct), (13, .int .i64 (m : Int)), (14, .slice (some ⟨tg, 0, none⟩) m m), (15, .slice (some ⟨ta, 0, none⟩) m m), (25, .int .i64 (a : Int)), (26, .int .i64 (b : Int))] rfl (e_then (k_seq (k_region (sqV (.slice At m ct) rfl rfl rfl ?_)))))
       refine sqV (.int .i64 (a : Int)) rfl rfl rfl ?_
       refine sqV (.pointer (some ((adr At).add (a * 1)))) rfl rfl (x_indexAddrN (i := a) (sz := 1) htop.here (by omega) rfl rfl rfl rfl) ?_
       refine sqV (v9) rfl rfl (x_load (own_at ht2 (Mem.left (L := Lt2) (Mem.past (A := L9) hM102.tail.tail)).holds (by rw [List.getElem?_set_self (by simp [topV]; omega)])) rfl rfl) ?_
       refine r_call (f := 40) (args := #[v9]) (w' := w101) rfl rfl (x_call (vs := [v9]) (enter40 _ _) rfl rfl) (sort_s v9 (pa.xs.length + pb.xs.length) (natsI pa.xs ++ natsI pb.xs) L9 w101 (by rw [List.map_append]; exact hr9) (Mem.left (L := L9) hM102.tail.tail).holds (by omega)) ?_
       rintro v_ w103 ⟨rfl, L7, hr7, hM104⟩
       replace hM104 : Mem w No w103 ((tg, .cells (topC m m rg) 30 (0, 0)) :: (ta, .cells (topC m m ra) 78 (0, 0)) :: (L7 ++ (Lt2 ++ (tabL tInt (.int .i64) m m rg G ++ (tabL tBool .bool m m ra A ++ (gs.eraseIdx a).flatMap RRow.L))))) := (Mem.call (L1 := L9) (L2 := ([(tg, .cells (topC m m rg) 30 (0, 0)), (ta, .cells (topC m m ra) 78 (0, 0))] : Hp) ++ (Lt2 ++ (tabL tInt (.int .i64) m m rg G ++ (tabL tBool .bool m m ra A ++ (gs.eraseIdx a).flatMap RRow.L)))) (hM102.perm (List.perm_append_comm_assoc ([(tg, .cells (topC m m rg) 30 (0, 0)), (ta, .cells (topC m m ra) 78 (0, 0))] : Hp) L9 (Lt2 ++ (tabL tInt (.int .i64) m m rg G ++ (tabL tBool .bool m m ra A ++ (gs.eraseIdx a).flatMap RRow.L))))) hM104).perm (List.perm_append_comm_assoc L7 ([(tg, .cells (topC m m rg) 30 (0, 0)), (ta, .cells (topC m m ra) 78 (0, 0))] : Hp) (Lt2 ++ (tabL tInt (.int .i64) m m rg G ++ (tabL tBool .bool m m ra A ++ (gs.eraseIdx a).flatMap RRow.L))))
       refine r_nil (e_then (k_seq (k_region (sqV (.slice At m ct) rfl rfl rfl ?_))))
       refine sqV (.int .i64 (b : Int)) rfl rfl rfl ?_
       refine sqV (.pointer (some ((adr At).add (b * 1)))) rfl rfl (x_indexAddrN (i := b) (sz := 1) htop.here (by omega) rfl rfl rfl rfl) ?_
       refine r_storeOwn2 (v := .slice none 0 0) (i := b) ([(tg, .cells (topC m m rg) 30 (0, 0)), (ta, .cells (topC m m ra) 78 (0, 0))] : Hp) L7 ht2 hM104 (show b < m by omega) rfl rfl rfl rfl rfl ?_
       intro w105 Lt3 ht3 hM106
       replace hM106 : Mem w No w105 ((tg, .cells (topC m m rg) 30 (0, 0)) :: (ta, .cells (topC m m ra) 78 (0, 0)) :: (L7 ++ (Lt3 ++ (tabL tInt (.int .i64) m m rg G ++ (tabL tBool .bool m m ra A ++ (gs.eraseIdx a).flatMap RRow.L))))) := hM106
       refine r_nil (e_then (k_seq (k_region ?_)))
       rw [hpax, hpbx, members_sortI hxy] at hr7
       have hlen7 : pa.xs.length + pb.xs.length = (members nl (joinF x y f) x).length := by rw [hpax, hpbx]; have h9 := hr7.1; simp [natsI] at h9; omega
       have hpr : RRow.ok ⟨v9, members nl (joinF x y f) x, L7⟩ := by unfold RRow.ok; rw [hpax, hpbx] at hlen7; rw [← hlen7]; exact hr7
       have hGR2 := grs_join hGR (keysOf_sorted nl f0) hd9.1 hx hy hfx hfy hpr
       obtain ⟨gs2, hgs2⟩ : ∃ g, g = (gs.set a ⟨v9, members nl (joinF x y f) x, L7⟩).set b ⟨.slice none 0 0, [], []⟩ := ⟨_, rfl⟩
       have hM9 := (hM106).subp (sub_join3 (E := [_, _]) (v := v9) (zs := members nl (joinF x y f) x) (show a < gs.length by omega) (show b < gs.length by omega))
       rw [← hgs2] at hM9 hGR2
       have htv : topV gs2 = ((topV gs).set a v9).set b (.slice none 0 0) := by rw [hgs2]; simp [topV, List.map_set]
       rw [← htv] at ht3
       have hM107 : Mem w No w105 ((tg, .cells (topC m m rg) 30 (0, 0)) :: (ta, .cells (topC m m ra) 78 (0, 0)) :: (Lt3 ++ (tabL tInt (.int .i64) m m rg G ++ (tabL tBool .bool m m ra A ++ gs2.flatMap RRow.L)))) := hM9
       refine sqV (.int .i64 (m : Int)) rfl rfl rfl ?_
       refine sqV (.int .i64 0) rfl rfl rfl ?_
       refine r_nil (e_then (k_block (k_loop (σ := Nat) (fun k => [(0, .slice Al nl cl), (2, .int .i64 limit), (8, .slice At m ct), (13, .int .i64 (m : Int)), (14, .slice (some ⟨tg, 0, none⟩) m m), (15, .slice (some ⟨ta, 0, none⟩) m m), (25, .int .i64 (a : Int)), (26, .int .i64 (b : Int)), (248, .int .i64 (m : Int)), (249, .int .i64 (k : Int))]) (fun k w_ => Mem w No w_ ((tg, .cells (topC m m rg) 30 (0, 0)) :: (ta, .cells (topC m m ra) 78 (0, 0)) :: (Lt3 ++ (tabL tInt (.int .i64) m m rg (mgG a b G k) ++ (tabL tBool .bool m m ra (mgA a b A k) ++ gs2.flatMap RRow.L)))) ∧ k ≤ m) (fun k => m - k) 0 (sqS rfl) ⟨hM107, Nat.zero_le _⟩ ?_)))
       rintro k w108 ⟨hM109, hk⟩
       refine sqK [(0, .slice Al nl cl), (2, .int .i64 limit), (8, .slice At m ct), (13, .int .i64 (m : Int)), (14, .slice (some ⟨tg, 0, none⟩) m m), (15, .slice (some ⟨ta, 0, none⟩) m m), (25, .int .i64 (a : Int)), (26, .int .i64 (b : Int)), (248, .int .i64 (m : Int)), (249, .int .i64 (k : Int))] rfl (k_seq (k_region (sqV (.bool (decide ((k : Int) < (m : Int)))) rfl rfl rfl ?_)))
       refine r_nil (sqE [(0, .slice Al nl cl), (2, .int .i64 limit), (8, .slice At m ct), (13, .int .i64 (m : Int)), (14, .slice (some ⟨tg, 0, none⟩) m m), (15, .slice (some ⟨ta, 0, none⟩) m m), (25, .int .i64 (a : Int)), (26, .int .i64 (b : Int)), (248, .int .i64 (m : Int)), (249, .int .i64 (k : Int)), (250, .bool (decide ((k : Int) < (m : Int))))] rfl (e_then (k_seq ?_)))
       refine k_cond rfl rfl (fun h6 => ?_) (fun h6 => ?_)
       ·try simp only [sqC] at h6
        refine k_skip (e_then (k_seq (k_block (k_seq (k_region (sqV (.int .i64 (k : Int)) rfl rfl rfl ?_))))))
        refine sqV (.int .i64 (k : Int)) rfl rfl rfl ?_
        refine r_nil (e_then (k_seq ?_))
        refine k_drawP mixed [0, 0, 3, 7, 0, 0, 0, 96, 224, 0, 992, 2016, 0, 0, 12288, 28672, 0, 126976, 258048, 524256, 1048575, 2097151] [some (Value.slice (some ⟨tg, 0, none⟩) m m), some (Value.int .i64 (a : Int)), some (Value.pointer (some ⟨tg, a, none⟩)), some (Value.slice (some ⟨rg a, 0, none⟩) m m), some (Value.int .i64 (k : Int)), some (Value.slice (some ⟨tg, 0, none⟩) m m), some (Value.int .i64 (a : Int)), some (Value.pointer (some ⟨tg, a, none⟩)), some (Value.slice (some ⟨rg a, 0, none⟩) m m), some (Value.int .i64 (k : Int)), some (Value.pointer (some ⟨rg a, k, none⟩)), some (Value.int .i64 ((mgG a b G k) a k)), some (Value.slice (some ⟨tg, 0, none⟩) m m), some (Value.int .i64 (b : Int)), some (Value.pointer (some ⟨tg, b, none⟩)), some (Value.slice (some ⟨rg b, 0, none⟩) m m), some (Value.int .i64 (k : Int)), some (Value.pointer (some ⟨rg b, k, none⟩)), some (Value.int .i64 ((mgG a b G k) b k)), some (Value.int .i64 (min ((mgG a b G k) a k) ((mgG a b G k) b k)))] (by kernel_rfl) 20 [] rfl rfl (by kernel_rfl) rfl (fun D V w_ => Mem w No w_ ((tg, .cells (topC m m rg) 30 (0, 0)) :: (ta, .cells (topC m m ra) 78 (0, 0)) :: (Lt3 ++ (tabL tInt (.int .i64) m m rg (mgG a b G k) ++ (tabL tBool .bool m m ra (mgA a b A k) ++ gs2.flatMap RRow.L))))) (fun V => hM109.drew) trivial ?_ ?_
        ·refine ⟨?_, ?_, ?_, ?_, ?_, ?_, ?_, ?_, ?_, ?_, ?_, ?_, ?_, ?_, ?_, ?_, ?_, ?_, ?_, ?_, trivial⟩
         ·intro D V w_ hd hi hM_
          refine sqG [(14, .slice (some ⟨tg, 0, none⟩) m m)] rfl rfl rfl ?_
          exact run_val (.slice (some ⟨tg, 0, none⟩) m m) (rfl) ⟨sqT, hM_⟩
         ·intro D V w_ hd hi hM_
          refine sqG [(25, .int .i64 (a : Int))] rfl rfl rfl ?_
          exact run_val (.int .i64 (a : Int)) (rfl) ⟨sqT, hM_⟩
         ·intro D V w_ hd hi hM_
          refine sqG [(252, .slice (some ⟨tg, 0, none⟩) m m), (253, .int .i64 (a : Int))] rfl rfl rfl ?_
          exact run_val (.pointer (some ⟨tg, a, none⟩)) (x_indexAddrL (i := a) (sz := 1) (by omega) rfl rfl rfl rfl (by omega)) ⟨sqT, hM_⟩
         ·intro D V w_ hd hi hM_
          refine sqG [(254, .pointer (some ⟨tg, a, none⟩))] rfl rfl rfl ?_
          exact run_val (.slice (some ⟨rg a, 0, none⟩) m m) (x_load (hM_.cell 0 rfl (topC_get (by omega) (by omega))) rfl rfl) ⟨sqT, hM_⟩
         ·intro D V w_ hd hi hM_
          refine sqG [(29, .int .i64 (k : Int))] rfl rfl rfl ?_
          exact run_val (.int .i64 (k : Int)) (rfl) ⟨sqT, hM_⟩
         ·intro D V w_ hd hi hM_
          refine sqG [(14, .slice (some ⟨tg, 0, none⟩) m m)] rfl rfl rfl ?_
          exact run_val (.slice (some ⟨tg, 0, none⟩) m m) (rfl) ⟨sqT, hM_⟩
         ·intro D V w_ hd hi hM_
          refine sqG [(25, .int .i64 (a : Int))] rfl rfl rfl ?_
          exact run_val (.int .i64 (a : Int)) (rfl) ⟨sqT, hM_⟩
         ·intro D V w_ hd hi hM_
          refine sqG [(257, .slice (some ⟨tg, 0, none⟩) m m), (258, .int .i64 (a : Int))] rfl rfl rfl ?_
          exact run_val (.pointer (some ⟨tg, a, none⟩)) (x_indexAddrL (i := a) (sz := 1) (by omega) rfl rfl rfl rfl (by omega)) ⟨sqT, hM_⟩
         ·intro D V w_ hd hi hM_
          refine sqG [(259, .pointer (some ⟨tg, a, none⟩))] rfl rfl rfl ?_
          exact run_val (.slice (some ⟨rg a, 0, none⟩) m m) (x_load (hM_.cell 0 rfl (topC_get (by omega) (by omega))) rfl rfl) ⟨sqT, hM_⟩
         ·intro D V w_ hd hi hM_
          refine sqG [(29, .int .i64 (k : Int))] rfl rfl rfl ?_
          exact run_val (.int .i64 (k : Int)) (rfl) ⟨sqT, hM_⟩
         ·intro D V w_ hd hi hM_
          refine sqG [(260, .slice (some ⟨rg a, 0, none⟩) m m), (261, .int .i64 (k : Int))] rfl rfl rfl ?_
          exact run_val (.pointer (some ⟨rg a, k, none⟩)) (x_indexAddrL (i := k) (sz := 1) (by omega) rfl rfl rfl rfl (by omega)) ⟨sqT, hM_⟩
         ·intro D V w_ hd hi hM_
          refine sqG [(262, .pointer (some ⟨rg a, k, none⟩))] rfl rfl rfl ?_
          exact run_val (.int .i64 ((mgG a b G k) a k)) (x_load (hM_.tcell (n := m) (enc := .int .i64) (g := (mgG a b G k)) (ty := tInt) (i := a) (List.mem_cons_of_mem _ (List.mem_cons_of_mem _ (List.mem_append_right _ (List.mem_append_left _ (tabL_mem (by omega)))))) (by omega)) rfl rfl) ⟨sqT, hM_⟩
         ·intro D V w_ hd hi hM_
          refine sqG [(14, .slice (some ⟨tg, 0, none⟩) m m)] rfl rfl rfl ?_
          exact run_val (.slice (some ⟨tg, 0, none⟩) m m) (rfl) ⟨sqT, hM_⟩
         ·intro D V w_ hd hi hM_
          refine sqG [(26, .int .i64 (b : Int))] rfl rfl rfl ?_
          exact run_val (.int .i64 (b : Int)) (rfl) ⟨sqT, hM_⟩
         ·intro D V w_ hd hi hM_
          refine sqG [(264, .slice (some ⟨tg, 0, none⟩) m m), (265, .int .i64 (b : Int))] rfl rfl rfl ?_
          exact run_val (.pointer (some ⟨tg, b, none⟩)) (x_indexAddrL (i := b) (sz := 1) (by omega) rfl rfl rfl rfl (by omega)) ⟨sqT, hM_⟩
         ·intro D V w_ hd hi hM_
          refine sqG [(266, .pointer (some ⟨tg, b, none⟩))] rfl rfl rfl ?_
          exact run_val (.slice (some ⟨rg b, 0, none⟩) m m) (x_load (hM_.cell 0 rfl (topC_get (by omega) (by omega))) rfl rfl) ⟨sqT, hM_⟩
         ·intro D V w_ hd hi hM_
          refine sqG [(29, .int .i64 (k : Int))] rfl rfl rfl ?_
          exact run_val (.int .i64 (k : Int)) (rfl) ⟨sqT, hM_⟩
         ·intro D V w_ hd hi hM_
          refine sqG [(267, .slice (some ⟨rg b, 0, none⟩) m m), (268, .int .i64 (k : Int))] rfl rfl rfl ?_
          exact run_val (.pointer (some ⟨rg b, k, none⟩)) (x_indexAddrL (i := k) (sz := 1) (by omega) rfl rfl rfl rfl (by omega)) ⟨sqT, hM_⟩
         ·intro D V w_ hd hi hM_
          refine sqG [(269, .pointer (some ⟨rg b, k, none⟩))] rfl rfl rfl ?_
          exact run_val (.int .i64 ((mgG a b G k) b k)) (x_load (hM_.tcell (n := m) (enc := .int .i64) (g := (mgG a b G k)) (ty := tInt) (i := b) (List.mem_cons_of_mem _ (List.mem_cons_of_mem _ (List.mem_append_right _ (List.mem_append_left _ (tabL_mem (by omega)))))) (by omega)) rfl rfl) ⟨sqT, hM_⟩
         ·intro D V w_ hd hi hM_
          refine sqG [(263, .int .i64 ((mgG a b G k) a k)), (270, .int .i64 ((mgG a b G k) b k))] rfl rfl rfl ?_
          exact run_val (Value.int .i64 (min ((mgG a b G k) a k) ((mgG a b G k) b k))) (x_min rfl rfl) ⟨sqT, hM_⟩
        intro D V w110 hall hM111
        refine sqR [(0, .slice Al nl cl), (2, .int .i64 limit), (8, .slice At m ct), (13, .int .i64 (m : Int)), (14, .slice (some ⟨tg, 0, none⟩) m m), (15, .slice (some ⟨ta, 0, none⟩) m m), (25, .int .i64 (a : Int)), (26, .int .i64 (b : Int)), (29, .int .i64 (k : Int)), (248, .int .i64 (m : Int)), (249, .int .i64 (k : Int)), (255, .slice (some ⟨rg a, 0, none⟩) m m), (256, .int .i64 (k : Int)), (271, .int .i64 (min ((mgG a b G k) a k) ((mgG a b G k) b k)))] rfl (sqV (.pointer (some ⟨rg a, k, none⟩)) rfl rfl (x_indexAddrL (i := k) (sz := 1) (by omega) rfl rfl rfl rfl (by omega)) ?_)
        refine r_storeT1 (v := (min (mgG a b G k a k) (mgG a b G k b k))) ([(tg, .cells (topC m m rg) 30 (0, 0)), (ta, .cells (topC m m ra) 78 (0, 0))] : Hp) Lt3 hM111 (show a < m by omega) (show k < m by omega) rfl rfl rfl rfl rfl ?_
        intro w112 hM113
        replace hM113 : Mem w No w112 ((tg, .cells (topC m m rg) 30 (0, 0)) :: (ta, .cells (topC m m ra) 78 (0, 0)) :: (Lt3 ++ (tabL tInt (.int .i64) m m rg (upd2 (mgG a b G k) a k (min (mgG a b G k a k) (mgG a b G k b k))) ++ (tabL tBool .bool m m ra (mgA a b A k) ++ gs2.flatMap RRow.L)))) := hM113
        refine r_nil (e_then (k_seq ?_))
        refine k_drawP mixed [0, 0, 3, 7, 0, 0, 0, 96, 224, 0, 992, 2016, 4095, 8191] [some (Value.slice (some ⟨tg, 0, none⟩) m m), some (Value.int .i64 (k : Int)), some (Value.pointer (some ⟨tg, k, none⟩)), some (Value.slice (some ⟨rg k, 0, none⟩) m m), some (Value.int .i64 (a : Int)), some (Value.slice (some ⟨tg, 0, none⟩) m m), some (Value.int .i64 (a : Int)), some (Value.pointer (some ⟨tg, a, none⟩)), some (Value.slice (some ⟨rg a, 0, none⟩) m m), some (Value.int .i64 (k : Int)), some (Value.pointer (some ⟨rg a, k, none⟩)), some (Value.int .i64 ((upd2 (mgG a b G k) a k (min (mgG a b G k a k) (mgG a b G k b k))) a k))] (by kernel_rfl) 12 [] rfl rfl (by kernel_rfl) rfl (fun D V w_ => Mem w No w_ ((tg, .cells (topC m m rg) 30 (0, 0)) :: (ta, .cells (topC m m ra) 78 (0, 0)) :: (Lt3 ++ (tabL tInt (.int .i64) m m rg (upd2 (mgG a b G k) a k (min (mgG a b G k a k) (mgG a b G k b k))) ++ (tabL tBool .bool m m ra (mgA a b A k) ++ gs2.flatMap RRow.L))))) (fun V => hM113.drew) trivial ?_ ?_
        ·refine ⟨?_, ?_, ?_, ?_, ?_, ?_, ?_, ?_, ?_, ?_, ?_, ?_, trivial⟩
         ·intro D V w_ hd hi hM_
          refine sqG [(14, .slice (some ⟨tg, 0, none⟩) m m)] rfl rfl rfl ?_
          exact run_val (.slice (some ⟨tg, 0, none⟩) m m) (rfl) ⟨sqT, hM_⟩
         ·intro D V w_ hd hi hM_
          refine sqG [(29, .int .i64 (k : Int))] rfl rfl rfl ?_
          exact run_val (.int .i64 (k : Int)) (rfl) ⟨sqT, hM_⟩
         ·intro D V w_ hd hi hM_
          refine sqG [(273, .slice (some ⟨tg, 0, none⟩) m m), (274, .int .i64 (k : Int))] rfl rfl rfl ?_
          exact run_val (.pointer (some ⟨tg, k, none⟩)) (x_indexAddrL (i := k) (sz := 1) (by omega) rfl rfl rfl rfl (by omega)) ⟨sqT, hM_⟩
         ·intro D V w_ hd hi hM_
          refine sqG [(275, .pointer (some ⟨tg, k, none⟩))] rfl rfl rfl ?_
          exact run_val (.slice (some ⟨rg k, 0, none⟩) m m) (x_load (hM_.cell 0 rfl (topC_get (by omega) (by omega))) rfl rfl) ⟨sqT, hM_⟩
         ·intro D V w_ hd hi hM_
          refine sqG [(25, .int .i64 (a : Int))] rfl rfl rfl ?_
          exact run_val (.int .i64 (a : Int)) (rfl) ⟨sqT, hM_⟩
         ·intro D V w_ hd hi hM_
          refine sqG [(14, .slice (some ⟨tg, 0, none⟩) m m)] rfl rfl rfl ?_
          exact run_val (.slice (some ⟨tg, 0, none⟩) m m) (rfl) ⟨sqT, hM_⟩
         ·intro D V w_ hd hi hM_
          refine sqG [(25, .int .i64 (a : Int))] rfl rfl rfl ?_
          exact run_val (.int .i64 (a : Int)) (rfl) ⟨sqT, hM_⟩
         ·intro D V w_ hd hi hM_
          refine sqG [(278, .slice (some ⟨tg, 0, none⟩) m m), (279, .int .i64 (a : Int))] rfl rfl rfl ?_
          exact run_val (.pointer (some ⟨tg, a, none⟩)) (x_indexAddrL (i := a) (sz := 1) (by omega) rfl rfl rfl rfl (by omega)) ⟨sqT, hM_⟩
         ·intro D V w_ hd hi hM_
          refine sqG [(280, .pointer (some ⟨tg, a, none⟩))] rfl rfl rfl ?_
          exact run_val (.slice (some ⟨rg a, 0, none⟩) m m) (x_load (hM_.cell 0 rfl (topC_get (by omega) (by omega))) rfl rfl) ⟨sqT, hM_⟩
         ·intro D V w_ hd hi hM_
          refine sqG [(29, .int .i64 (k : Int))] rfl rfl rfl ?_
          exact run_val (.int .i64 (k : Int)) (rfl) ⟨sqT, hM_⟩
         ·intro D V w_ hd hi hM_
          refine sqG [(281, .slice (some ⟨rg a, 0, none⟩) m m), (282, .int .i64 (k : Int))] rfl rfl rfl ?_
          exact run_val (.pointer (some ⟨rg a, k, none⟩)) (x_indexAddrL (i := k) (sz := 1) (by omega) rfl rfl rfl rfl (by omega)) ⟨sqT, hM_⟩
         ·intro D V w_ hd hi hM_
          refine sqG [(283, .pointer (some ⟨rg a, k, none⟩))] rfl rfl rfl ?_
          exact run_val (Value.int .i64 ((upd2 (mgG a b G k) a k (min (mgG a b G k a k) (mgG a b G k b k))) a k)) (x_load (hM_.tcell (n := m) (enc := .int .i64) (g := (upd2 (mgG a b G k) a k (min (mgG a b G k a k) (mgG a b G k b k)))) (ty := tInt) (i := a) (List.mem_cons_of_mem _ (List.mem_cons_of_mem _ (List.mem_append_right _ (List.mem_append_left _ (tabL_mem (by omega)))))) (by omega)) rfl rfl) ⟨sqT, hM_⟩
        intro D V w114 hall hM115
        refine sqR [(0, .slice Al nl cl), (2, .int .i64 limit), (8, .slice At m ct), (13, .int .i64 (m : Int)), (14, .slice (some ⟨tg, 0, none⟩) m m), (15, .slice (some ⟨ta, 0, none⟩) m m), (25, .int .i64 (a : Int)), (26, .int .i64 (b : Int)), (29, .int .i64 (k : Int)), (248, .int .i64 (m : Int)), (249, .int .i64 (k : Int)), (276, .slice (some ⟨rg k, 0, none⟩) m m), (277, .int .i64 (a : Int)), (284, .int .i64 ((upd2 (mgG a b G k) a k (min (mgG a b G k a k) (mgG a b G k b k))) a k))] rfl (sqV (.pointer (some ⟨rg k, a, none⟩)) rfl rfl (x_indexAddrL (i := a) (sz := 1) (by omega) rfl rfl rfl rfl (by omega)) ?_)
        refine r_storeT1 (v := (upd2 (mgG a b G k) a k (min (mgG a b G k a k) (mgG a b G k b k)) a k)) ([(tg, .cells (topC m m rg) 30 (0, 0)), (ta, .cells (topC m m ra) 78 (0, 0))] : Hp) Lt3 hM115 (show k < m by omega) (show a < m by omega) rfl rfl rfl rfl rfl ?_
        intro w116 hM117
        replace hM117 : Mem w No w116 ((tg, .cells (topC m m rg) 30 (0, 0)) :: (ta, .cells (topC m m ra) 78 (0, 0)) :: (Lt3 ++ (tabL tInt (.int .i64) m m rg (upd2 (upd2 (mgG a b G k) a k (min (mgG a b G k a k) (mgG a b G k b k))) k a (upd2 (mgG a b G k) a k (min (mgG a b G k a k) (mgG a b G k b k)) a k)) ++ (tabL tBool .bool m m ra (mgA a b A k) ++ gs2.flatMap RRow.L)))) := hM117
        refine r_nil (e_then (k_seq ?_))
        rw [upd2_eq (g := (mgG a b G k)) (v := (min (mgG a b G k a k) (mgG a b G k b k)))] at hM117
        have hM118 : Mem w No w116 ((tg, .cells (topC m m rg) 30 (0, 0)) :: (ta, .cells (topC m m ra) 78 (0, 0)) :: (Lt3 ++ (tabL tInt (.int .i64) m m rg (upd2 (upd2 (mgG a b G k) a k (min (mgG a b G k a k) (mgG a b G k b k))) k a (min (mgG a b G k a k) (mgG a b G k b k))) ++ (tabL tBool .bool m m ra (mgA a b A k) ++ gs2.flatMap RRow.L)))) := hM117
        rcases Bool.eq_false_or_eq_true ((mgA a b A k) a k) with g7 | g7
        ·skip
         refine k_drawP mixed [0, 0, 3, 7, 0, 0, 0, 96, 224, 0, 992, 2016, 4064, 8160, 8160, 32736, 65504, 8160, 262112, 524256, 1048544, 2097151, 4194303] [some (Value.slice (some ⟨ta, 0, none⟩) m m), some (Value.int .i64 (a : Int)), some (Value.pointer (some ⟨ta, a, none⟩)), some (Value.slice (some ⟨ra a, 0, none⟩) m m), some (Value.int .i64 (k : Int)), some (Value.slice (some ⟨ta, 0, none⟩) m m), some (Value.int .i64 (a : Int)), some (Value.pointer (some ⟨ta, a, none⟩)), some (Value.slice (some ⟨ra a, 0, none⟩) m m), some (Value.int .i64 (k : Int)), some (Value.pointer (some ⟨ra a, k, none⟩)), some (Value.bool true), some (Value.bool true), some (undef), some (undef), some (undef), some (undef), some (undef), some (undef), some (undef), some (Value.bool true)] (by kernel_rfl) 21 [] rfl rfl (by kernel_rfl) rfl (fun D V w_ => Mem w No w_ ((tg, .cells (topC m m rg) 30 (0, 0)) :: (ta, .cells (topC m m ra) 78 (0, 0)) :: (Lt3 ++ (tabL tInt (.int .i64) m m rg (upd2 (upd2 (mgG a b G k) a k (min (mgG a b G k a k) (mgG a b G k b k))) k a (min (mgG a b G k a k) (mgG a b G k b k))) ++ (tabL tBool .bool m m ra (mgA a b A k) ++ gs2.flatMap RRow.L))))) (fun V => hM118.drew) trivial ?_ ?_
         ·refine ⟨?_, ?_, ?_, ?_, ?_, ?_, ?_, ?_, ?_, ?_, ?_, ?_, ?_, ?_, ?_, ?_, ?_, ?_, ?_, ?_, ?_, trivial⟩
          ·intro D V w_ hd hi hM_
           refine sqG [(15, .slice (some ⟨ta, 0, none⟩) m m)] rfl rfl rfl ?_
           exact run_val (.slice (some ⟨ta, 0, none⟩) m m) (rfl) ⟨sqT, hM_⟩
          ·intro D V w_ hd hi hM_
           refine sqG [(25, .int .i64 (a : Int))] rfl rfl rfl ?_
           exact run_val (.int .i64 (a : Int)) (rfl) ⟨sqT, hM_⟩
          ·intro D V w_ hd hi hM_
           refine sqG [(286, .slice (some ⟨ta, 0, none⟩) m m), (287, .int .i64 (a : Int))] rfl rfl rfl ?_
           exact run_val (.pointer (some ⟨ta, a, none⟩)) (x_indexAddrL (i := a) (sz := 1) (by omega) rfl rfl rfl rfl (by omega)) ⟨sqT, hM_⟩
          ·intro D V w_ hd hi hM_
           refine sqG [(288, .pointer (some ⟨ta, a, none⟩))] rfl rfl rfl ?_
           exact run_val (.slice (some ⟨ra a, 0, none⟩) m m) (x_load (hM_.cell 1 rfl (topC_get (by omega) (by omega))) rfl rfl) ⟨sqT, hM_⟩
          ·intro D V w_ hd hi hM_
           refine sqG [(29, .int .i64 (k : Int))] rfl rfl rfl ?_
           exact run_val (.int .i64 (k : Int)) (rfl) ⟨sqT, hM_⟩
          ·intro D V w_ hd hi hM_
           refine sqG [(15, .slice (some ⟨ta, 0, none⟩) m m)] rfl rfl rfl ?_
           exact run_val (.slice (some ⟨ta, 0, none⟩) m m) (rfl) ⟨sqT, hM_⟩
          ·intro D V w_ hd hi hM_
           refine sqG [(25, .int .i64 (a : Int))] rfl rfl rfl ?_
           exact run_val (.int .i64 (a : Int)) (rfl) ⟨sqT, hM_⟩
          ·intro D V w_ hd hi hM_
           refine sqG [(291, .slice (some ⟨ta, 0, none⟩) m m), (292, .int .i64 (a : Int))] rfl rfl rfl ?_
           exact run_val (.pointer (some ⟨ta, a, none⟩)) (x_indexAddrL (i := a) (sz := 1) (by omega) rfl rfl rfl rfl (by omega)) ⟨sqT, hM_⟩
          ·intro D V w_ hd hi hM_
           refine sqG [(293, .pointer (some ⟨ta, a, none⟩))] rfl rfl rfl ?_
           exact run_val (.slice (some ⟨ra a, 0, none⟩) m m) (x_load (hM_.cell 1 rfl (topC_get (by omega) (by omega))) rfl rfl) ⟨sqT, hM_⟩
          ·intro D V w_ hd hi hM_
           refine sqG [(29, .int .i64 (k : Int))] rfl rfl rfl ?_
           exact run_val (.int .i64 (k : Int)) (rfl) ⟨sqT, hM_⟩
          ·intro D V w_ hd hi hM_
           refine sqG [(294, .slice (some ⟨ra a, 0, none⟩) m m), (295, .int .i64 (k : Int))] rfl rfl rfl ?_
           exact run_val (.pointer (some ⟨ra a, k, none⟩)) (x_indexAddrL (i := k) (sz := 1) (by omega) rfl rfl rfl rfl (by omega)) ⟨sqT, hM_⟩
          ·intro D V w_ hd hi hM_
           refine sqG [(296, .pointer (some ⟨ra a, k, none⟩))] rfl rfl rfl ?_
           exact run_val (.bool true) (Eq.trans (x_load (hM_.tcell (n := m) (enc := .bool) (g := (mgA a b A k)) (ty := tBool) (i := a) (List.mem_cons_of_mem _ (List.mem_cons_of_mem _ (List.mem_append_right _ (List.mem_append_right _ (List.mem_append_left _ (tabL_mem (by omega))))))) (by omega)) rfl rfl) (congrArg (fun z => Result.ok (Next.value (Value.bool z)) w_) g7)) ⟨sqT, hM_⟩
          ·intro D V w_ hd hi hM_
           refine sqG [(297, .bool true)] rfl rfl rfl ?_
           exact run_val (.bool true) (rfl) ⟨sqT, hM_⟩
          ·intro D V w_ hd hi hM_
           exact goal_no rfl rfl (by decide) ⟨sqT, hM_⟩
          ·intro D V w_ hd hi hM_
           exact goal_no rfl rfl (by decide) ⟨sqT, hM_⟩
          ·intro D V w_ hd hi hM_
           exact goal_no rfl rfl (by decide) ⟨sqT, hM_⟩
          ·intro D V w_ hd hi hM_
           exact goal_no rfl rfl (by decide) ⟨sqT, hM_⟩
          ·intro D V w_ hd hi hM_
           exact goal_no rfl rfl (by decide) ⟨sqT, hM_⟩
          ·intro D V w_ hd hi hM_
           exact goal_no rfl rfl (by decide) ⟨sqT, hM_⟩
          ·intro D V w_ hd hi hM_
           exact goal_no rfl rfl (by decide) ⟨sqT, hM_⟩
          ·intro D V w_ hd hi hM_
           refine sqG [(298, .bool true), (305, undef)] rfl rfl rfl ?_
           exact run_val (.bool true) (rfl) ⟨sqT, hM_⟩
         intro D V w120 hall hM121
         refine sqR [(0, .slice Al nl cl), (2, .int .i64 limit), (8, .slice At m ct), (13, .int .i64 (m : Int)), (14, .slice (some ⟨tg, 0, none⟩) m m), (15, .slice (some ⟨ta, 0, none⟩) m m), (25, .int .i64 (a : Int)), (26, .int .i64 (b : Int)), (29, .int .i64 (k : Int)), (248, .int .i64 (m : Int)), (249, .int .i64 (k : Int)), (289, .slice (some ⟨ra a, 0, none⟩) m m), (290, .int .i64 (k : Int)), (306, .bool true)] rfl (sqV (.pointer (some ⟨ra a, k, none⟩)) rfl rfl (x_indexAddrL (i := k) (sz := 1) (by omega) rfl rfl rfl rfl (by omega)) ?_)
         refine r_storeT2 (v := true) ([(tg, .cells (topC m m rg) 30 (0, 0)), (ta, .cells (topC m m ra) 78 (0, 0))] : Hp) Lt3 (tabL tInt (.int .i64) m m rg (upd2 (upd2 (mgG a b G k) a k (min (mgG a b G k a k) (mgG a b G k b k))) k a (min (mgG a b G k a k) (mgG a b G k b k)))) hM121 (show a < m by omega) (show k < m by omega) rfl rfl rfl rfl rfl ?_
         intro w122 hM123
         replace hM123 : Mem w No w122 ((tg, .cells (topC m m rg) 30 (0, 0)) :: (ta, .cells (topC m m ra) 78 (0, 0)) :: (Lt3 ++ (tabL tInt (.int .i64) m m rg (upd2 (upd2 (mgG a b G k) a k (min (mgG a b G k a k) (mgG a b G k b k))) k a (min (mgG a b G k a k) (mgG a b G k b k))) ++ (tabL tBool .bool m m ra (upd2 (mgA a b A k) a k true) ++ gs2.flatMap RRow.L)))) := hM123
         refine r_nil (sqE [(0, .slice Al nl cl), (2, .int .i64 limit), (8, .slice At m ct), (13, .int .i64 (m : Int)), (14, .slice (some ⟨tg, 0, none⟩) m m), (15, .slice (some ⟨ta, 0, none⟩) m m), (25, .int .i64 (a : Int)), (26, .int .i64 (b : Int)), (29, .int .i64 (k : Int)), (248, .int .i64 (m : Int)), (249, .int .i64 (k : Int))] rfl (e_then ?_))
         refine k_drawP mixed [0, 0, 3, 7, 0, 0, 0, 96, 224, 0, 992, 2016, 4095, 8191] [some (Value.slice (some ⟨ta, 0, none⟩) m m), some (Value.int .i64 (k : Int)), some (Value.pointer (some ⟨ta, k, none⟩)), some (Value.slice (some ⟨ra k, 0, none⟩) m m), some (Value.int .i64 (a : Int)), some (Value.slice (some ⟨ta, 0, none⟩) m m), some (Value.int .i64 (a : Int)), some (Value.pointer (some ⟨ta, a, none⟩)), some (Value.slice (some ⟨ra a, 0, none⟩) m m), some (Value.int .i64 (k : Int)), some (Value.pointer (some ⟨ra a, k, none⟩)), some (Value.bool ((upd2 (mgA a b A k) a k true) a k))] (by kernel_rfl) 12 [] rfl rfl (by kernel_rfl) rfl (fun D V w_ => Mem w No w_ ((tg, .cells (topC m m rg) 30 (0, 0)) :: (ta, .cells (topC m m ra) 78 (0, 0)) :: (Lt3 ++ (tabL tInt (.int .i64) m m rg (upd2 (upd2 (mgG a b G k) a k (min (mgG a b G k a k) (mgG a b G k b k))) k a (min (mgG a b G k a k) (mgG a b G k b k))) ++ (tabL tBool .bool m m ra (upd2 (mgA a b A k) a k true) ++ gs2.flatMap RRow.L))))) (fun V => hM123.drew) trivial ?_ ?_
         ·refine ⟨?_, ?_, ?_, ?_, ?_, ?_, ?_, ?_, ?_, ?_, ?_, ?_, trivial⟩
          ·intro D V w_ hd hi hM_
           refine sqG [(15, .slice (some ⟨ta, 0, none⟩) m m)] rfl rfl rfl ?_
           exact run_val (.slice (some ⟨ta, 0, none⟩) m m) (rfl) ⟨sqT, hM_⟩
          ·intro D V w_ hd hi hM_
           refine sqG [(29, .int .i64 (k : Int))] rfl rfl rfl ?_
           exact run_val (.int .i64 (k : Int)) (rfl) ⟨sqT, hM_⟩
          ·intro D V w_ hd hi hM_
           refine sqG [(308, .slice (some ⟨ta, 0, none⟩) m m), (309, .int .i64 (k : Int))] rfl rfl rfl ?_
           exact run_val (.pointer (some ⟨ta, k, none⟩)) (x_indexAddrL (i := k) (sz := 1) (by omega) rfl rfl rfl rfl (by omega)) ⟨sqT, hM_⟩
          ·intro D V w_ hd hi hM_
           refine sqG [(310, .pointer (some ⟨ta, k, none⟩))] rfl rfl rfl ?_
           exact run_val (.slice (some ⟨ra k, 0, none⟩) m m) (x_load (hM_.cell 1 rfl (topC_get (by omega) (by omega))) rfl rfl) ⟨sqT, hM_⟩
          ·intro D V w_ hd hi hM_
           refine sqG [(25, .int .i64 (a : Int))] rfl rfl rfl ?_
           exact run_val (.int .i64 (a : Int)) (rfl) ⟨sqT, hM_⟩
          ·intro D V w_ hd hi hM_
           refine sqG [(15, .slice (some ⟨ta, 0, none⟩) m m)] rfl rfl rfl ?_
           exact run_val (.slice (some ⟨ta, 0, none⟩) m m) (rfl) ⟨sqT, hM_⟩
          ·intro D V w_ hd hi hM_
           refine sqG [(25, .int .i64 (a : Int))] rfl rfl rfl ?_
           exact run_val (.int .i64 (a : Int)) (rfl) ⟨sqT, hM_⟩
          ·intro D V w_ hd hi hM_
           refine sqG [(313, .slice (some ⟨ta, 0, none⟩) m m), (314, .int .i64 (a : Int))] rfl rfl rfl ?_
           exact run_val (.pointer (some ⟨ta, a, none⟩)) (x_indexAddrL (i := a) (sz := 1) (by omega) rfl rfl rfl rfl (by omega)) ⟨sqT, hM_⟩
          ·intro D V w_ hd hi hM_
           refine sqG [(315, .pointer (some ⟨ta, a, none⟩))] rfl rfl rfl ?_
           exact run_val (.slice (some ⟨ra a, 0, none⟩) m m) (x_load (hM_.cell 1 rfl (topC_get (by omega) (by omega))) rfl rfl) ⟨sqT, hM_⟩
          ·intro D V w_ hd hi hM_
           refine sqG [(29, .int .i64 (k : Int))] rfl rfl rfl ?_
           exact run_val (.int .i64 (k : Int)) (rfl) ⟨sqT, hM_⟩
          ·intro D V w_ hd hi hM_
           refine sqG [(316, .slice (some ⟨ra a, 0, none⟩) m m), (317, .int .i64 (k : Int))] rfl rfl rfl ?_
           exact run_val (.pointer (some ⟨ra a, k, none⟩)) (x_indexAddrL (i := k) (sz := 1) (by omega) rfl rfl rfl rfl (by omega)) ⟨sqT, hM_⟩
          ·intro D V w_ hd hi hM_
           refine sqG [(318, .pointer (some ⟨ra a, k, none⟩))] rfl rfl rfl ?_
           exact run_val (.bool ((upd2 (mgA a b A k) a k true) a k)) (x_load (hM_.tcell (n := m) (enc := .bool) (g := (upd2 (mgA a b A k) a k true)) (ty := tBool) (i := a) (List.mem_cons_of_mem _ (List.mem_cons_of_mem _ (List.mem_append_right _ (List.mem_append_right _ (List.mem_append_left _ (tabL_mem (by omega))))))) (by omega)) rfl rfl) ⟨sqT, hM_⟩
         intro D V w124 hall hM125
         refine sqR [(0, .slice Al nl cl), (2, .int .i64 limit), (8, .slice At m ct), (13, .int .i64 (m : Int)), (14, .slice (some ⟨tg, 0, none⟩) m m), (15, .slice (some ⟨ta, 0, none⟩) m m), (25, .int .i64 (a : Int)), (26, .int .i64 (b : Int)), (248, .int .i64 (m : Int)), (249, .int .i64 (k : Int)), (311, .slice (some ⟨ra k, 0, none⟩) m m), (312, .int .i64 (a : Int)), (319, .bool ((upd2 (mgA a b A k) a k true) a k))] rfl (sqV (.pointer (some ⟨ra k, a, none⟩)) rfl rfl (x_indexAddrL (i := a) (sz := 1) (by omega) rfl rfl rfl rfl (by omega)) ?_)
         refine r_storeT2 (v := (upd2 (mgA a b A k) a k true a k)) ([(tg, .cells (topC m m rg) 30 (0, 0)), (ta, .cells (topC m m ra) 78 (0, 0))] : Hp) Lt3 (tabL tInt (.int .i64) m m rg (upd2 (upd2 (mgG a b G k) a k (min (mgG a b G k a k) (mgG a b G k b k))) k a (min (mgG a b G k a k) (mgG a b G k b k)))) hM125 (show k < m by omega) (show a < m by omega) rfl rfl rfl rfl rfl ?_
         intro w126 hM127
         replace hM127 : Mem w No w126 ((tg, .cells (topC m m rg) 30 (0, 0)) :: (ta, .cells (topC m m ra) 78 (0, 0)) :: (Lt3 ++ (tabL tInt (.int .i64) m m rg (upd2 (upd2 (mgG a b G k) a k (min (mgG a b G k a k) (mgG a b G k b k))) k a (min (mgG a b G k a k) (mgG a b G k b k))) ++ (tabL tBool .bool m m ra (upd2 (upd2 (mgA a b A k) a k true) k a (upd2 (mgA a b A k) a k true a k)) ++ gs2.flatMap RRow.L)))) := hM127
         refine r_nil (e_blk (e_then (k_region ?_)))
         rw [upd2_eq (g := (mgA a b A k)) (v := true)] at hM127
         have hM128 : Mem w No w126 ((tg, .cells (topC m m rg) 30 (0, 0)) :: (ta, .cells (topC m m ra) 78 (0, 0)) :: (Lt3 ++ (tabL tInt (.int .i64) m m rg (upd2 (upd2 (mgG a b G k) a k (min (mgG a b G k a k) (mgG a b G k b k))) k a (min (mgG a b G k a k) (mgG a b G k b k))) ++ (tabL tBool .bool m m ra (upd2 (upd2 (mgA a b A k) a k true) k a true) ++ gs2.flatMap RRow.L)))) := hM127
         refine sqV (.int .i64 ((k : Int) + 1)) rfl rfl (x_addE rfl (by omega) (by omega) rfl rfl) ?_
         refine sqV (.int .i64 ((k : Int) + 1)) rfl rfl rfl ?_
         refine r_nil ?_
         refine e_loop (k + 1) (sqS rfl) ?_ ?_
         ·exact ⟨by rw [mgA_true g7]; exact hM128, by omega⟩
         ·(try dsimp only); omega
        ·skip
         refine k_drawP mixed [0, 0, 3, 7, 0, 0, 0, 96, 224, 0, 992, 2016, 4064, 8160, 8160, 32736, 65504, 8160, 262112, 524256, 1048544, 2097151, 4194303] [some (Value.slice (some ⟨ta, 0, none⟩) m m), some (Value.int .i64 (a : Int)), some (Value.pointer (some ⟨ta, a, none⟩)), some (Value.slice (some ⟨ra a, 0, none⟩) m m), some (Value.int .i64 (k : Int)), some (Value.slice (some ⟨ta, 0, none⟩) m m), some (Value.int .i64 (a : Int)), some (Value.pointer (some ⟨ta, a, none⟩)), some (Value.slice (some ⟨ra a, 0, none⟩) m m), some (Value.int .i64 (k : Int)), some (Value.pointer (some ⟨ra a, k, none⟩)), some (Value.bool false), some (Value.bool false), some (Value.slice (some ⟨ta, 0, none⟩) m m), some (Value.int .i64 (b : Int)), some (Value.pointer (some ⟨ta, b, none⟩)), some (Value.slice (some ⟨ra b, 0, none⟩) m m), some (Value.int .i64 (k : Int)), some (Value.pointer (some ⟨ra b, k, none⟩)), some (Value.bool ((mgA a b A k) b k)), some (Value.bool ((mgA a b A k) b k))] (by kernel_rfl) 21 [] rfl rfl (by kernel_rfl) rfl (fun D V w_ => Mem w No w_ ((tg, .cells (topC m m rg) 30 (0, 0)) :: (ta, .cells (topC m m ra) 78 (0, 0)) :: (Lt3 ++ (tabL tInt (.int .i64) m m rg (upd2 (upd2 (mgG a b G k) a k (min (mgG a b G k a k) (mgG a b G k b k))) k a (min (mgG a b G k a k) (mgG a b G k b k))) ++ (tabL tBool .bool m m ra (mgA a b A k) ++ gs2.flatMap RRow.L))))) (fun V => hM118.drew) trivial ?_ ?_
         ·refine ⟨?_, ?_, ?_, ?_, ?_, ?_, ?_, ?_, ?_, ?_, ?_, ?_, ?_, ?_, ?_, ?_, ?_, ?_, ?_, ?_, ?_, trivial⟩
          ·intro D V w_ hd hi hM_
           refine sqG [(15, .slice (some ⟨ta, 0, none⟩) m m)] rfl rfl rfl ?_
           exact run_val (.slice (some ⟨ta, 0, none⟩) m m) (rfl) ⟨sqT, hM_⟩
          ·intro D V w_ hd hi hM_
           refine sqG [(25, .int .i64 (a : Int))] rfl rfl rfl ?_
           exact run_val (.int .i64 (a : Int)) (rfl) ⟨sqT, hM_⟩
          ·intro D V w_ hd hi hM_
           refine sqG [(286, .slice (some ⟨ta, 0, none⟩) m m), (287, .int .i64 (a : Int))] rfl rfl rfl ?_
           exact run_val (.pointer (some ⟨ta, a, none⟩)) (x_indexAddrL (i := a) (sz := 1) (by omega) rfl rfl rfl rfl (by omega)) ⟨sqT, hM_⟩
          ·intro D V w_ hd hi hM_
           refine sqG [(288, .pointer (some ⟨ta, a, none⟩))] rfl rfl rfl ?_
           exact run_val (.slice (some ⟨ra a, 0, none⟩) m m) (x_load (hM_.cell 1 rfl (topC_get (by omega) (by omega))) rfl rfl) ⟨sqT, hM_⟩
          ·intro D V w_ hd hi hM_
           refine sqG [(29, .int .i64 (k : Int))] rfl rfl rfl ?_
           exact run_val (.int .i64 (k : Int)) (rfl) ⟨sqT, hM_⟩
          ·intro D V w_ hd hi hM_
           refine sqG [(15, .slice (some ⟨ta, 0, none⟩) m m)] rfl rfl rfl ?_
           exact run_val (.slice (some ⟨ta, 0, none⟩) m m) (rfl) ⟨sqT, hM_⟩
          ·intro D V w_ hd hi hM_
           refine sqG [(25, .int .i64 (a : Int))] rfl rfl rfl ?_
           exact run_val (.int .i64 (a : Int)) (rfl) ⟨sqT, hM_⟩
          ·intro D V w_ hd hi hM_
           refine sqG [(291, .slice (some ⟨ta, 0, none⟩) m m), (292, .int .i64 (a : Int))] rfl rfl rfl ?_
           exact run_val (.pointer (some ⟨ta, a, none⟩)) (x_indexAddrL (i := a) (sz := 1) (by omega) rfl rfl rfl rfl (by omega)) ⟨sqT, hM_⟩
          ·intro D V w_ hd hi hM_
           refine sqG [(293, .pointer (some ⟨ta, a, none⟩))] rfl rfl rfl ?_
           exact run_val (.slice (some ⟨ra a, 0, none⟩) m m) (x_load (hM_.cell 1 rfl (topC_get (by omega) (by omega))) rfl rfl) ⟨sqT, hM_⟩
          ·intro D V w_ hd hi hM_
           refine sqG [(29, .int .i64 (k : Int))] rfl rfl rfl ?_
           exact run_val (.int .i64 (k : Int)) (rfl) ⟨sqT, hM_⟩
          ·intro D V w_ hd hi hM_
           refine sqG [(294, .slice (some ⟨ra a, 0, none⟩) m m), (295, .int .i64 (k : Int))] rfl rfl rfl ?_
           exact run_val (.pointer (some ⟨ra a, k, none⟩)) (x_indexAddrL (i := k) (sz := 1) (by omega) rfl rfl rfl rfl (by omega)) ⟨sqT, hM_⟩
          ·intro D V w_ hd hi hM_
           refine sqG [(296, .pointer (some ⟨ra a, k, none⟩))] rfl rfl rfl ?_
           exact run_val (.bool false) (Eq.trans (x_load (hM_.tcell (n := m) (enc := .bool) (g := (mgA a b A k)) (ty := tBool) (i := a) (List.mem_cons_of_mem _ (List.mem_cons_of_mem _ (List.mem_append_right _ (List.mem_append_right _ (List.mem_append_left _ (tabL_mem (by omega))))))) (by omega)) rfl rfl) (congrArg (fun z => Result.ok (Next.value (Value.bool z)) w_) g7)) ⟨sqT, hM_⟩
          ·intro D V w_ hd hi hM_
           refine sqG [(297, .bool false)] rfl rfl rfl ?_
           exact run_val (.bool false) (rfl) ⟨sqT, hM_⟩
          ·intro D V w_ hd hi hM_
           refine goal_yes [(15, Value.slice (some ⟨ta, 0, none⟩) m m)] rfl rfl ⟨rfl, trivial⟩ rfl ?_
           exact run_val (.slice (some ⟨ta, 0, none⟩) m m) (rfl) ⟨sqT, hM_⟩
          ·intro D V w_ hd hi hM_
           refine goal_yes [(26, Value.int .i64 (b : Int))] rfl rfl ⟨rfl, trivial⟩ rfl ?_
           exact run_val (.int .i64 (b : Int)) (rfl) ⟨sqT, hM_⟩
          ·intro D V w_ hd hi hM_
           refine goal_yes [(299, Value.slice (some ⟨ta, 0, none⟩) m m), (300, Value.int .i64 (b : Int))] rfl rfl ⟨rfl, rfl, trivial⟩ rfl ?_
           exact run_val (.pointer (some ⟨ta, b, none⟩)) (x_indexAddrL (i := b) (sz := 1) (by omega) rfl rfl rfl rfl (by omega)) ⟨sqT, hM_⟩
          ·intro D V w_ hd hi hM_
           refine goal_yes [(301, Value.pointer (some ⟨ta, b, none⟩))] rfl rfl ⟨rfl, trivial⟩ rfl ?_
           exact run_val (.slice (some ⟨ra b, 0, none⟩) m m) (x_load (hM_.cell 1 rfl (topC_get (by omega) (by omega))) rfl rfl) ⟨sqT, hM_⟩
          ·intro D V w_ hd hi hM_
           refine goal_yes [(29, Value.int .i64 (k : Int))] rfl rfl ⟨rfl, trivial⟩ rfl ?_
           exact run_val (.int .i64 (k : Int)) (rfl) ⟨sqT, hM_⟩
          ·intro D V w_ hd hi hM_
           refine goal_yes [(302, Value.slice (some ⟨ra b, 0, none⟩) m m), (303, Value.int .i64 (k : Int))] rfl rfl ⟨rfl, rfl, trivial⟩ rfl ?_
           exact run_val (.pointer (some ⟨ra b, k, none⟩)) (x_indexAddrL (i := k) (sz := 1) (by omega) rfl rfl rfl rfl (by omega)) ⟨sqT, hM_⟩
          ·intro D V w_ hd hi hM_
           refine goal_yes [(304, Value.pointer (some ⟨ra b, k, none⟩))] rfl rfl ⟨rfl, trivial⟩ rfl ?_
           exact run_val (.bool ((mgA a b A k) b k)) (x_load (hM_.tcell (n := m) (enc := .bool) (g := (mgA a b A k)) (ty := tBool) (i := b) (List.mem_cons_of_mem _ (List.mem_cons_of_mem _ (List.mem_append_right _ (List.mem_append_right _ (List.mem_append_left _ (tabL_mem (by omega))))))) (by omega)) rfl rfl) ⟨sqT, hM_⟩
          ·intro D V w_ hd hi hM_
           refine sqG [(298, .bool false), (305, .bool ((mgA a b A k) b k))] rfl rfl rfl ?_
           exact run_val (.bool ((mgA a b A k) b k)) (rfl) ⟨sqT, hM_⟩
         intro D V w129 hall hM130
         refine sqR [(0, .slice Al nl cl), (2, .int .i64 limit), (8, .slice At m ct), (13, .int .i64 (m : Int)), (14, .slice (some ⟨tg, 0, none⟩) m m), (15, .slice (some ⟨ta, 0, none⟩) m m), (25, .int .i64 (a : Int)), (26, .int .i64 (b : Int)), (29, .int .i64 (k : Int)), (248, .int .i64 (m : Int)), (249, .int .i64 (k : Int)), (289, .slice (some ⟨ra a, 0, none⟩) m m), (290, .int .i64 (k : Int)), (306, .bool ((mgA a b A k) b k))] rfl (sqV (.pointer (some ⟨ra a, k, none⟩)) rfl rfl (x_indexAddrL (i := k) (sz := 1) (by omega) rfl rfl rfl rfl (by omega)) ?_)
         refine r_storeT2 (v := (mgA a b A k b k)) ([(tg, .cells (topC m m rg) 30 (0, 0)), (ta, .cells (topC m m ra) 78 (0, 0))] : Hp) Lt3 (tabL tInt (.int .i64) m m rg (upd2 (upd2 (mgG a b G k) a k (min (mgG a b G k a k) (mgG a b G k b k))) k a (min (mgG a b G k a k) (mgG a b G k b k)))) hM130 (show a < m by omega) (show k < m by omega) rfl rfl rfl rfl rfl ?_
         intro w131 hM132
         replace hM132 : Mem w No w131 ((tg, .cells (topC m m rg) 30 (0, 0)) :: (ta, .cells (topC m m ra) 78 (0, 0)) :: (Lt3 ++ (tabL tInt (.int .i64) m m rg (upd2 (upd2 (mgG a b G k) a k (min (mgG a b G k a k) (mgG a b G k b k))) k a (min (mgG a b G k a k) (mgG a b G k b k))) ++ (tabL tBool .bool m m ra (upd2 (mgA a b A k) a k (mgA a b A k b k)) ++ gs2.flatMap RRow.L)))) := hM132
         refine r_nil (e_then ?_)
         refine k_drawP mixed [0, 0, 3, 7, 0, 0, 0, 96, 224, 0, 992, 2016, 4095, 8191] [some (Value.slice (some ⟨ta, 0, none⟩) m m), some (Value.int .i64 (k : Int)), some (Value.pointer (some ⟨ta, k, none⟩)), some (Value.slice (some ⟨ra k, 0, none⟩) m m), some (Value.int .i64 (a : Int)), some (Value.slice (some ⟨ta, 0, none⟩) m m), some (Value.int .i64 (a : Int)), some (Value.pointer (some ⟨ta, a, none⟩)), some (Value.slice (some ⟨ra a, 0, none⟩) m m), some (Value.int .i64 (k : Int)), some (Value.pointer (some ⟨ra a, k, none⟩)), some (Value.bool ((upd2 (mgA a b A k) a k (mgA a b A k b k)) a k))] (by kernel_rfl) 12 [] rfl rfl (by kernel_rfl) rfl (fun D V w_ => Mem w No w_ ((tg, .cells (topC m m rg) 30 (0, 0)) :: (ta, .cells (topC m m ra) 78 (0, 0)) :: (Lt3 ++ (tabL tInt (.int .i64) m m rg (upd2 (upd2 (mgG a b G k) a k (min (mgG a b G k a k) (mgG a b G k b k))) k a (min (mgG a b G k a k) (mgG a b G k b k))) ++ (tabL tBool .bool m m ra (upd2 (mgA a b A k) a k (mgA a b A k b k)) ++ gs2.flatMap RRow.L))))) (fun V => hM132.drew) trivial ?_ ?_
         ·refine ⟨?_, ?_, ?_, ?_, ?_, ?_, ?_, ?_, ?_, ?_, ?_, ?_, trivial⟩
          ·intro D V w_ hd hi hM_
           refine sqG [(15, .slice (some ⟨ta, 0, none⟩) m m)] rfl rfl rfl ?_
           exact run_val (.slice (some ⟨ta, 0, none⟩) m m) (rfl) ⟨sqT, hM_⟩
          ·intro D V w_ hd hi hM_
           refine sqG [(29, .int .i64 (k : Int))] rfl rfl rfl ?_
           exact run_val (.int .i64 (k : Int)) (rfl) ⟨sqT, hM_⟩
          ·intro D V w_ hd hi hM_
           refine sqG [(308, .slice (some ⟨ta, 0, none⟩) m m), (309, .int .i64 (k : Int))] rfl rfl rfl ?_
           exact run_val (.pointer (some ⟨ta, k, none⟩)) (x_indexAddrL (i := k) (sz := 1) (by omega) rfl rfl rfl rfl (by omega)) ⟨sqT, hM_⟩
          ·intro D V w_ hd hi hM_
           refine sqG [(310, .pointer (some ⟨ta, k, none⟩))] rfl rfl rfl ?_
           exact run_val (.slice (some ⟨ra k, 0, none⟩) m m) (x_load (hM_.cell 1 rfl (topC_get (by omega) (by omega))) rfl rfl) ⟨sqT, hM_⟩
          ·intro D V w_ hd hi hM_
           refine sqG [(25, .int .i64 (a : Int))] rfl rfl rfl ?_
           exact run_val (.int .i64 (a : Int)) (rfl) ⟨sqT, hM_⟩
          ·intro D V w_ hd hi hM_
           refine sqG [(15, .slice (some ⟨ta, 0, none⟩) m m)] rfl rfl rfl ?_
           exact run_val (.slice (some ⟨ta, 0, none⟩) m m) (rfl) ⟨sqT, hM_⟩
          ·intro D V w_ hd hi hM_
           refine sqG [(25, .int .i64 (a : Int))] rfl rfl rfl ?_
           exact run_val (.int .i64 (a : Int)) (rfl) ⟨sqT, hM_⟩
          ·intro D V w_ hd hi hM_
           refine sqG [(313, .slice (some ⟨ta, 0, none⟩) m m), (314, .int .i64 (a : Int))] rfl rfl rfl ?_
           exact run_val (.pointer (some ⟨ta, a, none⟩)) (x_indexAddrL (i := a) (sz := 1) (by omega) rfl rfl rfl rfl (by omega)) ⟨sqT, hM_⟩
          ·intro D V w_ hd hi hM_
           refine sqG [(315, .pointer (some ⟨ta, a, none⟩))] rfl rfl rfl ?_
           exact run_val (.slice (some ⟨ra a, 0, none⟩) m m) (x_load (hM_.cell 1 rfl (topC_get (by omega) (by omega))) rfl rfl) ⟨sqT, hM_⟩
          ·intro D V w_ hd hi hM_
           refine sqG [(29, .int .i64 (k : Int))] rfl rfl rfl ?_
           exact run_val (.int .i64 (k : Int)) (rfl) ⟨sqT, hM_⟩
          ·intro D V w_ hd hi hM_
           refine sqG [(316, .slice (some ⟨ra a, 0, none⟩) m m), (317, .int .i64 (k : Int))] rfl rfl rfl ?_
           exact run_val (.pointer (some ⟨ra a, k, none⟩)) (x_indexAddrL (i := k) (sz := 1) (by omega) rfl rfl rfl rfl (by omega)) ⟨sqT, hM_⟩
          ·intro D V w_ hd hi hM_
           refine sqG [(318, .pointer (some ⟨ra a, k, none⟩))] rfl rfl rfl ?_
           exact run_val (.bool ((upd2 (mgA a b A k) a k (mgA a b A k b k)) a k)) (x_load (hM_.tcell (n := m) (enc := .bool) (g := (upd2 (mgA a b A k) a k (mgA a b A k b k))) (ty := tBool) (i := a) (List.mem_cons_of_mem _ (List.mem_cons_of_mem _ (List.mem_append_right _ (List.mem_append_right _ (List.mem_append_left _ (tabL_mem (by omega))))))) (by omega)) rfl rfl) ⟨sqT, hM_⟩
         intro D V w133 hall hM134
         refine sqR [(0, .slice Al nl cl), (2, .int .i64 limit), (8, .slice At m ct), (13, .int .i64 (m : Int)), (14, .slice (some ⟨tg, 0, none⟩) m m), (15, .slice (some ⟨ta, 0, none⟩) m m), (25, .int .i64 (a : Int)), (26, .int .i64 (b : Int)), (248, .int .i64 (m : Int)), (249, .int .i64 (k : Int)), (311, .slice (some ⟨ra k, 0, none⟩) m m), (312, .int .i64 (a : Int)), (319, .bool ((upd2 (mgA a b A k) a k (mgA a b A k b k)) a k))] rfl (sqV (.pointer (some ⟨ra k, a, none⟩)) rfl rfl (x_indexAddrL (i := a) (sz := 1) (by omega) rfl rfl rfl rfl (by omega)) ?_)
         refine r_storeT2 (v := (upd2 (mgA a b A k) a k (mgA a b A k b k) a k)) ([(tg, .cells (topC m m rg) 30 (0, 0)), (ta, .cells (topC m m ra) 78 (0, 0))] : Hp) Lt3 (tabL tInt (.int .i64) m m rg (upd2 (upd2 (mgG a b G k) a k (min (mgG a b G k a k) (mgG a b G k b k))) k a (min (mgG a b G k a k) (mgG a b G k b k)))) hM134 (show k < m by omega) (show a < m by omega) rfl rfl rfl rfl rfl ?_
         intro w135 hM136
         replace hM136 : Mem w No w135 ((tg, .cells (topC m m rg) 30 (0, 0)) :: (ta, .cells (topC m m ra) 78 (0, 0)) :: (Lt3 ++ (tabL tInt (.int .i64) m m rg (upd2 (upd2 (mgG a b G k) a k (min (mgG a b G k a k) (mgG a b G k b k))) k a (min (mgG a b G k a k) (mgG a b G k b k))) ++ (tabL tBool .bool m m ra (upd2 (upd2 (mgA a b A k) a k (mgA a b A k b k)) k a (upd2 (mgA a b A k) a k (mgA a b A k b k) a k)) ++ gs2.flatMap RRow.L)))) := hM136
         refine r_nil (sqE [(0, .slice Al nl cl), (2, .int .i64 limit), (8, .slice At m ct), (13, .int .i64 (m : Int)), (14, .slice (some ⟨tg, 0, none⟩) m m), (15, .slice (some ⟨ta, 0, none⟩) m m), (25, .int .i64 (a : Int)), (26, .int .i64 (b : Int)), (248, .int .i64 (m : Int)), (249, .int .i64 (k : Int))] rfl (e_blk (e_then (k_region ?_))))
         rw [upd2_eq (g := (mgA a b A k)) (v := (mgA a b A k b k))] at hM136
         have hM137 : Mem w No w135 ((tg, .cells (topC m m rg) 30 (0, 0)) :: (ta, .cells (topC m m ra) 78 (0, 0)) :: (Lt3 ++ (tabL tInt (.int .i64) m m rg (upd2 (upd2 (mgG a b G k) a k (min (mgG a b G k a k) (mgG a b G k b k))) k a (min (mgG a b G k a k) (mgG a b G k b k))) ++ (tabL tBool .bool m m ra (upd2 (upd2 (mgA a b A k) a k (mgA a b A k b k)) k a (mgA a b A k b k)) ++ gs2.flatMap RRow.L)))) := hM136
         refine sqV (.int .i64 ((k : Int) + 1)) rfl rfl (x_addE rfl (by omega) (by omega) rfl rfl) ?_
         refine sqV (.int .i64 ((k : Int) + 1)) rfl rfl rfl ?_
         refine r_nil ?_
         refine e_loop (k + 1) (sqS rfl) ?_ ?_
         ·exact ⟨by rw [mgA_false g7]; exact hM137, by omega⟩
         ·(try dsimp only); omega
       ·try simp only [sqC] at h6
        refine k_exit (e_then_exit (e_loop_exit (e_blk_exit (e_blk ?_))))
        have hkm : k = m := by omega
        rw [hkm] at hM109
        refine e_loop (joinF x y f, mgG a b G m, mgA a b A m, gs2, Lt3) (sqS rfl) ?_ ?_
        ·exact ⟨hM109, by have h9 := tabI_merge hT hd9.1 hx hy hfx hfy; rw [← hm] at h9; exact h9, hGR2, ht3, hR.snoc ⟨gK (keysOf nl f0) G, aK (keysOf nl f0) A, x, y, least, hT.tab, hB, by omega, rfl⟩⟩
        ·exact keys_less hxy hxk' hyk'


end Go.Proofs.Ytddacakmafdgdaa
end
section
/- FaceGroups: what one run of the joining and another come to; rows as the checks read them. -/
set_option linter.unusedVariables false
set_option linter.unusedSimpArgs false
namespace Go.Kn
open Go.RowKit Go.Proofs Go.Proofs.Ytddacakmafdgdaa
section
variable {l : List (List Int)} {n : Nat} {ns : List (Nat × Nat)} {limit : Int} {f f1 f2 : Nat → Nat} {g g' : Nat → Nat → Int} {a a' : Nat → Nat → Bool}
theorem tabK_gap (h : TabK l n f ns g a) (h' : TabK l n f ns g' a') {x y : Nat} (hx : isKey n f x) (hy : isKey n f y) (hxy : x ≠ y) : g x y = g' x y := by
  have h1 := h.gap x y hx hy hxy
  have h2 := h'.gap x y hx hy hxy
  have h3 := (h2 (g x y)).2 ((h1 _).1 (Int.le_refl _))
  have h4 := (h1 (g' x y)).2 ((h2 _).1 (Int.le_refl _))
  omega
theorem tabK_apart (h : TabK l n f ns g a) (h' : TabK l n f ns g' a') {x y : Nat} (hx : isKey n f x) (hy : isKey n f y) (hxy : x ≠ y) : a x y = a' x y := by
  have h1 := h.apart x y hx hy hxy
  have h2 := h'.apart x y hx hy hxy
  rw [Bool.eq_iff_iff, h1, h2]
theorem cand_same (h : TabK l n f ns g a) (h' : TabK l n f ns g' a') {i j x y : Nat} (hd : i < j) (hc : Cand g a limit (keysOf n f) i j x y) : Cand g' a' limit (keysOf n f) i j x y ∧ g x y = g' x y := by
  obtain ⟨h1, h2, h3, h4⟩ := hc
  have hx := mem_keysOf.1 (List.mem_of_getElem? h1)
  have hy := mem_keysOf.1 (List.mem_of_getElem? h2)
  have hxy : x ≠ y := by
    intro e
    subst e
    have := keys_idx_inj h1 h2
    omega
  have e1 := tabK_gap h h' hx hy hxy
  have e2 := tabK_apart h h' hx hy hxy
  exact ⟨⟨h1, h2, by rw [← e2]; exact h3, by rw [← e1]; exact h4⟩, e1⟩
theorem best_sole (h : TabK l n f ns g a) (h' : TabK l n f ns g' a') {x y x' y' : Nat} {least least' : Int} (hb : Best g a limit (keysOf n f) (upP (keysOf n f).length (keysOf n f).length 0) x y least) (hb' : Best g' a' limit (keysOf n f) (upP (keysOf n f).length (keysOf n f).length 0) x' y' least') :
    (least ≤ limit ↔ least' ≤ limit) ∧ (least ≤ limit → x = x' ∧ y = y') := by
  have hlt : ∀ {i j : Nat}, upP (keysOf n f).length (keysOf n f).length 0 i j → i < j := fun h => h.1
  rcases hb with ⟨h1, h2⟩ | ⟨i, j, hd, hc, he, hl⟩
  · rcases hb' with ⟨h1', h2'⟩ | ⟨i', j', hd', hc', he', hl'⟩
    · exact ⟨by omega, fun h9 => by omega⟩
    · exact absurd (cand_same h' h (hlt hd') hc').1 (h2 _ _ _ _ hd')
  · rcases hb' with ⟨h1', h2'⟩ | ⟨i', j', hd', hc', he', hl'⟩
    · exact absurd (cand_same h h' (hlt hd) hc).1 (h2' _ _ _ _ hd)
    · have c1 := cand_same h h' (hlt hd) hc
      have c2 := cand_same h' h (hlt hd') hc'
      have q1 := hl _ _ _ _ hd' c2.1
      have q2 := hl' _ _ _ _ hd c1.1
      have e1 := c1.2
      have e2 := c2.2
      have hii : i = i' ∧ j = j' := by omega
      obtain ⟨rfl, rfl⟩ := hii
      have ex : x = x' := Option.some.inj (hc.1.symm.trans hc'.1)
      have ey : y = y' := Option.some.inj (hc.2.1.symm.trans hc'.2.1)
      have l1 := hc.2.2.2
      have l2 := hc'.2.2.2
      exact ⟨by omega, fun _ => ⟨ex, ey⟩⟩
theorem step_sole (h1 : Step l n ns limit f f1) (h2 : Step l n ns limit f f2) : f1 = f2 := by
  obtain ⟨g, a, x, y, least, hT, hB, hl, rfl⟩ := h1
  obtain ⟨g', a', x', y', least', hT', hB', hl', rfl⟩ := h2
  obtain ⟨rfl, rfl⟩ := (best_sole hT hT' hB hB').2 hl
  rfl
theorem stop_step (h1 : Stop l n ns limit f) (h2 : Step l n ns limit f f2) : False := by
  obtain ⟨g, a, x, y, least, hT, hB, hl⟩ := h1
  obtain ⟨g', a', x', y', least', hT', hB', hl', rfl⟩ := h2
  exact hl ((best_sole hT hT' hB hB').1.2 hl')
theorem runs_head (h : Runs l n ns limit f f1) : f = f1 ∨ ∃ q, Step l n ns limit f q ∧ Runs l n ns limit q f1 := by
  induction h with
  | refl => exact .inl rfl
  | snoc h s ih =>
    rcases ih with rfl | ⟨q, s1, r⟩
    · exact .inr ⟨_, s, .refl _⟩
    · exact .inr ⟨q, s1, r.snoc s⟩
theorem runs_to (hb : Runs l n ns limit f f1) (hs : Stop l n ns limit f1) (hc : Runs l n ns limit f f2) : Runs l n ns limit f2 f1 := by
  induction hc with
  | refl => exact hb
  | snoc h s ih =>
    rcases runs_head ih with rfl | ⟨q, s1, r⟩
    · exact absurd s (fun s => stop_step hs s)
    · rw [step_sole s s1]; exact r
theorem runs_sole (hb : Runs l n ns limit f f1) (hs : Stop l n ns limit f1) (hc : Runs l n ns limit f f2) (hs2 : Stop l n ns limit f2) : f2 = f1 := by
  rcases runs_head (runs_to hb hs hc) with h | ⟨q, s, _⟩
  · exact h
  · exact absurd s (fun s => stop_step hs2 s)
end
/-! ### rows -/
def sOf (r : RRow) : SRow := match r.v with
  | .slice A _ c => ⟨A, c, natsI r.xs⟩
  | _ => ⟨none, 0, natsI r.xs⟩
theorem sOf_enc {r : RRow} (h : r.ok) : encR (sOf r) = [r.v] ∧ (sOf r).xs = natsI r.xs := by
  obtain ⟨A, c, hv, _⟩ := row_slice h
  have e : sOf r = ⟨A, c, natsI r.xs⟩ := by unfold sOf; rw [hv]
  rw [e, hv]
  exact ⟨by simp [encR, natsI], rfl⟩
def RowsAt (W : World) (A : Option Addr) (m : Nat) (ss : List SRow) : Prop := RdE encR 1 W A m ss ∧ ∀ r ∈ ss, RdE intE 1 W r.A r.xs.length r.xs
theorem RowsAt.up {w W : World} {A : Option Addr} {m : Nat} {ss : List SRow} {L : Hp} (h : RowsAt w A m ss) (hM : Mem w No W L) : RowsAt W A m ss := ⟨h.1.up hM, fun r hr => (h.2 r hr).up hM⟩
theorem sRows {A : Option Addr} {m c : Nat} {rows : List RRow} {Lo : Hp} (ho : OwnR tInts 1 (.slice A m c) m (topV rows) Lo) (hok : ∀ r ∈ rows, r.ok) :
    ∃ ss : List SRow, ss.map SRow.xs = rows.map (fun r => natsI r.xs) ∧ ∀ w, Holds w (Lo ++ rows.flatMap RRow.L) → RowsAt w A m ss := by
  have e : (rows.map sOf).flatMap encR = topV rows := by
    clear ho
    induction rows with
    | nil => rfl
    | cons a t ih => rw [List.map_cons, List.flatMap_cons, ih (fun r hr => hok r (List.mem_cons_of_mem _ hr)), (sOf_enc (hok a List.mem_cons_self)).1]; rfl
  refine ⟨rows.map sOf, ?_, fun w hL => ?_⟩
  · rw [List.map_map]
    exact List.map_congr_left fun r hr => (sOf_enc (hok r hr)).2
  have h1 : Holds w Lo := hL.sub (by have := hL.nodup; rw [List.map_append, List.nodup_append] at this; exact this.1) (fun p hp => List.mem_append_left _ hp)
  have h2 : Holds w (rows.flatMap RRow.L) := hL.sub (by have := hL.nodup; rw [List.map_append, List.nodup_append] at this; exact this.2.1) (fun p hp => List.mem_append_right _ hp)
  have hrd : RdE encR 1 w A m (rows.map sOf) := OwnR.rd (enc := encR) (by rw [e]; exact ho) h1 (by simp) (by decide)
  refine ⟨hrd, ?_⟩
  intro s hs
  obtain ⟨r, hr, rfl⟩ := List.mem_map.1 hs
  obtain ⟨A9, c9, hv, _⟩ := row_slice (hok r hr)
  have e : sOf r = ⟨A9, c9, natsI r.xs⟩ := by unfold sOf; rw [hv]
  have := row_rd (hok r hr) hv (rows_holds h2 hr)
  rw [e]
  simpa [natsI] using this
theorem oRows {A : Option Addr} {m c : Nat} {rows : List ORow} {Lo : Hp} (ho : OwnR tInts 1 (.slice A m c) m (rows.map rowV) Lo) (hok : ∀ r ∈ rows, r.ok) :
    ∃ ss : List SRow, ss.map SRow.xs = rows.map ORow.xs ∧ ∀ w, Holds w (Lo ++ rows.flatMap ORow.L) → RowsAt w A m ss := by
  have e : (rows.map fun r => (⟨r.A, r.xs.length, r.xs⟩ : SRow)).flatMap encR = rows.map rowV := by
    clear ho hok
    induction rows with
    | nil => rfl
    | cons a t ih => rw [List.map_cons, List.flatMap_cons, ih]; rfl
  refine ⟨rows.map fun r => (⟨r.A, r.xs.length, r.xs⟩ : SRow), by rw [List.map_map]; rfl, fun w hL => ?_⟩
  have h1 : Holds w Lo := hL.sub (by have := hL.nodup; rw [List.map_append, List.nodup_append] at this; exact this.1) (fun p hp => List.mem_append_left _ hp)
  have h2 : Holds w (rows.flatMap ORow.L) := hL.sub (by have := hL.nodup; rw [List.map_append, List.nodup_append] at this; exact this.2.1) (fun p hp => List.mem_append_right _ hp)
  have hrd : RdE encR 1 w A m (rows.map fun r => (⟨r.A, r.xs.length, r.xs⟩ : SRow)) := OwnR.rd (enc := encR) (by rw [e]; exact ho) h1 (by simp) (by decide)
  refine ⟨hrd, ?_⟩
  intro s hs
  obtain ⟨r, hr, rfl⟩ := List.mem_map.1 hs
  obtain ⟨c9, h9⟩ := hok r hr
  refine h9.rdI ?_
  refine ⟨?_, fun p hp => h2.at_ p (List.mem_flatMap.2 ⟨r, hr, hp⟩)⟩
  have hn := h2.nodup
  clear h2 h1 hL ho hrd e hok hs
  induction rows with
  | nil => cases hr
  | cons a t ih =>
    rw [List.flatMap_cons, List.map_append, List.nodup_append] at hn
    rcases List.mem_cons.1 hr with rfl | h2
    · exact hn.1
    · exact ih h2 hn.2.1
theorem rowsAt_nil (W : World) : RowsAt W none 0 [] := ⟨⟨rfl, by simp, by omega, fun k x i v hk => by simp at hk⟩, by simp⟩
/-- what a clustering answers with -/
theorem cluster_t (Al Ab : Option Addr) (nl cl nb cb : Nat) (l : List (List Int)) (bs : List Bond3) (limit : Int) (w : World) (hl : RdE intsE 14 w Al nl l) (hb : RdE bondE 3 w Ab nb bs) :
    Calls Try.prog 6 #[Value.slice Al nl cl, Value.slice Ab nb cb, Value.int .i64 limit] w fun e w' => ∃ r, e = .returned r ∧ ∃ (A : Option Addr) (m c : Nat) (ss : List SRow) (Lx : Hp), r = .tuple #[.slice A m c, .int .i64 (clErr l bs limit)] ∧ (∀ W, Holds W Lx → RowsAt W A m ss) ∧ (clErr l bs limit ≠ 0 → ss = []) ∧ (clErr l bs limit = 0 → ∃ fE, Runs l nl (notsOf l bs) limit (firstsOf l bs) fE ∧ Stop l nl (notsOf l bs) limit fE ∧ ss.map SRow.xs = idsG l nl fE) ∧ Mem w No w' Lx := by
  refine (cluster_s Al Ab nl cl nb cb l bs limit w hl hb).mono ?_
  rintro e w' ⟨r, rfl, gv, e, rfl, rfl, hz, hA, hM⟩
  by_cases h0 : clErr l bs limit = 0
  · obtain ⟨fE, ⟨hR, hS, _, _⟩, A, rows, rfl, hx, c, Lo, ho, hok, hM⟩ := hA h0
    obtain ⟨ss, hss, hW⟩ := oRows ho hok
    exact ⟨_, rfl, A, rows.length, _, ss, _, rfl, hW, fun h => absurd h0 h, fun _ => ⟨fE, hR, hS, hss.trans hx⟩, hM⟩
  · rw [hz h0]
    exact ⟨_, rfl, none, 0, 0, [], [], rfl, fun W _ => rowsAt_nil W, fun _ => rfl, fun h => absurd h h0, hM⟩
theorem clustered_t (Al Ab : Option Addr) (nl cl nb cb : Nat) (l : List (List Int)) (bs : List Bond3) (limit : Int) (w : World) (hl : RdE intsE 14 w Al nl l) (hb : RdE bondE 3 w Ab nb bs) (hgd : Good l) (hid : ∀ x ∈ l, 0 ≤ idOf x ∧ idOf x ≤ 1000000) (hb0 : bondsFrom l none bs = 0) (hnb : nb ≤ 1000) (hl0 : 0 ≤ limit) (hl1 : limit ≤ 774192) :
    Calls Try.prog 14 #[Value.slice Al nl cl, Value.slice Ab nb cb, Value.int .i64 limit] w fun e w' => ∃ r, e = .returned r ∧ ∃ (A : Option Addr) (m c : Nat) (ss : List SRow) (Lx : Hp), r = .slice A m c ∧ (∀ W, Holds W Lx → RowsAt W A m ss) ∧ (∃ fE, Runs l nl (notsOf l bs) limit (firstsOf l bs) fE ∧ Stop l nl (notsOf l bs) limit fE ∧ ss.map SRow.xs = idsG l nl fE) ∧ Mem w No w' Lx := by
  refine (clusteredR_s Al Ab nl cl nb cb l bs limit w hl hb hgd hid hb0 hnb hl0 hl1).mono ?_
  rintro e w' ⟨r, rfl, fE, hR, hS, _, A, c, rows, Lo, rfl, hx, ho, hok, hM⟩
  obtain ⟨ss, hss, hW⟩ := sRows ho hok
  exact ⟨_, rfl, A, rows.length, c, ss, _, rfl, hW, ⟨fE, hR, hS, hss.trans hx⟩, hM⟩
theorem told_t (v no x f : Int) (w : World) (h1 : no = f) (h2 : f = 0 → v = x) (h3 : f ≠ 0 → v = 0) :
    Calls Try.prog 18 #[Value.int .i64 v, Value.int .i64 no, Value.int .i64 x, Value.int .i64 f] w fun e w' => ∃ r, e = .returned r ∧ r = .bool true ∧ Mem w No w' [] := by
  refine (toldI_s v no x f w).mono ?_
  rintro e w' ⟨r, rfl, h, hM⟩
  exact ⟨_, rfl, h h1 h2 h3, hM⟩
theorem lists_t (A1 A2 : Option Addr) (n1 c1 n2 c2 : Nat) (no f : Int) (ra rb : List SRow) (w : World) (h1 : RowsAt w A1 n1 ra) (h2 : RowsAt w A2 n2 rb) (hn : n1 ≤ 1099511627776) (hm : ∀ r ∈ ra, r.xs.length ≤ 1099511627776) (g1 : no = f) (g2 : f = 0 → ra.map SRow.xs = rb.map SRow.xs) (g3 : f ≠ 0 → ra = []) :
    Calls Try.prog 19 #[Value.slice A1 n1 c1, Value.int .i64 no, Value.slice A2 n2 c2, Value.int .i64 f] w fun e w' => ∃ r, e = .returned r ∧ r = .bool true ∧ Mem w No w' [] := by
  refine (listsI_s A1 A2 n1 c1 n2 c2 no f ra rb w h1.1 h2.1 h1.2 h2.2 hn hm).mono ?_
  rintro e w' ⟨r, rfl, h, hM⟩
  exact ⟨_, rfl, h g1 g2 g3, hM⟩
theorem allXs_ids {l : List (List Int)} {n : Nat} {f : Nat → Nat} {ss : List SRow} (h : ss.map SRow.xs = idsG l n f) (hn : n ≤ 300) : (allXs ss).length ≤ 90000 ∧ ss.length ≤ 300 ∧ ∀ r ∈ ss, r.xs.length ≤ 300 := by
  have hlen : ss.length ≤ n := by
    have := congrArg List.length h
    rw [List.length_map] at this
    rw [this]
    unfold idsG
    rw [List.length_map]
    exact keysOf_len n f
  have hrow : ∀ r ∈ ss, r.xs.length ≤ 300 := by
    intro r hr
    have : r.xs ∈ idsG l n f := by rw [← h]; exact List.mem_map.2 ⟨r, hr, rfl⟩
    unfold idsG at this
    obtain ⟨x, _, hx⟩ := List.mem_map.1 this
    rw [← hx]
    unfold idsAt
    rw [List.length_map]
    exact Nat.le_trans (members_len n f x) hn
  refine ⟨?_, by omega, hrow⟩
  have : ∀ ss : List SRow, (∀ r ∈ ss, r.xs.length ≤ 300) → (allXs ss).length ≤ 300 * ss.length := by
    intro ss
    induction ss with
    | nil => intro _; simp [allXs]
    | cons a t ih =>
      intro h9
      have h1 := ih (fun r hr => h9 r (List.mem_cons_of_mem _ hr))
      have h2 := h9 a List.mem_cons_self
      simp only [allXs, List.flatMap_cons, List.length_append, List.length_cons] at h1 ⊢
      omega
  have := this ss hrow
  omega
theorem clErr_first {l : List (List Int)} {bs : List Bond3} {limit : Int} (h : checkL l = 0) : clErr l bs limit = firstN [checkB2 l bs, if outN limit 0 774192 = true then 2 else 0] := by
  unfold clErr
  rw [checkB_eq h]
  simp only [firstN]
  by_cases h1 : checkB2 l bs ≠ 0
  · rw [if_pos h1, if_pos h1]
  · rw [if_neg h1, if_neg h1]
    by_cases h2 : outN limit 0 774192 = true
    · rw [if_pos h2]; rfl
    · rw [if_neg h2]; rfl
theorem clErr_bad {l : List (List Int)} {bs : List Bond3} {limit : Int} (h : checkL l ≠ 0) : clErr l bs limit = checkL l ∧ checkB l bs = checkL l ∧ ∀ x : Int, firstN [checkL l, x] = checkL l := by
  have e : checkB l bs = checkL l := by unfold checkB; rw [if_pos h]
  refine ⟨by unfold clErr; rw [e, if_pos h], e, fun x => by simp only [firstN]; rw [if_pos h]⟩
theorem gapErr_bad {l : List (List Int)} {xs ys : List Int} (h : checkL l ≠ 0) : gapErr l xs ys = checkL l := by unfold gapErr; rw [if_pos h]
theorem badId_ids {l : List (List Int)} (h : checkL l = 0) : ∀ x ∈ l, 0 ≤ idOf x ∧ idOf x ≤ 1000000 := by
  intro x hx
  unfold checkL at h
  split at h
  · cases h
  · have := ((check_sorted h).2.2 x hx).1
    unfold badId at this
    simp [outN] at this
    omega
theorem checkB2_from {l : List (List Int)} {bs : List Bond3} (h : checkB2 l bs = 0) : bs.length ≤ 1000 ∧ bondsFrom l none bs = 0 := by
  unfold checkB2 at h
  split at h
  · cases h
  · rename_i h1
    refine ⟨by omega, ?_⟩
    split at h
    · rename_i h2; exact absurd h h2
    · rename_i h2; exact Classical.not_not.1 h2
end Go.Kn
end
