/- Fk: what Go functions of this seat come to, printed by walk.py over the engine. -/
import Derived.Test.YtddacakmafdgdaaFj
import Derived.Test.YtddacakmafdgdaaGo1
import Derived.Test.YtddacakmafdgdaaKnU
set_option linter.unusedVariables false
set_option linter.unusedSimpArgs false
set_option maxRecDepth 100000
namespace Go.Proofs.Ytddacakmafdgdaa
open Go.RowKit Go.Kn

theorem clip_s (A : Option Addr) (n c : Nat) (w : World) (hc : n ≤ c) :
    Calls Try.prog 55 #[Value.slice A n c] w fun e w' => ∃ r, e = .returned r ∧ r = .slice A n n ∧ Mem w No w' [] := by
  refine calls_k (args := [Value.slice A n c]) 9 [(0, Value.slice A n c)] Try.func55 rfl rfl ⟨rfl, trivial⟩ ?_
  have hM := Mem.nil w No
  refine k_seq ?_
  refine k_region ?_
  refine r_val (v := Value.slice none 0 0) (w' := w) rfl rfl (rfl) ?_
  refine r_nil ?_
  refine ends_sub [(0, Value.slice A n c)] ⟨rfl, trivial⟩ ?_
  refine e_then ?_
  refine k_seq ?_
  refine k_region ?_
  refine r_val (v := Value.slice A n c) (w' := w) rfl rfl (rfl) ?_
  refine r_val (v := Value.slice A n c) (w' := w) rfl rfl (rfl) ?_
  refine r_val (v := Value.int .i64 (n : Int)) (w' := w) rfl rfl (x_len rfl rfl) ?_
  refine r_val (v := Value.slice A n c) (w' := w) rfl rfl (rfl) ?_
  refine r_val (v := Value.int .i64 (n : Int)) (w' := w) rfl rfl (x_len rfl rfl) ?_
  refine r_val (v := Value.slice A n n) (w' := w) rfl rfl (x_sliceClip hc rfl rfl rfl rfl rfl) ?_
  refine r_val (v := Value.slice A n n) (w' := w) rfl rfl (rfl) ?_
  refine r_nil ?_
  refine ends_sub [(2, Value.slice A n n)] ⟨rfl, trivial⟩ ?_
  refine e_then ?_
  refine k_ret ?_
  refine e_ret1 rfl rfl ?_
  exact ⟨_, rfl, rfl, hM.drop⟩

theorem clips_s (A : Option Addr) (n c : Nat) (w : World) (hc : n ≤ c) :
    Calls Try.prog 56 #[Value.slice A n c] w fun e w' => ∃ r, e = .returned r ∧ r = .slice A n n ∧ Mem w No w' [] := by
  refine calls_k (args := [Value.slice A n c]) 9 [(0, Value.slice A n c)] Try.func56 rfl rfl ⟨rfl, trivial⟩ ?_
  have hM := Mem.nil w No
  refine k_seq ?_
  refine k_region ?_
  refine r_val (v := Value.slice none 0 0) (w' := w) rfl rfl (rfl) ?_
  refine r_nil ?_
  refine ends_sub [(0, Value.slice A n c)] ⟨rfl, trivial⟩ ?_
  refine e_then ?_
  refine k_seq ?_
  refine k_region ?_
  refine r_val (v := Value.slice A n c) (w' := w) rfl rfl (rfl) ?_
  refine r_val (v := Value.slice A n c) (w' := w) rfl rfl (rfl) ?_
  refine r_val (v := Value.int .i64 (n : Int)) (w' := w) rfl rfl (x_len rfl rfl) ?_
  refine r_val (v := Value.slice A n c) (w' := w) rfl rfl (rfl) ?_
  refine r_val (v := Value.int .i64 (n : Int)) (w' := w) rfl rfl (x_len rfl rfl) ?_
  refine r_val (v := Value.slice A n n) (w' := w) rfl rfl (x_sliceClip hc rfl rfl rfl rfl rfl) ?_
  refine r_val (v := Value.slice A n n) (w' := w) rfl rfl (rfl) ?_
  refine r_nil ?_
  refine ends_sub [(2, Value.slice A n n)] ⟨rfl, trivial⟩ ?_
  refine e_then ?_
  refine k_ret ?_
  refine e_ret1 rfl rfl ?_
  exact ⟨_, rfl, rfl, hM.drop⟩

theorem clustered_s (Al A1 A2 : Option Addr) (n cl nm cm nn cn : Nat) (l : List (List Int)) (ms ns : List (Nat × Nat)) (limit : Int) (w : World) (hl : RdE intsE 14 w Al n l) (hgd : Kn.Good l) (h1m : RdE pairE 2 w A1 nm ms) (h2n : RdE pairE 2 w A2 nn ns) (hms : ∀ m ∈ ms, m.1 < n ∧ m.2 < n) (hns : ∀ m ∈ ns, m.1 < n ∧ m.2 < n) (hn : n ≤ 300) (hnm : nm ≤ 1000) (hnn : nn ≤ 1000) (hl0 : 0 ≤ limit) (hl1 : limit ≤ 774192) :
    Calls Try.prog 22 #[Value.slice Al n cl, Value.agg (#[Value.slice A1 nm cm, Value.slice A2 nn cn]), Value.int .i64 limit] w fun e w' => ∃ r, e = .returned r ∧ ∃ fE, (Runs l n ns limit (joinAll ms) fE ∧ Stop l n ns limit fE ∧ (∀ p, p < n → fE p ≤ p) ∧ ∀ p, p < n → fE (fE p) = fE p) ∧ ∃ (A : Option Addr) (rows : List ORow), r = .slice A rows.length rows.length ∧ rows.map ORow.xs = idsG l n fE ∧ ∃ (c : Nat) (Lo : Hp), OwnR tInts 1 (.slice A rows.length c) rows.length (rows.map rowV) Lo ∧ (∀ r ∈ rows, r.ok) ∧ Mem w No w' (Lo ++ rows.flatMap ORow.L) := by
  refine calls_k (args := [Value.slice Al n cl, Value.agg (#[Value.slice A1 nm cm, Value.slice A2 nn cn]), Value.int .i64 limit]) 80 [(0, Value.slice Al n cl), (1, Value.agg (#[Value.slice A1 nm cm, Value.slice A2 nn cn])), (2, Value.int .i64 limit)] Try.func22 rfl rfl ⟨rfl, rfl, rfl, trivial⟩ ?_
  have hM := Mem.nil w No
  have hll := hl.len
  refine k_seq ?_
  refine k_region ?_
  refine r_box hM rfl rfl ?_
  intro b3 w1 hM2 hb3
  replace hM2 : Mem w No w1 [(b3, .cells (#[Value.slice A1 nm cm, Value.slice A2 nn cn]) 57 (0, 0))] := hM2
  refine r_val (v := Value.slice none 0 0) (w' := w1) rfl rfl (rfl) ?_
  refine r_nil ?_
  refine ends_sub [(0, Value.slice Al n cl), (2, Value.int .i64 limit), (4, Value.pointer (some ⟨b3, 0, none⟩))] ⟨rfl, rfl, rfl, trivial⟩ ?_
  refine e_then ?_
  refine k_seq ?_
  refine k_region ?_
  refine r_val (v := Value.agg (#[Value.slice A1 nm cm, Value.slice A2 nn cn])) (w' := w1) rfl rfl (x_loadPart hM2 0 rfl (o := 0) (l := [Value.slice A1 nm cm, Value.slice A2 nn cn]) rfl rfl rfl rfl) ?_
  refine r_val (v := Value.slice Al n cl) (w' := w1) rfl rfl (rfl) ?_
  refine r_val (v := Value.int .i64 (n : Int)) (w' := w1) rfl rfl (x_len rfl rfl) ?_
  refine r_call (f := 44) (args := #[Value.agg (#[Value.slice A1 nm cm, Value.slice A2 nn cn]), Value.int .i64 (n : Int)]) (w' := w1) rfl rfl (x_call (vs := [Value.agg (#[Value.slice A1 nm cm, Value.slice A2 nn cn]), Value.int .i64 (n : Int)]) (enter44 _ _) rfl rfl) (joined_s A1 A2 nm cm nn cn n ms w1 (h1m.up hM2) hms hn (by omega)) ?_
  rintro v_ w4 ⟨bm, gs0, rfl, ⟨hG0, hF0⟩, hM5⟩
  replace hM5 : Mem w No w4 ((b3, .cells (#[Value.slice A1 nm cm, Value.slice A2 nn cn]) 57 (0, 0)) :: (bm, mapO (gs0.map Grp.ent) n) :: gs0.flatMap Grp.L) := (Mem.call0 hM2 hM5).perm List.perm_append_comm
  refine r_val (v := Value.map (some bm)) (w' := w4) rfl rfl (rfl) ?_
  refine r_nil ?_
  refine ends_sub [(0, Value.slice Al n cl), (2, Value.int .i64 limit), (4, Value.pointer (some ⟨b3, 0, none⟩)), (7, Value.map (some bm))] ⟨rfl, rfl, rfl, rfl, trivial⟩ ?_
  refine e_then ?_
  refine k_seq ?_
  refine k_region ?_
  refine r_val (v := Value.slice Al n cl) (w' := w4) rfl rfl (rfl) ?_
  refine r_val (v := Value.map (some bm)) (w' := w4) rfl rfl (rfl) ?_
  refine r_val (v := Value.pointer (some ⟨b3, 1, none⟩)) (w' := w4) rfl rfl (rfl) ?_
  refine r_val (v := Value.slice A2 nn cn) (w' := w4) rfl rfl (x_load (hM5.cell 0 rfl rfl) rfl rfl) ?_
  refine r_call (f := 49) (args := #[Value.slice Al n cl, Value.map (some bm), Value.slice A2 nn cn]) (w' := w4) rfl rfl (x_call (vs := [Value.slice Al n cl, Value.map (some bm), Value.slice A2 nn cn]) (enter49 _ _) rfl rfl) (newTable_s Al A2 bm n cl nn cn n l gs0 (joinAll ms) ns w4 (hl.up hM5) hgd hG0 hF0 hM5.tail.holds (h2n.up hM5) hns hn hnn) ?_
  rintro v_ w6 ⟨tg, ta, rg, ra, g0, a0, rfl, ⟨hg0, ha0⟩, hM7⟩
  replace hM7 : Mem w No w6 ((b3, .cells (#[Value.slice A1 nm cm, Value.slice A2 nn cn]) 57 (0, 0)) :: (bm, mapO (gs0.map Grp.ent) n) :: (gs0.flatMap Grp.L ++ (TabH n tg ta rg ra g0 a0))) := (Mem.call0 hM5 hM7).perm List.perm_append_comm
  refine r_alloc hM7 (z := Value.agg #[Value.slice none 0 0, Value.slice none 0 0]) rfl rfl ?_
  intro b10 w8 hM9 hb10
  replace hM9 : Mem w No w8 ((b10, .cells #[Value.slice none 0 0, Value.slice none 0 0] 94 (0, 0)) :: (b3, .cells (#[Value.slice A1 nm cm, Value.slice A2 nn cn]) 57 (0, 0)) :: (bm, mapO (gs0.map Grp.ent) n) :: (gs0.flatMap Grp.L ++ (TabH n tg ta rg ra g0 a0))) := hM9
  refine r_storeRow (vs := (#[Value.slice (some ⟨tg, 0, none⟩) n n, Value.slice (some ⟨ta, 0, none⟩) n n])) hM9 0 rfl (by rw [show (#[Value.slice (some ⟨tg, 0, none⟩) n n, Value.slice (some ⟨ta, 0, none⟩) n n]).size = 2 from (by simp [ints_size, *])]; rfl) (by first | (simp [Value.oneCell']; done) | (simp only [List.mem_cons, List.not_mem_nil, or_false, forall_eq_or_imp, forall_eq]; (repeat' constructor) <;> first | assumption | rfl)) (by rw [show (#[Value.slice (some ⟨tg, 0, none⟩) n n, Value.slice (some ⟨ta, 0, none⟩) n n]).size = 2 from (by simp [ints_size, *])]; rfl) rfl rfl rfl ?_
  intro w11 hM12
  replace hM12 : Mem w No w11 ((b10, .cells (#[Value.slice (some ⟨tg, 0, none⟩) n n, Value.slice (some ⟨ta, 0, none⟩) n n]) 94 (0, 0)) :: (b3, .cells (#[Value.slice A1 nm cm, Value.slice A2 nn cn]) 57 (0, 0)) :: (bm, mapO (gs0.map Grp.ent) n) :: (gs0.flatMap Grp.L ++ (TabH n tg ta rg ra g0 a0))) := hM12
  refine r_nil ?_
  refine ends_sub [(0, Value.slice Al n cl), (2, Value.int .i64 limit), (7, Value.map (some bm)), (8, Value.pointer (some ⟨b10, 0, none⟩))] ⟨rfl, rfl, rfl, rfl, trivial⟩ ?_
  refine e_then ?_
  refine k_seq ?_
  refine k_block ?_
  refine k_loop (σ := (Nat → Nat) × List Grp × (Nat → Nat → Int) × (Nat → Nat → Bool)) (fun ⟨f, gs, g, a⟩ => [(0, Value.slice Al n cl), (2, Value.int .i64 limit), (7, Value.map (some bm)), (8, Value.pointer (some ⟨b10, 0, none⟩))]) (fun ⟨f, gs, g, a⟩ w_ => Mem w No w_ ((b10, .cells (#[Value.slice (some ⟨tg, 0, none⟩) n n, Value.slice (some ⟨ta, 0, none⟩) n n]) 94 (0, 0)) :: (bm, mapO (gs.map Grp.ent) n) :: (gs.flatMap Grp.L ++ (TabH n tg ta rg ra g a))) ∧ GMp tInt gs n ∧ IsG n f (view gs) ∧ TabK l n f ns g a ∧ Runs l n ns limit (joinAll ms) f) (fun ⟨f, gs, g, a⟩ => (keysOf n f).length) (joinAll ms, gs0, g0, a0) ⟨rfl, rfl, rfl, rfl, trivial⟩ ⟨(hM12.pickT [(b10, .cells (#[Value.slice (some ⟨tg, 0, none⟩) n n, Value.slice (some ⟨ta, 0, none⟩) n n]) 94 (0, 0)), (b3, .cells (#[Value.slice A1 nm cm, Value.slice A2 nn cn]) 57 (0, 0)), (bm, mapO (gs0.map Grp.ent) n)] (gs0.flatMap Grp.L ++ (TabH n tg ta rg ra g0 a0)) rfl [0, 2] _ (by decide) rfl), hG0, hF0, tabK_of hg0 ha0, .refl _⟩ ?_
  rintro ⟨f, gs, g, a⟩ w13 ⟨hM14, hG, hF, hT, hR⟩
  refine wpK_sub [(0, Value.slice Al n cl), (2, Value.int .i64 limit), (7, Value.map (some bm)), (8, Value.pointer (some ⟨b10, 0, none⟩))] ⟨rfl, rfl, rfl, rfl, trivial⟩ ?_
  refine k_block ?_
  refine k_seq ?_
  refine k_draw mixed [0, 0, 2, 6, 0, 31, 63, 127, 127, 127, 255, 1535, 4095] [some (Value.agg (#[Value.slice (some ⟨tg, 0, none⟩) n n, Value.slice (some ⟨ta, 0, none⟩) n n])), some (Value.map (some bm)), none, none, some (Value.int .i64 limit), none, none, none, none, none, none, none, none] (by kernel_rfl) (fun D V w_ => ∃ (bx : Nat) (L : Hp) (x y : Nat) (least : Int), (D 2 = true → V 2 = .func (.func 71) #[] #[.pointer (some ⟨bx, 0, none⟩)]) ∧ (D 3 = true → D 2 = true ∧ OwnR tInt 1 (V 3) (keysOf n f).length ((natsI (keysOf n f)).map (.int .i64)) L) ∧ (D 5 = true → V 5 = .tuple #[.int .i64 (x : Int), .int .i64 (y : Int), .bool (decide (least ≤ limit))] ∧ Best g a limit (keysOf n f) (upP (keysOf n f).length (keysOf n f).length 0) x y least) ∧ (D 6 = true → D 5 = true ∧ V 6 = .tuple #[.int .i64 (x : Int), .int .i64 (y : Int), .bool (decide (least ≤ limit))]) ∧ (D 7 = true → D 5 = true ∧ V 7 = .int .i64 (x : Int)) ∧ (D 8 = true → D 5 = true ∧ V 8 = .int .i64 (y : Int)) ∧ (D 9 = true → D 5 = true ∧ V 9 = .bool (decide (least ≤ limit))) ∧ (D 10 = true → D 5 = true ∧ V 10 = .int .i64 (x : Int)) ∧ (D 11 = true → D 5 = true ∧ V 11 = .int .i64 (y : Int)) ∧ (D 12 = true → D 5 = true ∧ V 12 = .bool (decide (least ≤ limit))) ∧ Mem w No w_ (L ++ (cnd (D 2) (bx, .cells #[.map (some bm)] 87 (0, 0)) ++ (([(b10, .cells (#[Value.slice (some ⟨tg, 0, none⟩) n n, Value.slice (some ⟨ta, 0, none⟩) n n]) 94 (0, 0)), (bm, mapO (gs.map Grp.ent) n)] : Hp) ++ (gs.flatMap Grp.L ++ (TabH n tg ta rg ra g a)))))) (fun V => ⟨0, [], 0, 0, 0, fun h => Bool.noConfusion h, fun h => Bool.noConfusion h, fun h => Bool.noConfusion h, fun h => Bool.noConfusion h, fun h => Bool.noConfusion h, fun h => Bool.noConfusion h, fun h => Bool.noConfusion h, fun h => Bool.noConfusion h, fun h => Bool.noConfusion h, fun h => Bool.noConfusion h, hM14.drew⟩) ?_ ?_
  · refine ⟨?_, ?_, ?_, ?_, ?_, ?_, ?_, ?_, ?_, ?_, ?_, ?_, ?_, trivial⟩
    · intro D V w_ hd hi hM_
      refine goal_of [(8, Value.pointer (some ⟨b10, 0, none⟩))] rfl ⟨rfl, trivial⟩ rfl ?_
      exact run_val (Value.agg (#[Value.slice (some ⟨tg, 0, none⟩) n n, Value.slice (some ⟨ta, 0, none⟩) n n])) (by obtain ⟨bx, L, x, y, least, h2, h3, h5, h6, h7, h8, h9, h10, h11, h12, hM9⟩ := hM_; exact x_loadRowM (b := b10) (e := 94) hM9 (by simp) rfl rfl rfl) ⟨fun c h => Option.some.inj (Option.some.inj h), hM_⟩
    · intro D V w_ hd hi hM_
      refine goal_of [(7, Value.map (some bm))] rfl ⟨rfl, trivial⟩ rfl ?_
      exact run_val (Value.map (some bm)) (rfl) ⟨fun c h => Option.some.inj (Option.some.inj h), hM_⟩
    · intro D V w_ hd hi hM_
      refine goal_of [(29, Value.map (some bm))] rfl ⟨rfl, trivial⟩ rfl ?_
      obtain ⟨bx, L, x, y, least, h2, h3, h5, h6, h7, h8, h9, h10, h11, h12, hM9⟩ := hM_
      rw [show D 2 = false from hi] at hM9
      refine run_call (f := 52) (args := #[.map (some bm)]) (w' := w_) (x_call (vs := [.map (some bm)]) (enter52 _ _) rfl rfl) (keys_s bm w_) ?_
      rintro v_ w2_ ⟨bx2, rfl, hM2⟩
      exact ⟨untold rfl, bx2, L, x, y, least, fun _ => rfl, fun h => absurd (h3 h).1 (by rw [show D 2 = false from hi]; decide), h5, h6, h7, h8, h9, h10, h11, h12, Mem.ins1 (A := L) (Mem.call0 hM9 hM2)⟩
    · intro D V w_ hd hi hM_
      refine goal_of [(30, V 2)] rfl ⟨rfl, trivial⟩ rfl ?_
      obtain ⟨bx, L, x, y, least, h2, h3, h5, h6, h7, h8, h9, h10, h11, h12, hM9⟩ := hM_
      rw [h2 (hd 2 rfl)]
      rw [hd 2 rfl] at hM9
      refine run_call (f := 51) (args := #[.func (.func 71) #[] #[.pointer (some ⟨bx, 0, none⟩)]]) (w' := w_) (x_call (vs := [.func (.func 71) #[] #[.pointer (some ⟨bx, 0, none⟩)]]) (enter51 _ _) rfl rfl) (sorted_f bm bx n f gs w_ hG hF hn (hM9.holds.at_ (bm, mapO (gs.map Grp.ent) n) (by simp)) (hM9.holds.at_ (bx, .cells #[.map (some bm)] 87 (0, 0)) (by simp [cnd]))) ?_
      rintro v_ w2_ ⟨L2, ho2, hM2⟩
      exact ⟨untold rfl, bx, L2, x, y, least, h2, fun _ => ⟨hd 2 rfl, ho2⟩, h5, h6, h7, h8, h9, h10, h11, h12, by rw [show upd D 3 true 2 = true from hd 2 rfl]; exact Mem.call0 (Mem.right hM9) hM2⟩
    · intro D V w_ hd hi hM_
      refine goal_of [(2, Value.int .i64 limit)] rfl ⟨rfl, trivial⟩ rfl ?_
      exact run_val (Value.int .i64 limit) (rfl) ⟨fun c h => Option.some.inj (Option.some.inj h), hM_⟩
    · intro D V w_ hd hi hM_
      refine goal_of [(28, Value.agg (#[Value.slice (some ⟨tg, 0, none⟩) n n, Value.slice (some ⟨ta, 0, none⟩) n n])), (31, V 3), (32, Value.int .i64 limit)] rfl ⟨rfl, rfl, rfl, trivial⟩ rfl ?_
      obtain ⟨bx, L, x, y, least, h2, h3, h5, h6, h7, h8, h9, h10, h11, h12, hM9⟩ := hM_
      have ho := (h3 (hd 3 rfl)).2
      obtain ⟨A9, c9, hv9, hnc9, _, _⟩ := ho.slice
      rw [hv9] at ho
      rw [hv9]
      have hkl := keysOf_len n f
      have htab := (Mem.right (L := gs.flatMap Grp.L) (Mem.right (L := ([(b10, .cells (#[Value.slice (some ⟨tg, 0, none⟩) n n, Value.slice (some ⟨ta, 0, none⟩) n n]) 94 (0, 0)), (bm, mapO (gs.map Grp.ent) n)] : Hp)) (Mem.right (L := cnd (D 2) (bx, .cells #[.map (some bm)] 87 (0, 0))) (Mem.right (L := L) hM9)))).holds
      refine run_call (f := 50) (args := #[.agg #[Value.slice (some ⟨tg, 0, none⟩) n n, Value.slice (some ⟨ta, 0, none⟩) n n], .slice A9 (keysOf n f).length c9, .int .i64 limit]) (w' := w_) (x_call (vs := [.agg #[Value.slice (some ⟨tg, 0, none⟩) n n, Value.slice (some ⟨ta, 0, none⟩) n n], .slice A9 (keysOf n f).length c9, .int .i64 limit]) (enter50 _ _) rfl rfl) (nearest_s n tg ta rg ra g a A9 (keysOf n f).length c9 (keysOf n f) limit w_ htab (ho.rdI (Mem.left hM9).holds) (fun k hk => (mem_keysOf.1 hk).1) hnc9 (by omega) hl0 hl1 hn (fun b hb h0 => ho.out hM9 (keys_right (keys_right (keys_right hb))) h0)) ?_
      rintro v_ w2_ ⟨x2, y2, l2, rfl, hb2, hM2⟩
      exact ⟨untold rfl, bx, L, x2, y2, l2, h2, h3, fun _ => ⟨rfl, hb2⟩, fun h => absurd (h6 h).1 (by rw [show D 5 = false from hi]; decide), fun h => absurd (h7 h).1 (by rw [show D 5 = false from hi]; decide), fun h => absurd (h8 h).1 (by rw [show D 5 = false from hi]; decide), fun h => absurd (h9 h).1 (by rw [show D 5 = false from hi]; decide), fun h => absurd (h10 h).1 (by rw [show D 5 = false from hi]; decide), fun h => absurd (h11 h).1 (by rw [show D 5 = false from hi]; decide), fun h => absurd (h12 h).1 (by rw [show D 5 = false from hi]; decide), hM9.grow hM2.kept⟩
    · intro D V w_ hd hi hM_
      refine goal_of [(33, V 5)] rfl ⟨rfl, trivial⟩ rfl ?_
      obtain ⟨bx, L, x, y, least, h2, h3, h5, h6, h7, h8, h9, h10, h11, h12, hM9⟩ := hM_
      rw [(h5 (hd 5 rfl)).1]
      exact run_val _ rfl ⟨untold rfl, bx, L, x, y, least, h2, h3, h5, fun _ => ⟨hd 5 rfl, rfl⟩, h7, h8, h9, h10, h11, h12, hM9⟩
    · intro D V w_ hd hi hM_
      refine goal_of [(27, V 6)] rfl ⟨rfl, trivial⟩ rfl ?_
      obtain ⟨bx, L, x, y, least, h2, h3, h5, h6, h7, h8, h9, h10, h11, h12, hM9⟩ := hM_
      rw [(h6 (hd 6 rfl)).2]
      exact run_val _ rfl ⟨untold rfl, bx, L, x, y, least, h2, h3, h5, h6, fun _ => ⟨hd 5 rfl, rfl⟩, h8, h9, h10, h11, h12, hM9⟩
    · intro D V w_ hd hi hM_
      refine goal_of [(27, V 6)] rfl ⟨rfl, trivial⟩ rfl ?_
      obtain ⟨bx, L, x, y, least, h2, h3, h5, h6, h7, h8, h9, h10, h11, h12, hM9⟩ := hM_
      rw [(h6 (hd 6 rfl)).2]
      exact run_val _ rfl ⟨untold rfl, bx, L, x, y, least, h2, h3, h5, h6, h7, fun _ => ⟨hd 5 rfl, rfl⟩, h9, h10, h11, h12, hM9⟩
    · intro D V w_ hd hi hM_
      refine goal_of [(27, V 6)] rfl ⟨rfl, trivial⟩ rfl ?_
      obtain ⟨bx, L, x, y, least, h2, h3, h5, h6, h7, h8, h9, h10, h11, h12, hM9⟩ := hM_
      rw [(h6 (hd 6 rfl)).2]
      exact run_val _ rfl ⟨untold rfl, bx, L, x, y, least, h2, h3, h5, h6, h7, h8, fun _ => ⟨hd 5 rfl, rfl⟩, h10, h11, h12, hM9⟩
    · intro D V w_ hd hi hM_
      refine goal_of [(34, V 7)] rfl ⟨rfl, trivial⟩ rfl ?_
      obtain ⟨bx, L, x, y, least, h2, h3, h5, h6, h7, h8, h9, h10, h11, h12, hM9⟩ := hM_
      rw [(h7 (hd 7 rfl)).2]
      exact run_val _ rfl ⟨untold rfl, bx, L, x, y, least, h2, h3, h5, h6, h7, h8, h9, fun _ => ⟨hd 5 rfl, rfl⟩, h11, h12, hM9⟩
    · intro D V w_ hd hi hM_
      refine goal_of [(35, V 8)] rfl ⟨rfl, trivial⟩ rfl ?_
      obtain ⟨bx, L, x, y, least, h2, h3, h5, h6, h7, h8, h9, h10, h11, h12, hM9⟩ := hM_
      rw [(h8 (hd 8 rfl)).2]
      exact run_val _ rfl ⟨untold rfl, bx, L, x, y, least, h2, h3, h5, h6, h7, h8, h9, h10, fun _ => ⟨hd 5 rfl, rfl⟩, h12, hM9⟩
    · intro D V w_ hd hi hM_
      refine goal_of [(36, V 9)] rfl ⟨rfl, trivial⟩ rfl ?_
      obtain ⟨bx, L, x, y, least, h2, h3, h5, h6, h7, h8, h9, h10, h11, h12, hM9⟩ := hM_
      rw [(h9 (hd 9 rfl)).2]
      exact run_val _ rfl ⟨untold rfl, bx, L, x, y, least, h2, h3, h5, h6, h7, h8, h9, h10, h11, fun _ => ⟨hd 5 rfl, rfl⟩, hM9⟩
  intro D V w35 hall hM36
  obtain ⟨bx, Lx, x, y, least, _, _, h5, _, _, _, _, h10, h11, h12, hM9⟩ := hM36
  have hbest := (h5 (hall 5 (by decide))).2
  have e10 := (h10 (hall 10 (by decide))).2
  have e11 := (h11 (hall 11 (by decide))).2
  have e12 := (h12 (hall 12 (by decide))).2
  replace hM9 := hM9.right.right
  replace hM9 : Mem w No w35 ((b10, .cells (#[Value.slice (some ⟨tg, 0, none⟩) n n, Value.slice (some ⟨ta, 0, none⟩) n n]) 94 (0, 0)) :: (bm, mapO (gs.map Grp.ent) n) :: (gs.flatMap Grp.L ++ (TabH n tg ta rg ra g a))) := hM9
  refine ends_sub [(0, Value.slice Al n cl), (2, Value.int .i64 limit), (7, Value.map (some bm)), (8, Value.pointer (some ⟨b10, 0, none⟩)), (9, Value.int .i64 (x : Int)), (10, Value.int .i64 (y : Int)), (11, Value.bool (decide (least ≤ limit)))] ⟨rfl, rfl, rfl, rfl, congrArg some e10, congrArg some e11, congrArg some e12, trivial⟩ ?_
  refine e_then ?_
  refine k_seq ?_
  refine k_seq ?_
  refine k_region ?_
  refine r_val (v := Value.bool (decide (least ≤ limit))) (w' := w35) rfl rfl (rfl) ?_
  refine r_val (v := Value.bool (!(decide (least ≤ limit)))) (w' := w35) rfl rfl (rfl) ?_
  refine r_nil ?_
  refine ends_sub [(0, Value.slice Al n cl), (2, Value.int .i64 limit), (7, Value.map (some bm)), (8, Value.pointer (some ⟨b10, 0, none⟩)), (9, Value.int .i64 (x : Int)), (10, Value.int .i64 (y : Int)), (38, Value.bool (!(decide (least ≤ limit))))] ⟨rfl, rfl, rfl, rfl, rfl, rfl, rfl, trivial⟩ ?_
  refine e_then ?_
  refine k_cond rfl rfl (fun hs => ?_) (fun hs => ?_)
  · try simp only [decide_eq_true_eq, decide_eq_false_iff_not, Bool.and_eq_true, Bool.or_eq_true, Bool.or_eq_false_iff, Bool.not_eq_true', Bool.not_eq_false', beq_iff_eq, bne_iff_ne, beq_eq_false_iff_ne, bne_eq_false_iff_eq, Int.not_lt, Int.not_le, ne_eq, Bool.not_eq_true, Bool.not_eq_false] at hs
    refine k_exit ?_
    refine e_then_exit ?_
    refine e_blk_ne (by decide) ?_
    refine e_loop_exit ?_
    refine e_blk_exit ?_
    refine e_then ?_
    refine k_seq ?_
    refine k_region ?_
    have hstop : Stop l n ns limit f := ⟨g, a, x, y, least, hT, hbest, by omega⟩
    refine r_val (v := Value.slice none 0 0) (w' := w35) rfl rfl (rfl) ?_
    refine r_nil ?_
    refine ends_sub [(0, Value.slice Al n cl), (7, Value.map (some bm)), (12, Value.slice none 0 0)] ⟨rfl, rfl, rfl, trivial⟩ ?_
    refine e_then ?_
    refine k_seq ?_
    refine k_seq ?_
    refine k_region ?_
    refine r_val (v := Value.map (some bm)) (w' := w35) rfl rfl (rfl) ?_
    refine r_call (f := 52) (args := #[Value.map (some bm)]) (w' := w35) rfl rfl (x_call (vs := [Value.map (some bm)]) (enter52 _ _) rfl rfl) (keys_s bm w35) ?_
    rintro v_ w37 ⟨bx2, rfl, hM38⟩
    replace hM38 : Mem w No w37 ((bx2, .cells #[Value.map (some bm)] 87 (0, 0)) :: (b10, .cells (#[Value.slice (some ⟨tg, 0, none⟩) n n, Value.slice (some ⟨ta, 0, none⟩) n n]) 94 (0, 0)) :: (bm, mapO (gs.map Grp.ent) n) :: (gs.flatMap Grp.L ++ (TabH n tg ta rg ra g a))) := Mem.call0 hM9 hM38
    refine r_call (f := 51) (args := #[Value.func (.func 71) #[] #[Value.pointer (some ⟨bx2, 0, none⟩)]]) (w' := w37) rfl rfl (x_call (vs := [Value.func (.func 71) #[] #[Value.pointer (some ⟨bx2, 0, none⟩)]]) (enter51 _ _) rfl rfl) (sorted_f bm bx2 n f gs w37 hG hF hn (hM38.get 2 rfl) (hM38.get 0 rfl)) ?_
    rintro v_ w39 ⟨Lk, hok, hM40⟩
    replace hM40 : Mem w No w39 ((bx2, .cells #[Value.map (some bm)] 87 (0, 0)) :: (b10, .cells (#[Value.slice (some ⟨tg, 0, none⟩) n n, Value.slice (some ⟨ta, 0, none⟩) n n]) 94 (0, 0)) :: (bm, mapO (gs.map Grp.ent) n) :: (Lk ++ (gs.flatMap Grp.L ++ (TabH n tg ta rg ra g a)))) := (Mem.call0 hM38 hM40).perm (List.perm_append_comm_assoc Lk ([(bx2, .cells #[Value.map (some bm)] 87 (0, 0)), (b10, .cells (#[Value.slice (some ⟨tg, 0, none⟩) n n, Value.slice (some ⟨ta, 0, none⟩) n n]) 94 (0, 0)), (bm, mapO (gs.map Grp.ent) n)] : Hp) (gs.flatMap Grp.L ++ (TabH n tg ta rg ra g a)))
    obtain ⟨Ak, ck, rfl, hnck, hckm, hAk⟩ := hok.slice
    have hkl := keysOf_len n f
    refine r_val (v := Value.int .i64 ((keysOf n f).length : Int)) (w' := w39) rfl rfl (x_len rfl rfl) ?_
    refine r_val (v := Value.int .i64 0) (w' := w39) rfl rfl (rfl) ?_
    refine r_nil ?_
    refine ends_sub [(0, Value.slice Al n cl), (7, Value.map (some bm)), (12, Value.slice none 0 0), (49, Value.slice Ak ((keysOf n f).length) ck), (50, Value.int .i64 ((keysOf n f).length : Int)), (51, Value.int .i64 0)] ⟨rfl, rfl, rfl, rfl, rfl, rfl, trivial⟩ ?_
    refine e_then ?_
    refine k_block ?_
    refine k_loop (σ := Nat × Value × Hp × List ORow) (fun ⟨i, vo, Lo, rows⟩ => [(0, Value.slice Al n cl), (7, Value.map (some bm)), (12, vo), (49, Value.slice Ak ((keysOf n f).length) ck), (50, Value.int .i64 ((keysOf n f).length : Int)), (51, Value.int .i64 (i : Int))]) (fun ⟨i, vo, Lo, rows⟩ w_ => Mem w No w_ ((bm, mapO (gs.map Grp.ent) n) :: (Lo ++ (rows.flatMap ORow.L ++ (Lk ++ (gs.flatMap Grp.L ++ (TabH n tg ta rg ra g a)))))) ∧ i ≤ (keysOf n f).length ∧ rows.length = i ∧ OwnR tInts 1 vo i (rows.map rowV) Lo ∧ (∀ r ∈ rows, r.ok) ∧ rows.map ORow.xs = ((keysOf n f).take i).map (idsAt l n f)) (fun ⟨i, vo, Lo, rows⟩ => (keysOf n f).length - i) (0, .slice none 0 0, [], []) ⟨rfl, rfl, rfl, rfl, rfl, rfl, trivial⟩ ⟨(hM40.pickT [(bx2, .cells #[Value.map (some bm)] 87 (0, 0)), (b10, .cells (#[Value.slice (some ⟨tg, 0, none⟩) n n, Value.slice (some ⟨ta, 0, none⟩) n n]) 94 (0, 0)), (bm, mapO (gs.map Grp.ent) n)] (Lk ++ (gs.flatMap Grp.L ++ (TabH n tg ta rg ra g a))) rfl [2] _ (by decide) rfl), Nat.zero_le _, rfl, OwnR.nil _ _, by simp, by simp⟩ ?_
    rintro ⟨i, vo, Lo, rows⟩ w41 ⟨hM42, hi, hrl, hro, hrk, hrx⟩
    refine wpK_sub [(0, Value.slice Al n cl), (7, Value.map (some bm)), (12, vo), (49, Value.slice Ak ((keysOf n f).length) ck), (50, Value.int .i64 ((keysOf n f).length : Int)), (51, Value.int .i64 (i : Int))] ⟨rfl, rfl, rfl, rfl, rfl, rfl, trivial⟩ ?_
    refine k_seq ?_
    refine k_region ?_
    refine r_val (v := Value.bool (decide ((i : Int) < ((keysOf n f).length : Int)))) (w' := w41) rfl rfl (rfl) ?_
    refine r_nil ?_
    refine ends_sub [(0, Value.slice Al n cl), (7, Value.map (some bm)), (12, vo), (49, Value.slice Ak ((keysOf n f).length) ck), (50, Value.int .i64 ((keysOf n f).length : Int)), (51, Value.int .i64 (i : Int)), (52, Value.bool (decide ((i : Int) < ((keysOf n f).length : Int))))] ⟨rfl, rfl, rfl, rfl, rfl, rfl, rfl, trivial⟩ ?_
    refine e_then ?_
    refine k_seq ?_
    refine k_cond rfl rfl (fun h => ?_) (fun h => ?_)
    · try simp only [decide_eq_true_eq, decide_eq_false_iff_not, Bool.and_eq_true, Bool.or_eq_true, Bool.or_eq_false_iff, Bool.not_eq_true', Bool.not_eq_false', beq_iff_eq, bne_iff_ne, beq_eq_false_iff_ne, bne_eq_false_iff_eq, Int.not_lt, Int.not_le, ne_eq, Bool.not_eq_true, Bool.not_eq_false] at h
      refine k_skip ?_
      refine e_then ?_
      refine k_seq ?_
      refine k_block ?_
      refine k_seq ?_
      refine k_region ?_
      obtain ⟨x, hx⟩ : ∃ x, (keysOf n f)[i]? = some x := ⟨(keysOf n f)[i]'(by omega), by simp⟩
      have hxk := mem_keysOf.1 (List.mem_of_getElem? hx)
      have hkr := hok.rdI (w := w41) (Mem.left (L := Lk) (Mem.right (L := rows.flatMap ORow.L) (Mem.right (L := Lo) hM42.tail))).holds
      refine r_val (v := Value.pointer (some ((adr Ak).add (i * 1)))) (w' := w41) rfl rfl (x_indexAddrN (i := i) (sz := 1) hkr.here (by omega) rfl rfl rfl rfl) ?_
      refine r_val (v := Value.int .i64 (x : Int)) (w' := w41) rfl rfl (x_loadEInt hkr (natsI_get hx) rfl rfl) ?_
      obtain ⟨q, hq, hqk⟩ := hF.has hxk.1
      rw [hxk.2] at hqk
      obtain ⟨Aq, cq, hqv, hnq, hcq, hAq⟩ := (hG.row q hq).slice
      have hqx := hF.row hq hqk
      have hml : (members n f x).length = q.xs.length := by rw [hqx]; simp [membersI]
      have hql := hF.short hn q hq
      refine r_val (v := Value.int .i64 (x : Int)) (w' := w41) rfl rfl (rfl) ?_
      refine r_nil ?_
      refine ends_sub [(0, Value.slice Al n cl), (7, Value.map (some bm)), (12, vo), (14, Value.int .i64 (x : Int)), (49, Value.slice Ak ((keysOf n f).length) ck), (50, Value.int .i64 ((keysOf n f).length : Int)), (51, Value.int .i64 (i : Int))] ⟨rfl, rfl, rfl, rfl, rfl, rfl, rfl, trivial⟩ ?_
      refine e_then ?_
      refine k_seq ?_
      refine k_region ?_
      refine r_val (v := Value.slice none 0 0) (w' := w41) rfl rfl (rfl) ?_
      refine r_nil ?_
      refine ends_sub [(0, Value.slice Al n cl), (7, Value.map (some bm)), (12, vo), (14, Value.int .i64 (x : Int)), (15, Value.slice none 0 0), (49, Value.slice Ak ((keysOf n f).length) ck), (50, Value.int .i64 ((keysOf n f).length : Int)), (51, Value.int .i64 (i : Int))] ⟨rfl, rfl, rfl, rfl, rfl, rfl, rfl, rfl, trivial⟩ ?_
      refine e_then ?_
      refine k_seq ?_
      refine k_seq ?_
      refine k_region ?_
      refine r_val (v := Value.map (some bm)) (w' := w41) rfl rfl (rfl) ?_
      refine r_val (v := Value.int .i64 (x : Int)) (w' := w41) rfl rfl (rfl) ?_
      refine r_val (v := Value.slice Aq q.xs.length cq) (w' := w41) rfl rfl (by rw [← hqv]; exact x_lookupS (hM42.get 0 rfl) (mget_some (List.mem_map.2 ⟨q, hq, rfl⟩) hqk (ents_knd hG)) rfl rfl rfl rfl rfl) ?_
      refine r_val (v := Value.int .i64 (q.xs.length : Int)) (w' := w41) rfl rfl (x_len rfl rfl) ?_
      refine r_val (v := Value.int .i64 0) (w' := w41) rfl rfl (rfl) ?_
      refine r_nil ?_
      refine ends_sub [(0, Value.slice Al n cl), (7, Value.map (some bm)), (12, vo), (15, Value.slice none 0 0), (49, Value.slice Ak ((keysOf n f).length) ck), (50, Value.int .i64 ((keysOf n f).length : Int)), (51, Value.int .i64 (i : Int)), (57, Value.slice Aq q.xs.length cq), (58, Value.int .i64 (q.xs.length : Int)), (59, Value.int .i64 0)] ⟨rfl, rfl, rfl, rfl, rfl, rfl, rfl, rfl, rfl, rfl, trivial⟩ ?_
      refine e_then ?_
      refine k_block ?_
      refine k_loop (σ := Nat × Value × Hp) (fun ⟨k, vi, Li⟩ => [(0, Value.slice Al n cl), (7, Value.map (some bm)), (12, vo), (15, vi), (49, Value.slice Ak ((keysOf n f).length) ck), (50, Value.int .i64 ((keysOf n f).length : Int)), (51, Value.int .i64 (i : Int)), (57, Value.slice Aq q.xs.length cq), (58, Value.int .i64 (q.xs.length : Int)), (59, Value.int .i64 (k : Int))]) (fun ⟨k, vi, Li⟩ w_ => Mem w No w_ ((bm, mapO (gs.map Grp.ent) n) :: (Li ++ (Lo ++ (rows.flatMap ORow.L ++ (Lk ++ (gs.flatMap Grp.L ++ (TabH n tg ta rg ra g a))))))) ∧ k ≤ q.xs.length ∧ OwnR tInt 1 vi k ((((members n f x).take k).map fun p => idOf (l.getD p [])).map (.int .i64)) Li) (fun ⟨k, vi, Li⟩ => q.xs.length - k) (0, .slice none 0 0, []) ⟨rfl, rfl, rfl, rfl, rfl, rfl, rfl, rfl, rfl, rfl, trivial⟩ ⟨hM42, Nat.zero_le _, OwnR.nil _ _⟩ ?_
      rintro ⟨k, vi, Li⟩ w43 ⟨hM44, hk, hri⟩
      refine wpK_sub [(0, Value.slice Al n cl), (7, Value.map (some bm)), (12, vo), (15, vi), (49, Value.slice Ak ((keysOf n f).length) ck), (50, Value.int .i64 ((keysOf n f).length : Int)), (51, Value.int .i64 (i : Int)), (57, Value.slice Aq q.xs.length cq), (58, Value.int .i64 (q.xs.length : Int)), (59, Value.int .i64 (k : Int))] ⟨rfl, rfl, rfl, rfl, rfl, rfl, rfl, rfl, rfl, rfl, trivial⟩ ?_
      refine k_seq ?_
      refine k_region ?_
      refine r_val (v := Value.bool (decide ((k : Int) < (q.xs.length : Int)))) (w' := w43) rfl rfl (rfl) ?_
      refine r_nil ?_
      refine ends_sub [(0, Value.slice Al n cl), (7, Value.map (some bm)), (12, vo), (15, vi), (49, Value.slice Ak ((keysOf n f).length) ck), (50, Value.int .i64 ((keysOf n f).length : Int)), (51, Value.int .i64 (i : Int)), (57, Value.slice Aq q.xs.length cq), (58, Value.int .i64 (q.xs.length : Int)), (59, Value.int .i64 (k : Int)), (60, Value.bool (decide ((k : Int) < (q.xs.length : Int))))] ⟨rfl, rfl, rfl, rfl, rfl, rfl, rfl, rfl, rfl, rfl, rfl, trivial⟩ ?_
      refine e_then ?_
      refine k_seq ?_
      refine k_cond rfl rfl (fun h2 => ?_) (fun h2 => ?_)
      · try simp only [decide_eq_true_eq, decide_eq_false_iff_not, Bool.and_eq_true, Bool.or_eq_true, Bool.or_eq_false_iff, Bool.not_eq_true', Bool.not_eq_false', beq_iff_eq, bne_iff_ne, beq_eq_false_iff_ne, bne_eq_false_iff_eq, Int.not_lt, Int.not_le, ne_eq, Bool.not_eq_true, Bool.not_eq_false] at h2
        refine k_skip ?_
        refine e_then ?_
        refine k_seq ?_
        refine k_block ?_
        refine k_seq ?_
        refine k_region ?_
        obtain ⟨p, hp⟩ : ∃ p, (members n f x)[k]? = some p := ⟨(members n f x)[k]'(by omega), by simp⟩
        have hpn := (mem_members.1 (List.mem_of_getElem? hp)).1
        obtain ⟨z, hz⟩ : ∃ z, l[p]? = some z := ⟨l[p]'(by omega), by simp⟩
        have hz14 : z.length = 14 := by have := hl.size' hz; simpa using this
        have hqr := (hqv ▸ hG.row q hq).rdI (w := w43) (flat_row (Mem.left (L := gs.flatMap Grp.L) (Mem.right (L := Lk) (Mem.right (L := rows.flatMap ORow.L) (Mem.right (L := Lo) (Mem.right (L := Li) hM44.tail))))).holds hq)
        refine r_val (v := Value.pointer (some ((adr Aq).add (k * 1)))) (w' := w43) rfl rfl (x_indexAddrN (i := k) (sz := 1) hqr.here (by omega) rfl rfl rfl rfl) ?_
        refine r_val (v := Value.int .i64 (p : Int)) (w' := w43) rfl rfl (x_loadEInt hqr (k := k) (e := (p : Int)) (by rw [hqx]; exact members_get hp) rfl rfl) ?_
        refine r_val (v := Value.int .i64 (p : Int)) (w' := w43) rfl rfl (rfl) ?_
        refine r_nil ?_
        refine ends_sub [(0, Value.slice Al n cl), (7, Value.map (some bm)), (12, vo), (15, vi), (17, Value.int .i64 (p : Int)), (49, Value.slice Ak ((keysOf n f).length) ck), (50, Value.int .i64 ((keysOf n f).length : Int)), (51, Value.int .i64 (i : Int)), (57, Value.slice Aq q.xs.length cq), (58, Value.int .i64 (q.xs.length : Int)), (59, Value.int .i64 (k : Int))] ⟨rfl, rfl, rfl, rfl, rfl, rfl, rfl, rfl, rfl, rfl, rfl, trivial⟩ ?_
        refine e_then ?_
        refine k_region ?_
        refine r_val (v := vi) (w' := w43) rfl rfl (rfl) ?_
        refine r_val (v := Value.slice Al n cl) (w' := w43) rfl rfl (rfl) ?_
        refine r_val (v := Value.int .i64 (p : Int)) (w' := w43) rfl rfl (rfl) ?_
        refine r_val (v := Value.pointer (some ((adr Al).add (p * 14)))) (w' := w43) rfl rfl (x_indexAddrN (i := p) (sz := 14) hl.here (by omega) rfl rfl rfl rfl) ?_
        refine r_val (v := Value.pointer (some ((adr Al).add (p * 14)))) (w' := w43) rfl rfl (rfl) ?_
        refine r_val (v := Value.int .i64 (idOf z)) (w' := w43) rfl rfl (x_load ((hl.up hM44).first hz (intsE_0 (by omega))) rfl rfl) ?_
        refine r_new (fun b => .slice (some ⟨b, 0, none⟩) 1 1) (.cells #[Value.int .i64 (idOf z)] 3 (0, 0)) hM44 (by kernel_rfl) rfl rfl ?_
        intro b47 w45 hM46 hb47
        replace hM46 : Mem w No w45 ((b47, .cells #[Value.int .i64 (idOf z)] 3 (0, 0)) :: (bm, mapO (gs.map Grp.ent) n) :: (Li ++ (Lo ++ (rows.flatMap ORow.L ++ (Lk ++ (gs.flatMap Grp.L ++ (TabH n tg ta rg ra g a))))))) := hM46
        refine r_append (bytes := 8) (z := .int .i64 0) (A := some ⟨b47, 0, none⟩) (m := 1) (c := 1) (news := [Value.int .i64 (idOf z)]) hri (hM46.perm (List.perm_append_comm_assoc ([(b47, .cells #[Value.int .i64 (idOf z)] 3 (0, 0)), (bm, mapO (gs.map Grp.ent) n)] : Hp) Li (Lo ++ (rows.flatMap ORow.L ++ (Lk ++ (gs.flatMap Grp.L ++ (TabH n tg ta rg ra g a))))))) (fun _ => rfl) (rfl) (hM46.cells 0 rfl) (by simp [Value.oneCell']) (by omega) (by kernel_rfl) (by kernel_rfl) rfl (by decide) (by decide) rfl rfl rfl ?_
        intro v8 L8 w48 hr8 hM49
        replace hM49 := (hM49).perm (List.perm_append_comm_assoc L8 ([(b47, .cells #[Value.int .i64 (idOf z)] 3 (0, 0)), (bm, mapO (gs.map Grp.ent) n)] : Hp) (Lo ++ (rows.flatMap ORow.L ++ (Lk ++ (gs.flatMap Grp.L ++ (TabH n tg ta rg ra g a))))))
        have hone_v8 := hr8.one
        replace hM49 : Mem w No w48 ((b47, .cells #[Value.int .i64 (idOf z)] 3 (0, 0)) :: (bm, mapO (gs.map Grp.ent) n) :: (L8 ++ (Lo ++ (rows.flatMap ORow.L ++ (Lk ++ (gs.flatMap Grp.L ++ (TabH n tg ta rg ra g a))))))) := hM49
        refine r_val (v := v8) (w' := w48) rfl rfl (rfl) ?_
        refine r_nil ?_
        refine ends_sub [(0, Value.slice Al n cl), (7, Value.map (some bm)), (12, vo), (15, v8), (49, Value.slice Ak ((keysOf n f).length) ck), (50, Value.int .i64 ((keysOf n f).length : Int)), (51, Value.int .i64 (i : Int)), (57, Value.slice Aq q.xs.length cq), (58, Value.int .i64 (q.xs.length : Int)), (59, Value.int .i64 (k : Int))] ⟨rfl, rfl, rfl, rfl, rfl, rfl, rfl, rfl, rfl, rfl, trivial⟩ ?_
        refine e_blk ?_
        refine e_then ?_
        refine k_region ?_
        refine r_val (v := Value.int .i64 ((k : Int) + 1)) (w' := w48) rfl rfl (x_addE rfl (by omega) (by omega) rfl rfl) ?_
        refine r_val (v := Value.int .i64 ((k : Int) + 1)) (w' := w48) rfl rfl (rfl) ?_
        refine r_nil ?_
        refine ends_sub [(0, Value.slice Al n cl), (7, Value.map (some bm)), (12, vo), (15, v8), (49, Value.slice Ak ((keysOf n f).length) ck), (50, Value.int .i64 ((keysOf n f).length : Int)), (51, Value.int .i64 (i : Int)), (57, Value.slice Aq q.xs.length cq), (58, Value.int .i64 (q.xs.length : Int)), (59, Value.int .i64 ((k : Int) + 1))] ⟨rfl, rfl, rfl, rfl, rfl, rfl, rfl, rfl, rfl, rfl, trivial⟩ ?_
        refine e_loop (k + 1, v8, L8) ⟨rfl, rfl, rfl, rfl, rfl, rfl, rfl, rfl, rfl, rfl, trivial⟩ ?_ ?_
        · exact ⟨(hM49.pickT [(b47, .cells #[Value.int .i64 (idOf z)] 3 (0, 0)), (bm, mapO (gs.map Grp.ent) n)] (L8 ++ (Lo ++ (rows.flatMap ORow.L ++ (Lk ++ (gs.flatMap Grp.L ++ (TabH n tg ta rg ra g a)))))) rfl [1] _ (by decide) rfl), by omega, ids_snoc hp hz hr8⟩
        · (try dsimp only); omega
      · try simp only [decide_eq_true_eq, decide_eq_false_iff_not, Bool.and_eq_true, Bool.or_eq_true, Bool.or_eq_false_iff, Bool.not_eq_true', Bool.not_eq_false', beq_iff_eq, bne_iff_ne, beq_eq_false_iff_ne, bne_eq_false_iff_eq, Int.not_lt, Int.not_le, ne_eq, Bool.not_eq_true, Bool.not_eq_false] at h2
        refine k_exit ?_
        refine e_then_exit ?_
        refine e_loop_exit ?_
        refine e_blk_exit ?_
        refine e_then ?_
        refine k_region ?_
        have hkn : k = q.xs.length := by omega
        obtain ⟨A9, c9, hv9, hnc9, hcm9, hA9⟩ := hri.slice
        have hids : ((members n f x).take k).map (fun p => idOf (l.getD p [])) = idsAt l n f x := by rw [List.take_of_length_le (by omega)]; rfl
        rw [hids, hv9] at hri
        have hil : (idsAt l n f x).length = k := by have h9 := hri.len; simpa using h9
        refine wpR_sub [(0, Value.slice Al n cl), (7, Value.map (some bm)), (12, vo), (15, Value.slice A9 k c9), (49, Value.slice Ak ((keysOf n f).length) ck), (50, Value.int .i64 ((keysOf n f).length : Int)), (51, Value.int .i64 (i : Int)), (57, Value.slice Aq q.xs.length cq), (58, Value.int .i64 (q.xs.length : Int)), (59, Value.int .i64 (k : Int)), (60, Value.bool (decide ((k : Int) < (q.xs.length : Int))))] ⟨rfl, rfl, rfl, congrArg some hv9, rfl, rfl, rfl, rfl, rfl, rfl, rfl, trivial⟩ ?_
        refine r_val (v := vo) (w' := w43) rfl rfl (rfl) ?_
        refine r_val (v := Value.slice A9 k c9) (w' := w43) rfl rfl (rfl) ?_
        refine r_call (f := 55) (args := #[Value.slice A9 k c9]) (w' := w43) rfl rfl (x_call (vs := [Value.slice A9 k c9]) (enter55 _ _) rfl rfl) (clip_s A9 k c9 w43 hnc9) ?_
        rintro v_ w50 ⟨rfl, hM51⟩
        replace hM51 := hM44.grow hM51.kept
        have hM52 : Mem w No w50 ((bm, mapO (gs.map Grp.ent) n) :: (Lo ++ (Li ++ (rows.flatMap ORow.L ++ (Lk ++ (gs.flatMap Grp.L ++ (TabH n tg ta rg ra g a))))))) := hM51.perm (List.Perm.append_left ([(bm, mapO (gs.map Grp.ent) n)] : Hp) (List.perm_append_comm_assoc Li Lo (rows.flatMap ORow.L ++ (Lk ++ (gs.flatMap Grp.L ++ (TabH n tg ta rg ra g a))))))
        refine r_new (fun b => .slice (some ⟨b, 0, none⟩) 1 1) (.cells #[Value.slice A9 k k] 30 (0, 0)) hM52 (by kernel_rfl) rfl rfl ?_
        intro b55 w53 hM54 hb55
        replace hM54 : Mem w No w53 ((b55, .cells #[Value.slice A9 k k] 30 (0, 0)) :: (bm, mapO (gs.map Grp.ent) n) :: (Lo ++ (Li ++ (rows.flatMap ORow.L ++ (Lk ++ (gs.flatMap Grp.L ++ (TabH n tg ta rg ra g a))))))) := hM54
        refine r_append (bytes := 24) (z := .slice none 0 0) (A := some ⟨b55, 0, none⟩) (m := 1) (c := 1) (news := [Value.slice A9 k k]) hro (hM54.perm (List.perm_append_comm_assoc ([(b55, .cells #[Value.slice A9 k k] 30 (0, 0)), (bm, mapO (gs.map Grp.ent) n)] : Hp) Lo (Li ++ (rows.flatMap ORow.L ++ (Lk ++ (gs.flatMap Grp.L ++ (TabH n tg ta rg ra g a))))))) (fun _ => rfl) (rfl) (hM54.cells 0 rfl) (by simp [Value.oneCell']) (by omega) (by kernel_rfl) (by kernel_rfl) rfl (by decide) (by decide) rfl rfl rfl ?_
        intro v7 L7 w56 hr7 hM57
        replace hM57 := (hM57).perm (List.perm_append_comm_assoc L7 ([(b55, .cells #[Value.slice A9 k k] 30 (0, 0)), (bm, mapO (gs.map Grp.ent) n)] : Hp) (Li ++ (rows.flatMap ORow.L ++ (Lk ++ (gs.flatMap Grp.L ++ (TabH n tg ta rg ra g a))))))
        have hone_v7 := hr7.one
        replace hM57 : Mem w No w56 ((b55, .cells #[Value.slice A9 k k] 30 (0, 0)) :: (bm, mapO (gs.map Grp.ent) n) :: (L7 ++ (Li ++ (rows.flatMap ORow.L ++ (Lk ++ (gs.flatMap Grp.L ++ (TabH n tg ta rg ra g a))))))) := hM57
        refine r_val (v := v7) (w' := w56) rfl rfl (rfl) ?_
        refine r_nil ?_
        refine ends_sub [(0, Value.slice Al n cl), (7, Value.map (some bm)), (12, v7), (49, Value.slice Ak ((keysOf n f).length) ck), (50, Value.int .i64 ((keysOf n f).length : Int)), (51, Value.int .i64 (i : Int))] ⟨rfl, rfl, rfl, rfl, rfl, rfl, trivial⟩ ?_
        refine e_blk ?_
        refine e_then ?_
        refine k_region ?_
        refine r_val (v := Value.int .i64 ((i : Int) + 1)) (w' := w56) rfl rfl (x_addE rfl (by omega) (by omega) rfl rfl) ?_
        refine r_val (v := Value.int .i64 ((i : Int) + 1)) (w' := w56) rfl rfl (rfl) ?_
        refine r_nil ?_
        refine ends_sub [(0, Value.slice Al n cl), (7, Value.map (some bm)), (12, v7), (49, Value.slice Ak ((keysOf n f).length) ck), (50, Value.int .i64 ((keysOf n f).length : Int)), (51, Value.int .i64 ((i : Int) + 1))] ⟨rfl, rfl, rfl, rfl, rfl, rfl, trivial⟩ ?_
        refine e_loop (i + 1, v7, L7, rows ++ [⟨A9, idsAt l n f x, Li⟩]) ⟨rfl, rfl, rfl, rfl, rfl, rfl, trivial⟩ ?_ ?_
        · refine ⟨by rw [rows_flat]; exact Mem.rowsnoc (hM57.pickT [(b55, .cells #[Value.slice A9 k k] 30 (0, 0)), (bm, mapO (gs.map Grp.ent) n)] (L7 ++ (Li ++ (rows.flatMap ORow.L ++ (Lk ++ (gs.flatMap Grp.L ++ (TabH n tg ta rg ra g a)))))) rfl [1] _ (by decide) rfl), by omega, by simp [hrl], ?_, ?_, ?_⟩
          · rw [List.map_append]; simpa [rowV, hil] using hr7
          · intro r hr; rcases List.mem_append.1 hr with hr | hr
            · exact hrk r hr
            · simp at hr; subst hr; exact ⟨c9, by simpa [hil] using hri⟩
          · rw [List.map_append, hrx, take_snoc' hx, List.map_append]; rfl
        · (try dsimp only); omega
    · try simp only [decide_eq_true_eq, decide_eq_false_iff_not, Bool.and_eq_true, Bool.or_eq_true, Bool.or_eq_false_iff, Bool.not_eq_true', Bool.not_eq_false', beq_iff_eq, bne_iff_ne, beq_eq_false_iff_ne, bne_eq_false_iff_eq, Int.not_lt, Int.not_le, ne_eq, Bool.not_eq_true, Bool.not_eq_false] at h
      refine k_exit ?_
      refine e_then_exit ?_
      refine e_loop_exit ?_
      refine e_blk_exit ?_
      refine e_then ?_
      refine k_seq ?_
      refine k_region ?_
      have hin : i = (keysOf n f).length := by omega
      obtain ⟨Ao, co, hvo, hnco, hcmo, hAo⟩ := hro.slice
      refine wpR_sub [(0, Value.slice Al n cl), (7, Value.map (some bm)), (12, Value.slice Ao i co), (49, Value.slice Ak ((keysOf n f).length) ck), (50, Value.int .i64 ((keysOf n f).length : Int)), (51, Value.int .i64 (i : Int)), (52, Value.bool (decide ((i : Int) < ((keysOf n f).length : Int))))] ⟨rfl, rfl, congrArg some hvo, rfl, rfl, rfl, rfl, trivial⟩ ?_
      refine r_val (v := Value.slice Ao i co) (w' := w41) rfl rfl (rfl) ?_
      refine r_call (f := 56) (args := #[Value.slice Ao i co]) (w' := w41) rfl rfl (x_call (vs := [Value.slice Ao i co]) (enter56 _ _) rfl rfl) (clips_s Ao i co w41 hnco) ?_
      rintro v_ w58 ⟨rfl, hM59⟩
      replace hM59 := hM42.grow hM59.kept
      refine r_val (v := Value.slice Ao i i) (w' := w58) rfl rfl (rfl) ?_
      refine r_nil ?_
      refine ends_sub [(6, Value.slice Ao i i)] ⟨rfl, trivial⟩ ?_
      refine e_then ?_
      refine k_ret ?_
      refine e_ret1 rfl rfl ?_
      rw [hvo] at hro
      subst hrl
      exact ⟨_, rfl, f, ⟨hR, hstop, hF.le, hF.idem⟩, Ao, rows, rfl, by rw [hrx, List.take_of_length_le (by omega)]; rfl, co, Lo, hro, hrk, Mem.left (L := Lo ++ rows.flatMap ORow.L) (L' := (Lk ++ (gs.flatMap Grp.L ++ (TabH n tg ta rg ra g a)))) (by rw [List.append_assoc]; exact hM59.tail)⟩
  · try simp only [decide_eq_true_eq, decide_eq_false_iff_not, Bool.and_eq_true, Bool.or_eq_true, Bool.or_eq_false_iff, Bool.not_eq_true', Bool.not_eq_false', beq_iff_eq, bne_iff_ne, beq_eq_false_iff_ne, bne_eq_false_iff_eq, Int.not_lt, Int.not_le, ne_eq, Bool.not_eq_true, Bool.not_eq_false] at hs
    refine k_skip ?_
    refine e_then ?_
    refine k_seq ?_
    refine k_region ?_
    obtain ⟨hxy, hx, hy⟩ := best_keys hbest hs
    refine r_val (v := Value.map (some bm)) (w' := w35) rfl rfl (rfl) ?_
    refine r_val (v := Value.int .i64 (x : Int)) (w' := w35) rfl rfl (rfl) ?_
    refine r_val (v := Value.int .i64 (y : Int)) (w' := w35) rfl rfl (rfl) ?_
    refine r_call (f := 53) (args := #[Value.map (some bm), Value.int .i64 (x : Int), Value.int .i64 (y : Int)]) (w' := w35) rfl rfl (x_call (vs := [Value.map (some bm), Value.int .i64 (x : Int), Value.int .i64 (y : Int)]) (enter53 _ _) rfl rfl) (join_k bm gs n hG f hF hn x y hx hy w35 (Mem.left (L := GL bm gs n) hM9.tail).holds) ?_
    rintro v_ w60 ⟨rfl, gs2, ⟨hG2, hF2⟩, hM61⟩
    replace hM61 : Mem w No w60 ((b10, .cells (#[Value.slice (some ⟨tg, 0, none⟩) n n, Value.slice (some ⟨ta, 0, none⟩) n n]) 94 (0, 0)) :: (bm, mapO (gs2.map Grp.ent) n) :: (gs2.flatMap Grp.L ++ (TabH n tg ta rg ra g a))) := (Mem.call (L1 := GL bm gs n) (hM9.perm (List.perm_middle (l₁ := GL bm gs n) (l₂ := (TabH n tg ta rg ra g a))).symm) hM61).perm (List.perm_middle (l₁ := GL bm gs2 n) (l₂ := (TabH n tg ta rg ra g a)))
    refine r_nil ?_
    refine ends_sub [(0, Value.slice Al n cl), (2, Value.int .i64 limit), (7, Value.map (some bm)), (8, Value.pointer (some ⟨b10, 0, none⟩)), (9, Value.int .i64 (x : Int)), (10, Value.int .i64 (y : Int))] ⟨rfl, rfl, rfl, rfl, rfl, rfl, trivial⟩ ?_
    refine e_then ?_
    refine k_region ?_
    refine r_val (v := Value.agg (#[Value.slice (some ⟨tg, 0, none⟩) n n, Value.slice (some ⟨ta, 0, none⟩) n n])) (w' := w60) rfl rfl (x_loadPart hM61 0 rfl (o := 0) (l := [Value.slice (some ⟨tg, 0, none⟩) n n, Value.slice (some ⟨ta, 0, none⟩) n n]) rfl rfl rfl rfl) ?_
    refine r_val (v := Value.int .i64 (x : Int)) (w' := w60) rfl rfl (rfl) ?_
    refine r_val (v := Value.int .i64 (y : Int)) (w' := w60) rfl rfl (rfl) ?_
    refine r_call (f := 54) (args := #[Value.agg (#[Value.slice (some ⟨tg, 0, none⟩) n n, Value.slice (some ⟨ta, 0, none⟩) n n]), Value.int .i64 (x : Int), Value.int .i64 (y : Int)]) (w' := w60) rfl rfl (x_call (vs := [Value.agg (#[Value.slice (some ⟨tg, 0, none⟩) n n, Value.slice (some ⟨ta, 0, none⟩) n n]), Value.int .i64 (x : Int), Value.int .i64 (y : Int)]) (enter54 _ _) rfl rfl) (merge_s n tg ta rg ra g a x y w60 (Mem.right (L := gs2.flatMap Grp.L) (Mem.right (L := ([(b10, .cells (#[Value.slice (some ⟨tg, 0, none⟩) n n, Value.slice (some ⟨ta, 0, none⟩) n n]) 94 (0, 0)), (bm, mapO (gs2.map Grp.ent) n)] : Hp)) hM61)).holds hx.1 hy.1 hn) ?_
    rintro v_ w62 ⟨rfl, hM63⟩
    replace hM63 : Mem w No w62 ((b10, .cells (#[Value.slice (some ⟨tg, 0, none⟩) n n, Value.slice (some ⟨ta, 0, none⟩) n n]) 94 (0, 0)) :: (bm, mapO (gs2.map Grp.ent) n) :: (gs2.flatMap Grp.L ++ (TabH n tg ta rg ra (mgG x y g n) (mgA x y a n)))) := (Mem.call (L1 := (TabH n tg ta rg ra g a)) (L2 := ([(b10, .cells (#[Value.slice (some ⟨tg, 0, none⟩) n n, Value.slice (some ⟨ta, 0, none⟩) n n]) 94 (0, 0)), (bm, mapO (gs2.map Grp.ent) n)] : Hp) ++ gs2.flatMap Grp.L) (hM61.perm (List.perm_append_comm (l₁ := ([(b10, .cells (#[Value.slice (some ⟨tg, 0, none⟩) n n, Value.slice (some ⟨ta, 0, none⟩) n n]) 94 (0, 0)), (bm, mapO (gs2.map Grp.ent) n)] : Hp) ++ gs2.flatMap Grp.L))) hM63).perm List.perm_append_comm
    refine r_nil ?_
    refine ends_sub [(0, Value.slice Al n cl), (2, Value.int .i64 limit), (7, Value.map (some bm)), (8, Value.pointer (some ⟨b10, 0, none⟩))] ⟨rfl, rfl, rfl, rfl, trivial⟩ ?_
    refine e_blk ?_
    refine e_loop (joinF x y f, gs2, mgG x y g n, mgA x y a n) ⟨rfl, rfl, rfl, rfl, trivial⟩ ?_ ?_
    · exact ⟨hM63, hG2, hF2, tabK_merge hT hxy hx hy, hR.snoc ⟨g, a, x, y, least, hT, hbest, hs, rfl⟩⟩
    · exact keys_less hxy hx hy


end Go.Proofs.Ytddacakmafdgdaa
