/- Ff: what Go functions of this seat come to, printed by walk.py over the engine. -/
import Derived.Test.YtddacakmafdgdaaGc
set_option linter.unusedVariables false
set_option linter.unusedSimpArgs false
set_option maxRecDepth 100000
namespace Go.Proofs.Ytddacakmafdgdaa
open Go.RowKit Go.Kn

theorem joined_s (Am An : Option Addr) (nm cm nn cn n : Nat) (ms : List (Nat × Nat)) (w : World) (hm : RdE pairE 2 w Am nm ms) (hms : ∀ m ∈ ms, m.1 < n ∧ m.2 < n) (hn : n ≤ 300) (hnm : nm ≤ 9223372036854775806) :
    Calls Try.prog 44 #[Value.agg (#[Value.slice Am nm cm, Value.slice An nn cn]), Value.int .i64 (n : Int)] w fun e w' => ∃ r, e = .returned r ∧ ∃ bm gs, r = .map (some bm) ∧ (GMp tInt gs n ∧ IsG n (joinAll ms) (view gs)) ∧ Mem w No w' (GL bm gs n) := by
  refine calls_k (args := [Value.agg (#[Value.slice Am nm cm, Value.slice An nn cn]), Value.int .i64 (n : Int)]) 29 [(0, Value.agg (#[Value.slice Am nm cm, Value.slice An nn cn])), (1, Value.int .i64 (n : Int))] Try.func44 rfl rfl ⟨rfl, rfl, trivial⟩ ?_
  have hM := Mem.nil w No
  have hml := hm.len
  refine k_seq ?_
  refine k_region ?_
  refine r_box hM rfl rfl ?_
  intro b3 w1 hM2 hb3
  replace hM2 : Mem w No w1 [(b3, .cells (#[Value.slice Am nm cm, Value.slice An nn cn]) 57 (0, 0))] := hM2
  refine r_val (v := Value.map none) (w' := w1) rfl rfl (rfl) ?_
  refine r_nil ?_
  refine ends_sub [(1, Value.int .i64 (n : Int)), (2, Value.pointer (some ⟨b3, 0, none⟩))] ⟨rfl, rfl, trivial⟩ ?_
  refine e_then ?_
  refine k_seq ?_
  refine k_region ?_
  refine r_val (v := Value.int .i64 (n : Int)) (w' := w1) rfl rfl (rfl) ?_
  refine r_call (f := 68) (args := #[Value.int .i64 (n : Int)]) (w' := w1) rfl rfl (x_call (vs := [Value.int .i64 (n : Int)]) (enter68 _ _) rfl rfl) (each_s n w1 hn) ?_
  rintro v_ w4 ⟨bm, gs0, rfl, hG0, hV0, hM5⟩
  replace hM5 : Mem w No w4 ((b3, .cells (#[Value.slice Am nm cm, Value.slice An nn cn]) 57 (0, 0)) :: (bm, mapO (gs0.map Grp.ent) n) :: gs0.flatMap Grp.L) := (Mem.call0 hM2 hM5).perm List.perm_append_comm
  refine r_val (v := Value.map (some bm)) (w' := w4) rfl rfl (rfl) ?_
  refine r_nil ?_
  refine ends_sub [(2, Value.pointer (some ⟨b3, 0, none⟩)), (5, Value.map (some bm))] ⟨rfl, rfl, trivial⟩ ?_
  refine e_then ?_
  refine k_seq ?_
  refine k_seq ?_
  refine k_region ?_
  refine r_val (v := Value.pointer (some ⟨b3, 0, none⟩)) (w' := w4) rfl rfl (rfl) ?_
  refine r_val (v := Value.slice Am nm cm) (w' := w4) rfl rfl (x_load (hM5.cell 0 rfl rfl) rfl rfl) ?_
  refine r_val (v := Value.int .i64 (nm : Int)) (w' := w4) rfl rfl (x_len rfl rfl) ?_
  refine r_val (v := Value.int .i64 0) (w' := w4) rfl rfl (rfl) ?_
  refine r_nil ?_
  refine ends_sub [(5, Value.map (some bm)), (11, Value.slice Am nm cm), (12, Value.int .i64 (nm : Int)), (13, Value.int .i64 0)] ⟨rfl, rfl, rfl, rfl, trivial⟩ ?_
  refine e_then ?_
  refine k_block ?_
  refine k_loop (σ := Nat × List Grp) (fun ⟨k, gs⟩ => [(5, Value.map (some bm)), (11, Value.slice Am nm cm), (12, Value.int .i64 (nm : Int)), (13, Value.int .i64 (k : Int))]) (fun ⟨k, gs⟩ w_ => Mem w No w_ ((bm, mapO (gs.map Grp.ent) n) :: gs.flatMap Grp.L) ∧ k ≤ nm ∧ GMp tInt gs n ∧ IsG n (joinAll (ms.take k)) (view gs)) (fun ⟨k, gs⟩ => nm - k) (0, gs0) ⟨rfl, rfl, rfl, rfl, trivial⟩ ⟨(hM5.pickT [(b3, .cells (#[Value.slice Am nm cm, Value.slice An nn cn]) 57 (0, 0)), (bm, mapO (gs0.map Grp.ent) n)] (gs0.flatMap Grp.L) rfl [1] _ (by decide) rfl), Nat.zero_le _, hG0, by rw [hV0]; exact isG_each n⟩ ?_
  rintro ⟨k, gs⟩ w6 ⟨hM7, hk, hG, hF⟩
  refine wpK_sub [(5, Value.map (some bm)), (11, Value.slice Am nm cm), (12, Value.int .i64 (nm : Int)), (13, Value.int .i64 (k : Int))] ⟨rfl, rfl, rfl, rfl, trivial⟩ ?_
  refine k_seq ?_
  refine k_region ?_
  refine r_val (v := Value.bool (decide ((k : Int) < (nm : Int)))) (w' := w6) rfl rfl (rfl) ?_
  refine r_nil ?_
  refine ends_sub [(5, Value.map (some bm)), (11, Value.slice Am nm cm), (12, Value.int .i64 (nm : Int)), (13, Value.int .i64 (k : Int)), (14, Value.bool (decide ((k : Int) < (nm : Int))))] ⟨rfl, rfl, rfl, rfl, rfl, trivial⟩ ?_
  refine e_then ?_
  refine k_seq ?_
  refine k_cond rfl rfl (fun h => ?_) (fun h => ?_)
  · try simp only [decide_eq_true_eq, decide_eq_false_iff_not, Bool.and_eq_true, Bool.or_eq_true, Bool.or_eq_false_iff, Bool.not_eq_true', Bool.not_eq_false', beq_iff_eq, bne_iff_ne, beq_eq_false_iff_ne, bne_eq_false_iff_eq, Int.not_lt, Int.not_le, ne_eq, Bool.not_eq_true, Bool.not_eq_false] at h
    refine k_skip ?_
    refine e_then ?_
    refine k_seq ?_
    refine k_block ?_
    refine k_seq ?_
    refine k_region ?_
    obtain ⟨m, hmk⟩ : ∃ m, ms[k]? = some m := ⟨ms[k]'(by omega), by simp⟩
    obtain ⟨hm1, hm2⟩ := hms m (List.mem_of_getElem? hmk)
    refine r_val (v := Value.pointer (some ((adr Am).add (k * 2)))) (w' := w6) rfl rfl (x_indexAddrN (i := k) (sz := 2) hm.here (by omega) rfl rfl rfl rfl) ?_
    refine r_val (v := Value.agg (#[Value.int .i64 (m.1 : Int), Value.int .i64 (m.2 : Int)])) (w' := w6) rfl rfl (x_loadElem (enc := pairE) (e := m) (hm.up hM7) hmk rfl rfl rfl) ?_
    refine r_alloc hM7 (z := Value.agg #[Value.int .i64 0, Value.int .i64 0]) rfl rfl ?_
    intro b10 w8 hM9 hb10
    replace hM9 : Mem w No w8 ((b10, .cells #[Value.int .i64 0, Value.int .i64 0] 36 (0, 0)) :: (bm, mapO (gs.map Grp.ent) n) :: gs.flatMap Grp.L) := hM9
    refine r_storeRow (vs := (#[Value.int .i64 (m.1 : Int), Value.int .i64 (m.2 : Int)])) hM9 0 rfl (by rw [show (#[Value.int .i64 (m.1 : Int), Value.int .i64 (m.2 : Int)]).size = 2 from (by simp [ints_size, *])]; rfl) (by simp [Value.oneCell']) (by rw [show (#[Value.int .i64 (m.1 : Int), Value.int .i64 (m.2 : Int)]).size = 2 from (by simp [ints_size, *])]; rfl) rfl rfl rfl ?_
    intro w11 hM12
    replace hM12 : Mem w No w11 ((b10, .cells (#[Value.int .i64 (m.1 : Int), Value.int .i64 (m.2 : Int)]) 36 (0, 0)) :: (bm, mapO (gs.map Grp.ent) n) :: gs.flatMap Grp.L) := hM12
    refine r_nil ?_
    refine ends_sub [(5, Value.map (some bm)), (7, Value.pointer (some ⟨b10, 0, none⟩)), (11, Value.slice Am nm cm), (12, Value.int .i64 (nm : Int)), (13, Value.int .i64 (k : Int))] ⟨rfl, rfl, rfl, rfl, rfl, trivial⟩ ?_
    refine e_then ?_
    refine k_drawL mixed [0, 0, 0, 4, 14, 0, 0, 64, 254, 511] [some (Value.map (some bm)), some (Value.map (some bm)), some (Value.pointer (some ⟨b10, 0, none⟩)), some (Value.int .i64 (m.1 : Int)), some (Value.int .i64 (joinAll (ms.take k) m.1 : Int)), some (Value.map (some bm)), some (Value.pointer (some ⟨b10, 1, none⟩)), some (Value.int .i64 (m.2 : Int)), some (Value.int .i64 (joinAll (ms.take k) m.2 : Int)), some ((.tuple #[]))] (by kernel_rfl) 9 rfl (by kernel_rfl) (fun D V w_ => Mem w No w_ ((b10, .cells (#[Value.int .i64 (m.1 : Int), Value.int .i64 (m.2 : Int)]) 36 (0, 0)) :: (bm, mapO (gs.map Grp.ent) n) :: gs.flatMap Grp.L)) (fun V w_ => ∃ gs', (GMp tInt gs' n ∧ IsG n (joinF (joinAll (ms.take k) m.1) (joinAll (ms.take k) m.2) (joinAll (ms.take k))) (view gs')) ∧ Mem w No w_ (GL bm gs' n)) (fun V => hM12.drew) ?_ ?_
    · refine ⟨?_, ?_, ?_, ?_, ?_, ?_, ?_, ?_, ?_, ?_, trivial⟩
      · intro D V w_ hd hi hM_
        refine goal_of [(5, Value.map (some bm))] rfl ⟨rfl, trivial⟩ rfl ?_
        exact run_val (Value.map (some bm)) (rfl) ⟨fun c h => Option.some.inj (Option.some.inj h), hM_⟩
      · intro D V w_ hd hi hM_
        refine goal_of [(5, Value.map (some bm))] rfl ⟨rfl, trivial⟩ rfl ?_
        exact run_val (Value.map (some bm)) (rfl) ⟨fun c h => Option.some.inj (Option.some.inj h), hM_⟩
      · intro D V w_ hd hi hM_
        refine goal_of [(7, Value.pointer (some ⟨b10, 0, none⟩))] rfl ⟨rfl, trivial⟩ rfl ?_
        exact run_val (Value.pointer (some ⟨b10, 0, none⟩)) (x_indexAddrB (i := 0) (sz := 1) (by omega) rfl rfl rfl rfl (by omega)) ⟨fun c h => Option.some.inj (Option.some.inj h), hM_⟩
      · intro D V w_ hd hi hM_
        refine goal_of [(19, Value.pointer (some ⟨b10, 0, none⟩))] rfl ⟨rfl, trivial⟩ rfl ?_
        exact run_val (Value.int .i64 (m.1 : Int)) (x_load (hM_.cell 0 rfl rfl) rfl rfl) ⟨fun c h => Option.some.inj (Option.some.inj h), hM_⟩
      · intro D V w_ hd hi hM_
        refine goal_of [(18, Value.map (some bm)), (20, Value.int .i64 (m.1 : Int))] rfl ⟨rfl, rfl, trivial⟩ rfl ?_
        refine run_call (f := 45) (args := #[Value.map (some bm), Value.int .i64 (m.1 : Int)]) (w' := w_) (x_call (vs := [Value.map (some bm), Value.int .i64 (m.1 : Int)]) (enter45 _ _) rfl rfl) (of_f bm gs n hG n _ hF hn m.1 hm1 w_ hM_.tail.holds) ?_
        rintro v_ w2_ ⟨rfl, hM2_⟩
        exact ⟨fun c h => Option.some.inj (Option.some.inj h), hM_.grow hM2_.kept⟩
      · intro D V w_ hd hi hM_
        refine goal_of [(5, Value.map (some bm))] rfl ⟨rfl, trivial⟩ rfl ?_
        exact run_val (Value.map (some bm)) (rfl) ⟨fun c h => Option.some.inj (Option.some.inj h), hM_⟩
      · intro D V w_ hd hi hM_
        refine goal_of [(7, Value.pointer (some ⟨b10, 0, none⟩))] rfl ⟨rfl, trivial⟩ rfl ?_
        exact run_val (Value.pointer (some ⟨b10, 1, none⟩)) (x_indexAddrB (i := 1) (sz := 1) (by omega) rfl rfl rfl rfl (by omega)) ⟨fun c h => Option.some.inj (Option.some.inj h), hM_⟩
      · intro D V w_ hd hi hM_
        refine goal_of [(23, Value.pointer (some ⟨b10, 1, none⟩))] rfl ⟨rfl, trivial⟩ rfl ?_
        exact run_val (Value.int .i64 (m.2 : Int)) (x_load (hM_.cell 0 rfl rfl) rfl rfl) ⟨fun c h => Option.some.inj (Option.some.inj h), hM_⟩
      · intro D V w_ hd hi hM_
        refine goal_of [(22, Value.map (some bm)), (24, Value.int .i64 (m.2 : Int))] rfl ⟨rfl, rfl, trivial⟩ rfl ?_
        refine run_call (f := 45) (args := #[Value.map (some bm), Value.int .i64 (m.2 : Int)]) (w' := w_) (x_call (vs := [Value.map (some bm), Value.int .i64 (m.2 : Int)]) (enter45 _ _) rfl rfl) (of_f bm gs n hG n _ hF hn m.2 hm2 w_ hM_.tail.holds) ?_
        rintro v_ w2_ ⟨rfl, hM2_⟩
        exact ⟨fun c h => Option.some.inj (Option.some.inj h), hM_.grow hM2_.kept⟩
      · intro D V w_ hd hi hM_
        refine goal_of [(17, Value.map (some bm)), (21, Value.int .i64 (joinAll (ms.take k) m.1 : Int)), (25, Value.int .i64 (joinAll (ms.take k) m.2 : Int))] rfl ⟨rfl, rfl, rfl, trivial⟩ rfl ?_
        refine run_call (f := 53) (args := #[Value.map (some bm), Value.int .i64 (joinAll (ms.take k) m.1 : Int), Value.int .i64 (joinAll (ms.take k) m.2 : Int)]) (w' := w_) (x_call (vs := [Value.map (some bm), Value.int .i64 (joinAll (ms.take k) m.1 : Int), Value.int .i64 (joinAll (ms.take k) m.2 : Int)]) (enter53 _ _) rfl rfl) (join_f bm gs n hG n _ hF hn m.1 m.2 hm1 hm2 w_ hM_.tail.holds) ?_
        rintro v_ w2_ ⟨rfl, gs2, hh2, hM2_⟩
        exact ⟨fun c h => Option.some.inj (Option.some.inj h), ⟨gs2, hh2, by simpa using (Mem.call (L2 := []) (by simpa using hM_.tail) hM2_)⟩⟩
    intro V w19 hM20
    obtain ⟨gs2, ⟨hG2, hF2⟩, hM9⟩ := hM20
    refine ends_sub [(5, Value.map (some bm)), (11, Value.slice Am nm cm), (12, Value.int .i64 (nm : Int)), (13, Value.int .i64 (k : Int))] ⟨rfl, rfl, rfl, rfl, trivial⟩ ?_
    refine e_blk ?_
    refine e_then ?_
    refine k_region ?_
    refine r_val (v := Value.int .i64 ((k : Int) + 1)) (w' := w19) rfl rfl (x_addE rfl (by omega) (by omega) rfl rfl) ?_
    refine r_val (v := Value.int .i64 ((k : Int) + 1)) (w' := w19) rfl rfl (rfl) ?_
    refine r_nil ?_
    refine ends_sub [(5, Value.map (some bm)), (11, Value.slice Am nm cm), (12, Value.int .i64 (nm : Int)), (13, Value.int .i64 ((k : Int) + 1))] ⟨rfl, rfl, rfl, rfl, trivial⟩ ?_
    refine e_loop (k + 1, gs2) ⟨rfl, rfl, rfl, rfl, trivial⟩ ?_ ?_
    · exact ⟨hM9, by omega, hG2, by rw [take_snoc' hmk, joinAll_snoc]; exact hF2⟩
    · (try dsimp only); omega
  · try simp only [decide_eq_true_eq, decide_eq_false_iff_not, Bool.and_eq_true, Bool.or_eq_true, Bool.or_eq_false_iff, Bool.not_eq_true', Bool.not_eq_false', beq_iff_eq, bne_iff_ne, beq_eq_false_iff_ne, bne_eq_false_iff_eq, Int.not_lt, Int.not_le, ne_eq, Bool.not_eq_true, Bool.not_eq_false] at h
    refine k_exit ?_
    refine e_then_exit ?_
    refine e_loop_exit ?_
    refine e_blk_exit ?_
    refine e_then ?_
    refine k_seq ?_
    refine k_region ?_
    have hkn : k = nm := by omega
    refine r_val (v := Value.map (some bm)) (w' := w6) rfl rfl (rfl) ?_
    refine r_val (v := Value.map (some bm)) (w' := w6) rfl rfl (rfl) ?_
    refine r_nil ?_
    refine ends_sub [(4, Value.map (some bm))] ⟨rfl, trivial⟩ ?_
    refine e_then ?_
    refine k_ret ?_
    refine e_ret1 rfl rfl ?_
    exact ⟨_, rfl, bm, gs, rfl, ⟨hG, by rw [List.take_of_length_le (by omega)] at hF; exact hF⟩, hM7⟩


end Go.Proofs.Ytddacakmafdgdaa
