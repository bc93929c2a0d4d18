/- Fb: what Go functions of this seat come to, printed by walk.py over the engine. -/
import Derived.Test.YtddacakmafdgdaaFa
import Derived.Test.YtddacakmafdgdaaKnE
set_option linter.unusedVariables false
set_option linter.unusedSimpArgs false
set_option maxRecDepth 100000
namespace Go.Proofs.Ytddacakmafdgdaa
open Go.RowKit Go.Kn

theorem check_s (A : Option Addr) (n c : Nat) (l : List (List Int)) (w : World) (hl : RdE intsE 14 w A n l) :
    Calls Try.prog 25 #[Value.slice A n c] w fun e w' => ∃ r, e = .returned r ∧ r = .int .i64 (checkL l) ∧ Mem w No w' [] := by
  refine calls_k (args := [Value.slice A n c]) 44 [(0, Value.slice A n c)] Try.func25 rfl rfl ⟨rfl, trivial⟩ ?_
  have hM := Mem.nil w No
  have hln := hl.len
  refine k_seq ?_
  refine k_region ?_
  refine r_val (v := Value.int .i64 0) (w' := w) rfl rfl (rfl) ?_
  refine r_nil ?_
  refine ends_sub [(0, Value.slice A n c)] ⟨rfl, trivial⟩ ?_
  refine e_then ?_
  refine k_seq ?_
  refine k_seq ?_
  refine k_region ?_
  refine r_val (v := Value.slice A n c) (w' := w) rfl rfl (rfl) ?_
  refine r_val (v := Value.int .i64 (n : Int)) (w' := w) rfl rfl (x_len rfl rfl) ?_
  refine r_val (v := Value.bool (decide ((n : Int) > 300))) (w' := w) rfl rfl (rfl) ?_
  refine r_nil ?_
  refine ends_sub [(0, Value.slice A n c), (8, Value.bool (decide ((n : Int) > 300)))] ⟨rfl, rfl, trivial⟩ ?_
  refine e_then ?_
  refine k_cond rfl rfl (fun h => ?_) (fun h => ?_)
  · try simp only [decide_eq_true_eq, decide_eq_false_iff_not, Bool.and_eq_true, Bool.or_eq_true, Bool.or_eq_false_iff, Bool.not_eq_true', Bool.not_eq_false', beq_iff_eq, bne_iff_ne, beq_eq_false_iff_ne, bne_eq_false_iff_eq, Int.not_lt, Int.not_le, ne_eq, Bool.not_eq_true, Bool.not_eq_false] at h
    refine k_seq ?_
    refine k_region ?_
    refine r_val (v := Value.int .i64 4) (w' := w) rfl rfl (rfl) ?_
    refine r_nil ?_
    refine ends_sub [(2, Value.int .i64 4)] ⟨rfl, trivial⟩ ?_
    refine e_then ?_
    refine k_ret ?_
    refine e_then_ret ?_
    refine e_ret1 rfl rfl ?_
    exact ⟨_, rfl, by rw [checkL, if_pos (by omega)], hM.drop⟩
  · try simp only [decide_eq_true_eq, decide_eq_false_iff_not, Bool.and_eq_true, Bool.or_eq_true, Bool.or_eq_false_iff, Bool.not_eq_true', Bool.not_eq_false', beq_iff_eq, bne_iff_ne, beq_eq_false_iff_ne, bne_eq_false_iff_eq, Int.not_lt, Int.not_le, ne_eq, Bool.not_eq_true, Bool.not_eq_false] at h
    refine k_skip ?_
    refine e_then ?_
    refine k_seq ?_
    refine k_seq ?_
    refine k_region ?_
    refine r_val (v := Value.slice A n c) (w' := w) rfl rfl (rfl) ?_
    refine r_val (v := Value.int .i64 (n : Int)) (w' := w) rfl rfl (x_len rfl rfl) ?_
    refine r_val (v := Value.int .i64 0) (w' := w) rfl rfl (rfl) ?_
    refine r_nil ?_
    refine ends_sub [(0, Value.slice A n c), (9, Value.slice A n c), (10, Value.int .i64 (n : Int)), (11, Value.int .i64 0)] ⟨rfl, rfl, rfl, rfl, trivial⟩ ?_
    refine e_then ?_
    refine k_block ?_
    refine k_loop (σ := Nat) (fun k => [(0, Value.slice A n c), (9, Value.slice A n c), (10, Value.int .i64 (n : Int)), (11, Value.int .i64 (k : Int))]) (fun k w_ => Mem w No w_ [] ∧ k ≤ n ∧ checkL l = checkFrom (lprev l k) (l.drop k)) (fun k => n - k) 0 ⟨rfl, rfl, rfl, rfl, trivial⟩ ⟨hM, by omega, by rw [checkL, if_neg (by omega)]; rfl⟩ ?_
    rintro k w1 ⟨hM2, hk, he⟩
    refine wpK_sub [(0, Value.slice A n c), (9, Value.slice A n c), (10, Value.int .i64 (n : Int)), (11, Value.int .i64 (k : Int))] ⟨rfl, rfl, rfl, rfl, trivial⟩ ?_
    refine k_seq ?_
    refine k_region ?_
    refine r_val (v := Value.bool (decide ((k : Int) < (n : Int)))) (w' := w1) rfl rfl (rfl) ?_
    refine r_nil ?_
    refine ends_sub [(0, Value.slice A n c), (9, Value.slice A n c), (10, Value.int .i64 (n : Int)), (11, Value.int .i64 (k : Int)), (12, Value.bool (decide ((k : Int) < (n : Int))))] ⟨rfl, rfl, rfl, rfl, rfl, trivial⟩ ?_
    refine e_then ?_
    refine k_seq ?_
    refine k_cond rfl rfl (fun h2 => ?_) (fun h2 => ?_)
    · try simp only [decide_eq_true_eq, decide_eq_false_iff_not, Bool.and_eq_true, Bool.or_eq_true, Bool.or_eq_false_iff, Bool.not_eq_true', Bool.not_eq_false', beq_iff_eq, bne_iff_ne, beq_eq_false_iff_ne, bne_eq_false_iff_eq, Int.not_lt, Int.not_le, ne_eq, Bool.not_eq_true, Bool.not_eq_false] at h2
      refine k_skip ?_
      refine e_then ?_
      refine k_seq ?_
      refine k_block ?_
      refine k_seq ?_
      refine k_region ?_
      obtain ⟨x, hx⟩ : ∃ x, l[k]? = some x := ⟨l[k]'(by rw [hl.len]; omega), by simp⟩
      have hx14 : x.length = 14 := by have := hl.size x (List.mem_of_getElem? hx); simpa using this
      have hat := checkFrom_at hx (lprev l k)
      refine r_val (v := Value.int .i64 (k : Int)) (w' := w1) rfl rfl (rfl) ?_
      refine r_val (v := Value.pointer (some ((adr A).add (k * 14)))) (w' := w1) rfl rfl (x_indexAddrN (i := k) (sz := 14) hl.here (by omega) rfl rfl rfl rfl) ?_
      refine r_val (v := Value.agg (ints x)) (w' := w1) rfl rfl (x_loadElem (hl.up hM2) hx rfl rfl rfl) ?_
      refine r_alloc hM2 (z := Value.agg #[Value.int .i64 0, Value.int .i64 0, Value.int .i64 0, Value.int .i64 0, Value.int .i64 0, Value.int .i64 0, Value.int .i64 0, Value.int .i64 0, Value.int .i64 0, Value.int .i64 0, Value.int .i64 0, Value.int .i64 0, Value.int .i64 0, Value.int .i64 0]) rfl rfl ?_
      intro b5 w3 hM4 hb5
      replace hM4 : Mem w No w3 [(b5, .cells #[Value.int .i64 0, Value.int .i64 0, Value.int .i64 0, Value.int .i64 0, Value.int .i64 0, Value.int .i64 0, Value.int .i64 0, Value.int .i64 0, Value.int .i64 0, Value.int .i64 0, Value.int .i64 0, Value.int .i64 0, Value.int .i64 0, Value.int .i64 0] 64 (0, 0))] := hM4
      refine r_val (v := Value.int .i64 (k : Int)) (w' := w3) rfl rfl (rfl) ?_
      refine r_storeRow (vs := (ints x)) hM4 0 rfl (by rw [show (ints x).size = 14 from (by rw [ints_size, hx14])]; rfl) (ints_one _) (by rw [show (ints x).size = 14 from (by rw [ints_size, hx14])]; rfl) rfl rfl rfl ?_
      intro w6 hM7
      replace hM7 : Mem w No w6 [(b5, .cells (ints x) 64 (0, 0))] := hM7
      refine r_nil ?_
      refine ends_sub [(0, Value.slice A n c), (3, Value.int .i64 (k : Int)), (4, Value.pointer (some ⟨b5, 0, none⟩)), (9, Value.slice A n c), (10, Value.int .i64 (n : Int)), (11, Value.int .i64 (k : Int))] ⟨rfl, rfl, rfl, rfl, rfl, rfl, trivial⟩ ?_
      refine e_then ?_
      refine k_seq ?_
      refine k_seq ?_
      refine k_region ?_
      refine r_val (v := Value.pointer (some ⟨b5, 0, none⟩)) (w' := w6) rfl rfl (rfl) ?_
      refine r_val (v := Value.int .i64 (x.getD 0 0)) (w' := w6) rfl rfl (x_load (hM7.cell 0 rfl (ints_get x 0 (by omega))) rfl rfl) ?_
      refine r_call (f := 21) (args := #[Value.int .i64 (x.getD 0 0), Value.int .i64 1, Value.int .i64 1000000]) (w' := w6) rfl rfl (x_call (vs := [Value.int .i64 (x.getD 0 0), Value.int .i64 1, Value.int .i64 1000000]) (enter21 _ _) rfl rfl) (outside_s (idOf x) 1 1000000 w6) ?_
      rintro v_ w8 ⟨rfl, hM9⟩
      replace hM9 := hM7.grow hM9.kept
      refine r_val (v := Value.bool (outN (idOf x) 1 1000000)) (w' := w8) rfl rfl (rfl) ?_
      rcases Bool.eq_false_or_eq_true (outN (idOf x) 1 1000000) with h3 | h3
      · refine wpR_sub [(0, Value.slice A n c), (3, Value.int .i64 (k : Int)), (4, Value.pointer (some ⟨b5, 0, none⟩)), (9, Value.slice A n c), (10, Value.int .i64 (n : Int)), (11, Value.int .i64 (k : Int)), (19, Value.bool true)] ⟨rfl, rfl, rfl, rfl, rfl, rfl, congrArg (fun z => some (Value.bool z)) h3, trivial⟩ ?_
        refine r_no rfl rfl (by decide) rfl ?_
        refine r_no rfl rfl (by decide) rfl ?_
        refine r_no rfl rfl (by decide) rfl ?_
        refine r_val (v := Value.bool true) (w' := w8) rfl rfl (rfl) ?_
        refine r_nil ?_
        refine ends_sub [(0, Value.slice A n c), (3, Value.int .i64 (k : Int)), (4, Value.pointer (some ⟨b5, 0, none⟩)), (9, Value.slice A n c), (10, Value.int .i64 (n : Int)), (11, Value.int .i64 (k : Int)), (23, Value.bool true)] ⟨rfl, rfl, rfl, rfl, rfl, rfl, rfl, trivial⟩ ?_
        refine e_then ?_
        refine k_cond_true rfl rfl ?_
        refine k_seq ?_
        refine k_region ?_
        refine r_val (v := Value.int .i64 2) (w' := w8) rfl rfl (rfl) ?_
        refine r_nil ?_
        refine ends_sub [(2, Value.int .i64 2)] ⟨rfl, trivial⟩ ?_
        refine e_then ?_
        refine k_ret ?_
        refine e_then_ret ?_
        refine e_blk_ret ?_
        refine e_then_ret ?_
        refine e_loop_ret ?_
        refine e_blk_ret ?_
        refine e_then_ret ?_
        refine e_ret1 rfl rfl ?_
        exact ⟨_, rfl, by rw [he, hat, one_bad (bad_1 h3)]; rfl, hM9.drop⟩
      · refine wpR_sub [(0, Value.slice A n c), (3, Value.int .i64 (k : Int)), (4, Value.pointer (some ⟨b5, 0, none⟩)), (9, Value.slice A n c), (10, Value.int .i64 (n : Int)), (11, Value.int .i64 (k : Int)), (19, Value.bool false)] ⟨rfl, rfl, rfl, rfl, rfl, rfl, congrArg (fun z => some (Value.bool z)) h3, trivial⟩ ?_
        refine r_yes rfl rfl ?_
        refine r_val (v := Value.pointer (some ⟨b5, 1, none⟩)) (w' := w8) rfl rfl (rfl) ?_
        refine r_yes rfl rfl ?_
        refine r_val (v := Value.int .i64 (x.getD 1 0)) (w' := w8) rfl rfl (x_load (hM9.cell 0 rfl (ints_get x 1 (by omega))) rfl rfl) ?_
        refine r_yes rfl rfl ?_
        refine r_call (f := 21) (args := #[Value.int .i64 (x.getD 1 0), Value.int .i64 1, Value.int .i64 1000000]) (w' := w8) rfl rfl (x_call (vs := [Value.int .i64 (x.getD 1 0), Value.int .i64 1, Value.int .i64 1000000]) (enter21 _ _) rfl rfl) (outside_s (photoOf x) 1 1000000 w8) ?_
        rintro v_ w11 ⟨rfl, hM12⟩
        replace hM12 := hM9.grow hM12.kept
        refine r_val (v := Value.bool (outN (photoOf x) 1 1000000)) (w' := w11) rfl rfl (rfl) ?_
        refine r_nil ?_
        refine ends_sub [(0, Value.slice A n c), (3, Value.int .i64 (k : Int)), (4, Value.pointer (some ⟨b5, 0, none⟩)), (9, Value.slice A n c), (10, Value.int .i64 (n : Int)), (11, Value.int .i64 (k : Int)), (23, Value.bool (outN (photoOf x) 1 1000000))] ⟨rfl, rfl, rfl, rfl, rfl, rfl, rfl, trivial⟩ ?_
        refine e_then ?_
        refine k_cond rfl rfl (fun h4 => ?_) (fun h4 => ?_)
        · try simp only [decide_eq_true_eq, decide_eq_false_iff_not, Bool.and_eq_true, Bool.or_eq_true, Bool.or_eq_false_iff, Bool.not_eq_true', Bool.not_eq_false', beq_iff_eq, bne_iff_ne, beq_eq_false_iff_ne, bne_eq_false_iff_eq, Int.not_lt, Int.not_le, ne_eq, Bool.not_eq_true, Bool.not_eq_false] at h4
          refine k_seq ?_
          refine k_region ?_
          refine r_val (v := Value.int .i64 2) (w' := w11) rfl rfl (rfl) ?_
          refine r_nil ?_
          refine ends_sub [(2, Value.int .i64 2)] ⟨rfl, trivial⟩ ?_
          refine e_then ?_
          refine k_ret ?_
          refine e_then_ret ?_
          refine e_blk_ret ?_
          refine e_then_ret ?_
          refine e_loop_ret ?_
          refine e_blk_ret ?_
          refine e_then_ret ?_
          refine e_ret1 rfl rfl ?_
          exact ⟨_, rfl, by rw [he, hat, one_bad (bad_2 h4)]; rfl, hM12.drop⟩
        · try simp only [decide_eq_true_eq, decide_eq_false_iff_not, Bool.and_eq_true, Bool.or_eq_true, Bool.or_eq_false_iff, Bool.not_eq_true', Bool.not_eq_false', beq_iff_eq, bne_iff_ne, beq_eq_false_iff_ne, bne_eq_false_iff_eq, Int.not_lt, Int.not_le, ne_eq, Bool.not_eq_true, Bool.not_eq_false] at h4
          refine k_skip ?_
          refine e_then ?_
          refine k_seq ?_
          refine k_seq ?_
          have hbad := bad_0 h3 h4
          rcases Bool.eq_false_or_eq_true (decide ((k : Int) > 0)) with h5 | h5
          · skip
            obtain ⟨y, hy⟩ : ∃ y, l[k - 1]? = some y := ⟨l[k - 1]'(by rw [hl.len]; omega), by simp⟩
            have hk0 : 0 < k := by simpa using h5
            have hp := lprev_at hy hk0
            refine k_draw mixed [0, 1, 3, 7, 15, 7, 7, 71, 231, 487, 999, 2047, 4095] [some (Value.int .i64 (k : Int)), some (Value.bool true), some (Value.bool true), some (Value.pointer (some ⟨b5, 0, none⟩)), some (Value.int .i64 (x.getD 0 0)), some (Value.slice A n c), some (Value.int .i64 (k : Int)), some (Value.int .i64 ((k - 1 : Nat) : Int)), some (Value.pointer (some ((adr A).add ((k - 1 : Nat) * 14)))), some (Value.pointer (some ((adr A).add ((k - 1 : Nat) * 14)))), some (Value.int .i64 (idOf y)), some (Value.bool (decide ((x.getD 0 0) ≤ (idOf y)))), some (Value.bool (decide ((x.getD 0 0) ≤ (idOf y))))] (by kernel_rfl) (fun D V w_ => Mem w No w_ [(b5, .cells (ints x) 64 (0, 0))]) (fun V => hM12.drew) ?_ ?_
            · refine ⟨?_, ?_, ?_, ?_, ?_, ?_, ?_, ?_, ?_, ?_, ?_, ?_, ?_, trivial⟩
              · intro D V w_ hd hi hM_
                refine goal_of [(3, Value.int .i64 (k : Int))] rfl ⟨rfl, trivial⟩ rfl ?_
                exact run_val (Value.int .i64 (k : Int)) (rfl) ⟨fun c h => Option.some.inj (Option.some.inj h), hM_⟩
              · intro D V w_ hd hi hM_
                refine goal_of [(24, Value.int .i64 (k : Int))] rfl ⟨rfl, trivial⟩ rfl ?_
                exact run_val (Value.bool true) (Eq.trans (rfl) (congrArg (fun z => Result.ok (Next.value (Value.bool z)) w_) h5)) ⟨fun c h => Option.some.inj (Option.some.inj h), hM_⟩
              · intro D V w_ hd hi hM_
                refine goal_of [(25, Value.bool true)] rfl ⟨rfl, trivial⟩ rfl ?_
                exact run_val (Value.bool true) (rfl) ⟨fun c h => Option.some.inj (Option.some.inj h), hM_⟩
              · intro D V w_ hd hi hM_
                refine goal_yes [(4, Value.pointer (some ⟨b5, 0, none⟩))] rfl rfl ⟨rfl, trivial⟩ rfl ?_
                exact run_val (Value.pointer (some ⟨b5, 0, none⟩)) (rfl) ⟨fun c h => Option.some.inj (Option.some.inj h), hM_⟩
              · intro D V w_ hd hi hM_
                refine goal_yes [(27, Value.pointer (some ⟨b5, 0, none⟩))] rfl rfl ⟨rfl, trivial⟩ rfl ?_
                exact run_val (Value.int .i64 (x.getD 0 0)) (x_load (hM_.cell 0 rfl (ints_get x 0 (by omega))) rfl rfl) ⟨fun c h => Option.some.inj (Option.some.inj h), hM_⟩
              · intro D V w_ hd hi hM_
                refine goal_yes [(0, Value.slice A n c)] rfl rfl ⟨rfl, trivial⟩ rfl ?_
                exact run_val (Value.slice A n c) (rfl) ⟨fun c h => Option.some.inj (Option.some.inj h), hM_⟩
              · intro D V w_ hd hi hM_
                refine goal_yes [(3, Value.int .i64 (k : Int))] rfl rfl ⟨rfl, trivial⟩ rfl ?_
                exact run_val (Value.int .i64 (k : Int)) (rfl) ⟨fun c h => Option.some.inj (Option.some.inj h), hM_⟩
              · intro D V w_ hd hi hM_
                refine goal_yes [(30, Value.int .i64 (k : Int))] rfl rfl ⟨rfl, trivial⟩ rfl ?_
                exact run_val (Value.int .i64 ((k - 1 : Nat) : Int)) (x_subE (by omega) (by omega) (by omega) rfl rfl) ⟨fun c h => Option.some.inj (Option.some.inj h), hM_⟩
              · intro D V w_ hd hi hM_
                refine goal_yes [(29, Value.slice A n c), (31, Value.int .i64 ((k - 1 : Nat) : Int))] rfl rfl ⟨rfl, rfl, trivial⟩ rfl ?_
                exact run_val (Value.pointer (some ((adr A).add ((k - 1 : Nat) * 14)))) (x_indexAddrN (i := (k - 1 : Nat)) (sz := 14) hl.here (by omega) rfl rfl rfl rfl) ⟨fun c h => Option.some.inj (Option.some.inj h), hM_⟩
              · intro D V w_ hd hi hM_
                refine goal_yes [(32, Value.pointer (some ((adr A).add ((k - 1 : Nat) * 14))))] rfl rfl ⟨rfl, trivial⟩ rfl ?_
                exact run_val (Value.pointer (some ((adr A).add ((k - 1 : Nat) * 14)))) (rfl) ⟨fun c h => Option.some.inj (Option.some.inj h), hM_⟩
              · intro D V w_ hd hi hM_
                refine goal_yes [(33, Value.pointer (some ((adr A).add ((k - 1 : Nat) * 14))))] rfl rfl ⟨rfl, trivial⟩ rfl ?_
                exact run_val (Value.int .i64 (idOf y)) (x_load ((hl.up hM_).first hy (intsE_0 (by have h9 := hl.size' hy; simp at h9; omega))) rfl rfl) ⟨fun c h => Option.some.inj (Option.some.inj h), hM_⟩
              · intro D V w_ hd hi hM_
                refine goal_yes [(28, Value.int .i64 (x.getD 0 0)), (34, Value.int .i64 (idOf y))] rfl rfl ⟨rfl, rfl, trivial⟩ rfl ?_
                exact run_val (Value.bool (decide ((x.getD 0 0) ≤ (idOf y)))) (rfl) ⟨fun c h => Option.some.inj (Option.some.inj h), hM_⟩
              · intro D V w_ hd hi hM_
                refine goal_of [(26, Value.bool true), (35, Value.bool (decide ((x.getD 0 0) ≤ (idOf y))))] rfl ⟨rfl, rfl, trivial⟩ rfl ?_
                exact run_val (Value.bool (decide ((x.getD 0 0) ≤ (idOf y)))) (rfl) ⟨fun c h => Option.some.inj (Option.some.inj h), hM_⟩
            intro D V w14 hall hM15
            refine ends_sub [(0, Value.slice A n c), (4, Value.pointer (some ⟨b5, 0, none⟩)), (9, Value.slice A n c), (10, Value.int .i64 (n : Int)), (11, Value.int .i64 (k : Int)), (36, Value.bool (decide ((x.getD 0 0) ≤ (idOf y))))] ⟨rfl, rfl, rfl, rfl, rfl, rfl, trivial⟩ ?_
            refine e_then ?_
            refine k_cond rfl rfl (fun h6 => ?_) (fun h6 => ?_)
            · try simp only [decide_eq_true_eq, decide_eq_false_iff_not, Bool.and_eq_true, Bool.or_eq_true, Bool.or_eq_false_iff, Bool.not_eq_true', Bool.not_eq_false', beq_iff_eq, bne_iff_ne, beq_eq_false_iff_ne, bne_eq_false_iff_eq, Int.not_lt, Int.not_le, ne_eq, Bool.not_eq_true, Bool.not_eq_false] at h6
              refine k_seq ?_
              refine k_region ?_
              refine r_val (v := Value.int .i64 5) (w' := w14) rfl rfl (rfl) ?_
              refine r_nil ?_
              refine ends_sub [(2, Value.int .i64 5)] ⟨rfl, trivial⟩ ?_
              refine e_then ?_
              refine k_ret ?_
              refine e_then_ret ?_
              refine e_blk_ret ?_
              refine e_then_ret ?_
              refine e_loop_ret ?_
              refine e_blk_ret ?_
              refine e_then_ret ?_
              refine e_ret1 rfl rfl ?_
              exact ⟨_, rfl, by rw [he, hat, one_order hbad (after_yes hp h6)]; rfl, hM15.drop⟩
            · try simp only [decide_eq_true_eq, decide_eq_false_iff_not, Bool.and_eq_true, Bool.or_eq_true, Bool.or_eq_false_iff, Bool.not_eq_true', Bool.not_eq_false', beq_iff_eq, bne_iff_ne, beq_eq_false_iff_ne, bne_eq_false_iff_eq, Int.not_lt, Int.not_le, ne_eq, Bool.not_eq_true, Bool.not_eq_false] at h6
              refine k_skip ?_
              refine e_then ?_
              refine k_seq ?_
              refine k_region ?_
              have hna := after_no hp h6
              refine r_val (v := Value.pointer (some ⟨b5, 2, none⟩)) (w' := w14) rfl rfl (rfl) ?_
              refine r_val (v := Value.agg (ints (x.drop 2))) (w' := w14) rfl rfl (x_loadInts hM15 0 rfl (m := 12) (by omega) rfl rfl rfl) ?_
              refine r_call (f := 58) (args := #[Value.agg (ints (x.drop 2))]) (w' := w14) rfl rfl (x_call (vs := [Value.agg (ints (x.drop 2))]) (enter58 _ _) rfl rfl) (checkVec_s (vecOf x) (by simp [vecOf]; omega) w14) ?_
              rintro v_ w16 ⟨rfl, hM17⟩
              replace hM17 := hM15.grow hM17.kept
              refine r_val (v := Value.int .i64 (vecErr (vecOf x))) (w' := w16) rfl rfl (rfl) ?_
              refine r_nil ?_
              refine ends_sub [(0, Value.slice A n c), (5, Value.int .i64 (vecErr (vecOf x))), (9, Value.slice A n c), (10, Value.int .i64 (n : Int)), (11, Value.int .i64 (k : Int))] ⟨rfl, rfl, rfl, rfl, rfl, trivial⟩ ?_
              refine e_then ?_
              refine k_seq ?_
              refine k_region ?_
              refine r_val (v := Value.int .i64 (vecErr (vecOf x))) (w' := w16) rfl rfl (rfl) ?_
              refine r_val (v := Value.bool ((vecErr (vecOf x)) != 0)) (w' := w16) rfl rfl (rfl) ?_
              refine r_nil ?_
              refine ends_sub [(0, Value.slice A n c), (5, Value.int .i64 (vecErr (vecOf x))), (9, Value.slice A n c), (10, Value.int .i64 (n : Int)), (11, Value.int .i64 (k : Int)), (41, Value.bool ((vecErr (vecOf x)) != 0))] ⟨rfl, rfl, rfl, rfl, rfl, rfl, trivial⟩ ?_
              refine e_then ?_
              refine k_cond rfl rfl (fun h7 => ?_) (fun h7 => ?_)
              · try simp only [decide_eq_true_eq, decide_eq_false_iff_not, Bool.and_eq_true, Bool.or_eq_true, Bool.or_eq_false_iff, Bool.not_eq_true', Bool.not_eq_false', beq_iff_eq, bne_iff_ne, beq_eq_false_iff_ne, bne_eq_false_iff_eq, Int.not_lt, Int.not_le, ne_eq, Bool.not_eq_true, Bool.not_eq_false] at h7
                refine k_seq ?_
                refine k_region ?_
                refine r_val (v := Value.int .i64 (vecErr (vecOf x))) (w' := w16) rfl rfl (rfl) ?_
                refine r_val (v := Value.int .i64 (vecErr (vecOf x))) (w' := w16) rfl rfl (rfl) ?_
                refine r_nil ?_
                refine ends_sub [(2, Value.int .i64 (vecErr (vecOf x)))] ⟨rfl, trivial⟩ ?_
                refine e_then ?_
                refine k_ret ?_
                refine e_blk_ret ?_
                refine e_then_ret ?_
                refine e_loop_ret ?_
                refine e_blk_ret ?_
                refine e_then_ret ?_
                refine e_ret1 rfl rfl ?_
                exact ⟨_, rfl, by rw [he, hat, one_vec hbad hna, ne_if h7], hM17.drop⟩
              · try simp only [decide_eq_true_eq, decide_eq_false_iff_not, Bool.and_eq_true, Bool.or_eq_true, Bool.or_eq_false_iff, Bool.not_eq_true', Bool.not_eq_false', beq_iff_eq, bne_iff_ne, beq_eq_false_iff_ne, bne_eq_false_iff_eq, Int.not_lt, Int.not_le, ne_eq, Bool.not_eq_true, Bool.not_eq_false] at h7
                refine k_skip ?_
                refine e_blk ?_
                refine e_then ?_
                refine k_region ?_
                refine r_val (v := Value.int .i64 ((k : Int) + 1)) (w' := w16) rfl rfl (x_addE rfl (by omega) (by omega) rfl rfl) ?_
                refine r_val (v := Value.int .i64 ((k : Int) + 1)) (w' := w16) rfl rfl (rfl) ?_
                refine r_nil ?_
                refine ends_sub [(0, Value.slice A n c), (9, Value.slice A n c), (10, Value.int .i64 (n : Int)), (11, Value.int .i64 ((k : Int) + 1))] ⟨rfl, rfl, rfl, rfl, trivial⟩ ?_
                refine e_loop (k + 1) ⟨rfl, rfl, rfl, rfl, trivial⟩ ?_ ?_
                · exact ⟨hM17.drop, by omega, by rw [he, hat, one_vec hbad hna, eq_if h7]⟩
                · (try dsimp only); omega
          · skip
            have hk0 : k = 0 := by simp at h5; omega
            have hna : notAfter (lprev l k) x = false := by subst hk0; rfl
            refine k_draw mixed [0, 1, 3, 7, 15, 7, 7, 71, 231, 487, 999, 2047, 4095] [some (Value.int .i64 (k : Int)), some (Value.bool false), some (Value.bool false), some (undef), some (undef), some (undef), some (undef), some (undef), some (undef), some (undef), some (undef), some (undef), some (Value.bool false)] (by kernel_rfl) (fun D V w_ => Mem w No w_ [(b5, .cells (ints x) 64 (0, 0))]) (fun V => hM12.drew) ?_ ?_
            · refine ⟨?_, ?_, ?_, ?_, ?_, ?_, ?_, ?_, ?_, ?_, ?_, ?_, ?_, trivial⟩
              · intro D V w_ hd hi hM_
                refine goal_of [(3, Value.int .i64 (k : Int))] rfl ⟨rfl, trivial⟩ rfl ?_
                exact run_val (Value.int .i64 (k : Int)) (rfl) ⟨fun c h => Option.some.inj (Option.some.inj h), hM_⟩
              · intro D V w_ hd hi hM_
                refine goal_of [(24, Value.int .i64 (k : Int))] rfl ⟨rfl, trivial⟩ rfl ?_
                exact run_val (Value.bool false) (Eq.trans (rfl) (congrArg (fun z => Result.ok (Next.value (Value.bool z)) w_) h5)) ⟨fun c h => Option.some.inj (Option.some.inj h), hM_⟩
              · intro D V w_ hd hi hM_
                refine goal_of [(25, Value.bool false)] rfl ⟨rfl, trivial⟩ rfl ?_
                exact run_val (Value.bool false) (rfl) ⟨fun c h => Option.some.inj (Option.some.inj h), hM_⟩
              · intro D V w_ hd hi hM_
                exact goal_no rfl rfl (by decide) ⟨fun c h => Option.some.inj (Option.some.inj h), hM_⟩
              · intro D V w_ hd hi hM_
                exact goal_no rfl rfl (by decide) ⟨fun c h => Option.some.inj (Option.some.inj h), hM_⟩
              · intro D V w_ hd hi hM_
                exact goal_no rfl rfl (by decide) ⟨fun c h => Option.some.inj (Option.some.inj h), hM_⟩
              · intro D V w_ hd hi hM_
                exact goal_no rfl rfl (by decide) ⟨fun c h => Option.some.inj (Option.some.inj h), hM_⟩
              · intro D V w_ hd hi hM_
                exact goal_no rfl rfl (by decide) ⟨fun c h => Option.some.inj (Option.some.inj h), hM_⟩
              · intro D V w_ hd hi hM_
                exact goal_no rfl rfl (by decide) ⟨fun c h => Option.some.inj (Option.some.inj h), hM_⟩
              · intro D V w_ hd hi hM_
                exact goal_no rfl rfl (by decide) ⟨fun c h => Option.some.inj (Option.some.inj h), hM_⟩
              · intro D V w_ hd hi hM_
                exact goal_no rfl rfl (by decide) ⟨fun c h => Option.some.inj (Option.some.inj h), hM_⟩
              · intro D V w_ hd hi hM_
                exact goal_no rfl rfl (by decide) ⟨fun c h => Option.some.inj (Option.some.inj h), hM_⟩
              · intro D V w_ hd hi hM_
                refine goal_of [(26, Value.bool false), (35, undef)] rfl ⟨rfl, rfl, trivial⟩ rfl ?_
                exact run_val (Value.bool false) (rfl) ⟨fun c h => Option.some.inj (Option.some.inj h), hM_⟩
            intro D V w18 hall hM19
            refine ends_sub [(0, Value.slice A n c), (4, Value.pointer (some ⟨b5, 0, none⟩)), (9, Value.slice A n c), (10, Value.int .i64 (n : Int)), (11, Value.int .i64 (k : Int)), (36, Value.bool false)] ⟨rfl, rfl, rfl, rfl, rfl, rfl, trivial⟩ ?_
            refine e_then ?_
            refine k_cond_false rfl rfl ?_
            refine k_skip ?_
            refine e_then ?_
            refine k_seq ?_
            refine k_region ?_
            refine r_val (v := Value.pointer (some ⟨b5, 2, none⟩)) (w' := w18) rfl rfl (rfl) ?_
            refine r_val (v := Value.agg (ints (x.drop 2))) (w' := w18) rfl rfl (x_loadInts hM19 0 rfl (m := 12) (by omega) rfl rfl rfl) ?_
            refine r_call (f := 58) (args := #[Value.agg (ints (x.drop 2))]) (w' := w18) rfl rfl (x_call (vs := [Value.agg (ints (x.drop 2))]) (enter58 _ _) rfl rfl) (checkVec_s (vecOf x) (by simp [vecOf]; omega) w18) ?_
            rintro v_ w20 ⟨rfl, hM21⟩
            replace hM21 := hM19.grow hM21.kept
            refine r_val (v := Value.int .i64 (vecErr (vecOf x))) (w' := w20) rfl rfl (rfl) ?_
            refine r_nil ?_
            refine ends_sub [(0, Value.slice A n c), (5, Value.int .i64 (vecErr (vecOf x))), (9, Value.slice A n c), (10, Value.int .i64 (n : Int)), (11, Value.int .i64 (k : Int))] ⟨rfl, rfl, rfl, rfl, rfl, trivial⟩ ?_
            refine e_then ?_
            refine k_seq ?_
            refine k_region ?_
            refine r_val (v := Value.int .i64 (vecErr (vecOf x))) (w' := w20) rfl rfl (rfl) ?_
            refine r_val (v := Value.bool ((vecErr (vecOf x)) != 0)) (w' := w20) rfl rfl (rfl) ?_
            refine r_nil ?_
            refine ends_sub [(0, Value.slice A n c), (5, Value.int .i64 (vecErr (vecOf x))), (9, Value.slice A n c), (10, Value.int .i64 (n : Int)), (11, Value.int .i64 (k : Int)), (41, Value.bool ((vecErr (vecOf x)) != 0))] ⟨rfl, rfl, rfl, rfl, rfl, rfl, trivial⟩ ?_
            refine e_then ?_
            refine k_cond rfl rfl (fun h7 => ?_) (fun h7 => ?_)
            · try simp only [decide_eq_true_eq, decide_eq_false_iff_not, Bool.and_eq_true, Bool.or_eq_true, Bool.or_eq_false_iff, Bool.not_eq_true', Bool.not_eq_false', beq_iff_eq, bne_iff_ne, beq_eq_false_iff_ne, bne_eq_false_iff_eq, Int.not_lt, Int.not_le, ne_eq, Bool.not_eq_true, Bool.not_eq_false] at h7
              refine k_seq ?_
              refine k_region ?_
              refine r_val (v := Value.int .i64 (vecErr (vecOf x))) (w' := w20) rfl rfl (rfl) ?_
              refine r_val (v := Value.int .i64 (vecErr (vecOf x))) (w' := w20) rfl rfl (rfl) ?_
              refine r_nil ?_
              refine ends_sub [(2, Value.int .i64 (vecErr (vecOf x)))] ⟨rfl, trivial⟩ ?_
              refine e_then ?_
              refine k_ret ?_
              refine e_blk_ret ?_
              refine e_then_ret ?_
              refine e_loop_ret ?_
              refine e_blk_ret ?_
              refine e_then_ret ?_
              refine e_ret1 rfl rfl ?_
              exact ⟨_, rfl, by rw [he, hat, one_vec hbad hna, ne_if h7], hM21.drop⟩
            · try simp only [decide_eq_true_eq, decide_eq_false_iff_not, Bool.and_eq_true, Bool.or_eq_true, Bool.or_eq_false_iff, Bool.not_eq_true', Bool.not_eq_false', beq_iff_eq, bne_iff_ne, beq_eq_false_iff_ne, bne_eq_false_iff_eq, Int.not_lt, Int.not_le, ne_eq, Bool.not_eq_true, Bool.not_eq_false] at h7
              refine k_skip ?_
              refine e_blk ?_
              refine e_then ?_
              refine k_region ?_
              refine r_val (v := Value.int .i64 ((k : Int) + 1)) (w' := w20) rfl rfl (x_addE rfl (by omega) (by omega) rfl rfl) ?_
              refine r_val (v := Value.int .i64 ((k : Int) + 1)) (w' := w20) rfl rfl (rfl) ?_
              refine r_nil ?_
              refine ends_sub [(0, Value.slice A n c), (9, Value.slice A n c), (10, Value.int .i64 (n : Int)), (11, Value.int .i64 ((k : Int) + 1))] ⟨rfl, rfl, rfl, rfl, trivial⟩ ?_
              refine e_loop (k + 1) ⟨rfl, rfl, rfl, rfl, trivial⟩ ?_ ?_
              · exact ⟨hM21.drop, by omega, by rw [he, hat, one_vec hbad hna, eq_if h7]⟩
              · (try dsimp only); omega
    · try simp only [decide_eq_true_eq, decide_eq_false_iff_not, Bool.and_eq_true, Bool.or_eq_true, Bool.or_eq_false_iff, Bool.not_eq_true', Bool.not_eq_false', beq_iff_eq, bne_iff_ne, beq_eq_false_iff_ne, bne_eq_false_iff_eq, Int.not_lt, Int.not_le, ne_eq, Bool.not_eq_true, Bool.not_eq_false] at h2
      refine k_exit ?_
      refine e_then_exit ?_
      refine e_loop_exit ?_
      refine e_blk_exit ?_
      refine e_then ?_
      refine k_seq ?_
      refine k_region ?_
      have hkn : k = n := by omega
      refine r_val (v := Value.int .i64 0) (w' := w1) rfl rfl (rfl) ?_
      refine r_nil ?_
      refine ends_sub [(2, Value.int .i64 0)] ⟨rfl, trivial⟩ ?_
      refine e_then ?_
      refine k_ret ?_
      refine e_ret1 rfl rfl ?_
      exact ⟨_, rfl, by rw [he, List.drop_eq_nil_of_le (by omega)]; rfl, hM2.drop⟩


end Go.Proofs.Ytddacakmafdgdaa
