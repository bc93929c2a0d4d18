/- Fa: what Go functions of this seat come to, printed by walk.py over the engine. -/
import Derived.Test.YtddacakmafdgdaaProg
import Derived.Test.YtddacakmafdgdaaFn
import Derived.Test.YtddacakmafdgdaaKnE
import Derived.Test.YtddacakmafdgdaaKnD
import Derived.Test.YtddacakmafdgdaaMa
set_option linter.unusedVariables false
set_option linter.unusedSimpArgs false
set_option maxRecDepth 100000
namespace Go.Proofs.Ytddacakmafdgdaa
open Go.RowKit Go.Kn

theorem outside_s (a b c : Int) (w : World) :
    Calls Try.prog 21 #[Value.int .i64 a, Value.int .i64 b, Value.int .i64 c] w fun e w' => ∃ r, e = .returned r ∧ r = .bool (outN a b c) ∧ Mem w No w' [] := by
  refine calls_k (args := [Value.int .i64 a, Value.int .i64 b, Value.int .i64 c]) 15 [(0, Value.int .i64 a), (1, Value.int .i64 b), (2, Value.int .i64 c)] Try.func21 rfl rfl ⟨rfl, rfl, rfl, trivial⟩ ?_
  have hM := Mem.nil w No
  refine k_seq ?_
  refine k_region ?_
  refine r_val (v := Value.bool false) (w' := w) rfl rfl (rfl) ?_
  refine r_nil ?_
  refine ends_sub [(0, Value.int .i64 a), (1, Value.int .i64 b), (2, Value.int .i64 c)] ⟨rfl, rfl, rfl, trivial⟩ ?_
  refine e_then ?_
  refine k_seq ?_
  refine k_region ?_
  refine r_val (v := Value.int .i64 a) (w' := w) rfl rfl (rfl) ?_
  refine r_val (v := Value.int .i64 b) (w' := w) rfl rfl (rfl) ?_
  refine r_val (v := Value.bool (decide (a < b))) (w' := w) rfl rfl (rfl) ?_
  refine r_val (v := Value.bool (decide (a < b))) (w' := w) rfl rfl (rfl) ?_
  rcases Bool.eq_false_or_eq_true (decide (a < b)) with hg1 | hg1
  · refine wpR_sub [(0, Value.int .i64 a), (2, Value.int .i64 c), (10, Value.bool true)] ⟨rfl, rfl, congrArg (fun z => some (Value.bool z)) hg1, trivial⟩ ?_
    refine r_no rfl rfl (by decide) rfl ?_
    refine r_no rfl rfl (by decide) rfl ?_
    refine r_no rfl rfl (by decide) rfl ?_
    refine r_val (v := Value.bool true) (w' := w) rfl rfl (rfl) ?_
    refine r_val (v := Value.bool true) (w' := w) rfl rfl (rfl) ?_
    refine r_nil ?_
    refine ends_sub [(6, Value.bool true)] ⟨rfl, trivial⟩ ?_
    refine e_then ?_
    refine k_ret ?_
    refine e_ret1 rfl rfl ?_
    exact ⟨_, rfl, by simp [outN, *], hM⟩
  · refine wpR_sub [(0, Value.int .i64 a), (2, Value.int .i64 c), (10, Value.bool false)] ⟨rfl, rfl, congrArg (fun z => some (Value.bool z)) hg1, trivial⟩ ?_
    refine r_yes rfl rfl ?_
    refine r_val (v := Value.int .i64 a) (w' := w) rfl rfl (rfl) ?_
    refine r_yes rfl rfl ?_
    refine r_val (v := Value.int .i64 c) (w' := w) rfl rfl (rfl) ?_
    refine r_yes rfl rfl ?_
    refine r_val (v := Value.bool (decide (a > c))) (w' := w) rfl rfl (rfl) ?_
    refine r_val (v := Value.bool (decide (a > c))) (w' := w) rfl rfl (rfl) ?_
    refine r_val (v := Value.bool (decide (a > c))) (w' := w) rfl rfl (rfl) ?_
    refine r_nil ?_
    refine ends_sub [(6, Value.bool (decide (a > c)))] ⟨rfl, trivial⟩ ?_
    refine e_then ?_
    refine k_ret ?_
    refine e_ret1 rfl rfl ?_
    exact ⟨_, rfl, by simp [outN, *], hM⟩

theorem checkVec_s (v : List Int) (hv : v.length = 12) (w : World) :
    Calls Try.prog 58 #[Value.agg (ints v)] w fun e w' => ∃ r, e = .returned r ∧ r = .int .i64 (vecErr v) ∧ Mem w No w' [] := by
  refine calls_k (args := [Value.agg (ints v)]) 12 [(0, Value.agg (ints v))] Try.func58 rfl rfl ⟨rfl, trivial⟩ ?_
  have hM := Mem.nil w No
  refine k_seq ?_
  refine k_region ?_
  refine r_box hM rfl rfl ?_
  intro b3 w1 hM2 hb3
  replace hM2 : Mem w No w1 [(b3, .cells (ints v) 52 (0, 0))] := hM2
  refine r_val (v := Value.int .i64 0) (w' := w1) rfl rfl (rfl) ?_
  refine r_nil ?_
  refine ends_sub [(1, Value.pointer (some ⟨b3, 0, none⟩))] ⟨rfl, trivial⟩ ?_
  refine e_then ?_
  refine k_seq ?_
  refine k_seq ?_
  refine k_region ?_
  refine r_val (v := Value.agg (ints v)) (w' := w1) rfl rfl (x_loadRow hM2 0 rfl rfl rfl (by rw [ints_size, show v.length = 12 by omega]; rfl)) ?_
  refine r_val (v := Value.int .i64 0) (w' := w1) rfl rfl (rfl) ?_
  refine r_nil ?_
  refine ends_sub [(5, Value.agg (ints v)), (6, Value.int .i64 0)] ⟨rfl, rfl, trivial⟩ ?_
  refine e_then ?_
  refine k_block ?_
  refine k_loop (σ := Nat) (fun k => [(5, Value.agg (ints v)), (6, Value.int .i64 (k : Int))]) (fun k w_ => Mem w No w_ [(b3, .cells (ints v) 52 (0, 0))] ∧ k ≤ 12 ∧ vecOk (v.take k) = true) (fun k => 12 - k) 0 ⟨rfl, rfl, trivial⟩ ⟨hM2, by decide, rfl⟩ ?_
  rintro k w4 ⟨hM5, hk, hok⟩
  refine wpK_sub [(5, Value.agg (ints v)), (6, Value.int .i64 (k : Int))] ⟨rfl, rfl, trivial⟩ ?_
  refine k_seq ?_
  refine k_region ?_
  refine r_val (v := Value.bool (decide ((k : Int) < 12))) (w' := w4) rfl rfl (rfl) ?_
  refine r_nil ?_
  refine ends_sub [(5, Value.agg (ints v)), (6, Value.int .i64 (k : Int)), (7, Value.bool (decide ((k : Int) < 12)))] ⟨rfl, rfl, rfl, trivial⟩ ?_
  refine e_then ?_
  refine k_seq ?_
  refine k_cond rfl rfl (fun h => ?_) (fun h => ?_)
  · try simp only [decide_eq_true_eq, decide_eq_false_iff_not, Bool.and_eq_true, Bool.or_eq_true, Bool.or_eq_false_iff, Bool.not_eq_true', Bool.not_eq_false', beq_iff_eq, bne_iff_ne, beq_eq_false_iff_ne, bne_eq_false_iff_eq, Int.not_lt, Int.not_le, ne_eq, Bool.not_eq_true, Bool.not_eq_false] at h
    refine k_skip ?_
    refine e_then ?_
    refine k_seq ?_
    refine k_block ?_
    refine k_seq ?_
    refine k_region ?_
    refine r_val (v := Value.int .i64 (v.getD k 0)) (w' := w4) rfl rfl (x_index (by omega) (by omega) (ints_get v k (by omega)) rfl rfl rfl rfl rfl) ?_
    refine r_val (v := Value.int .i64 (v.getD k 0)) (w' := w4) rfl rfl (rfl) ?_
    refine r_nil ?_
    refine ends_sub [(4, Value.int .i64 (v.getD k 0)), (5, Value.agg (ints v)), (6, Value.int .i64 (k : Int))] ⟨rfl, rfl, rfl, trivial⟩ ?_
    refine e_then ?_
    refine k_seq ?_
    refine k_region ?_
    refine r_val (v := Value.int .i64 (v.getD k 0)) (w' := w4) rfl rfl (rfl) ?_
    refine r_call (f := 21) (args := #[Value.int .i64 (v.getD k 0), Value.int .i64 (-127), Value.int .i64 127]) (w' := w4) rfl rfl (x_call (vs := [Value.int .i64 (v.getD k 0), Value.int .i64 (-127), Value.int .i64 127]) (enter21 _ _) rfl rfl) (outside_s (v.getD k 0) (-127) 127 w4) ?_
    rintro v_ w6 ⟨rfl, hM7⟩
    replace hM7 := hM5.grow hM7.kept
    refine r_nil ?_
    refine ends_sub [(5, Value.agg (ints v)), (6, Value.int .i64 (k : Int)), (10, Value.bool (outN (v.getD k 0) (-127) 127))] ⟨rfl, rfl, rfl, trivial⟩ ?_
    refine e_then ?_
    refine k_cond rfl rfl (fun h2 => ?_) (fun h2 => ?_)
    · try simp only [decide_eq_true_eq, decide_eq_false_iff_not, Bool.and_eq_true, Bool.or_eq_true, Bool.or_eq_false_iff, Bool.not_eq_true', Bool.not_eq_false', beq_iff_eq, bne_iff_ne, beq_eq_false_iff_ne, bne_eq_false_iff_eq, Int.not_lt, Int.not_le, ne_eq, Bool.not_eq_true, Bool.not_eq_false] at h2
      refine k_seq ?_
      refine k_region ?_
      simp [outN] at h2
      refine r_val (v := Value.int .i64 2) (w' := w6) rfl rfl (rfl) ?_
      refine r_nil ?_
      refine ends_sub [(2, Value.int .i64 2)] ⟨rfl, trivial⟩ ?_
      refine e_then ?_
      refine k_ret ?_
      refine e_blk_ret ?_
      refine e_then_ret ?_
      refine e_loop_ret ?_
      refine e_blk_ret ?_
      refine e_then_ret ?_
      refine e_ret1 rfl rfl ?_
      exact ⟨_, rfl, by rw [vecErr, if_neg (vecOk_no hv (by omega) h2)], hM7.drop⟩
    · try simp only [decide_eq_true_eq, decide_eq_false_iff_not, Bool.and_eq_true, Bool.or_eq_true, Bool.or_eq_false_iff, Bool.not_eq_true', Bool.not_eq_false', beq_iff_eq, bne_iff_ne, beq_eq_false_iff_ne, bne_eq_false_iff_eq, Int.not_lt, Int.not_le, ne_eq, Bool.not_eq_true, Bool.not_eq_false] at h2
      refine k_skip ?_
      refine e_blk ?_
      refine e_then ?_
      refine k_region ?_
      simp [outN] at h2
      refine r_val (v := Value.int .i64 ((k : Int) + 1)) (w' := w6) rfl rfl (x_addE rfl (by omega) (by omega) rfl rfl) ?_
      refine r_val (v := Value.int .i64 ((k : Int) + 1)) (w' := w6) rfl rfl (rfl) ?_
      refine r_nil ?_
      refine ends_sub [(5, Value.agg (ints v)), (6, Value.int .i64 ((k : Int) + 1))] ⟨rfl, rfl, trivial⟩ ?_
      refine e_loop (k + 1) ⟨rfl, rfl, trivial⟩ ?_ ?_
      · exact ⟨hM7, by omega, vecOk_snoc hv (by omega) hok h2⟩
      · (try dsimp only); omega
  · try simp only [decide_eq_true_eq, decide_eq_false_iff_not, Bool.and_eq_true, Bool.or_eq_true, Bool.or_eq_false_iff, Bool.not_eq_true', Bool.not_eq_false', beq_iff_eq, bne_iff_ne, beq_eq_false_iff_ne, bne_eq_false_iff_eq, Int.not_lt, Int.not_le, ne_eq, Bool.not_eq_true, Bool.not_eq_false] at h
    refine k_exit ?_
    refine e_then_exit ?_
    refine e_loop_exit ?_
    refine e_blk_exit ?_
    refine e_then ?_
    refine k_seq ?_
    refine k_region ?_
    refine r_val (v := Value.int .i64 0) (w' := w4) rfl rfl (rfl) ?_
    refine r_nil ?_
    refine ends_sub [(2, Value.int .i64 0)] ⟨rfl, trivial⟩ ?_
    refine e_then ?_
    refine k_ret ?_
    refine e_ret1 rfl rfl ?_
    exact ⟨_, rfl, by rw [vecErr, if_pos (vecOk_all hv (by omega) hok)], hM5.drop⟩

theorem far_s (a b : List Int) (ha : a.length = 12) (hb : b.length = 12) (va : vecOk a = true) (vb : vecOk b = true) (w : World) :
    Calls Try.prog 28 #[Value.agg (ints a), Value.agg (ints b)] w fun e w' => ∃ r, e = .returned r ∧ r = .int .i64 (farOf a b) ∧ Mem w No w' [] := by
  refine calls_k (args := [Value.agg (ints a), Value.agg (ints b)]) 28 [(0, Value.agg (ints a)), (1, Value.agg (ints b))] Try.func28 rfl rfl ⟨rfl, rfl, trivial⟩ ?_
  have hM := Mem.nil w No
  refine k_seq ?_
  refine k_region ?_
  refine r_box hM rfl rfl ?_
  intro b3 w1 hM2 hb3
  replace hM2 : Mem w No w1 [(b3, .cells (ints a) 52 (0, 0))] := hM2
  refine r_box hM2 rfl rfl ?_
  intro b6 w4 hM5 hb6
  replace hM5 : Mem w No w4 [(b6, .cells (ints b) 52 (0, 0)), (b3, .cells (ints a) 52 (0, 0))] := hM5
  refine r_val (v := Value.int .i64 0) (w' := w4) rfl rfl (rfl) ?_
  refine r_nil ?_
  refine ends_sub [(2, Value.pointer (some ⟨b3, 0, none⟩)), (3, Value.pointer (some ⟨b6, 0, none⟩))] ⟨rfl, rfl, trivial⟩ ?_
  refine e_then ?_
  refine k_seq ?_
  refine k_region ?_
  refine r_val (v := Value.int .i64 0) (w' := w4) rfl rfl (rfl) ?_
  refine r_nil ?_
  refine ends_sub [(2, Value.pointer (some ⟨b3, 0, none⟩)), (3, Value.pointer (some ⟨b6, 0, none⟩)), (5, Value.int .i64 0)] ⟨rfl, rfl, rfl, trivial⟩ ?_
  refine e_then ?_
  refine k_seq ?_
  refine k_seq ?_
  refine k_region ?_
  refine r_val (v := Value.agg (ints a)) (w' := w4) rfl rfl (x_loadRow hM5 1 rfl rfl rfl (by rw [ints_size, show a.length = 12 by omega]; rfl)) ?_
  refine r_val (v := Value.int .i64 0) (w' := w4) rfl rfl (rfl) ?_
  refine r_nil ?_
  refine ends_sub [(3, Value.pointer (some ⟨b6, 0, none⟩)), (5, Value.int .i64 0), (8, Value.agg (ints a)), (9, Value.int .i64 0)] ⟨rfl, rfl, rfl, rfl, trivial⟩ ?_
  refine e_then ?_
  refine k_block ?_
  refine k_loop (σ := Nat) (fun k => [(3, Value.pointer (some ⟨b6, 0, none⟩)), (5, Value.int .i64 (farTo a b k)), (8, Value.agg (ints a)), (9, Value.int .i64 (k : Int))]) (fun k w_ => Mem w No w_ [(b6, .cells (ints b) 52 (0, 0)), (b3, .cells (ints a) 52 (0, 0))] ∧ k ≤ 12) (fun k => 12 - k) 0 ⟨rfl, rfl, rfl, rfl, trivial⟩ ⟨hM5, by decide⟩ ?_
  rintro k w7 ⟨hM8, hk⟩
  refine wpK_sub [(3, Value.pointer (some ⟨b6, 0, none⟩)), (5, Value.int .i64 (farTo a b k)), (8, Value.agg (ints a)), (9, Value.int .i64 (k : Int))] ⟨rfl, rfl, rfl, rfl, trivial⟩ ?_
  refine k_seq ?_
  refine k_region ?_
  refine r_val (v := Value.bool (decide ((k : Int) < 12))) (w' := w7) rfl rfl (rfl) ?_
  refine r_nil ?_
  refine ends_sub [(3, Value.pointer (some ⟨b6, 0, none⟩)), (5, Value.int .i64 (farTo a b k)), (8, Value.agg (ints a)), (9, Value.int .i64 (k : Int)), (10, Value.bool (decide ((k : Int) < 12)))] ⟨rfl, rfl, rfl, rfl, rfl, trivial⟩ ?_
  refine e_then ?_
  refine k_seq ?_
  refine k_cond rfl rfl (fun h => ?_) (fun h => ?_)
  · try simp only [decide_eq_true_eq, decide_eq_false_iff_not, Bool.and_eq_true, Bool.or_eq_true, Bool.or_eq_false_iff, Bool.not_eq_true', Bool.not_eq_false', beq_iff_eq, bne_iff_ne, beq_eq_false_iff_ne, bne_eq_false_iff_eq, Int.not_lt, Int.not_le, ne_eq, Bool.not_eq_true, Bool.not_eq_false] at h
    refine k_skip ?_
    refine e_then ?_
    refine k_seq ?_
    refine k_block ?_
    refine k_seq ?_
    refine k_region ?_
    have h1 := inVec_of va k
    have h2 := inVec_of vb k
    have h3 := sq_bd (d := a.getD k 0 - b.getD k 0) (by omega) (by omega)
    have h4 := farTo_bd va vb k
    refine r_val (v := Value.int .i64 (k : Int)) (w' := w7) rfl rfl (rfl) ?_
    refine r_val (v := Value.int .i64 (a.getD k 0)) (w' := w7) rfl rfl (x_index (by omega) (by omega) (ints_get a k (by omega)) rfl rfl rfl rfl rfl) ?_
    refine r_val (v := Value.int .i64 (k : Int)) (w' := w7) rfl rfl (rfl) ?_
    refine r_val (v := Value.int .i64 (a.getD k 0)) (w' := w7) rfl rfl (rfl) ?_
    refine r_nil ?_
    refine ends_sub [(3, Value.pointer (some ⟨b6, 0, none⟩)), (5, Value.int .i64 (farTo a b k)), (6, Value.int .i64 (k : Int)), (7, Value.int .i64 (a.getD k 0)), (8, Value.agg (ints a)), (9, Value.int .i64 (k : Int))] ⟨rfl, rfl, rfl, rfl, rfl, rfl, trivial⟩ ?_
    refine e_then ?_
    refine k_draw mixed [0, 0, 0, 4, 12, 30, 0, 0, 128, 384, 960, 2046, 4095, 8191] [some (Value.int .i64 (farTo a b k)), some (Value.int .i64 (a.getD k 0)), some (Value.int .i64 (k : Int)), some (Value.pointer (some ⟨b6, k, none⟩)), some (Value.int .i64 (b.getD k 0)), some (Value.int .i64 ((a.getD k 0) - (b.getD k 0))), some (Value.int .i64 (a.getD k 0)), some (Value.int .i64 (k : Int)), some (Value.pointer (some ⟨b6, k, none⟩)), some (Value.int .i64 (b.getD k 0)), some (Value.int .i64 ((a.getD k 0) - (b.getD k 0))), some (Value.int .i64 (((a.getD k 0) - (b.getD k 0)) * ((a.getD k 0) - (b.getD k 0)))), some (Value.int .i64 ((farTo a b k) + (((a.getD k 0) - (b.getD k 0)) * ((a.getD k 0) - (b.getD k 0))))), some (Value.int .i64 ((farTo a b k) + (((a.getD k 0) - (b.getD k 0)) * ((a.getD k 0) - (b.getD k 0)))))] (by kernel_rfl) (fun D V w_ => Mem w No w_ [(b6, .cells (ints b) 52 (0, 0)), (b3, .cells (ints a) 52 (0, 0))]) (fun V => hM8.drew) ?_ ?_
    · refine ⟨?_, ?_, ?_, ?_, ?_, ?_, ?_, ?_, ?_, ?_, ?_, ?_, ?_, ?_, trivial⟩
      · intro D V w_ hd hi hM_
        refine goal_of [(5, Value.int .i64 (farTo a b k))] rfl ⟨rfl, trivial⟩ rfl ?_
        exact run_val (Value.int .i64 (farTo a b k)) (rfl) ⟨fun c h => Option.some.inj (Option.some.inj h), hM_⟩
      · intro D V w_ hd hi hM_
        refine goal_of [(7, Value.int .i64 (a.getD k 0))] rfl ⟨rfl, trivial⟩ rfl ?_
        exact run_val (Value.int .i64 (a.getD k 0)) (rfl) ⟨fun c h => Option.some.inj (Option.some.inj h), hM_⟩
      · intro D V w_ hd hi hM_
        refine goal_of [(6, Value.int .i64 (k : Int))] rfl ⟨rfl, trivial⟩ rfl ?_
        exact run_val (Value.int .i64 (k : Int)) (rfl) ⟨fun c h => Option.some.inj (Option.some.inj h), hM_⟩
      · intro D V w_ hd hi hM_
        refine goal_of [(3, Value.pointer (some ⟨b6, 0, none⟩)), (15, Value.int .i64 (k : Int))] rfl ⟨rfl, rfl, trivial⟩ rfl ?_
        exact run_val (Value.pointer (some ⟨b6, k, none⟩)) (x_indexAddrB (i := k) (sz := 1) (by omega) rfl rfl rfl rfl (by omega)) ⟨fun c h => Option.some.inj (Option.some.inj h), hM_⟩
      · intro D V w_ hd hi hM_
        refine goal_of [(16, Value.pointer (some ⟨b6, k, none⟩))] rfl ⟨rfl, trivial⟩ rfl ?_
        exact run_val (Value.int .i64 (b.getD k 0)) (x_load (hM_.cell 0 rfl (ints_get b k (by omega))) rfl rfl) ⟨fun c h => Option.some.inj (Option.some.inj h), hM_⟩
      · intro D V w_ hd hi hM_
        refine goal_of [(14, Value.int .i64 (a.getD k 0)), (17, Value.int .i64 (b.getD k 0))] rfl ⟨rfl, rfl, trivial⟩ rfl ?_
        exact run_val (Value.int .i64 ((a.getD k 0) - (b.getD k 0))) (x_subE rfl (by omega) (by omega) rfl rfl) ⟨fun c h => Option.some.inj (Option.some.inj h), hM_⟩
      · intro D V w_ hd hi hM_
        refine goal_of [(7, Value.int .i64 (a.getD k 0))] rfl ⟨rfl, trivial⟩ rfl ?_
        exact run_val (Value.int .i64 (a.getD k 0)) (rfl) ⟨fun c h => Option.some.inj (Option.some.inj h), hM_⟩
      · intro D V w_ hd hi hM_
        refine goal_of [(6, Value.int .i64 (k : Int))] rfl ⟨rfl, trivial⟩ rfl ?_
        exact run_val (Value.int .i64 (k : Int)) (rfl) ⟨fun c h => Option.some.inj (Option.some.inj h), hM_⟩
      · intro D V w_ hd hi hM_
        refine goal_of [(3, Value.pointer (some ⟨b6, 0, none⟩)), (20, Value.int .i64 (k : Int))] rfl ⟨rfl, rfl, trivial⟩ rfl ?_
        exact run_val (Value.pointer (some ⟨b6, k, none⟩)) (x_indexAddrB (i := k) (sz := 1) (by omega) rfl rfl rfl rfl (by omega)) ⟨fun c h => Option.some.inj (Option.some.inj h), hM_⟩
      · intro D V w_ hd hi hM_
        refine goal_of [(21, Value.pointer (some ⟨b6, k, none⟩))] rfl ⟨rfl, trivial⟩ rfl ?_
        exact run_val (Value.int .i64 (b.getD k 0)) (x_load (hM_.cell 0 rfl (ints_get b k (by omega))) rfl rfl) ⟨fun c h => Option.some.inj (Option.some.inj h), hM_⟩
      · intro D V w_ hd hi hM_
        refine goal_of [(19, Value.int .i64 (a.getD k 0)), (22, Value.int .i64 (b.getD k 0))] rfl ⟨rfl, rfl, trivial⟩ rfl ?_
        exact run_val (Value.int .i64 ((a.getD k 0) - (b.getD k 0))) (x_subE rfl (by omega) (by omega) rfl rfl) ⟨fun c h => Option.some.inj (Option.some.inj h), hM_⟩
      · intro D V w_ hd hi hM_
        refine goal_of [(18, Value.int .i64 ((a.getD k 0) - (b.getD k 0))), (23, Value.int .i64 ((a.getD k 0) - (b.getD k 0)))] rfl ⟨rfl, rfl, trivial⟩ rfl ?_
        exact run_val (Value.int .i64 (((a.getD k 0) - (b.getD k 0)) * ((a.getD k 0) - (b.getD k 0)))) (x_mulE rfl (by omega) (by omega) rfl rfl) ⟨fun c h => Option.some.inj (Option.some.inj h), hM_⟩
      · intro D V w_ hd hi hM_
        refine goal_of [(13, Value.int .i64 (farTo a b k)), (24, Value.int .i64 (((a.getD k 0) - (b.getD k 0)) * ((a.getD k 0) - (b.getD k 0))))] rfl ⟨rfl, rfl, trivial⟩ rfl ?_
        exact run_val (Value.int .i64 ((farTo a b k) + (((a.getD k 0) - (b.getD k 0)) * ((a.getD k 0) - (b.getD k 0))))) (x_addE rfl (by omega) (by omega) rfl rfl) ⟨fun c h => Option.some.inj (Option.some.inj h), hM_⟩
      · intro D V w_ hd hi hM_
        refine goal_of [(25, Value.int .i64 ((farTo a b k) + (((a.getD k 0) - (b.getD k 0)) * ((a.getD k 0) - (b.getD k 0)))))] rfl ⟨rfl, trivial⟩ rfl ?_
        exact run_val (Value.int .i64 ((farTo a b k) + (((a.getD k 0) - (b.getD k 0)) * ((a.getD k 0) - (b.getD k 0))))) (rfl) ⟨fun c h => Option.some.inj (Option.some.inj h), hM_⟩
    intro D V w9 hall hM10
    refine ends_sub [(3, Value.pointer (some ⟨b6, 0, none⟩)), (5, Value.int .i64 ((farTo a b k) + (((a.getD k 0) - (b.getD k 0)) * ((a.getD k 0) - (b.getD k 0))))), (8, Value.agg (ints a)), (9, Value.int .i64 (k : Int))] ⟨rfl, rfl, rfl, rfl, trivial⟩ ?_
    refine e_blk ?_
    refine e_then ?_
    refine k_region ?_
    refine r_val (v := Value.int .i64 ((k : Int) + 1)) (w' := w9) rfl rfl (x_addE rfl (by omega) (by omega) rfl rfl) ?_
    refine r_val (v := Value.int .i64 ((k : Int) + 1)) (w' := w9) rfl rfl (rfl) ?_
    refine r_nil ?_
    refine ends_sub [(3, Value.pointer (some ⟨b6, 0, none⟩)), (5, Value.int .i64 ((farTo a b k) + (((a.getD k 0) - (b.getD k 0)) * ((a.getD k 0) - (b.getD k 0))))), (8, Value.agg (ints a)), (9, Value.int .i64 ((k : Int) + 1))] ⟨rfl, rfl, rfl, rfl, trivial⟩ ?_
    refine e_loop (k + 1) ⟨rfl, rfl, rfl, rfl, trivial⟩ ?_ ?_
    · exact ⟨hM10, by omega⟩
    · (try dsimp only); omega
  · try simp only [decide_eq_true_eq, decide_eq_false_iff_not, Bool.and_eq_true, Bool.or_eq_true, Bool.or_eq_false_iff, Bool.not_eq_true', Bool.not_eq_false', beq_iff_eq, bne_iff_ne, beq_eq_false_iff_ne, bne_eq_false_iff_eq, Int.not_lt, Int.not_le, ne_eq, Bool.not_eq_true, Bool.not_eq_false] at h
    refine k_exit ?_
    refine e_then_exit ?_
    refine e_loop_exit ?_
    refine e_blk_exit ?_
    refine e_then ?_
    refine k_seq ?_
    refine k_region ?_
    have hk12 : k = 12 := by omega
    refine r_val (v := Value.int .i64 (farTo a b k)) (w' := w7) rfl rfl (rfl) ?_
    refine r_val (v := Value.int .i64 (farTo a b k)) (w' := w7) rfl rfl (rfl) ?_
    refine r_nil ?_
    refine ends_sub [(4, Value.int .i64 (farTo a b k))] ⟨rfl, trivial⟩ ?_
    refine e_then ?_
    refine k_ret ?_
    refine e_ret1 rfl rfl ?_
    exact ⟨_, rfl, by rw [hk12]; rfl, hM8.drop⟩


end Go.Proofs.Ytddacakmafdgdaa
