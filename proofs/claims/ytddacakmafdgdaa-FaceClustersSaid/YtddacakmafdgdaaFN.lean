/- FN: what Go functions of this seat come to, printed by walk.py over the engine. -/
import Derived.Test.YtddacakmafdgdaaGa
set_option linter.unusedVariables false
set_option linter.unusedSimpArgs false
set_option maxRecDepth 100000
namespace Go.Proofs.Ytddacakmafdgdaa
open Go.RowKit Go.Kn

theorem gap_s (Al Aa Ab : Option Addr) (n cl ca cb : Nat) (l : List (List Int)) (xs ys : List Int) (w : World) (hl : RdE intsE 14 w Al n l) (ha : RdE intE 1 w Aa xs.length xs) (hb : RdE intE 1 w Ab ys.length ys) (h1 : xs.length ≤ 274877906944) (h2 : ys.length ≤ 274877906944) :
    Calls Try.prog 8 #[Value.slice Al n cl, Value.slice Aa xs.length ca, Value.slice Ab ys.length cb] w fun e w' => ∃ r, e = .returned r ∧ ∃ g e, r = .tuple #[.int .i64 g, .int .i64 e] ∧ e = gapErr l xs ys ∧ (e ≠ 0 → g = 0) ∧ (e = 0 → GapAll l xs ys g) ∧ Mem w No w' [] := by
  refine calls_k (args := [Value.slice Al n cl, Value.slice Aa xs.length ca, Value.slice Ab ys.length cb]) 93 [(0, Value.slice Al n cl), (1, Value.slice Aa xs.length ca), (2, Value.slice Ab ys.length cb)] Try.func8 rfl rfl ⟨rfl, rfl, rfl, trivial⟩ ?_
  have hM := Mem.nil w No
  have hll := hl.len
  refine k_seq ?_
  refine k_region ?_
  refine r_val (v := Value.int .i64 0) (w' := w) rfl rfl (rfl) ?_
  refine r_val (v := Value.int .i64 0) (w' := w) rfl rfl (rfl) ?_
  refine r_nil ?_
  refine ends_sub [(0, Value.slice Al n cl), (1, Value.slice Aa xs.length ca), (2, Value.slice Ab ys.length cb)] ⟨rfl, rfl, rfl, trivial⟩ ?_
  refine e_then ?_
  refine k_seq ?_
  refine k_seq ?_
  refine k_region ?_
  refine r_val (v := Value.slice Al n cl) (w' := w) rfl rfl (rfl) ?_
  refine r_call (f := 25) (args := #[Value.slice Al n cl]) (w' := w) rfl rfl (x_call (vs := [Value.slice Al n cl]) (enter25 _ _) rfl rfl) (check_s Al n cl l w (hl.up hM)) ?_
  rintro v_ w1 ⟨rfl, hM2⟩
  replace hM2 := hM.grow hM2.kept
  refine r_val (v := Value.int .i64 (checkL l)) (w' := w1) rfl rfl (rfl) ?_
  refine r_nil ?_
  refine ends_sub [(0, Value.slice Al n cl), (1, Value.slice Aa xs.length ca), (2, Value.slice Ab ys.length cb), (8, Value.int .i64 (checkL l))] ⟨rfl, rfl, rfl, rfl, trivial⟩ ?_
  refine e_then ?_
  refine k_seq ?_
  refine k_region ?_
  refine r_val (v := Value.int .i64 (checkL l)) (w' := w1) rfl rfl (rfl) ?_
  refine r_val (v := Value.bool ((checkL l) != 0)) (w' := w1) rfl rfl (rfl) ?_
  refine r_nil ?_
  refine ends_sub [(0, Value.slice Al n cl), (1, Value.slice Aa xs.length ca), (2, Value.slice Ab ys.length cb), (8, Value.int .i64 (checkL l)), (25, Value.bool ((checkL l) != 0))] ⟨rfl, rfl, rfl, rfl, rfl, trivial⟩ ?_
  refine e_then ?_
  refine k_cond rfl rfl (fun h => ?_) (fun h => ?_)
  · try simp only [decide_eq_true_eq, decide_eq_false_iff_not, Bool.and_eq_true, Bool.or_eq_true, Bool.or_eq_false_iff, Bool.not_eq_true', Bool.not_eq_false', beq_iff_eq, bne_iff_ne, beq_eq_false_iff_ne, bne_eq_false_iff_eq, Int.not_lt, Int.not_le, ne_eq, Bool.not_eq_true, Bool.not_eq_false] at h
    refine k_seq ?_
    refine k_region ?_
    refine r_val (v := Value.int .i64 (checkL l)) (w' := w1) rfl rfl (rfl) ?_
    refine r_val (v := Value.int .i64 0) (w' := w1) rfl rfl (rfl) ?_
    refine r_val (v := Value.int .i64 (checkL l)) (w' := w1) rfl rfl (rfl) ?_
    refine r_nil ?_
    refine ends_sub [(6, Value.int .i64 0), (7, Value.int .i64 (checkL l))] ⟨rfl, rfl, trivial⟩ ?_
    refine e_then ?_
    refine k_ret ?_
    refine e_then_ret ?_
    refine e_ret2 rfl rfl rfl ?_
    exact ⟨_, rfl, _, _, rfl, (gapErr_1 h).symm, fun _ => rfl, fun h0 => absurd h0 h, hM2.drop⟩
  · try simp only [decide_eq_true_eq, decide_eq_false_iff_not, Bool.and_eq_true, Bool.or_eq_true, Bool.or_eq_false_iff, Bool.not_eq_true', Bool.not_eq_false', beq_iff_eq, bne_iff_ne, beq_eq_false_iff_ne, bne_eq_false_iff_eq, Int.not_lt, Int.not_le, ne_eq, Bool.not_eq_true, Bool.not_eq_false] at h
    refine k_skip ?_
    refine e_then ?_
    refine k_seq ?_
    refine k_seq ?_
    refine k_region ?_
    have hgd := good_of h (fun x hx => by have := hl.size x hx; simpa using this)
    have hn3 : n ≤ 300 := by have := hgd.len; omega
    refine r_val (v := Value.slice Aa xs.length ca) (w' := w1) rfl rfl (rfl) ?_
    refine r_val (v := Value.slice Ab ys.length cb) (w' := w1) rfl rfl (rfl) ?_
    refine r_new (fun b => .slice (some ⟨b, 0, none⟩) 2 2) (.cells #[Value.slice Aa xs.length ca, Value.slice Ab ys.length cb] 30 (0, 0)) hM2 (by kernel_rfl) rfl rfl ?_
    intro b5 w3 hM4 hb5
    replace hM4 : Mem w No w3 [(b5, .cells #[Value.slice Aa xs.length ca, Value.slice Ab ys.length cb] 30 (0, 0))] := hM4
    refine r_call (f := 26) (args := #[Value.slice (some ⟨b5, 0, none⟩) 2 2]) (w' := w3) rfl rfl (x_call (vs := [Value.slice (some ⟨b5, 0, none⟩) 2 2]) (enter26 _ _) rfl rfl) (concat2_s b5 Aa Ab ca cb xs ys _ w3 (hM4.get 0 rfl) (ha.up hM4) (hb.up hM4) h1 h2) ?_
    rintro v_ w6 ⟨L1, hrow, hM7⟩
    replace hM7 : Mem w No w6 L1 := by simpa using Mem.call0 hM4.drop hM7
    obtain ⟨A1, c1, rfl, hnc1, hcx1, hA1⟩ := hrow.slice
    have hal : (xs ++ ys).length = xs.length + ys.length := List.length_append
    refine r_val (v := Value.int .i64 ((xs ++ ys).length : Int)) (w' := w6) rfl rfl (x_len rfl rfl) ?_
    refine r_val (v := Value.int .i64 0) (w' := w6) rfl rfl (rfl) ?_
    refine r_nil ?_
    refine ends_sub [(0, Value.slice Al n cl), (1, Value.slice Aa xs.length ca), (2, Value.slice Ab ys.length cb), (30, Value.slice A1 ((xs ++ ys).length) c1), (31, Value.int .i64 ((xs ++ ys).length : Int)), (32, Value.int .i64 0)] ⟨rfl, rfl, rfl, rfl, rfl, rfl, trivial⟩ ?_
    refine e_then ?_
    refine k_block ?_
    refine k_loop (σ := Nat) (fun k => [(0, Value.slice Al n cl), (1, Value.slice Aa xs.length ca), (2, Value.slice Ab ys.length cb), (30, Value.slice A1 ((xs ++ ys).length) c1), (31, Value.int .i64 ((xs ++ ys).length : Int)), (32, Value.int .i64 (k : Int))]) (fun k w_ => Mem w No w_ L1 ∧ k ≤ (xs ++ ys).length ∧ ∀ z ∈ (xs ++ ys).take k, atOk l z = true) (fun k => (xs ++ ys).length - k) 0 ⟨rfl, rfl, rfl, rfl, rfl, rfl, trivial⟩ ⟨hM7, Nat.zero_le _, by simp⟩ ?_
    rintro k w8 ⟨hM9, hk, hok⟩
    refine wpK_sub [(0, Value.slice Al n cl), (1, Value.slice Aa xs.length ca), (2, Value.slice Ab ys.length cb), (30, Value.slice A1 ((xs ++ ys).length) c1), (31, Value.int .i64 ((xs ++ ys).length : Int)), (32, Value.int .i64 (k : Int))] ⟨rfl, rfl, rfl, rfl, rfl, rfl, trivial⟩ ?_
    refine k_seq ?_
    refine k_region ?_
    refine r_val (v := Value.bool (decide ((k : Int) < ((xs ++ ys).length : Int)))) (w' := w8) rfl rfl (rfl) ?_
    refine r_nil ?_
    refine ends_sub [(0, Value.slice Al n cl), (1, Value.slice Aa xs.length ca), (2, Value.slice Ab ys.length cb), (30, Value.slice A1 ((xs ++ ys).length) c1), (31, Value.int .i64 ((xs ++ ys).length : Int)), (32, Value.int .i64 (k : Int)), (33, Value.bool (decide ((k : Int) < ((xs ++ ys).length : Int))))] ⟨rfl, rfl, rfl, rfl, rfl, rfl, rfl, trivial⟩ ?_
    refine e_then ?_
    refine k_seq ?_
    refine k_cond rfl rfl (fun h3 => ?_) (fun h3 => ?_)
    · try simp only [decide_eq_true_eq, decide_eq_false_iff_not, Bool.and_eq_true, Bool.or_eq_true, Bool.or_eq_false_iff, Bool.not_eq_true', Bool.not_eq_false', beq_iff_eq, bne_iff_ne, beq_eq_false_iff_ne, bne_eq_false_iff_eq, Int.not_lt, Int.not_le, ne_eq, Bool.not_eq_true, Bool.not_eq_false] at h3
      refine k_skip ?_
      refine e_then ?_
      refine k_seq ?_
      refine k_block ?_
      refine k_seq ?_
      refine k_region ?_
      have hcr := hrow.rdI (w := w8) hM9.holds
      obtain ⟨z, hz⟩ : ∃ z, (xs ++ ys)[k]? = some z := ⟨(xs ++ ys)[k]'(by omega), by simp⟩
      refine r_val (v := Value.pointer (some ((adr A1).add (k * 1)))) (w' := w8) rfl rfl (x_indexAddrN (i := k) (sz := 1) hcr.here (by omega) rfl rfl rfl rfl) ?_
      refine r_val (v := Value.int .i64 z) (w' := w8) rfl rfl (x_loadEInt hcr hz rfl rfl) ?_
      refine r_val (v := Value.int .i64 z) (w' := w8) rfl rfl (rfl) ?_
      refine r_nil ?_
      refine ends_sub [(0, Value.slice Al n cl), (1, Value.slice Aa xs.length ca), (2, Value.slice Ab ys.length cb), (10, Value.int .i64 z), (30, Value.slice A1 ((xs ++ ys).length) c1), (31, Value.int .i64 ((xs ++ ys).length : Int)), (32, Value.int .i64 (k : Int))] ⟨rfl, rfl, rfl, rfl, rfl, rfl, rfl, trivial⟩ ?_
      refine e_then ?_
      refine k_seq ?_
      refine k_region ?_
      refine r_val (v := Value.slice Al n cl) (w' := w8) rfl rfl (rfl) ?_
      refine r_val (v := Value.int .i64 z) (w' := w8) rfl rfl (rfl) ?_
      refine r_call (f := 27) (args := #[Value.slice Al n cl, Value.int .i64 z]) (w' := w8) rfl rfl (x_call (vs := [Value.slice Al n cl, Value.int .i64 z]) (enter27 _ _) rfl rfl) (at_s Al n cl l z w8 (hl.up hM9) hgd.sorted hn3) ?_
      rintro v_ w10 ⟨rfl, hM11⟩
      replace hM11 := hM9.grow hM11.kept
      refine r_val (v := Value.tuple #[Value.int .i64 (atPos l z : Int), Value.bool (atOk l z)]) (w' := w10) rfl rfl (rfl) ?_
      refine r_val (v := Value.int .i64 (atPos l z : Int)) (w' := w10) rfl rfl (rfl) ?_
      refine r_val (v := Value.bool (atOk l z)) (w' := w10) rfl rfl (rfl) ?_
      refine r_val (v := Value.int .i64 (atPos l z : Int)) (w' := w10) rfl rfl (rfl) ?_
      refine r_val (v := Value.bool (atOk l z)) (w' := w10) rfl rfl (rfl) ?_
      refine r_nil ?_
      refine ends_sub [(0, Value.slice Al n cl), (1, Value.slice Aa xs.length ca), (2, Value.slice Ab ys.length cb), (12, Value.bool (atOk l z)), (30, Value.slice A1 ((xs ++ ys).length) c1), (31, Value.int .i64 ((xs ++ ys).length : Int)), (32, Value.int .i64 (k : Int))] ⟨rfl, rfl, rfl, rfl, rfl, rfl, rfl, trivial⟩ ?_
      refine e_then ?_
      refine k_seq ?_
      refine k_region ?_
      refine r_val (v := Value.bool (atOk l z)) (w' := w10) rfl rfl (rfl) ?_
      refine r_val (v := Value.bool (!(atOk l z))) (w' := w10) rfl rfl (rfl) ?_
      refine r_nil ?_
      refine ends_sub [(0, Value.slice Al n cl), (1, Value.slice Aa xs.length ca), (2, Value.slice Ab ys.length cb), (30, Value.slice A1 ((xs ++ ys).length) c1), (31, Value.int .i64 ((xs ++ ys).length : Int)), (32, Value.int .i64 (k : Int)), (43, Value.bool (!(atOk l z)))] ⟨rfl, rfl, rfl, rfl, rfl, rfl, rfl, trivial⟩ ?_
      refine e_then ?_
      refine k_cond rfl rfl (fun h4 => ?_) (fun h4 => ?_)
      · try simp only [decide_eq_true_eq, decide_eq_false_iff_not, Bool.and_eq_true, Bool.or_eq_true, Bool.or_eq_false_iff, Bool.not_eq_true', Bool.not_eq_false', beq_iff_eq, bne_iff_ne, beq_eq_false_iff_ne, bne_eq_false_iff_eq, Int.not_lt, Int.not_le, ne_eq, Bool.not_eq_true, Bool.not_eq_false] at h4
        refine k_seq ?_
        refine k_region ?_
        refine r_val (v := Value.int .i64 0) (w' := w10) rfl rfl (rfl) ?_
        refine r_val (v := Value.int .i64 7) (w' := w10) rfl rfl (rfl) ?_
        refine r_nil ?_
        refine ends_sub [(6, Value.int .i64 0), (7, Value.int .i64 7)] ⟨rfl, rfl, trivial⟩ ?_
        refine e_then ?_
        refine k_ret ?_
        refine e_blk_ret ?_
        refine e_then_ret ?_
        refine e_loop_ret ?_
        refine e_blk_ret ?_
        refine e_then_ret ?_
        refine e_ret2 rfl rfl rfl ?_
        exact ⟨_, rfl, _, _, rfl, (gapErr_2 h (List.mem_of_getElem? hz) h4).symm, fun _ => rfl, fun h0 => absurd h0 (by decide), hM11.drop⟩
      · try simp only [decide_eq_true_eq, decide_eq_false_iff_not, Bool.and_eq_true, Bool.or_eq_true, Bool.or_eq_false_iff, Bool.not_eq_true', Bool.not_eq_false', beq_iff_eq, bne_iff_ne, beq_eq_false_iff_ne, bne_eq_false_iff_eq, Int.not_lt, Int.not_le, ne_eq, Bool.not_eq_true, Bool.not_eq_false] at h4
        refine k_skip ?_
        refine e_blk ?_
        refine e_then ?_
        refine k_region ?_
        refine r_val (v := Value.int .i64 ((k : Int) + 1)) (w' := w10) rfl rfl (x_addE rfl (by omega) (by omega) rfl rfl) ?_
        refine r_val (v := Value.int .i64 ((k : Int) + 1)) (w' := w10) rfl rfl (rfl) ?_
        refine r_nil ?_
        refine ends_sub [(0, Value.slice Al n cl), (1, Value.slice Aa xs.length ca), (2, Value.slice Ab ys.length cb), (30, Value.slice A1 ((xs ++ ys).length) c1), (31, Value.int .i64 ((xs ++ ys).length : Int)), (32, Value.int .i64 ((k : Int) + 1))] ⟨rfl, rfl, rfl, rfl, rfl, rfl, trivial⟩ ?_
        refine e_loop (k + 1) ⟨rfl, rfl, rfl, rfl, rfl, rfl, trivial⟩ ?_ ?_
        · exact ⟨hM11, by omega, fun q hq => by rw [take_snoc' hz] at hq; rcases List.mem_append.1 hq with hq | hq; exact hok q hq; simp at hq; subst hq; exact h4⟩
        · (try dsimp only); omega
    · try simp only [decide_eq_true_eq, decide_eq_false_iff_not, Bool.and_eq_true, Bool.or_eq_true, Bool.or_eq_false_iff, Bool.not_eq_true', Bool.not_eq_false', beq_iff_eq, bne_iff_ne, beq_eq_false_iff_ne, bne_eq_false_iff_eq, Int.not_lt, Int.not_le, ne_eq, Bool.not_eq_true, Bool.not_eq_false] at h3
      refine k_exit ?_
      refine e_then_exit ?_
      refine e_loop_exit ?_
      refine e_blk_exit ?_
      refine e_then ?_
      refine k_seq ?_
      refine k_seq ?_
      refine k_region ?_
      rw [List.take_of_length_le (by omega)] at hok
      refine r_val (v := Value.slice Aa xs.length ca) (w' := w8) rfl rfl (rfl) ?_
      refine r_val (v := Value.int .i64 (xs.length : Int)) (w' := w8) rfl rfl (x_len rfl rfl) ?_
      refine r_val (v := Value.bool ((xs.length : Int) == 0)) (w' := w8) rfl rfl (rfl) ?_
      refine r_val (v := Value.bool ((xs.length : Int) == 0)) (w' := w8) rfl rfl (rfl) ?_
      rcases Bool.eq_false_or_eq_true ((xs.length : Int) == 0) with g1 | g1
      · refine wpR_sub [(0, Value.slice Al n cl), (1, Value.slice Aa xs.length ca), (2, Value.slice Ab ys.length cb), (48, Value.bool true)] ⟨rfl, rfl, rfl, congrArg (fun z => some (Value.bool z)) g1, trivial⟩ ?_
        refine r_no rfl rfl (by decide) rfl ?_
        refine r_no rfl rfl (by decide) rfl ?_
        refine r_no rfl rfl (by decide) rfl ?_
        refine r_val (v := Value.bool true) (w' := w8) rfl rfl (rfl) ?_
        refine r_nil ?_
        refine ends_sub [(0, Value.slice Al n cl), (1, Value.slice Aa xs.length ca), (2, Value.slice Ab ys.length cb), (52, Value.bool true)] ⟨rfl, rfl, rfl, rfl, trivial⟩ ?_
        refine e_then ?_
        refine k_cond_true rfl rfl ?_
        refine k_seq ?_
        refine k_region ?_
        refine r_val (v := Value.int .i64 0) (w' := w8) rfl rfl (rfl) ?_
        refine r_val (v := Value.int .i64 7) (w' := w8) rfl rfl (rfl) ?_
        refine r_nil ?_
        refine ends_sub [(6, Value.int .i64 0), (7, Value.int .i64 7)] ⟨rfl, rfl, trivial⟩ ?_
        refine e_then ?_
        refine k_ret ?_
        refine e_then_ret ?_
        refine e_ret2 rfl rfl rfl ?_
        exact ⟨_, rfl, _, _, rfl, (gapErr_3 h (.inl (List.eq_nil_of_length_eq_zero (by simpa using g1)))).symm, fun _ => rfl, fun h0 => absurd h0 (by decide), hM9.drop⟩
      · refine wpR_sub [(0, Value.slice Al n cl), (1, Value.slice Aa xs.length ca), (2, Value.slice Ab ys.length cb), (48, Value.bool false)] ⟨rfl, rfl, rfl, congrArg (fun z => some (Value.bool z)) g1, trivial⟩ ?_
        refine r_yes rfl rfl ?_
        refine r_val (v := Value.slice Ab ys.length cb) (w' := w8) rfl rfl (rfl) ?_
        refine r_yes rfl rfl ?_
        refine r_val (v := Value.int .i64 (ys.length : Int)) (w' := w8) rfl rfl (x_len rfl rfl) ?_
        refine r_yes rfl rfl ?_
        refine r_val (v := Value.bool ((ys.length : Int) == 0)) (w' := w8) rfl rfl (rfl) ?_
        refine r_val (v := Value.bool ((ys.length : Int) == 0)) (w' := w8) rfl rfl (rfl) ?_
        refine r_nil ?_
        refine ends_sub [(0, Value.slice Al n cl), (1, Value.slice Aa xs.length ca), (2, Value.slice Ab ys.length cb), (52, Value.bool ((ys.length : Int) == 0))] ⟨rfl, rfl, rfl, rfl, trivial⟩ ?_
        refine e_then ?_
        refine k_cond rfl rfl (fun h5 => ?_) (fun h5 => ?_)
        · try simp only [decide_eq_true_eq, decide_eq_false_iff_not, Bool.and_eq_true, Bool.or_eq_true, Bool.or_eq_false_iff, Bool.not_eq_true', Bool.not_eq_false', beq_iff_eq, bne_iff_ne, beq_eq_false_iff_ne, bne_eq_false_iff_eq, Int.not_lt, Int.not_le, ne_eq, Bool.not_eq_true, Bool.not_eq_false] at h5
          refine k_seq ?_
          refine k_region ?_
          refine r_val (v := Value.int .i64 0) (w' := w8) rfl rfl (rfl) ?_
          refine r_val (v := Value.int .i64 7) (w' := w8) rfl rfl (rfl) ?_
          refine r_nil ?_
          refine ends_sub [(6, Value.int .i64 0), (7, Value.int .i64 7)] ⟨rfl, rfl, trivial⟩ ?_
          refine e_then ?_
          refine k_ret ?_
          refine e_then_ret ?_
          refine e_ret2 rfl rfl rfl ?_
          exact ⟨_, rfl, _, _, rfl, (gapErr_3 h (.inr (List.eq_nil_of_length_eq_zero (by simpa using h5)))).symm, fun _ => rfl, fun h0 => absurd h0 (by decide), hM9.drop⟩
        · try simp only [decide_eq_true_eq, decide_eq_false_iff_not, Bool.and_eq_true, Bool.or_eq_true, Bool.or_eq_false_iff, Bool.not_eq_true', Bool.not_eq_false', beq_iff_eq, bne_iff_ne, beq_eq_false_iff_ne, bne_eq_false_iff_eq, Int.not_lt, Int.not_le, ne_eq, Bool.not_eq_true, Bool.not_eq_false] at h5
          refine k_skip ?_
          refine e_then ?_
          refine k_seq ?_
          refine k_region ?_
          have he0 := gapErr_0 h hok (by rintro (e | e) <;> subst e <;> simp at g1 h5)
          have hM13 : Mem w No w8 [] := hM9.drop
          refine r_val (v := Value.int .i64 774192) (w' := w8) rfl rfl (rfl) ?_
          refine r_nil ?_
          refine ends_sub [(0, Value.slice Al n cl), (1, Value.slice Aa xs.length ca), (2, Value.slice Ab ys.length cb), (13, Value.int .i64 774192)] ⟨rfl, rfl, rfl, rfl, trivial⟩ ?_
          refine e_then ?_
          refine k_seq ?_
          refine k_seq ?_
          refine k_region ?_
          refine r_val (v := Value.slice Aa xs.length ca) (w' := w8) rfl rfl (rfl) ?_
          refine r_val (v := Value.int .i64 (xs.length : Int)) (w' := w8) rfl rfl (x_len rfl rfl) ?_
          refine r_val (v := Value.int .i64 0) (w' := w8) rfl rfl (rfl) ?_
          refine r_nil ?_
          refine ends_sub [(0, Value.slice Al n cl), (2, Value.slice Ab ys.length cb), (13, Value.int .i64 774192), (53, Value.slice Aa xs.length ca), (54, Value.int .i64 (xs.length : Int)), (55, Value.int .i64 0)] ⟨rfl, rfl, rfl, rfl, rfl, rfl, trivial⟩ ?_
          refine e_then ?_
          refine k_block ?_
          refine k_loop (σ := Nat × Int) (fun ⟨i, g⟩ => [(0, Value.slice Al n cl), (2, Value.slice Ab ys.length cb), (13, Value.int .i64 g), (53, Value.slice Aa xs.length ca), (54, Value.int .i64 (xs.length : Int)), (55, Value.int .i64 (i : Int))]) (fun ⟨i, g⟩ w_ => Mem w No w_ [] ∧ i ≤ xs.length ∧ GapL l xs ys (upQ i 0) g) (fun ⟨i, g⟩ => xs.length - i) (0, 774192) ⟨rfl, rfl, rfl, rfl, rfl, rfl, trivial⟩ ⟨hM13, Nat.zero_le _, gapL_none⟩ ?_
          rintro ⟨i, g⟩ w14 ⟨hM15, hi, hg⟩
          refine wpK_sub [(0, Value.slice Al n cl), (2, Value.slice Ab ys.length cb), (13, Value.int .i64 g), (53, Value.slice Aa xs.length ca), (54, Value.int .i64 (xs.length : Int)), (55, Value.int .i64 (i : Int))] ⟨rfl, rfl, rfl, rfl, rfl, rfl, trivial⟩ ?_
          refine k_seq ?_
          refine k_region ?_
          refine r_val (v := Value.bool (decide ((i : Int) < (xs.length : Int)))) (w' := w14) rfl rfl (rfl) ?_
          refine r_nil ?_
          refine ends_sub [(0, Value.slice Al n cl), (2, Value.slice Ab ys.length cb), (13, Value.int .i64 g), (53, Value.slice Aa xs.length ca), (54, Value.int .i64 (xs.length : Int)), (55, Value.int .i64 (i : Int)), (56, Value.bool (decide ((i : Int) < (xs.length : Int))))] ⟨rfl, rfl, rfl, rfl, rfl, rfl, rfl, trivial⟩ ?_
          refine e_then ?_
          refine k_seq ?_
          refine k_cond rfl rfl (fun h6 => ?_) (fun h6 => ?_)
          · try simp only [decide_eq_true_eq, decide_eq_false_iff_not, Bool.and_eq_true, Bool.or_eq_true, Bool.or_eq_false_iff, Bool.not_eq_true', Bool.not_eq_false', beq_iff_eq, bne_iff_ne, beq_eq_false_iff_ne, bne_eq_false_iff_eq, Int.not_lt, Int.not_le, ne_eq, Bool.not_eq_true, Bool.not_eq_false] at h6
            refine k_skip ?_
            refine e_then ?_
            refine k_seq ?_
            refine k_block ?_
            refine k_seq ?_
            refine k_region ?_
            obtain ⟨x, hx⟩ : ∃ z, xs[i]? = some z := ⟨xs[i]'(by omega), by simp⟩
            refine r_val (v := Value.pointer (some ((adr Aa).add (i * 1)))) (w' := w14) rfl rfl (x_indexAddrN (i := i) (sz := 1) ha.here (by omega) rfl rfl rfl rfl) ?_
            refine r_val (v := Value.int .i64 x) (w' := w14) rfl rfl (x_loadEInt (ha.up hM15) hx rfl rfl) ?_
            refine r_val (v := Value.int .i64 x) (w' := w14) rfl rfl (rfl) ?_
            refine r_nil ?_
            refine ends_sub [(0, Value.slice Al n cl), (2, Value.slice Ab ys.length cb), (13, Value.int .i64 g), (15, Value.int .i64 x), (53, Value.slice Aa xs.length ca), (54, Value.int .i64 (xs.length : Int)), (55, Value.int .i64 (i : Int))] ⟨rfl, rfl, rfl, rfl, rfl, rfl, rfl, trivial⟩ ?_
            refine e_then ?_
            refine k_seq ?_
            refine k_region ?_
            refine r_val (v := Value.slice Ab ys.length cb) (w' := w14) rfl rfl (rfl) ?_
            refine r_val (v := Value.int .i64 (ys.length : Int)) (w' := w14) rfl rfl (x_len rfl rfl) ?_
            refine r_val (v := Value.int .i64 0) (w' := w14) rfl rfl (rfl) ?_
            refine r_nil ?_
            refine ends_sub [(0, Value.slice Al n cl), (2, Value.slice Ab ys.length cb), (13, Value.int .i64 g), (15, Value.int .i64 x), (53, Value.slice Aa xs.length ca), (54, Value.int .i64 (xs.length : Int)), (55, Value.int .i64 (i : Int)), (59, Value.slice Ab ys.length cb), (60, Value.int .i64 (ys.length : Int)), (61, Value.int .i64 0)] ⟨rfl, rfl, rfl, rfl, rfl, rfl, rfl, rfl, rfl, rfl, trivial⟩ ?_
            refine e_then ?_
            refine k_block ?_
            refine k_loop (σ := Nat × Int) (fun ⟨k, g⟩ => [(0, Value.slice Al n cl), (2, Value.slice Ab ys.length cb), (13, Value.int .i64 g), (15, Value.int .i64 x), (53, Value.slice Aa xs.length ca), (54, Value.int .i64 (xs.length : Int)), (55, Value.int .i64 (i : Int)), (59, Value.slice Ab ys.length cb), (60, Value.int .i64 (ys.length : Int)), (61, Value.int .i64 (k : Int))]) (fun ⟨k, g⟩ w_ => Mem w No w_ [] ∧ k ≤ ys.length ∧ GapL l xs ys (upQ i k) g) (fun ⟨k, g⟩ => ys.length - k) (0, g) ⟨rfl, rfl, rfl, rfl, rfl, rfl, rfl, rfl, rfl, rfl, trivial⟩ ⟨hM15, Nat.zero_le _, hg⟩ ?_
            rintro ⟨k, g⟩ w16 ⟨hM17, hk, hg⟩
            refine wpK_sub [(0, Value.slice Al n cl), (2, Value.slice Ab ys.length cb), (13, Value.int .i64 g), (15, Value.int .i64 x), (53, Value.slice Aa xs.length ca), (54, Value.int .i64 (xs.length : Int)), (55, Value.int .i64 (i : Int)), (59, Value.slice Ab ys.length cb), (60, Value.int .i64 (ys.length : Int)), (61, Value.int .i64 (k : Int))] ⟨rfl, rfl, rfl, rfl, rfl, rfl, rfl, rfl, rfl, rfl, trivial⟩ ?_
            refine k_seq ?_
            refine k_region ?_
            refine r_val (v := Value.bool (decide ((k : Int) < (ys.length : Int)))) (w' := w16) rfl rfl (rfl) ?_
            refine r_nil ?_
            refine ends_sub [(0, Value.slice Al n cl), (2, Value.slice Ab ys.length cb), (13, Value.int .i64 g), (15, Value.int .i64 x), (53, Value.slice Aa xs.length ca), (54, Value.int .i64 (xs.length : Int)), (55, Value.int .i64 (i : Int)), (59, Value.slice Ab ys.length cb), (60, Value.int .i64 (ys.length : Int)), (61, Value.int .i64 (k : Int)), (62, Value.bool (decide ((k : Int) < (ys.length : Int))))] ⟨rfl, rfl, rfl, rfl, rfl, rfl, rfl, rfl, rfl, rfl, rfl, trivial⟩ ?_
            refine e_then ?_
            refine k_seq ?_
            refine k_cond rfl rfl (fun h7 => ?_) (fun h7 => ?_)
            · try simp only [decide_eq_true_eq, decide_eq_false_iff_not, Bool.and_eq_true, Bool.or_eq_true, Bool.or_eq_false_iff, Bool.not_eq_true', Bool.not_eq_false', beq_iff_eq, bne_iff_ne, beq_eq_false_iff_ne, bne_eq_false_iff_eq, Int.not_lt, Int.not_le, ne_eq, Bool.not_eq_true, Bool.not_eq_false] at h7
              refine k_skip ?_
              refine e_then ?_
              refine k_seq ?_
              refine k_block ?_
              refine k_seq ?_
              refine k_region ?_
              obtain ⟨y, hy⟩ : ∃ z, ys[k]? = some z := ⟨ys[k]'(by omega), by simp⟩
              refine r_val (v := Value.pointer (some ((adr Ab).add (k * 1)))) (w' := w16) rfl rfl (x_indexAddrN (i := k) (sz := 1) hb.here (by omega) rfl rfl rfl rfl) ?_
              refine r_val (v := Value.int .i64 y) (w' := w16) rfl rfl (x_loadEInt (hb.up hM17) hy rfl rfl) ?_
              refine r_val (v := Value.int .i64 y) (w' := w16) rfl rfl (rfl) ?_
              refine r_nil ?_
              refine ends_sub [(0, Value.slice Al n cl), (2, Value.slice Ab ys.length cb), (13, Value.int .i64 g), (15, Value.int .i64 x), (17, Value.int .i64 y), (53, Value.slice Aa xs.length ca), (54, Value.int .i64 (xs.length : Int)), (55, Value.int .i64 (i : Int)), (59, Value.slice Ab ys.length cb), (60, Value.int .i64 (ys.length : Int)), (61, Value.int .i64 (k : Int))] ⟨rfl, rfl, rfl, rfl, rfl, rfl, rfl, rfl, rfl, rfl, rfl, trivial⟩ ?_
              refine e_then ?_
              refine k_seq ?_
              refine k_region ?_
              refine r_val (v := Value.slice Al n cl) (w' := w16) rfl rfl (rfl) ?_
              refine r_val (v := Value.int .i64 x) (w' := w16) rfl rfl (rfl) ?_
              refine r_call (f := 27) (args := #[Value.slice Al n cl, Value.int .i64 x]) (w' := w16) rfl rfl (x_call (vs := [Value.slice Al n cl, Value.int .i64 x]) (enter27 _ _) rfl rfl) (at_s Al n cl l x w16 (hl.up hM17) hgd.sorted hn3) ?_
              rintro v_ w18 ⟨rfl, hM19⟩
              replace hM19 := hM17.grow hM19.kept
              refine r_val (v := Value.tuple #[Value.int .i64 (atPos l x : Int), Value.bool (atOk l x)]) (w' := w18) rfl rfl (rfl) ?_
              refine r_val (v := Value.int .i64 (atPos l x : Int)) (w' := w18) rfl rfl (rfl) ?_
              refine r_val (v := Value.bool (atOk l x)) (w' := w18) rfl rfl (rfl) ?_
              refine r_val (v := Value.int .i64 (atPos l x : Int)) (w' := w18) rfl rfl (rfl) ?_
              refine r_val (v := Value.bool (atOk l x)) (w' := w18) rfl rfl (rfl) ?_
              refine r_nil ?_
              refine ends_sub [(0, Value.slice Al n cl), (2, Value.slice Ab ys.length cb), (13, Value.int .i64 g), (15, Value.int .i64 x), (17, Value.int .i64 y), (18, Value.int .i64 (atPos l x : Int)), (53, Value.slice Aa xs.length ca), (54, Value.int .i64 (xs.length : Int)), (55, Value.int .i64 (i : Int)), (59, Value.slice Ab ys.length cb), (60, Value.int .i64 (ys.length : Int)), (61, Value.int .i64 (k : Int))] ⟨rfl, rfl, rfl, rfl, rfl, rfl, rfl, rfl, rfl, rfl, rfl, rfl, trivial⟩ ?_
              refine e_then ?_
              refine k_seq ?_
              refine k_region ?_
              refine r_val (v := Value.slice Al n cl) (w' := w18) rfl rfl (rfl) ?_
              refine r_val (v := Value.int .i64 y) (w' := w18) rfl rfl (rfl) ?_
              refine r_call (f := 27) (args := #[Value.slice Al n cl, Value.int .i64 y]) (w' := w18) rfl rfl (x_call (vs := [Value.slice Al n cl, Value.int .i64 y]) (enter27 _ _) rfl rfl) (at_s Al n cl l y w18 (hl.up hM19) hgd.sorted hn3) ?_
              rintro v_ w20 ⟨rfl, hM21⟩
              replace hM21 := hM19.grow hM21.kept
              have hox := hok x (List.mem_append_left ys (List.mem_of_getElem? hx))
              obtain ⟨u, hu, hiu⟩ := at_found hgd.sorted hox
              have hul := place_lt hgd.sorted hox
              have hu14 : u.length = 14 := by have := hl.size' hu; simpa using this
              have hum := List.mem_of_getElem? hu
              have hoy := hok y (List.mem_append_right xs (List.mem_of_getElem? hy))
              obtain ⟨v, hv, hiv⟩ := at_found hgd.sorted hoy
              have hvl := place_lt hgd.sorted hoy
              have hv14 : v.length = 14 := by have := hl.size' hv; simpa using this
              have hvm := List.mem_of_getElem? hv
              refine r_val (v := Value.tuple #[Value.int .i64 (atPos l y : Int), Value.bool (atOk l y)]) (w' := w20) rfl rfl (rfl) ?_
              refine r_val (v := Value.int .i64 (atPos l y : Int)) (w' := w20) rfl rfl (rfl) ?_
              refine r_val (v := Value.bool (atOk l y)) (w' := w20) rfl rfl (rfl) ?_
              refine r_val (v := Value.int .i64 (atPos l y : Int)) (w' := w20) rfl rfl (rfl) ?_
              refine r_val (v := Value.bool (atOk l y)) (w' := w20) rfl rfl (rfl) ?_
              refine r_nil ?_
              refine ends_sub [(0, Value.slice Al n cl), (2, Value.slice Ab ys.length cb), (13, Value.int .i64 g), (15, Value.int .i64 x), (18, Value.int .i64 (atPos l x : Int)), (20, Value.int .i64 (atPos l y : Int)), (53, Value.slice Aa xs.length ca), (54, Value.int .i64 (xs.length : Int)), (55, Value.int .i64 (i : Int)), (59, Value.slice Ab ys.length cb), (60, Value.int .i64 (ys.length : Int)), (61, Value.int .i64 (k : Int))] ⟨rfl, rfl, rfl, rfl, rfl, rfl, rfl, rfl, rfl, rfl, rfl, rfl, trivial⟩ ?_
              refine e_then ?_
              refine k_draw mixed [0, 0, 0, 6, 14, 30, 0, 0, 192, 448, 960, 2046, 4095, 8191] [some (Value.int .i64 g), some (Value.slice Al n cl), some (Value.int .i64 (atPos l x : Int)), some (Value.pointer (some ((adr Al).add ((atPos l x) * 14)))), some (Value.pointer (some (((adr Al).add ((atPos l x) * 14)).add 2))), some (Value.agg (ints (vecOf u))), some (Value.slice Al n cl), some (Value.int .i64 (atPos l y : Int)), some (Value.pointer (some ((adr Al).add ((atPos l y) * 14)))), some (Value.pointer (some (((adr Al).add ((atPos l y) * 14)).add 2))), some (Value.agg (ints (vecOf v))), some (Value.int .i64 (farOf (vecOf u) (vecOf v))), some (Value.int .i64 (min g (farOf (vecOf u) (vecOf v)))), some (Value.int .i64 (min g (farOf (vecOf u) (vecOf v))))] (by kernel_rfl) (fun D V w_ => Mem w No w_ []) (fun V => hM21.drew) ?_ ?_
              · refine ⟨?_, ?_, ?_, ?_, ?_, ?_, ?_, ?_, ?_, ?_, ?_, ?_, ?_, ?_, trivial⟩
                · intro D V w_ hd hi hM_
                  refine goal_of [(13, Value.int .i64 g)] rfl ⟨rfl, trivial⟩ rfl ?_
                  exact run_val (Value.int .i64 g) (rfl) ⟨fun c h => Option.some.inj (Option.some.inj h), hM_⟩
                · intro D V w_ hd hi hM_
                  refine goal_of [(0, Value.slice Al n cl)] rfl ⟨rfl, trivial⟩ rfl ?_
                  exact run_val (Value.slice Al n cl) (rfl) ⟨fun c h => Option.some.inj (Option.some.inj h), hM_⟩
                · intro D V w_ hd hi hM_
                  refine goal_of [(18, Value.int .i64 (atPos l x : Int))] rfl ⟨rfl, trivial⟩ rfl ?_
                  exact run_val (Value.int .i64 (atPos l x : Int)) (rfl) ⟨fun c h => Option.some.inj (Option.some.inj h), hM_⟩
                · intro D V w_ hd hi hM_
                  refine goal_of [(78, Value.slice Al n cl), (79, Value.int .i64 (atPos l x : Int))] rfl ⟨rfl, rfl, trivial⟩ rfl ?_
                  exact run_val (Value.pointer (some ((adr Al).add ((atPos l x) * 14)))) (x_indexAddrN (i := atPos l x) (sz := 14) hl.here (by omega) rfl rfl rfl rfl) ⟨fun c h => Option.some.inj (Option.some.inj h), hM_⟩
                · intro D V w_ hd hi hM_
                  refine goal_of [(80, Value.pointer (some ((adr Al).add ((atPos l x) * 14))))] rfl ⟨rfl, trivial⟩ rfl ?_
                  exact run_val (Value.pointer (some (((adr Al).add ((atPos l x) * 14)).add 2))) (rfl) ⟨fun c h => Option.some.inj (Option.some.inj h), hM_⟩
                · intro D V w_ hd hi hM_
                  refine goal_of [(81, Value.pointer (some (((adr Al).add ((atPos l x) * 14)).add 2)))] rfl ⟨rfl, trivial⟩ rfl ?_
                  exact run_val (Value.agg (ints (vecOf u))) (x_loadEPart (o := 2) (m := 12) (hl.up hM_) hu (by omega) rfl rfl rfl) ⟨fun c h => Option.some.inj (Option.some.inj h), hM_⟩
                · intro D V w_ hd hi hM_
                  refine goal_of [(0, Value.slice Al n cl)] rfl ⟨rfl, trivial⟩ rfl ?_
                  exact run_val (Value.slice Al n cl) (rfl) ⟨fun c h => Option.some.inj (Option.some.inj h), hM_⟩
                · intro D V w_ hd hi hM_
                  refine goal_of [(20, Value.int .i64 (atPos l y : Int))] rfl ⟨rfl, trivial⟩ rfl ?_
                  exact run_val (Value.int .i64 (atPos l y : Int)) (rfl) ⟨fun c h => Option.some.inj (Option.some.inj h), hM_⟩
                · intro D V w_ hd hi hM_
                  refine goal_of [(83, Value.slice Al n cl), (84, Value.int .i64 (atPos l y : Int))] rfl ⟨rfl, rfl, trivial⟩ rfl ?_
                  exact run_val (Value.pointer (some ((adr Al).add ((atPos l y) * 14)))) (x_indexAddrN (i := atPos l y) (sz := 14) hl.here (by omega) rfl rfl rfl rfl) ⟨fun c h => Option.some.inj (Option.some.inj h), hM_⟩
                · intro D V w_ hd hi hM_
                  refine goal_of [(85, Value.pointer (some ((adr Al).add ((atPos l y) * 14))))] rfl ⟨rfl, trivial⟩ rfl ?_
                  exact run_val (Value.pointer (some (((adr Al).add ((atPos l y) * 14)).add 2))) (rfl) ⟨fun c h => Option.some.inj (Option.some.inj h), hM_⟩
                · intro D V w_ hd hi hM_
                  refine goal_of [(86, Value.pointer (some (((adr Al).add ((atPos l y) * 14)).add 2)))] rfl ⟨rfl, trivial⟩ rfl ?_
                  exact run_val (Value.agg (ints (vecOf v))) (x_loadEPart (o := 2) (m := 12) (hl.up hM_) hv (by omega) rfl rfl rfl) ⟨fun c h => Option.some.inj (Option.some.inj h), hM_⟩
                · intro D V w_ hd hi hM_
                  refine goal_of [(82, Value.agg (ints (vecOf u))), (87, Value.agg (ints (vecOf v)))] rfl ⟨rfl, rfl, trivial⟩ rfl ?_
                  refine run_call (f := 28) (args := #[Value.agg (ints (vecOf u)), Value.agg (ints (vecOf v))]) (w' := w_) (x_call (vs := [Value.agg (ints (vecOf u)), Value.agg (ints (vecOf v))]) (enter28 _ _) rfl rfl) (far_s (vecOf u) (vecOf v) (by simp [vecOf]; omega) (by simp [vecOf]; omega) (hgd.vec u hum) (hgd.vec v hvm) w_) ?_
                  rintro v_ w2_ ⟨rfl, hM2_⟩
                  exact ⟨fun c h => Option.some.inj (Option.some.inj h), hM_.grow hM2_.kept⟩
                · intro D V w_ hd hi hM_
                  refine goal_of [(77, Value.int .i64 g), (88, Value.int .i64 (farOf (vecOf u) (vecOf v)))] rfl ⟨rfl, rfl, trivial⟩ rfl ?_
                  exact run_val (Value.int .i64 (min g (farOf (vecOf u) (vecOf v)))) (x_min rfl rfl) ⟨fun c h => Option.some.inj (Option.some.inj h), hM_⟩
                · intro D V w_ hd hi hM_
                  refine goal_of [(89, Value.int .i64 (min g (farOf (vecOf u) (vecOf v))))] rfl ⟨rfl, trivial⟩ rfl ?_
                  exact run_val (Value.int .i64 (min g (farOf (vecOf u) (vecOf v)))) (rfl) ⟨fun c h => Option.some.inj (Option.some.inj h), hM_⟩
              intro D V w24 hall hM25
              refine ends_sub [(0, Value.slice Al n cl), (2, Value.slice Ab ys.length cb), (13, Value.int .i64 (min g (farOf (vecOf u) (vecOf v)))), (15, Value.int .i64 x), (53, Value.slice Aa xs.length ca), (54, Value.int .i64 (xs.length : Int)), (55, Value.int .i64 (i : Int)), (59, Value.slice Ab ys.length cb), (60, Value.int .i64 (ys.length : Int)), (61, Value.int .i64 (k : Int))] ⟨rfl, rfl, rfl, rfl, rfl, rfl, rfl, rfl, rfl, rfl, trivial⟩ ?_
              refine e_blk ?_
              refine e_then ?_
              refine k_region ?_
              have hfar : farAt l (atPos l x) (atPos l y) = farOf (vecOf u) (vecOf v) := by simp [farAt, hu, hv]
              refine r_val (v := Value.int .i64 ((k : Int) + 1)) (w' := w24) rfl rfl (x_addE rfl (by omega) (by omega) rfl rfl) ?_
              refine r_val (v := Value.int .i64 ((k : Int) + 1)) (w' := w24) rfl rfl (rfl) ?_
              refine r_nil ?_
              refine ends_sub [(0, Value.slice Al n cl), (2, Value.slice Ab ys.length cb), (13, Value.int .i64 (min g (farOf (vecOf u) (vecOf v)))), (15, Value.int .i64 x), (53, Value.slice Aa xs.length ca), (54, Value.int .i64 (xs.length : Int)), (55, Value.int .i64 (i : Int)), (59, Value.slice Ab ys.length cb), (60, Value.int .i64 (ys.length : Int)), (61, Value.int .i64 ((k : Int) + 1))] ⟨rfl, rfl, rfl, rfl, rfl, rfl, rfl, rfl, rfl, rfl, trivial⟩ ?_
              refine e_loop (k + 1, min g (farOf (vecOf u) (vecOf v))) ⟨rfl, rfl, rfl, rfl, rfl, rfl, rfl, rfl, rfl, rfl, trivial⟩ ?_ ?_
              · exact ⟨hM25, by omega, by rw [← hfar]; exact gapL_step hg hx hy⟩
              · (try dsimp only); omega
            · try simp only [decide_eq_true_eq, decide_eq_false_iff_not, Bool.and_eq_true, Bool.or_eq_true, Bool.or_eq_false_iff, Bool.not_eq_true', Bool.not_eq_false', beq_iff_eq, bne_iff_ne, beq_eq_false_iff_ne, bne_eq_false_iff_eq, Int.not_lt, Int.not_le, ne_eq, Bool.not_eq_true, Bool.not_eq_false] at h7
              refine k_exit ?_
              refine e_then_exit ?_
              refine e_loop_exit ?_
              refine e_blk_exit ?_
              refine e_blk ?_
              refine e_then ?_
              refine k_region ?_
              refine r_val (v := Value.int .i64 ((i : Int) + 1)) (w' := w16) rfl rfl (x_addE rfl (by omega) (by omega) rfl rfl) ?_
              refine r_val (v := Value.int .i64 ((i : Int) + 1)) (w' := w16) rfl rfl (rfl) ?_
              refine r_nil ?_
              refine ends_sub [(0, Value.slice Al n cl), (2, Value.slice Ab ys.length cb), (13, Value.int .i64 g), (53, Value.slice Aa xs.length ca), (54, Value.int .i64 (xs.length : Int)), (55, Value.int .i64 ((i : Int) + 1))] ⟨rfl, rfl, rfl, rfl, rfl, rfl, trivial⟩ ?_
              refine e_loop (i + 1, g) ⟨rfl, rfl, rfl, rfl, rfl, rfl, trivial⟩ ?_ ?_
              · exact ⟨hM17, by omega, gapL_row hg (by omega)⟩
              · (try dsimp only); omega
          · try simp only [decide_eq_true_eq, decide_eq_false_iff_not, Bool.and_eq_true, Bool.or_eq_true, Bool.or_eq_false_iff, Bool.not_eq_true', Bool.not_eq_false', beq_iff_eq, bne_iff_ne, beq_eq_false_iff_ne, bne_eq_false_iff_eq, Int.not_lt, Int.not_le, ne_eq, Bool.not_eq_true, Bool.not_eq_false] at h6
            refine k_exit ?_
            refine e_then_exit ?_
            refine e_loop_exit ?_
            refine e_blk_exit ?_
            refine e_then ?_
            refine k_seq ?_
            refine k_region ?_
            have hil : i = xs.length := by omega
            rw [hil] at hg
            refine r_val (v := Value.int .i64 g) (w' := w14) rfl rfl (rfl) ?_
            refine r_val (v := Value.int .i64 g) (w' := w14) rfl rfl (rfl) ?_
            refine r_val (v := Value.int .i64 0) (w' := w14) rfl rfl (rfl) ?_
            refine r_nil ?_
            refine ends_sub [(6, Value.int .i64 g), (7, Value.int .i64 0)] ⟨rfl, rfl, trivial⟩ ?_
            refine e_then ?_
            refine k_ret ?_
            refine e_ret2 rfl rfl rfl ?_
            exact ⟨_, rfl, _, _, rfl, he0.symm, fun h0 => absurd rfl h0, fun _ => gapL_all hg, hM15⟩


end Go.Proofs.Ytddacakmafdgdaa
