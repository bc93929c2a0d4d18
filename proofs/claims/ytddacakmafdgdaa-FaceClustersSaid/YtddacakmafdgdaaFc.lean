/- Fc: what Go functions of this seat come to, printed by walk.py over the engine. -/
import Derived.Test.YtddacakmafdgdaaFb
import Derived.Test.YtddacakmafdgdaaKnE
set_option linter.unusedVariables false
set_option linter.unusedSimpArgs false
set_option maxRecDepth 100000
namespace Go.Proofs.Ytddacakmafdgdaa
open Go.RowKit Go.Kn

theorem at1_s (x : List Int) (t : Int) (hx : x.length = 14) (w : World) :
    Calls Try.prog 61 #[Value.agg (ints x), Value.int .i64 t] w fun e w' => ∃ r, e = .returned r ∧ r = .int .i64 (cmp3 (idOf x) t) ∧ Mem w No w' [] := by
  refine calls_k (args := [Value.agg (ints x), Value.int .i64 t]) 15 [(0, Value.agg (ints x)), (1, Value.int .i64 t)] Try.func61 rfl rfl ⟨rfl, rfl, trivial⟩ ?_
  have hM := Mem.nil w No
  refine k_seq ?_
  refine k_region ?_
  refine r_box hM rfl rfl ?_
  intro b3 w1 hM2 hb3
  replace hM2 : Mem w No w1 [(b3, .cells (ints x) 64 (0, 0))] := hM2
  refine r_val (v := Value.int .i64 0) (w' := w1) rfl rfl (rfl) ?_
  refine r_nil ?_
  refine ends_sub [(1, Value.int .i64 t), (2, Value.pointer (some ⟨b3, 0, none⟩))] ⟨rfl, rfl, trivial⟩ ?_
  refine e_then ?_
  refine k_seq ?_
  refine k_block ?_
  refine k_seq ?_
  refine k_region ?_
  refine r_val (v := Value.pointer (some ⟨b3, 0, none⟩)) (w' := w1) rfl rfl (rfl) ?_
  refine r_val (v := Value.int .i64 (x.getD 0 0)) (w' := w1) rfl rfl (x_load (hM2.cell 0 rfl (ints_get x 0 (by omega))) rfl rfl) ?_
  refine r_val (v := Value.int .i64 t) (w' := w1) rfl rfl (rfl) ?_
  refine r_val (v := Value.bool (decide ((x.getD 0 0) < t))) (w' := w1) rfl rfl (rfl) ?_
  refine r_val (v := Value.bool (decide ((x.getD 0 0) < t))) (w' := w1) rfl rfl (rfl) ?_
  refine r_nil ?_
  refine ends_sub [(1, Value.int .i64 t), (2, Value.pointer (some ⟨b3, 0, none⟩)), (5, Value.bool (decide ((x.getD 0 0) < t)))] ⟨rfl, rfl, rfl, trivial⟩ ?_
  refine e_then ?_
  refine k_cond rfl rfl (fun h => ?_) (fun h => ?_)
  · try simp only [decide_eq_true_eq, decide_eq_false_iff_not, Bool.and_eq_true, Bool.or_eq_true, Bool.or_eq_false_iff, Bool.not_eq_true', Bool.not_eq_false', beq_iff_eq, bne_iff_ne, beq_eq_false_iff_ne, bne_eq_false_iff_eq, Int.not_lt, Int.not_le, ne_eq, Bool.not_eq_true, Bool.not_eq_false] at h
    refine k_seq ?_
    refine k_region ?_
    refine r_val (v := Value.int .i64 (-1)) (w' := w1) rfl rfl (rfl) ?_
    refine r_nil ?_
    refine ends_sub [(4, Value.int .i64 (-1))] ⟨rfl, trivial⟩ ?_
    refine e_then ?_
    refine k_ret ?_
    refine e_blk_ret ?_
    refine e_then_ret ?_
    refine e_ret1 rfl rfl ?_
    exact ⟨_, rfl, by rw [cmp3, if_pos (by exact h)], hM2.drop⟩
  · try simp only [decide_eq_true_eq, decide_eq_false_iff_not, Bool.and_eq_true, Bool.or_eq_true, Bool.or_eq_false_iff, Bool.not_eq_true', Bool.not_eq_false', beq_iff_eq, bne_iff_ne, beq_eq_false_iff_ne, bne_eq_false_iff_eq, Int.not_lt, Int.not_le, ne_eq, Bool.not_eq_true, Bool.not_eq_false] at h
    refine k_seq ?_
    refine k_region ?_
    refine r_val (v := Value.pointer (some ⟨b3, 0, none⟩)) (w' := w1) rfl rfl (rfl) ?_
    refine r_val (v := Value.int .i64 (x.getD 0 0)) (w' := w1) rfl rfl (x_load (hM2.cell 0 rfl (ints_get x 0 (by omega))) rfl rfl) ?_
    refine r_val (v := Value.int .i64 t) (w' := w1) rfl rfl (rfl) ?_
    refine r_val (v := Value.bool (decide ((x.getD 0 0) > t))) (w' := w1) rfl rfl (rfl) ?_
    refine r_val (v := Value.bool (decide ((x.getD 0 0) > t))) (w' := w1) rfl rfl (rfl) ?_
    refine r_nil ?_
    refine ends_sub [(10, Value.bool (decide ((x.getD 0 0) > t)))] ⟨rfl, trivial⟩ ?_
    refine e_then ?_
    refine k_cond rfl rfl (fun h2 => ?_) (fun h2 => ?_)
    · try simp only [decide_eq_true_eq, decide_eq_false_iff_not, Bool.and_eq_true, Bool.or_eq_true, Bool.or_eq_false_iff, Bool.not_eq_true', Bool.not_eq_false', beq_iff_eq, bne_iff_ne, beq_eq_false_iff_ne, bne_eq_false_iff_eq, Int.not_lt, Int.not_le, ne_eq, Bool.not_eq_true, Bool.not_eq_false] at h2
      refine k_seq ?_
      refine k_region ?_
      refine r_val (v := Value.int .i64 1) (w' := w1) rfl rfl (rfl) ?_
      refine r_nil ?_
      refine ends_sub [(4, Value.int .i64 1)] ⟨rfl, trivial⟩ ?_
      refine e_then ?_
      refine k_ret ?_
      refine e_blk_ret ?_
      refine e_then_ret ?_
      refine e_ret1 rfl rfl ?_
      exact ⟨_, rfl, by rw [cmp3, if_neg (by exact Int.not_lt.2 h), if_pos (by exact h2)], hM2.drop⟩
    · try simp only [decide_eq_true_eq, decide_eq_false_iff_not, Bool.and_eq_true, Bool.or_eq_true, Bool.or_eq_false_iff, Bool.not_eq_true', Bool.not_eq_false', beq_iff_eq, bne_iff_ne, beq_eq_false_iff_ne, bne_eq_false_iff_eq, Int.not_lt, Int.not_le, ne_eq, Bool.not_eq_true, Bool.not_eq_false] at h2
      refine k_skip ?_
      refine e_blk ?_
      refine e_then ?_
      refine k_seq ?_
      refine k_region ?_
      refine r_val (v := Value.int .i64 0) (w' := w1) rfl rfl (rfl) ?_
      refine r_nil ?_
      refine ends_sub [(4, Value.int .i64 0)] ⟨rfl, trivial⟩ ?_
      refine e_then ?_
      refine k_ret ?_
      refine e_ret1 rfl rfl ?_
      exact ⟨_, rfl, by rw [cmp3, if_neg (by exact Int.not_lt.2 h), if_neg (by exact Int.not_lt.2 h2)], hM2.drop⟩

theorem bsearch_s (A : Option Addr) (n c : Nat) (l : List (List Int)) (t : Int) (w : World) (hl : RdE intsE 14 w A n l) (hs : sortedIds l) (hn : n ≤ 300) :
    Calls Try.prog 60 #[Value.slice A n c, Value.int .i64 t, Value.func (.func 61) #[] #[]] w fun e w' => ∃ r, e = .returned r ∧ r = .tuple #[.int .i64 (atPos l t), .bool (atOk l t)] ∧ Mem w No w' [] := by
  refine calls_k (args := [Value.slice A n c, Value.int .i64 t, Value.func (.func 61) #[] #[]]) 49 [(0, Value.slice A n c), (1, Value.int .i64 t), (2, Value.func (.func 61) #[] #[])] Try.func60 rfl rfl ⟨rfl, rfl, rfl, trivial⟩ ?_
  have hM := Mem.nil w No
  have hln := hl.len
  refine k_seq ?_
  refine k_region ?_
  refine r_val (v := Value.int .i64 0) (w' := w) rfl rfl (rfl) ?_
  refine r_val (v := Value.bool false) (w' := w) rfl rfl (rfl) ?_
  refine r_nil ?_
  refine ends_sub [(0, Value.slice A n c), (1, Value.int .i64 t), (2, Value.func (.func 61) #[] #[])] ⟨rfl, rfl, rfl, trivial⟩ ?_
  refine e_then ?_
  refine k_seq ?_
  refine k_region ?_
  refine r_val (v := Value.slice A n c) (w' := w) rfl rfl (rfl) ?_
  refine r_val (v := Value.int .i64 (n : Int)) (w' := w) rfl rfl (x_len rfl rfl) ?_
  refine r_val (v := Value.int .i64 (n : Int)) (w' := w) rfl rfl (rfl) ?_
  refine r_nil ?_
  refine ends_sub [(0, Value.slice A n c), (1, Value.int .i64 t), (2, Value.func (.func 61) #[] #[]), (8, Value.int .i64 (n : Int))] ⟨rfl, rfl, rfl, rfl, trivial⟩ ?_
  refine e_then ?_
  refine k_seq ?_
  refine k_region ?_
  refine r_val (v := Value.int .i64 (n : Int)) (w' := w) rfl rfl (rfl) ?_
  refine r_val (v := Value.int .i64 0) (w' := w) rfl rfl (rfl) ?_
  refine r_val (v := Value.int .i64 (n : Int)) (w' := w) rfl rfl (rfl) ?_
  refine r_nil ?_
  refine ends_sub [(0, Value.slice A n c), (1, Value.int .i64 t), (2, Value.func (.func 61) #[] #[]), (8, Value.int .i64 (n : Int)), (9, Value.int .i64 0), (10, Value.int .i64 (n : Int))] ⟨rfl, rfl, rfl, rfl, rfl, rfl, trivial⟩ ?_
  refine e_then ?_
  refine k_seq ?_
  refine k_block ?_
  refine k_loop (σ := Nat × Nat) (fun ⟨i, j⟩ => [(0, Value.slice A n c), (1, Value.int .i64 t), (2, Value.func (.func 61) #[] #[]), (8, Value.int .i64 (n : Int)), (9, Value.int .i64 (i : Int)), (10, Value.int .i64 (j : Int))]) (fun ⟨i, j⟩ w_ => Mem w No w_ [] ∧ i ≤ j ∧ j ≤ n ∧ (∀ m x, l[m]? = some x → m < i → idOf x < t) ∧ (∀ m x, l[m]? = some x → j ≤ m → t ≤ idOf x)) (fun ⟨i, j⟩ => j - i) (0, n) ⟨rfl, rfl, rfl, rfl, rfl, rfl, trivial⟩ ⟨hM, by omega, by omega, fun m x _ h => absurd h (by omega), fun m x hx h => absurd (List.getElem?_eq_some_iff.1 hx).1 (by omega)⟩ ?_
  rintro ⟨i, j⟩ w1 ⟨hM2, hij, hjn, hlo, hhi⟩
  refine wpK_sub [(0, Value.slice A n c), (1, Value.int .i64 t), (2, Value.func (.func 61) #[] #[]), (8, Value.int .i64 (n : Int)), (9, Value.int .i64 (i : Int)), (10, Value.int .i64 (j : Int))] ⟨rfl, rfl, rfl, rfl, rfl, rfl, trivial⟩ ?_
  refine k_seq ?_
  refine k_seq ?_
  refine k_region ?_
  refine r_val (v := Value.int .i64 (i : Int)) (w' := w1) rfl rfl (rfl) ?_
  refine r_val (v := Value.int .i64 (j : Int)) (w' := w1) rfl rfl (rfl) ?_
  refine r_val (v := Value.bool (decide ((i : Int) < (j : Int)))) (w' := w1) rfl rfl (rfl) ?_
  refine r_nil ?_
  refine ends_sub [(0, Value.slice A n c), (1, Value.int .i64 t), (2, Value.func (.func 61) #[] #[]), (8, Value.int .i64 (n : Int)), (9, Value.int .i64 (i : Int)), (10, Value.int .i64 (j : Int)), (17, Value.bool (decide ((i : Int) < (j : Int))))] ⟨rfl, rfl, rfl, rfl, rfl, rfl, rfl, trivial⟩ ?_
  refine e_then ?_
  refine k_cond rfl rfl (fun h => ?_) (fun h => ?_)
  · try simp only [decide_eq_true_eq, decide_eq_false_iff_not, Bool.and_eq_true, Bool.or_eq_true, Bool.or_eq_false_iff, Bool.not_eq_true', Bool.not_eq_false', beq_iff_eq, bne_iff_ne, beq_eq_false_iff_ne, bne_eq_false_iff_eq, Int.not_lt, Int.not_le, ne_eq, Bool.not_eq_true, Bool.not_eq_false] at h
    refine k_skip ?_
    refine e_then ?_
    refine k_block ?_
    refine k_seq ?_
    refine k_region ?_
    obtain ⟨m, hm⟩ : ∃ m, m = (i + j) / 2 := ⟨_, rfl⟩
    obtain ⟨x, hx⟩ : ∃ x, l[m]? = some x := ⟨l[m]'(by rw [hl.len]; omega), by simp⟩
    have hx14 : x.length = 14 := by have := hl.size' hx; simpa using this
    refine r_val (v := Value.int .i64 (i : Int)) (w' := w1) rfl rfl (rfl) ?_
    refine r_val (v := Value.int .i64 (j : Int)) (w' := w1) rfl rfl (rfl) ?_
    refine r_val (v := Value.int .i64 ((i : Int) + (j : Int))) (w' := w1) rfl rfl (x_addE rfl (by omega) (by omega) rfl rfl) ?_
    refine r_val (v := Value.int .u64 ((i : Int) + (j : Int))) (w' := w1) rfl rfl (x_convE (wrap_u64 (by omega) (by omega)) rfl rfl rfl) ?_
    refine r_val (v := Value.int .u64 (m : Int)) (w' := w1) rfl rfl (x_shrE (by omega) rfl rfl) ?_
    refine r_val (v := Value.int .i64 (m : Int)) (w' := w1) rfl rfl (x_convE (wrap_i64 (by omega) (by omega)) rfl rfl rfl) ?_
    refine r_val (v := Value.int .i64 (m : Int)) (w' := w1) rfl rfl (rfl) ?_
    refine r_nil ?_
    refine ends_sub [(0, Value.slice A n c), (1, Value.int .i64 t), (2, Value.func (.func 61) #[] #[]), (8, Value.int .i64 (n : Int)), (9, Value.int .i64 (i : Int)), (10, Value.int .i64 (j : Int)), (11, Value.int .i64 (m : Int))] ⟨rfl, rfl, rfl, rfl, rfl, rfl, rfl, trivial⟩ ?_
    refine e_then ?_
    refine k_seq ?_
    refine k_region ?_
    refine r_val (v := Value.func (.func 61) #[] #[]) (w' := w1) rfl rfl (rfl) ?_
    refine r_val (v := Value.slice A n c) (w' := w1) rfl rfl (rfl) ?_
    refine r_val (v := Value.int .i64 (m : Int)) (w' := w1) rfl rfl (rfl) ?_
    refine r_val (v := Value.pointer (some ((adr A).add (m * 14)))) (w' := w1) rfl rfl (x_indexAddrN (i := m) (sz := 14) hl.here (by omega) rfl rfl rfl rfl) ?_
    refine r_val (v := Value.agg (ints x)) (w' := w1) rfl rfl (x_loadElem (hl.up hM2) hx rfl rfl rfl) ?_
    refine r_val (v := Value.int .i64 t) (w' := w1) rfl rfl (rfl) ?_
    refine r_call (f := 61) (args := #[Value.agg (ints x), Value.int .i64 t]) (w' := w1) rfl rfl (x_call (vs := [Value.agg (ints x), Value.int .i64 t]) (enter61 _ _) rfl rfl) (at1_s x t hx14 w1) ?_
    rintro v_ w3 ⟨rfl, hM4⟩
    replace hM4 := hM2.grow hM4.kept
    refine r_val (v := Value.bool (decide ((cmp3 (idOf x) t) < 0))) (w' := w3) rfl rfl (rfl) ?_
    refine r_nil ?_
    refine ends_sub [(0, Value.slice A n c), (1, Value.int .i64 t), (2, Value.func (.func 61) #[] #[]), (8, Value.int .i64 (n : Int)), (9, Value.int .i64 (i : Int)), (10, Value.int .i64 (j : Int)), (11, Value.int .i64 (m : Int)), (31, Value.bool (decide ((cmp3 (idOf x) t) < 0)))] ⟨rfl, rfl, rfl, rfl, rfl, rfl, rfl, rfl, trivial⟩ ?_
    refine e_then ?_
    refine k_cond rfl rfl (fun h2 => ?_) (fun h2 => ?_)
    · try simp only [decide_eq_true_eq, decide_eq_false_iff_not, Bool.and_eq_true, Bool.or_eq_true, Bool.or_eq_false_iff, Bool.not_eq_true', Bool.not_eq_false', beq_iff_eq, bne_iff_ne, beq_eq_false_iff_ne, bne_eq_false_iff_eq, Int.not_lt, Int.not_le, ne_eq, Bool.not_eq_true, Bool.not_eq_false] at h2
      refine k_region ?_
      rw [cmp3_lt] at h2
      refine r_val (v := Value.int .i64 (m : Int)) (w' := w3) rfl rfl (rfl) ?_
      refine r_val (v := Value.int .i64 ((m : Int) + 1)) (w' := w3) rfl rfl (x_addE rfl (by omega) (by omega) rfl rfl) ?_
      refine r_val (v := Value.int .i64 ((m : Int) + 1)) (w' := w3) rfl rfl (rfl) ?_
      refine r_nil ?_
      refine ends_sub [(0, Value.slice A n c), (1, Value.int .i64 t), (2, Value.func (.func 61) #[] #[]), (8, Value.int .i64 (n : Int)), (9, Value.int .i64 ((m : Int) + 1)), (10, Value.int .i64 (j : Int))] ⟨rfl, rfl, rfl, rfl, rfl, rfl, trivial⟩ ?_
      refine e_blk ?_
      refine e_loop (m + 1, j) ⟨rfl, rfl, rfl, rfl, rfl, rfl, trivial⟩ ?_ ?_
      · exact ⟨hM4.drop, by omega, hjn, lo_step hs hx h2, hhi⟩
      · (try dsimp only); omega
    · try simp only [decide_eq_true_eq, decide_eq_false_iff_not, Bool.and_eq_true, Bool.or_eq_true, Bool.or_eq_false_iff, Bool.not_eq_true', Bool.not_eq_false', beq_iff_eq, bne_iff_ne, beq_eq_false_iff_ne, bne_eq_false_iff_eq, Int.not_lt, Int.not_le, ne_eq, Bool.not_eq_true, Bool.not_eq_false] at h2
      refine k_region ?_
      have h2' : ¬ idOf x < t := fun h => absurd (cmp3_lt.2 h) (by omega)
      refine r_val (v := Value.int .i64 (m : Int)) (w' := w3) rfl rfl (rfl) ?_
      refine r_val (v := Value.int .i64 (m : Int)) (w' := w3) rfl rfl (rfl) ?_
      refine r_nil ?_
      refine ends_sub [(0, Value.slice A n c), (1, Value.int .i64 t), (2, Value.func (.func 61) #[] #[]), (8, Value.int .i64 (n : Int)), (9, Value.int .i64 (i : Int)), (10, Value.int .i64 (m : Int))] ⟨rfl, rfl, rfl, rfl, rfl, rfl, trivial⟩ ?_
      refine e_blk ?_
      refine e_loop (i, m) ⟨rfl, rfl, rfl, rfl, rfl, rfl, trivial⟩ ?_ ?_
      · exact ⟨hM4.drop, by omega, by omega, hlo, hi_step hs hx h2'⟩
      · (try dsimp only); omega
  · try simp only [decide_eq_true_eq, decide_eq_false_iff_not, Bool.and_eq_true, Bool.or_eq_true, Bool.or_eq_false_iff, Bool.not_eq_true', Bool.not_eq_false', beq_iff_eq, bne_iff_ne, beq_eq_false_iff_ne, bne_eq_false_iff_eq, Int.not_lt, Int.not_le, ne_eq, Bool.not_eq_true, Bool.not_eq_false] at h
    refine k_exit ?_
    refine e_then_exit ?_
    refine e_loop_exit ?_
    refine e_blk_exit ?_
    refine e_then ?_
    refine k_seq ?_
    refine k_region ?_
    have hij2 : i = j := by omega
    subst hij2
    have hpos := atPos_of (by omega) hlo hhi
    refine r_val (v := Value.int .i64 (i : Int)) (w' := w1) rfl rfl (rfl) ?_
    refine r_val (v := Value.int .i64 (i : Int)) (w' := w1) rfl rfl (rfl) ?_
    refine r_val (v := Value.int .i64 (n : Int)) (w' := w1) rfl rfl (rfl) ?_
    refine r_val (v := Value.bool (decide ((i : Int) < (n : Int)))) (w' := w1) rfl rfl (rfl) ?_
    refine r_val (v := Value.bool (decide ((i : Int) < (n : Int)))) (w' := w1) rfl rfl (rfl) ?_
    rcases Bool.eq_false_or_eq_true (decide ((i : Int) < (n : Int))) with hg | hg
    · refine wpR_sub [(0, Value.slice A n c), (1, Value.int .i64 t), (2, Value.func (.func 61) #[] #[]), (9, Value.int .i64 (i : Int)), (35, Value.int .i64 (i : Int)), (39, Value.bool true)] ⟨rfl, rfl, rfl, rfl, rfl, congrArg (fun z => some (Value.bool z)) hg, trivial⟩ ?_
      have hin : i < n := by simpa using hg
      obtain ⟨x, hx⟩ : ∃ x, l[i]? = some x := ⟨l[i]'(by rw [hl.len]; omega), by simp⟩
      have hx14 : x.length = 14 := by have := hl.size' hx; simpa using this
      refine r_yes rfl rfl ?_
      refine r_val (v := Value.func (.func 61) #[] #[]) (w' := w1) rfl rfl (rfl) ?_
      refine r_yes rfl rfl ?_
      refine r_val (v := Value.slice A n c) (w' := w1) rfl rfl (rfl) ?_
      refine r_yes rfl rfl ?_
      refine r_val (v := Value.int .i64 (i : Int)) (w' := w1) rfl rfl (rfl) ?_
      refine r_yes rfl rfl ?_
      refine r_val (v := Value.pointer (some ((adr A).add (i * 14)))) (w' := w1) rfl rfl (x_indexAddrN (i := i) (sz := 14) hl.here (by omega) rfl rfl rfl rfl) ?_
      refine r_yes rfl rfl ?_
      refine r_val (v := Value.agg (ints x)) (w' := w1) rfl rfl (x_loadElem (hl.up hM2) hx rfl rfl rfl) ?_
      refine r_yes rfl rfl ?_
      refine r_val (v := Value.int .i64 t) (w' := w1) rfl rfl (rfl) ?_
      refine r_yes rfl rfl ?_
      refine r_call (f := 61) (args := #[Value.agg (ints x), Value.int .i64 t]) (w' := w1) rfl rfl (x_call (vs := [Value.agg (ints x), Value.int .i64 t]) (enter61 _ _) rfl rfl) (at1_s x t hx14 w1) ?_
      rintro v_ w6 ⟨rfl, hM7⟩
      replace hM7 := hM2.grow hM7.kept
      refine r_yes rfl rfl ?_
      refine r_val (v := Value.bool ((cmp3 (idOf x) t) == 0)) (w' := w6) rfl rfl (rfl) ?_
      refine r_val (v := Value.bool ((cmp3 (idOf x) t) == 0)) (w' := w6) rfl rfl (rfl) ?_
      refine r_val (v := Value.int .i64 (i : Int)) (w' := w6) rfl rfl (rfl) ?_
      refine r_val (v := Value.bool ((cmp3 (idOf x) t) == 0)) (w' := w6) rfl rfl (rfl) ?_
      refine r_nil ?_
      refine ends_sub [(6, Value.int .i64 (i : Int)), (7, Value.bool ((cmp3 (idOf x) t) == 0))] ⟨rfl, rfl, trivial⟩ ?_
      refine e_then ?_
      refine k_ret ?_
      refine e_ret2 rfl rfl rfl ?_
      exact ⟨_, rfl, by rw [hpos, ok_cmp hs hlo hhi hx], hM7.drop⟩
    · refine wpR_sub [(0, Value.slice A n c), (1, Value.int .i64 t), (2, Value.func (.func 61) #[] #[]), (9, Value.int .i64 (i : Int)), (35, Value.int .i64 (i : Int)), (39, Value.bool false)] ⟨rfl, rfl, rfl, rfl, rfl, congrArg (fun z => some (Value.bool z)) hg, trivial⟩ ?_
      have hin : n ≤ i := by simpa using hg
      refine r_no rfl rfl (by decide) rfl ?_
      refine r_no rfl rfl (by decide) rfl ?_
      refine r_no rfl rfl (by decide) rfl ?_
      refine r_no rfl rfl (by decide) rfl ?_
      refine r_no rfl rfl (by decide) rfl ?_
      refine r_no rfl rfl (by decide) rfl ?_
      refine r_no rfl rfl (by decide) rfl ?_
      refine r_no rfl rfl (by decide) rfl ?_
      refine r_val (v := Value.bool false) (w' := w1) rfl rfl (rfl) ?_
      refine r_val (v := Value.int .i64 (i : Int)) (w' := w1) rfl rfl (rfl) ?_
      refine r_val (v := Value.bool false) (w' := w1) rfl rfl (rfl) ?_
      refine r_nil ?_
      refine ends_sub [(6, Value.int .i64 (i : Int)), (7, Value.bool false)] ⟨rfl, rfl, trivial⟩ ?_
      refine e_then ?_
      refine k_ret ?_
      refine e_ret2 rfl rfl rfl ?_
      exact ⟨_, rfl, by rw [hpos, atOk_no hs hlo hhi (fun x hx => absurd (List.getElem?_eq_some_iff.1 hx).1 (by omega))], hM2.drop⟩

theorem at_s (A : Option Addr) (n c : Nat) (l : List (List Int)) (t : Int) (w : World) (hl : RdE intsE 14 w A n l) (hs : sortedIds l) (hn : n ≤ 300) :
    Calls Try.prog 27 #[Value.slice A n c, Value.int .i64 t] w fun e w' => ∃ r, e = .returned r ∧ r = .tuple #[.int .i64 (atPos l t), .bool (atOk l t)] ∧ Mem w No w' [] := by
  refine calls_k (args := [Value.slice A n c, Value.int .i64 t]) 11 [(0, Value.slice A n c), (1, Value.int .i64 t)] Try.func27 rfl rfl ⟨rfl, rfl, trivial⟩ ?_
  have hM := Mem.nil w No
  refine k_seq ?_
  refine k_region ?_
  refine r_val (v := Value.int .i64 0) (w' := w) rfl rfl (rfl) ?_
  refine r_val (v := Value.bool false) (w' := w) rfl rfl (rfl) ?_
  refine r_nil ?_
  refine ends_sub [(0, Value.slice A n c), (1, Value.int .i64 t)] ⟨rfl, rfl, trivial⟩ ?_
  refine e_then ?_
  refine k_seq ?_
  refine k_region ?_
  refine r_val (v := Value.slice A n c) (w' := w) rfl rfl (rfl) ?_
  refine r_val (v := Value.int .i64 t) (w' := w) rfl rfl (rfl) ?_
  refine r_call (f := 60) (args := #[Value.slice A n c, Value.int .i64 t, Value.func (.func 61) #[] #[]]) (w' := w) rfl rfl (x_call (vs := [Value.slice A n c, Value.int .i64 t, Value.func (.func 61) #[] #[]]) (enter60 _ _) rfl rfl) (bsearch_s A n c l t w (hl.up hM) hs hn) ?_
  rintro v_ w1 ⟨rfl, hM2⟩
  replace hM2 := hM.grow hM2.kept
  refine r_val (v := Value.int .i64 (atPos l t : Int)) (w' := w1) rfl rfl (rfl) ?_
  refine r_val (v := Value.bool (atOk l t)) (w' := w1) rfl rfl (rfl) ?_
  refine r_val (v := Value.int .i64 (atPos l t : Int)) (w' := w1) rfl rfl (rfl) ?_
  refine r_val (v := Value.bool (atOk l t)) (w' := w1) rfl rfl (rfl) ?_
  refine r_nil ?_
  refine ends_sub [(4, Value.int .i64 (atPos l t : Int)), (5, Value.bool (atOk l t))] ⟨rfl, rfl, trivial⟩ ?_
  refine e_then ?_
  refine k_ret ?_
  refine e_ret2 rfl rfl rfl ?_
  exact ⟨_, rfl, rfl, hM2.drop⟩


end Go.Proofs.Ytddacakmafdgdaa
