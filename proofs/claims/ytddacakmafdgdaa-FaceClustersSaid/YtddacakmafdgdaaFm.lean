/- Fm: what Go functions of this seat come to, printed by walk.py over the engine. -/
import Derived.Test.YtddacakmafdgdaaFl
import Derived.Test.YtddacakmafdgdaaGr
set_option linter.unusedVariables false
set_option linter.unusedSimpArgs false
set_option maxRecDepth 100000
namespace Go.Proofs.Ytddacakmafdgdaa
open Go.RowKit Go.Kn

theorem concat_s (At : Option Addr) (m c : Nat) (es : List SRow) (w : World) (ht : RdE encR 1 w At m es) (hes : ∀ e ∈ es, RdE intE 1 w e.A e.xs.length e.xs) (hsz : (allXs es).length ≤ 1099511627776) (hm : m ≤ 1099511627776) :
    Calls Try.prog 26 #[Value.slice At m c] w fun e w' => ∃ r, e = .returned r ∧ ∃ L, OwnR tInt 1 r (allXs es).length ((allXs es).map (.int .i64)) L ∧ Mem w No w' L := by
  refine calls_k (args := [Value.slice At m c]) 36 [(0, Value.slice At m c)] Try.func26 rfl rfl ⟨rfl, trivial⟩ ?_
  have hM := Mem.nil w No
  have htl := ht.len
  refine k_seq ?_
  refine k_region ?_
  refine r_val (v := Value.slice none 0 0) (w' := w) rfl rfl (rfl) ?_
  refine r_nil ?_
  refine ends_sub [(0, Value.slice At m c)] ⟨rfl, trivial⟩ ?_
  refine e_then ?_
  refine k_seq ?_
  refine k_region ?_
  refine r_val (v := Value.int .i64 0) (w' := w) rfl rfl (rfl) ?_
  refine r_nil ?_
  refine ends_sub [(0, Value.slice At m c), (3, Value.int .i64 0)] ⟨rfl, rfl, trivial⟩ ?_
  refine e_then ?_
  refine k_seq ?_
  refine k_seq ?_
  refine k_region ?_
  refine r_val (v := Value.slice At m c) (w' := w) rfl rfl (rfl) ?_
  refine r_val (v := Value.int .i64 (m : Int)) (w' := w) rfl rfl (x_len rfl rfl) ?_
  refine r_val (v := Value.int .i64 0) (w' := w) rfl rfl (rfl) ?_
  refine r_nil ?_
  refine ends_sub [(0, Value.slice At m c), (3, Value.int .i64 0), (9, Value.slice At m c), (10, Value.int .i64 (m : Int)), (11, Value.int .i64 0)] ⟨rfl, rfl, rfl, rfl, rfl, trivial⟩ ?_
  refine e_then ?_
  refine k_block ?_
  refine k_loop (σ := Nat) (fun k => [(0, Value.slice At m c), (3, Value.int .i64 ((allXs (es.take k)).length : Int)), (9, Value.slice At m c), (10, Value.int .i64 (m : Int)), (11, Value.int .i64 (k : Int))]) (fun k w_ => Mem w No w_ [] ∧ k ≤ m) (fun k => m - k) 0 ⟨rfl, rfl, rfl, rfl, rfl, trivial⟩ ⟨hM, Nat.zero_le _⟩ ?_
  rintro k w1 ⟨hM2, hk⟩
  refine wpK_sub [(0, Value.slice At m c), (3, Value.int .i64 ((allXs (es.take k)).length : Int)), (9, Value.slice At m c), (10, Value.int .i64 (m : Int)), (11, Value.int .i64 (k : Int))] ⟨rfl, rfl, rfl, rfl, rfl, trivial⟩ ?_
  refine k_seq ?_
  refine k_region ?_
  refine r_val (v := Value.bool (decide ((k : Int) < (m : Int)))) (w' := w1) rfl rfl (rfl) ?_
  refine r_nil ?_
  refine ends_sub [(0, Value.slice At m c), (3, Value.int .i64 ((allXs (es.take k)).length : Int)), (9, Value.slice At m c), (10, Value.int .i64 (m : Int)), (11, Value.int .i64 (k : Int)), (12, Value.bool (decide ((k : Int) < (m : Int))))] ⟨rfl, rfl, rfl, rfl, rfl, rfl, trivial⟩ ?_
  refine e_then ?_
  refine k_seq ?_
  refine k_cond rfl rfl (fun h => ?_) (fun h => ?_)
  · try simp only [decide_eq_true_eq, decide_eq_false_iff_not, Bool.and_eq_true, Bool.or_eq_true, Bool.or_eq_false_iff, Bool.not_eq_true', Bool.not_eq_false', beq_iff_eq, bne_iff_ne, beq_eq_false_iff_ne, bne_eq_false_iff_eq, Int.not_lt, Int.not_le, ne_eq, Bool.not_eq_true, Bool.not_eq_false] at h
    refine k_skip ?_
    refine e_then ?_
    refine k_seq ?_
    refine k_block ?_
    refine k_seq ?_
    refine k_region ?_
    obtain ⟨e, he⟩ : ∃ e, es[k]? = some e := ⟨es[k]'(by omega), by simp⟩
    have hsn := allXs_snoc he
    have hle := allXs_le (es := es) (k + 1)
    rw [hsn, List.length_append] at hle
    refine r_val (v := Value.pointer (some ((adr At).add (k * 1)))) (w' := w1) rfl rfl (x_indexAddrN (i := k) (sz := 1) ht.here (by omega) rfl rfl rfl rfl) ?_
    refine r_val (v := Value.slice e.A e.xs.length e.c) (w' := w1) rfl rfl (x_load ((ht.up hM2).first he rfl) rfl rfl) ?_
    refine r_val (v := Value.slice e.A e.xs.length e.c) (w' := w1) rfl rfl (rfl) ?_
    refine r_nil ?_
    refine ends_sub [(0, Value.slice At m c), (3, Value.int .i64 ((allXs (es.take k)).length : Int)), (5, Value.slice e.A e.xs.length e.c), (9, Value.slice At m c), (10, Value.int .i64 (m : Int)), (11, Value.int .i64 (k : Int))] ⟨rfl, rfl, rfl, rfl, rfl, rfl, trivial⟩ ?_
    refine e_then ?_
    refine k_seq ?_
    refine k_region ?_
    refine r_val (v := Value.int .i64 ((allXs (es.take k)).length : Int)) (w' := w1) rfl rfl (rfl) ?_
    refine r_val (v := Value.slice e.A e.xs.length e.c) (w' := w1) rfl rfl (rfl) ?_
    refine r_val (v := Value.int .i64 (e.xs.length : Int)) (w' := w1) rfl rfl (x_len rfl rfl) ?_
    refine r_val (v := Value.int .i64 ((allXs (es.take (k + 1))).length : Int)) (w' := w1) rfl rfl (x_addE (by rw [hsn, List.length_append]; omega) (by omega) (by rw [hsn, List.length_append]; omega) rfl rfl) ?_
    refine r_val (v := Value.int .i64 ((allXs (es.take (k + 1))).length : Int)) (w' := w1) rfl rfl (rfl) ?_
    refine r_nil ?_
    refine ends_sub [(0, Value.slice At m c), (3, Value.int .i64 ((allXs (es.take (k + 1))).length : Int)), (9, Value.slice At m c), (10, Value.int .i64 (m : Int)), (11, Value.int .i64 (k : Int))] ⟨rfl, rfl, rfl, rfl, rfl, trivial⟩ ?_
    refine e_then ?_
    refine k_seq ?_
    refine k_region ?_
    refine r_val (v := Value.int .i64 ((allXs (es.take (k + 1))).length : Int)) (w' := w1) rfl rfl (rfl) ?_
    refine r_val (v := Value.bool (decide (((allXs (es.take (k + 1))).length : Int) < 0))) (w' := w1) rfl rfl (rfl) ?_
    refine r_nil ?_
    refine ends_sub [(0, Value.slice At m c), (3, Value.int .i64 ((allXs (es.take (k + 1))).length : Int)), (9, Value.slice At m c), (10, Value.int .i64 (m : Int)), (11, Value.int .i64 (k : Int)), (20, Value.bool (decide (((allXs (es.take (k + 1))).length : Int) < 0)))] ⟨rfl, rfl, rfl, rfl, rfl, rfl, trivial⟩ ?_
    refine e_then ?_
    refine k_cond_false rfl (congrArg Value.bool (decide_eq_false (by omega))) ?_
    refine k_skip ?_
    refine e_blk ?_
    refine e_then ?_
    refine k_region ?_
    refine r_val (v := Value.int .i64 ((k : Int) + 1)) (w' := w1) rfl rfl (x_addE rfl (by omega) (by omega) rfl rfl) ?_
    refine r_val (v := Value.int .i64 ((k : Int) + 1)) (w' := w1) rfl rfl (rfl) ?_
    refine r_nil ?_
    refine ends_sub [(0, Value.slice At m c), (3, Value.int .i64 ((allXs (es.take (k + 1))).length : Int)), (9, Value.slice At m c), (10, Value.int .i64 (m : Int)), (11, Value.int .i64 ((k : Int) + 1))] ⟨rfl, rfl, rfl, rfl, rfl, trivial⟩ ?_
    refine e_loop (k + 1) ⟨rfl, rfl, rfl, rfl, rfl, trivial⟩ ?_ ?_
    · exact ⟨hM2, by omega⟩
    · (try dsimp only); omega
  · try simp only [decide_eq_true_eq, decide_eq_false_iff_not, Bool.and_eq_true, Bool.or_eq_true, Bool.or_eq_false_iff, Bool.not_eq_true', Bool.not_eq_false', beq_iff_eq, bne_iff_ne, beq_eq_false_iff_ne, bne_eq_false_iff_eq, Int.not_lt, Int.not_le, ne_eq, Bool.not_eq_true, Bool.not_eq_false] at h
    refine k_exit ?_
    refine e_then_exit ?_
    refine e_loop_exit ?_
    refine e_blk_exit ?_
    refine e_then ?_
    refine k_seq ?_
    refine k_region ?_
    have hkm : es.take k = es := List.take_of_length_le (by omega)
    skip
    refine wpR_sub [(0, Value.slice At m c), (3, Value.int .i64 ((allXs es).length : Int)), (9, Value.slice At m c), (10, Value.int .i64 (m : Int)), (11, Value.int .i64 (k : Int)), (12, Value.bool (decide ((k : Int) < (m : Int))))] ⟨rfl, congrArg (fun z => some (Value.int .i64 ((allXs z).length : Int))) hkm, rfl, rfl, rfl, rfl, trivial⟩ ?_
    refine r_val (v := Value.int .i64 ((allXs es).length : Int)) (w' := w1) rfl rfl (rfl) ?_
    refine r_call (f := 59) (args := #[Value.slice none 0 0, Value.int .i64 ((allXs es).length : Int)]) (w' := w1) rfl rfl (x_call (vs := [Value.slice none 0 0, Value.int .i64 ((allXs es).length : Int)]) (enter59 _ _) rfl rfl) (grow_s (allXs es).length w1 (by omega)) ?_
    rintro v_ w3 ⟨L1, hr0, hM4⟩
    replace hM4 : Mem w No w3 L1 := by simpa using Mem.call0 hM2.drop hM4
    obtain ⟨v1, rfl⟩ : ∃ v, v = v_ := ⟨_, rfl⟩
    refine r_val (v := v1) (w' := w3) rfl rfl (rfl) ?_
    refine r_nil ?_
    refine ends_sub [(0, Value.slice At m c), (6, v1)] ⟨rfl, rfl, trivial⟩ ?_
    refine e_then ?_
    refine k_seq ?_
    refine k_seq ?_
    refine k_region ?_
    refine r_val (v := Value.slice At m c) (w' := w3) rfl rfl (rfl) ?_
    refine r_val (v := Value.int .i64 (m : Int)) (w' := w3) rfl rfl (x_len rfl rfl) ?_
    refine r_val (v := Value.int .i64 0) (w' := w3) rfl rfl (rfl) ?_
    refine r_nil ?_
    refine ends_sub [(6, v1), (25, Value.slice At m c), (26, Value.int .i64 (m : Int)), (27, Value.int .i64 0)] ⟨rfl, rfl, rfl, rfl, trivial⟩ ?_
    refine e_then ?_
    refine k_block ?_
    refine k_loop (σ := Nat × Value × Hp) (fun ⟨k, v, L1⟩ => [(6, v), (25, Value.slice At m c), (26, Value.int .i64 (m : Int)), (27, Value.int .i64 (k : Int))]) (fun ⟨k, v, L1⟩ w_ => Mem w No w_ L1 ∧ k ≤ m ∧ OwnR tInt 1 v (allXs (es.take k)).length ((allXs (es.take k)).map (.int .i64)) L1) (fun ⟨k, v, L1⟩ => m - k) (0, v1, L1) ⟨rfl, rfl, rfl, rfl, trivial⟩ ⟨hM4, Nat.zero_le _, hr0⟩ ?_
    rintro ⟨k, v, L1⟩ w5 ⟨hM6, hk, hr⟩
    refine wpK_sub [(6, v), (25, Value.slice At m c), (26, Value.int .i64 (m : Int)), (27, Value.int .i64 (k : Int))] ⟨rfl, rfl, rfl, rfl, trivial⟩ ?_
    refine k_seq ?_
    refine k_region ?_
    refine r_val (v := Value.bool (decide ((k : Int) < (m : Int)))) (w' := w5) rfl rfl (rfl) ?_
    refine r_nil ?_
    refine ends_sub [(6, v), (25, Value.slice At m c), (26, Value.int .i64 (m : Int)), (27, Value.int .i64 (k : Int)), (28, Value.bool (decide ((k : Int) < (m : Int))))] ⟨rfl, rfl, rfl, rfl, rfl, trivial⟩ ?_
    refine e_then ?_
    refine k_seq ?_
    refine k_cond rfl rfl (fun h2 => ?_) (fun h2 => ?_)
    · try simp only [decide_eq_true_eq, decide_eq_false_iff_not, Bool.and_eq_true, Bool.or_eq_true, Bool.or_eq_false_iff, Bool.not_eq_true', Bool.not_eq_false', beq_iff_eq, bne_iff_ne, beq_eq_false_iff_ne, bne_eq_false_iff_eq, Int.not_lt, Int.not_le, ne_eq, Bool.not_eq_true, Bool.not_eq_false] at h2
      refine k_skip ?_
      refine e_then ?_
      refine k_seq ?_
      refine k_block ?_
      refine k_seq ?_
      refine k_region ?_
      obtain ⟨e, he⟩ : ∃ e, es[k]? = some e := ⟨es[k]'(by omega), by simp⟩
      have hsn := allXs_snoc he
      have hle := allXs_le (es := es) (k + 1)
      rw [hsn, List.length_append] at hle
      have hre := hes e (List.mem_of_getElem? he)
      refine r_val (v := Value.pointer (some ((adr At).add (k * 1)))) (w' := w5) rfl rfl (x_indexAddrN (i := k) (sz := 1) ht.here (by omega) rfl rfl rfl rfl) ?_
      refine r_val (v := Value.slice e.A e.xs.length e.c) (w' := w5) rfl rfl (x_load ((ht.up hM6).first he rfl) rfl rfl) ?_
      have hM7 : Mem w No w5 (L1 ++ []) := by rw [List.append_nil]; exact hM6
      refine r_val (v := Value.slice e.A e.xs.length e.c) (w' := w5) rfl rfl (rfl) ?_
      refine r_nil ?_
      refine ends_sub [(6, v), (8, Value.slice e.A e.xs.length e.c), (25, Value.slice At m c), (26, Value.int .i64 (m : Int)), (27, Value.int .i64 (k : Int))] ⟨rfl, rfl, rfl, rfl, rfl, trivial⟩ ?_
      refine e_then ?_
      refine k_region ?_
      refine r_val (v := v) (w' := w5) rfl rfl (rfl) ?_
      refine r_val (v := Value.slice e.A e.xs.length e.c) (w' := w5) rfl rfl (rfl) ?_
      refine r_append (bytes := 8) (z := .int .i64 0) (A := e.A) (m := e.xs.length) (c := e.c) (news := e.xs.map (.int .i64)) hr (hM7.perm (List.perm_append_comm_assoc ([] : Hp) L1 ([]))) (hre.here) (by simp) ((hre.up hM7).cellsI) (by simp [Value.oneCell']) (by omega) (by kernel_rfl) (by kernel_rfl) rfl (by decide) (by decide) rfl rfl rfl ?_
      intro v9 L9 w8 hr9 hM9
      replace hM9 := (hM9).perm (List.perm_append_comm_assoc L9 ([] : Hp) ([]))
      have hone_v9 := hr9.one
      replace hM9 : Mem w No w8 (L9 ++ ([])) := hM9
      refine r_val (v := v9) (w' := w8) rfl rfl (rfl) ?_
      refine r_nil ?_
      refine ends_sub [(6, v9), (25, Value.slice At m c), (26, Value.int .i64 (m : Int)), (27, Value.int .i64 (k : Int))] ⟨rfl, rfl, rfl, rfl, trivial⟩ ?_
      refine e_blk ?_
      refine e_then ?_
      refine k_region ?_
      refine r_val (v := Value.int .i64 ((k : Int) + 1)) (w' := w8) rfl rfl (x_addE rfl (by omega) (by omega) rfl rfl) ?_
      refine r_val (v := Value.int .i64 ((k : Int) + 1)) (w' := w8) rfl rfl (rfl) ?_
      refine r_nil ?_
      refine ends_sub [(6, v9), (25, Value.slice At m c), (26, Value.int .i64 (m : Int)), (27, Value.int .i64 ((k : Int) + 1))] ⟨rfl, rfl, rfl, rfl, trivial⟩ ?_
      refine e_loop (k + 1, v9, L9) ⟨rfl, rfl, rfl, rfl, trivial⟩ ?_ ?_
      · exact ⟨by simpa using hM9, by omega, by rw [hsn, List.map_append, List.length_append]; exact hr9⟩
      · (try dsimp only); omega
    · try simp only [decide_eq_true_eq, decide_eq_false_iff_not, Bool.and_eq_true, Bool.or_eq_true, Bool.or_eq_false_iff, Bool.not_eq_true', Bool.not_eq_false', beq_iff_eq, bne_iff_ne, beq_eq_false_iff_ne, bne_eq_false_iff_eq, Int.not_lt, Int.not_le, ne_eq, Bool.not_eq_true, Bool.not_eq_false] at h2
      refine k_exit ?_
      refine e_then_exit ?_
      refine e_loop_exit ?_
      refine e_blk_exit ?_
      refine e_then ?_
      refine k_seq ?_
      refine k_region ?_
      have hkm2 : es.take k = es := List.take_of_length_le (by omega)
      rw [hkm2] at hr
      refine r_val (v := v) (w' := w5) rfl rfl (rfl) ?_
      refine r_val (v := v) (w' := w5) rfl rfl (rfl) ?_
      refine r_nil ?_
      refine ends_sub [(2, v)] ⟨rfl, trivial⟩ ?_
      refine e_then ?_
      refine k_ret ?_
      refine e_ret1 rfl rfl ?_
      exact ⟨_, rfl, L1, hr, hM6⟩


end Go.Proofs.Ytddacakmafdgdaa
