/- Fp: what Go functions of this seat come to, printed by walk.py over the engine. -/
import Derived.Test.YtddacakmafdgdaaFN
import Derived.Test.YtddacakmafdgdaaLw
set_option linter.unusedVariables false
set_option linter.unusedSimpArgs false
set_option maxRecDepth 100000
namespace Go.Proofs.Ytddacakmafdgdaa
open Go.RowKit Go.Kn

theorem checkVecs_s (A : Option Addr) (n c : Nat) (l : List (List Int)) (w : World) (hl : RdE intsE 12 w A n l) (hok : ∀ v ∈ l, vecOk v = true) (hn : n ≤ 1000) :
    Calls Try.prog 48 #[Value.slice A n c] w fun e w' => ∃ r, e = .returned r ∧ r = .int .i64 0 ∧ Mem w No w' [] := by
  refine calls_k (args := [Value.slice A n c]) 18 [(0, Value.slice A n c)] Try.func48 rfl rfl ⟨rfl, trivial⟩ ?_
  have hM := Mem.nil w No
  have hll := hl.len
  refine k_seq ?_
  refine k_region ?_
  refine r_val (v := Value.int .i64 0) (w' := w) rfl rfl (rfl) ?_
  refine r_nil ?_
  refine ends_sub [(0, Value.slice A n c)] ⟨rfl, trivial⟩ ?_
  refine e_then ?_
  refine k_seq ?_
  refine k_seq ?_
  refine k_region ?_
  refine r_val (v := Value.slice A n c) (w' := w) rfl rfl (rfl) ?_
  refine r_val (v := Value.int .i64 (n : Int)) (w' := w) rfl rfl (x_len rfl rfl) ?_
  refine r_val (v := Value.int .i64 0) (w' := w) rfl rfl (rfl) ?_
  refine r_nil ?_
  refine ends_sub [(6, Value.slice A n c), (7, Value.int .i64 (n : Int)), (8, Value.int .i64 0)] ⟨rfl, rfl, rfl, trivial⟩ ?_
  refine e_then ?_
  refine k_block ?_
  refine k_loop (σ := Nat) (fun k => [(6, Value.slice A n c), (7, Value.int .i64 (n : Int)), (8, Value.int .i64 (k : Int))]) (fun k w_ => Mem w No w_ [] ∧ k ≤ n) (fun k => n - k) 0 ⟨rfl, rfl, rfl, trivial⟩ ⟨hM, Nat.zero_le _⟩ ?_
  rintro k w1 ⟨hM2, hk⟩
  refine wpK_sub [(6, Value.slice A n c), (7, Value.int .i64 (n : Int)), (8, Value.int .i64 (k : Int))] ⟨rfl, rfl, rfl, trivial⟩ ?_
  refine k_seq ?_
  refine k_region ?_
  refine r_val (v := Value.bool (decide ((k : Int) < (n : Int)))) (w' := w1) rfl rfl (rfl) ?_
  refine r_nil ?_
  refine ends_sub [(6, Value.slice A n c), (7, Value.int .i64 (n : Int)), (8, Value.int .i64 (k : Int)), (9, Value.bool (decide ((k : Int) < (n : Int))))] ⟨rfl, rfl, rfl, rfl, trivial⟩ ?_
  refine e_then ?_
  refine k_seq ?_
  refine k_cond rfl rfl (fun h => ?_) (fun h => ?_)
  · try simp only [decide_eq_true_eq, decide_eq_false_iff_not, Bool.and_eq_true, Bool.or_eq_true, Bool.or_eq_false_iff, Bool.not_eq_true', Bool.not_eq_false', beq_iff_eq, bne_iff_ne, beq_eq_false_iff_ne, bne_eq_false_iff_eq, Int.not_lt, Int.not_le, ne_eq, Bool.not_eq_true, Bool.not_eq_false] at h
    refine k_skip ?_
    refine e_then ?_
    refine k_seq ?_
    refine k_block ?_
    refine k_seq ?_
    refine k_region ?_
    obtain ⟨v, hv⟩ : ∃ v, l[k]? = some v := ⟨l[k]'(by omega), by simp⟩
    have hv12 : v.length = 12 := by have := hl.size' hv; simpa using this
    have hvo := hok v (List.mem_of_getElem? hv)
    refine r_val (v := Value.pointer (some ((adr A).add (k * 12)))) (w' := w1) rfl rfl (x_indexAddrN (i := k) (sz := 12) hl.here (by omega) rfl rfl rfl rfl) ?_
    refine r_val (v := Value.agg (ints v)) (w' := w1) rfl rfl (x_loadElem (hl.up hM2) hv rfl rfl rfl) ?_
    refine r_alloc hM2 (z := Value.agg #[Value.int .i64 0, Value.int .i64 0, Value.int .i64 0, Value.int .i64 0, Value.int .i64 0, Value.int .i64 0, Value.int .i64 0, Value.int .i64 0, Value.int .i64 0, Value.int .i64 0, Value.int .i64 0, Value.int .i64 0]) rfl rfl ?_
    intro b5 w3 hM4 hb5
    replace hM4 : Mem w No w3 [(b5, .cells #[Value.int .i64 0, Value.int .i64 0, Value.int .i64 0, Value.int .i64 0, Value.int .i64 0, Value.int .i64 0, Value.int .i64 0, Value.int .i64 0, Value.int .i64 0, Value.int .i64 0, Value.int .i64 0, Value.int .i64 0] 52 (0, 0))] := hM4
    refine r_storeRow (vs := (ints v)) hM4 0 rfl (by rw [show (ints v).size = 12 from (by rw [ints_size, hv12])]; rfl) (ints_one _) (by rw [show (ints v).size = 12 from (by rw [ints_size, hv12])]; rfl) rfl rfl rfl ?_
    intro w6 hM7
    replace hM7 : Mem w No w6 [(b5, .cells (ints v) 52 (0, 0))] := hM7
    refine r_nil ?_
    refine ends_sub [(4, Value.pointer (some ⟨b5, 0, none⟩)), (6, Value.slice A n c), (7, Value.int .i64 (n : Int)), (8, Value.int .i64 (k : Int))] ⟨rfl, rfl, rfl, rfl, trivial⟩ ?_
    refine e_then ?_
    refine k_seq ?_
    refine k_region ?_
    refine r_val (v := Value.agg (ints v)) (w' := w6) rfl rfl (x_loadRow hM7 0 rfl rfl rfl (by rw [ints_size, show v.length = 12 by omega]; rfl)) ?_
    refine r_call (f := 58) (args := #[Value.agg (ints v)]) (w' := w6) rfl rfl (x_call (vs := [Value.agg (ints v)]) (enter58 _ _) rfl rfl) (checkVec_s v hv12 w6) ?_
    rintro v_ w8 ⟨rfl, hM9⟩
    replace hM9 := hM7.grow hM9.kept
    refine r_val (v := Value.int .i64 (vecErr v)) (w' := w8) rfl rfl (rfl) ?_
    refine r_nil ?_
    refine ends_sub [(5, Value.int .i64 (vecErr v)), (6, Value.slice A n c), (7, Value.int .i64 (n : Int)), (8, Value.int .i64 (k : Int))] ⟨rfl, rfl, rfl, rfl, trivial⟩ ?_
    refine e_then ?_
    refine k_seq ?_
    refine k_region ?_
    refine r_val (v := Value.int .i64 (vecErr v)) (w' := w8) rfl rfl (rfl) ?_
    refine r_val (v := Value.bool ((vecErr v) != 0)) (w' := w8) rfl rfl (rfl) ?_
    refine r_nil ?_
    refine ends_sub [(5, Value.int .i64 (vecErr v)), (6, Value.slice A n c), (7, Value.int .i64 (n : Int)), (8, Value.int .i64 (k : Int)), (15, Value.bool ((vecErr v) != 0))] ⟨rfl, rfl, rfl, rfl, rfl, trivial⟩ ?_
    refine e_then ?_
    refine k_cond_false rfl (congrArg Value.bool (by rw [vecErr_ok.2 hvo]; rfl)) ?_
    refine k_skip ?_
    refine e_blk ?_
    refine e_then ?_
    refine k_region ?_
    refine r_val (v := Value.int .i64 ((k : Int) + 1)) (w' := w8) rfl rfl (x_addE rfl (by omega) (by omega) rfl rfl) ?_
    refine r_val (v := Value.int .i64 ((k : Int) + 1)) (w' := w8) rfl rfl (rfl) ?_
    refine r_nil ?_
    refine ends_sub [(6, Value.slice A n c), (7, Value.int .i64 (n : Int)), (8, Value.int .i64 ((k : Int) + 1))] ⟨rfl, rfl, rfl, trivial⟩ ?_
    refine e_loop (k + 1) ⟨rfl, rfl, rfl, trivial⟩ ?_ ?_
    · exact ⟨hM9.drop, by omega⟩
    · (try dsimp only); omega
  · try simp only [decide_eq_true_eq, decide_eq_false_iff_not, Bool.and_eq_true, Bool.or_eq_true, Bool.or_eq_false_iff, Bool.not_eq_true', Bool.not_eq_false', beq_iff_eq, bne_iff_ne, beq_eq_false_iff_ne, bne_eq_false_iff_eq, Int.not_lt, Int.not_le, ne_eq, Bool.not_eq_true, Bool.not_eq_false] at h
    refine k_exit ?_
    refine e_then_exit ?_
    refine e_loop_exit ?_
    refine e_blk_exit ?_
    refine e_then ?_
    refine k_seq ?_
    refine k_region ?_
    refine r_val (v := Value.int .i64 0) (w' := w1) rfl rfl (rfl) ?_
    refine r_nil ?_
    refine ends_sub [(2, Value.int .i64 0)] ⟨rfl, trivial⟩ ?_
    refine e_then ?_
    refine k_ret ?_
    refine e_ret1 rfl rfl ?_
    exact ⟨_, rfl, rfl, hM2⟩

theorem far9_s (w : World) :
    Calls Try.prog 20 #[Value.agg (#[Value.int .i64 0, Value.int .i64 0, Value.int .i64 0, Value.int .i64 0, Value.int .i64 0, Value.int .i64 0, Value.int .i64 0, Value.int .i64 0, Value.int .i64 0, Value.int .i64 0, Value.int .i64 0, Value.int .i64 0]), Value.agg (#[Value.int .i64 3, Value.int .i64 0, Value.int .i64 0, Value.int .i64 0, Value.int .i64 0, Value.int .i64 0, Value.int .i64 0, Value.int .i64 0, Value.int .i64 0, Value.int .i64 0, Value.int .i64 0, Value.int .i64 0])] w fun e w' => ∃ r, e = .returned r ∧ r = .tuple #[.int .i64 9, .int .i64 0] ∧ Mem w No w' [] := by
  refine calls_k (args := [Value.agg (#[Value.int .i64 0, Value.int .i64 0, Value.int .i64 0, Value.int .i64 0, Value.int .i64 0, Value.int .i64 0, Value.int .i64 0, Value.int .i64 0, Value.int .i64 0, Value.int .i64 0, Value.int .i64 0, Value.int .i64 0]), Value.agg (#[Value.int .i64 3, Value.int .i64 0, Value.int .i64 0, Value.int .i64 0, Value.int .i64 0, Value.int .i64 0, Value.int .i64 0, Value.int .i64 0, Value.int .i64 0, Value.int .i64 0, Value.int .i64 0, Value.int .i64 0])]) 17 [(0, Value.agg (#[Value.int .i64 0, Value.int .i64 0, Value.int .i64 0, Value.int .i64 0, Value.int .i64 0, Value.int .i64 0, Value.int .i64 0, Value.int .i64 0, Value.int .i64 0, Value.int .i64 0, Value.int .i64 0, Value.int .i64 0])), (1, Value.agg (#[Value.int .i64 3, Value.int .i64 0, Value.int .i64 0, Value.int .i64 0, Value.int .i64 0, Value.int .i64 0, Value.int .i64 0, Value.int .i64 0, Value.int .i64 0, Value.int .i64 0, Value.int .i64 0, Value.int .i64 0]))] Try.func20 rfl rfl ⟨rfl, rfl, trivial⟩ ?_
  have hM := Mem.nil w No
  refine k_seq ?_
  refine k_region ?_
  refine r_box hM rfl rfl ?_
  intro b3 w1 hM2 hb3
  replace hM2 : Mem w No w1 [(b3, .cells (#[Value.int .i64 0, Value.int .i64 0, Value.int .i64 0, Value.int .i64 0, Value.int .i64 0, Value.int .i64 0, Value.int .i64 0, Value.int .i64 0, Value.int .i64 0, Value.int .i64 0, Value.int .i64 0, Value.int .i64 0]) 52 (0, 0))] := hM2
  refine r_box hM2 rfl rfl ?_
  intro b6 w4 hM5 hb6
  replace hM5 : Mem w No w4 [(b6, .cells (#[Value.int .i64 3, Value.int .i64 0, Value.int .i64 0, Value.int .i64 0, Value.int .i64 0, Value.int .i64 0, Value.int .i64 0, Value.int .i64 0, Value.int .i64 0, Value.int .i64 0, Value.int .i64 0, Value.int .i64 0]) 52 (0, 0)), (b3, .cells (#[Value.int .i64 0, Value.int .i64 0, Value.int .i64 0, Value.int .i64 0, Value.int .i64 0, Value.int .i64 0, Value.int .i64 0, Value.int .i64 0, Value.int .i64 0, Value.int .i64 0, Value.int .i64 0, Value.int .i64 0]) 52 (0, 0))] := hM5
  refine r_val (v := Value.int .i64 0) (w' := w4) rfl rfl (rfl) ?_
  refine r_val (v := Value.int .i64 0) (w' := w4) rfl rfl (rfl) ?_
  refine r_nil ?_
  refine ends_sub [(2, Value.pointer (some ⟨b3, 0, none⟩)), (3, Value.pointer (some ⟨b6, 0, none⟩))] ⟨rfl, rfl, trivial⟩ ?_
  refine e_then ?_
  refine k_seq ?_
  refine k_seq ?_
  refine k_region ?_
  refine r_val (v := Value.agg (#[Value.int .i64 0, Value.int .i64 0, Value.int .i64 0, Value.int .i64 0, Value.int .i64 0, Value.int .i64 0, Value.int .i64 0, Value.int .i64 0, Value.int .i64 0, Value.int .i64 0, Value.int .i64 0, Value.int .i64 0])) (w' := w4) rfl rfl (x_loadPart hM5 1 rfl (o := 0) (l := [Value.int .i64 0, Value.int .i64 0, Value.int .i64 0, Value.int .i64 0, Value.int .i64 0, Value.int .i64 0, Value.int .i64 0, Value.int .i64 0, Value.int .i64 0, Value.int .i64 0, Value.int .i64 0, Value.int .i64 0]) rfl rfl rfl rfl) ?_
  refine r_val (v := Value.agg (#[Value.int .i64 3, Value.int .i64 0, Value.int .i64 0, Value.int .i64 0, Value.int .i64 0, Value.int .i64 0, Value.int .i64 0, Value.int .i64 0, Value.int .i64 0, Value.int .i64 0, Value.int .i64 0, Value.int .i64 0])) (w' := w4) rfl rfl (x_loadPart hM5 0 rfl (o := 0) (l := [Value.int .i64 3, Value.int .i64 0, Value.int .i64 0, Value.int .i64 0, Value.int .i64 0, Value.int .i64 0, Value.int .i64 0, Value.int .i64 0, Value.int .i64 0, Value.int .i64 0, Value.int .i64 0, Value.int .i64 0]) rfl rfl rfl rfl) ?_
  refine r_new (fun b => .slice (some ⟨b, 0, none⟩) 2 2) (.cells #[Value.int .i64 0, Value.int .i64 0, Value.int .i64 0, Value.int .i64 0, Value.int .i64 0, Value.int .i64 0, Value.int .i64 0, Value.int .i64 0, Value.int .i64 0, Value.int .i64 0, Value.int .i64 0, Value.int .i64 0, Value.int .i64 3, Value.int .i64 0, Value.int .i64 0, Value.int .i64 0, Value.int .i64 0, Value.int .i64 0, Value.int .i64 0, Value.int .i64 0, Value.int .i64 0, Value.int .i64 0, Value.int .i64 0, Value.int .i64 0] 52 (0, 0)) hM5 (by kernel_rfl) rfl rfl ?_
  intro b9 w7 hM8 hb9
  replace hM8 : Mem w No w7 [(b9, .cells #[Value.int .i64 0, Value.int .i64 0, Value.int .i64 0, Value.int .i64 0, Value.int .i64 0, Value.int .i64 0, Value.int .i64 0, Value.int .i64 0, Value.int .i64 0, Value.int .i64 0, Value.int .i64 0, Value.int .i64 0, Value.int .i64 3, Value.int .i64 0, Value.int .i64 0, Value.int .i64 0, Value.int .i64 0, Value.int .i64 0, Value.int .i64 0, Value.int .i64 0, Value.int .i64 0, Value.int .i64 0, Value.int .i64 0, Value.int .i64 0] 52 (0, 0)), (b6, .cells (#[Value.int .i64 3, Value.int .i64 0, Value.int .i64 0, Value.int .i64 0, Value.int .i64 0, Value.int .i64 0, Value.int .i64 0, Value.int .i64 0, Value.int .i64 0, Value.int .i64 0, Value.int .i64 0, Value.int .i64 0]) 52 (0, 0)), (b3, .cells (#[Value.int .i64 0, Value.int .i64 0, Value.int .i64 0, Value.int .i64 0, Value.int .i64 0, Value.int .i64 0, Value.int .i64 0, Value.int .i64 0, Value.int .i64 0, Value.int .i64 0, Value.int .i64 0, Value.int .i64 0]) 52 (0, 0))] := hM8
  refine r_call (f := 48) (args := #[Value.slice (some ⟨b9, 0, none⟩) 2 2]) (w' := w7) rfl rfl (x_call (vs := [Value.slice (some ⟨b9, 0, none⟩) 2 2]) (enter48 _ _) rfl rfl) (checkVecs_s (some ⟨b9, 0, none⟩) 2 2 [[0, 0, 0, 0, 0, 0, 0, 0, 0, 0, 0, 0], [3, 0, 0, 0, 0, 0, 0, 0, 0, 0, 0, 0]] w7 (OwnR.rd (enc := intsE) (l := [[0, 0, 0, 0, 0, 0, 0, 0, 0, 0, 0, 0], [3, 0, 0, 0, 0, 0, 0, 0, 0, 0, 0, 0]]) (OwnR.lit 52 12 b9 2 _ (by decide) rfl) ⟨by simp, by simpa using hM8.get 0 rfl⟩ (by simp) (by decide)) (by decide) (by decide)) ?_
  rintro v_ w10 ⟨rfl, hM11⟩
  replace hM11 := hM8.grow hM11.kept
  refine r_val (v := Value.int .i64 0) (w' := w10) rfl rfl (rfl) ?_
  refine r_nil ?_
  refine ends_sub [(2, Value.pointer (some ⟨b3, 0, none⟩)), (3, Value.pointer (some ⟨b6, 0, none⟩)), (6, Value.int .i64 0)] ⟨rfl, rfl, rfl, trivial⟩ ?_
  refine e_then ?_
  refine k_seq ?_
  refine k_region ?_
  refine r_val (v := Value.int .i64 0) (w' := w10) rfl rfl (rfl) ?_
  refine r_val (v := Value.bool (0 != 0)) (w' := w10) rfl rfl (rfl) ?_
  refine r_nil ?_
  refine ends_sub [(2, Value.pointer (some ⟨b3, 0, none⟩)), (3, Value.pointer (some ⟨b6, 0, none⟩)), (6, Value.int .i64 0), (12, Value.bool (0 != 0))] ⟨rfl, rfl, rfl, rfl, trivial⟩ ?_
  refine e_then ?_
  refine k_cond_false rfl (congrArg Value.bool (rfl)) ?_
  refine k_skip ?_
  refine e_then ?_
  refine k_seq ?_
  refine k_region ?_
  refine r_val (v := Value.agg (#[Value.int .i64 0, Value.int .i64 0, Value.int .i64 0, Value.int .i64 0, Value.int .i64 0, Value.int .i64 0, Value.int .i64 0, Value.int .i64 0, Value.int .i64 0, Value.int .i64 0, Value.int .i64 0, Value.int .i64 0])) (w' := w10) rfl rfl (x_loadPart hM11 2 rfl (o := 0) (l := [Value.int .i64 0, Value.int .i64 0, Value.int .i64 0, Value.int .i64 0, Value.int .i64 0, Value.int .i64 0, Value.int .i64 0, Value.int .i64 0, Value.int .i64 0, Value.int .i64 0, Value.int .i64 0, Value.int .i64 0]) rfl rfl rfl rfl) ?_
  refine r_val (v := Value.agg (#[Value.int .i64 3, Value.int .i64 0, Value.int .i64 0, Value.int .i64 0, Value.int .i64 0, Value.int .i64 0, Value.int .i64 0, Value.int .i64 0, Value.int .i64 0, Value.int .i64 0, Value.int .i64 0, Value.int .i64 0])) (w' := w10) rfl rfl (x_loadPart hM11 1 rfl (o := 0) (l := [Value.int .i64 3, Value.int .i64 0, Value.int .i64 0, Value.int .i64 0, Value.int .i64 0, Value.int .i64 0, Value.int .i64 0, Value.int .i64 0, Value.int .i64 0, Value.int .i64 0, Value.int .i64 0, Value.int .i64 0]) rfl rfl rfl rfl) ?_
  refine r_call (f := 28) (args := #[Value.agg (#[Value.int .i64 0, Value.int .i64 0, Value.int .i64 0, Value.int .i64 0, Value.int .i64 0, Value.int .i64 0, Value.int .i64 0, Value.int .i64 0, Value.int .i64 0, Value.int .i64 0, Value.int .i64 0, Value.int .i64 0]), Value.agg (#[Value.int .i64 3, Value.int .i64 0, Value.int .i64 0, Value.int .i64 0, Value.int .i64 0, Value.int .i64 0, Value.int .i64 0, Value.int .i64 0, Value.int .i64 0, Value.int .i64 0, Value.int .i64 0, Value.int .i64 0])]) (w' := w10) rfl rfl (x_call (vs := [Value.agg (#[Value.int .i64 0, Value.int .i64 0, Value.int .i64 0, Value.int .i64 0, Value.int .i64 0, Value.int .i64 0, Value.int .i64 0, Value.int .i64 0, Value.int .i64 0, Value.int .i64 0, Value.int .i64 0, Value.int .i64 0]), Value.agg (#[Value.int .i64 3, Value.int .i64 0, Value.int .i64 0, Value.int .i64 0, Value.int .i64 0, Value.int .i64 0, Value.int .i64 0, Value.int .i64 0, Value.int .i64 0, Value.int .i64 0, Value.int .i64 0, Value.int .i64 0])]) (enter28 _ _) rfl rfl) (far_s [0, 0, 0, 0, 0, 0, 0, 0, 0, 0, 0, 0] [3, 0, 0, 0, 0, 0, 0, 0, 0, 0, 0, 0] rfl rfl rfl rfl w10) ?_
  rintro v_ w12 ⟨rfl, hM13⟩
  replace hM13 := hM11.grow hM13.kept
  refine r_val (v := Value.int .i64 (farOf [0, 0, 0, 0, 0, 0, 0, 0, 0, 0, 0, 0] [3, 0, 0, 0, 0, 0, 0, 0, 0, 0, 0, 0])) (w' := w12) rfl rfl (rfl) ?_
  refine r_val (v := Value.int .i64 0) (w' := w12) rfl rfl (rfl) ?_
  refine r_nil ?_
  refine ends_sub [(4, Value.int .i64 (farOf [0, 0, 0, 0, 0, 0, 0, 0, 0, 0, 0, 0] [3, 0, 0, 0, 0, 0, 0, 0, 0, 0, 0, 0])), (5, Value.int .i64 0)] ⟨rfl, rfl, trivial⟩ ?_
  refine e_then ?_
  refine k_ret ?_
  refine e_ret2 rfl rfl rfl ?_
  exact ⟨_, rfl, rfl, hM13.drop⟩

theorem awake_s (w : World) :
    Calls Try.prog 5 #[] w fun e w' => ∃ r, e = .returned r ∧ r = .bool true ∧ Mem w No w' [] := by
  refine calls_k (args := []) 15 [] Try.func5 rfl rfl trivial ?_
  have hM := Mem.nil w No
  refine k_seq ?_
  refine k_region ?_
  refine r_val (v := Value.bool false) (w' := w) rfl rfl (rfl) ?_
  refine r_nil ?_
  refine ends_sub [] trivial ?_
  refine e_then ?_
  refine k_seq ?_
  refine k_region ?_
  refine r_val (v := Value.agg (#[Value.int .i64 0, Value.int .i64 0, Value.int .i64 0, Value.int .i64 0, Value.int .i64 0, Value.int .i64 0, Value.int .i64 0, Value.int .i64 0, Value.int .i64 0, Value.int .i64 0, Value.int .i64 0, Value.int .i64 0])) (w' := w) rfl rfl (by kernel_rfl) ?_
  refine r_val (v := Value.agg (#[Value.int .i64 3, Value.int .i64 0, Value.int .i64 0, Value.int .i64 0, Value.int .i64 0, Value.int .i64 0, Value.int .i64 0, Value.int .i64 0, Value.int .i64 0, Value.int .i64 0, Value.int .i64 0, Value.int .i64 0])) (w' := w) rfl rfl (by kernel_rfl) ?_
  refine r_call (f := 20) (args := #[Value.agg (#[Value.int .i64 0, Value.int .i64 0, Value.int .i64 0, Value.int .i64 0, Value.int .i64 0, Value.int .i64 0, Value.int .i64 0, Value.int .i64 0, Value.int .i64 0, Value.int .i64 0, Value.int .i64 0, Value.int .i64 0]), Value.agg (#[Value.int .i64 3, Value.int .i64 0, Value.int .i64 0, Value.int .i64 0, Value.int .i64 0, Value.int .i64 0, Value.int .i64 0, Value.int .i64 0, Value.int .i64 0, Value.int .i64 0, Value.int .i64 0, Value.int .i64 0])]) (w' := w) rfl rfl (x_call (vs := [Value.agg (#[Value.int .i64 0, Value.int .i64 0, Value.int .i64 0, Value.int .i64 0, Value.int .i64 0, Value.int .i64 0, Value.int .i64 0, Value.int .i64 0, Value.int .i64 0, Value.int .i64 0, Value.int .i64 0, Value.int .i64 0]), Value.agg (#[Value.int .i64 3, Value.int .i64 0, Value.int .i64 0, Value.int .i64 0, Value.int .i64 0, Value.int .i64 0, Value.int .i64 0, Value.int .i64 0, Value.int .i64 0, Value.int .i64 0, Value.int .i64 0, Value.int .i64 0])]) (enter20 _ _) rfl rfl) (far9_s w) ?_
  rintro v_ w1 ⟨rfl, hM2⟩
  replace hM2 := hM.grow hM2.kept
  refine r_val (v := Value.tuple #[Value.int .i64 9, Value.int .i64 0]) (w' := w1) rfl rfl (rfl) ?_
  refine r_val (v := Value.int .i64 9) (w' := w1) rfl rfl (rfl) ?_
  refine r_val (v := Value.int .i64 0) (w' := w1) rfl rfl (rfl) ?_
  refine r_val (v := Value.int .i64 9) (w' := w1) rfl rfl (rfl) ?_
  refine r_val (v := Value.int .i64 0) (w' := w1) rfl rfl (rfl) ?_
  refine r_nil ?_
  refine ends_sub [(1, Value.int .i64 9), (2, Value.int .i64 0)] ⟨rfl, rfl, trivial⟩ ?_
  refine e_then ?_
  refine k_seq ?_
  refine k_region ?_
  refine r_val (v := Value.int .i64 0) (w' := w1) rfl rfl (rfl) ?_
  refine r_val (v := Value.bool (0 == 0)) (w' := w1) rfl rfl (rfl) ?_
  refine r_val (v := Value.bool (0 == 0)) (w' := w1) rfl rfl (rfl) ?_
  rcases Bool.eq_false_or_eq_true (0 == 0) with g1 | g1
  · refine wpR_sub [(1, Value.int .i64 9), (11, Value.bool true)] ⟨rfl, congrArg (fun z => some (Value.bool z)) g1, trivial⟩ ?_
    refine r_yes rfl rfl ?_
    refine r_val (v := Value.int .i64 9) (w' := w1) rfl rfl (rfl) ?_
    refine r_yes rfl rfl ?_
    refine r_val (v := Value.bool (9 == 9)) (w' := w1) rfl rfl (rfl) ?_
    refine r_val (v := Value.bool (9 == 9)) (w' := w1) rfl rfl (rfl) ?_
    refine r_val (v := Value.bool (9 == 9)) (w' := w1) rfl rfl (rfl) ?_
    refine r_nil ?_
    refine ends_sub [(0, Value.bool (9 == 9))] ⟨rfl, trivial⟩ ?_
    refine e_then ?_
    refine k_ret ?_
    refine e_ret1 rfl rfl ?_
    exact ⟨_, rfl, rfl, hM2⟩
  · refine wpR_sub [(1, Value.int .i64 9), (11, Value.bool false)] ⟨rfl, congrArg (fun z => some (Value.bool z)) g1, trivial⟩ ?_
    cases g1

theorem nan_s (a : Int) (w : World) :
    Calls Try.prog 57 #[Value.int .i64 a] w fun e w' => ∃ r, e = .returned r ∧ r = .bool false ∧ Mem w No w' [] := by
  refine calls_k (args := [Value.int .i64 a]) 6 [(0, Value.int .i64 a)] Try.func57 rfl rfl ⟨rfl, trivial⟩ ?_
  have hM := Mem.nil w No
  refine k_seq ?_
  refine k_region ?_
  refine r_val (v := Value.bool false) (w' := w) rfl rfl (rfl) ?_
  refine r_nil ?_
  refine ends_sub [(0, Value.int .i64 a)] ⟨rfl, trivial⟩ ?_
  refine e_then ?_
  refine k_seq ?_
  refine k_region ?_
  refine r_val (v := Value.int .i64 a) (w' := w) rfl rfl (rfl) ?_
  refine r_val (v := Value.int .i64 a) (w' := w) rfl rfl (rfl) ?_
  refine r_val (v := Value.bool (a != a)) (w' := w) rfl rfl (rfl) ?_
  refine r_val (v := Value.bool (a != a)) (w' := w) rfl rfl (rfl) ?_
  refine r_nil ?_
  refine ends_sub [(2, Value.bool (a != a))] ⟨rfl, trivial⟩ ?_
  refine e_then ?_
  refine k_ret ?_
  refine e_ret1 rfl rfl ?_
  exact ⟨_, rfl, by simp, hM⟩

theorem less_s (a b : Int) (w : World) :
    Calls Try.prog 24 #[Value.int .i64 a, Value.int .i64 b] w fun e w' => ∃ r, e = .returned r ∧ r = .bool (decide (a < b)) ∧ Mem w No w' [] := by
  refine calls_k (args := [Value.int .i64 a, Value.int .i64 b]) 17 [(0, Value.int .i64 a), (1, Value.int .i64 b)] Try.func24 rfl rfl ⟨rfl, rfl, trivial⟩ ?_
  have hM := Mem.nil w No
  refine k_seq ?_
  refine k_region ?_
  refine r_val (v := Value.bool false) (w' := w) rfl rfl (rfl) ?_
  refine r_nil ?_
  refine ends_sub [(0, Value.int .i64 a), (1, Value.int .i64 b)] ⟨rfl, rfl, trivial⟩ ?_
  refine e_then ?_
  refine k_seq ?_
  refine k_region ?_
  refine r_val (v := Value.int .i64 a) (w' := w) rfl rfl (rfl) ?_
  refine r_call (f := 57) (args := #[Value.int .i64 a]) (w' := w) rfl rfl (x_call (vs := [Value.int .i64 a]) (enter57 _ _) rfl rfl) (nan_s a w) ?_
  rintro v_ w1 ⟨rfl, hM2⟩
  replace hM2 := hM.grow hM2.kept
  refine r_val (v := Value.bool false) (w' := w1) rfl rfl (rfl) ?_
  refine r_no rfl rfl (by decide) rfl ?_
  refine r_no rfl rfl (by decide) rfl ?_
  refine r_no rfl rfl (by decide) rfl ?_
  refine r_val (v := Value.bool false) (w' := w1) rfl rfl (rfl) ?_
  refine r_val (v := Value.bool false) (w' := w1) rfl rfl (rfl) ?_
  refine r_yes rfl rfl ?_
  refine r_val (v := Value.int .i64 a) (w' := w1) rfl rfl (rfl) ?_
  refine r_yes rfl rfl ?_
  refine r_val (v := Value.int .i64 b) (w' := w1) rfl rfl (rfl) ?_
  refine r_yes rfl rfl ?_
  refine r_val (v := Value.bool (decide (a < b))) (w' := w1) rfl rfl (rfl) ?_
  refine r_val (v := Value.bool (decide (a < b))) (w' := w1) rfl rfl (rfl) ?_
  refine r_val (v := Value.bool (decide (a < b))) (w' := w1) rfl rfl (rfl) ?_
  refine r_nil ?_
  refine ends_sub [(4, Value.bool (decide (a < b)))] ⟨rfl, trivial⟩ ?_
  refine e_then ?_
  refine k_ret ?_
  refine e_ret1 rfl rfl ?_
  exact ⟨_, rfl, rfl, hM2⟩

theorem isSorted_s (A : Option Addr) (n c : Nat) (xs : List Int) (w : World) (ha : RdE intE 1 w A n xs) (hs : xs.Pairwise (· < ·)) (hn : n ≤ 1000) :
    Calls Try.prog 7 #[Value.slice A n c] w fun e w' => ∃ r, e = .returned r ∧ r = .bool true ∧ Mem w No w' [] := by
  refine calls_k (args := [Value.slice A n c]) 21 [(0, Value.slice A n c)] Try.func7 rfl rfl ⟨rfl, trivial⟩ ?_
  have hM := Mem.nil w No
  have hal := ha.len
  refine k_seq ?_
  refine k_region ?_
  refine r_val (v := Value.bool false) (w' := w) rfl rfl (rfl) ?_
  refine r_nil ?_
  refine ends_sub [(0, Value.slice A n c)] ⟨rfl, trivial⟩ ?_
  refine e_then ?_
  refine k_seq ?_
  refine k_seq ?_
  refine k_region ?_
  refine r_val (v := Value.slice A n c) (w' := w) rfl rfl (rfl) ?_
  refine r_val (v := Value.int .i64 (n : Int)) (w' := w) rfl rfl (x_len rfl rfl) ?_
  refine r_val (v := Value.int .i64 ((n : Int) - 1)) (w' := w) rfl rfl (x_subE rfl (by omega) (by omega) rfl rfl) ?_
  refine r_val (v := Value.int .i64 ((n : Int) - 1)) (w' := w) rfl rfl (rfl) ?_
  refine r_nil ?_
  refine ends_sub [(0, Value.slice A n c), (3, Value.int .i64 ((n : Int) - 1))] ⟨rfl, rfl, trivial⟩ ?_
  refine e_then ?_
  refine k_block ?_
  refine k_loop (σ := Nat) (fun k => [(0, Value.slice A n c), (3, Value.int .i64 ((k : Int) - 1))]) (fun k w_ => Mem w No w_ [] ∧ k ≤ n) (fun k => k) n ⟨rfl, rfl, trivial⟩ ⟨hM, Nat.le_refl _⟩ ?_
  rintro k w1 ⟨hM2, hk⟩
  refine wpK_sub [(0, Value.slice A n c), (3, Value.int .i64 ((k : Int) - 1))] ⟨rfl, rfl, trivial⟩ ?_
  refine k_seq ?_
  refine k_seq ?_
  refine k_region ?_
  refine r_val (v := Value.int .i64 ((k : Int) - 1)) (w' := w1) rfl rfl (rfl) ?_
  refine r_val (v := Value.bool (decide (((k : Int) - 1) > 0))) (w' := w1) rfl rfl (rfl) ?_
  refine r_nil ?_
  refine ends_sub [(0, Value.slice A n c), (3, Value.int .i64 ((k : Int) - 1)), (8, Value.bool (decide (((k : Int) - 1) > 0)))] ⟨rfl, rfl, rfl, trivial⟩ ?_
  refine e_then ?_
  refine k_cond rfl rfl (fun h => ?_) (fun h => ?_)
  · try simp only [decide_eq_true_eq, decide_eq_false_iff_not, Bool.and_eq_true, Bool.or_eq_true, Bool.or_eq_false_iff, Bool.not_eq_true', Bool.not_eq_false', beq_iff_eq, bne_iff_ne, beq_eq_false_iff_ne, bne_eq_false_iff_eq, Int.not_lt, Int.not_le, ne_eq, Bool.not_eq_true, Bool.not_eq_false] at h
    refine k_skip ?_
    refine e_then ?_
    refine k_seq ?_
    refine k_block ?_
    refine k_seq ?_
    obtain ⟨j, hkj⟩ : ∃ j, k = j + 1 := ⟨k - 1, by omega⟩
    have hj0 : 0 < j := by omega
    obtain ⟨x, hx⟩ : ∃ x, xs[j]? = some x := ⟨xs[j]'(by omega), by simp⟩
    obtain ⟨y, hy⟩ : ∃ x, xs[j - 1]? = some x := ⟨xs[j - 1]'(by omega), by simp⟩
    have hlt := sorted_getE hs hy hx (by omega)
    refine wpK_sub [(0, Value.slice A n c), (3, Value.int .i64 (j : Int)), (8, Value.bool (decide (((k : Int) - 1) > 0)))] ⟨rfl, congrArg (fun z => some (Value.int .i64 z)) (by omega), rfl, trivial⟩ ?_
    refine k_draw mixed [0, 0, 3, 7, 0, 0, 32, 112, 240, 511] [some (Value.slice A n c), some (Value.int .i64 (j : Int)), some (Value.pointer (some ((adr A).add (j * 1)))), some (Value.int .i64 x), some (Value.slice A n c), some (Value.int .i64 (j : Int)), some (Value.int .i64 ((j - 1 : Nat) : Int)), some (Value.pointer (some ((adr A).add ((j - 1 : Nat) * 1)))), some (Value.int .i64 y), some (Value.bool (decide (x < y)))] (by kernel_rfl) (fun D V w_ => Mem w No w_ []) (fun V => hM2.drew) ?_ ?_
    · refine ⟨?_, ?_, ?_, ?_, ?_, ?_, ?_, ?_, ?_, ?_, trivial⟩
      · intro D V w_ hd hi hM_
        refine goal_of [(0, Value.slice A n c)] rfl ⟨rfl, trivial⟩ rfl ?_
        exact run_val (Value.slice A n c) (rfl) ⟨fun c h => Option.some.inj (Option.some.inj h), hM_⟩
      · intro D V w_ hd hi hM_
        refine goal_of [(3, Value.int .i64 (j : Int))] rfl ⟨rfl, trivial⟩ rfl ?_
        exact run_val (Value.int .i64 (j : Int)) (rfl) ⟨fun c h => Option.some.inj (Option.some.inj h), hM_⟩
      · intro D V w_ hd hi hM_
        refine goal_of [(11, Value.slice A n c), (12, Value.int .i64 (j : Int))] rfl ⟨rfl, rfl, trivial⟩ rfl ?_
        exact run_val (Value.pointer (some ((adr A).add (j * 1)))) (x_indexAddrN (i := j) (sz := 1) ha.here (by omega) rfl rfl rfl rfl) ⟨fun c h => Option.some.inj (Option.some.inj h), hM_⟩
      · intro D V w_ hd hi hM_
        refine goal_of [(13, Value.pointer (some ((adr A).add (j * 1))))] rfl ⟨rfl, trivial⟩ rfl ?_
        exact run_val (Value.int .i64 x) (x_loadEInt (ha.up hM_) hx rfl rfl) ⟨fun c h => Option.some.inj (Option.some.inj h), hM_⟩
      · intro D V w_ hd hi hM_
        refine goal_of [(0, Value.slice A n c)] rfl ⟨rfl, trivial⟩ rfl ?_
        exact run_val (Value.slice A n c) (rfl) ⟨fun c h => Option.some.inj (Option.some.inj h), hM_⟩
      · intro D V w_ hd hi hM_
        refine goal_of [(3, Value.int .i64 (j : Int))] rfl ⟨rfl, trivial⟩ rfl ?_
        exact run_val (Value.int .i64 (j : Int)) (rfl) ⟨fun c h => Option.some.inj (Option.some.inj h), hM_⟩
      · intro D V w_ hd hi hM_
        refine goal_of [(16, Value.int .i64 (j : Int))] rfl ⟨rfl, trivial⟩ rfl ?_
        exact run_val (Value.int .i64 ((j - 1 : Nat) : Int)) (x_subE (by omega) (by omega) (by omega) rfl rfl) ⟨fun c h => Option.some.inj (Option.some.inj h), hM_⟩
      · intro D V w_ hd hi hM_
        refine goal_of [(15, Value.slice A n c), (17, Value.int .i64 ((j - 1 : Nat) : Int))] rfl ⟨rfl, rfl, trivial⟩ rfl ?_
        exact run_val (Value.pointer (some ((adr A).add ((j - 1 : Nat) * 1)))) (x_indexAddrN (i := (j - 1 : Nat)) (sz := 1) ha.here (by omega) rfl rfl rfl rfl) ⟨fun c h => Option.some.inj (Option.some.inj h), hM_⟩
      · intro D V w_ hd hi hM_
        refine goal_of [(18, Value.pointer (some ((adr A).add ((j - 1 : Nat) * 1))))] rfl ⟨rfl, trivial⟩ rfl ?_
        exact run_val (Value.int .i64 y) (x_loadEInt (ha.up hM_) hy rfl rfl) ⟨fun c h => Option.some.inj (Option.some.inj h), hM_⟩
      · intro D V w_ hd hi hM_
        refine goal_of [(14, Value.int .i64 x), (19, Value.int .i64 y)] rfl ⟨rfl, rfl, trivial⟩ rfl ?_
        refine run_call (f := 24) (args := #[Value.int .i64 x, Value.int .i64 y]) (w' := w_) (x_call (vs := [Value.int .i64 x, Value.int .i64 y]) (enter24 _ _) rfl rfl) (less_s x y w_) ?_
        rintro v_ w2_ ⟨rfl, hM2_⟩
        exact ⟨fun c h => Option.some.inj (Option.some.inj h), hM_.grow hM2_.kept⟩
    intro D V w5 hall hM6
    refine ends_sub [(0, Value.slice A n c), (3, Value.int .i64 (j : Int)), (20, Value.bool (decide (x < y)))] ⟨rfl, rfl, rfl, trivial⟩ ?_
    refine e_then ?_
    refine k_cond_false rfl (congrArg Value.bool (decide_eq_false (by omega))) ?_
    refine k_skip ?_
    refine e_blk ?_
    refine e_then ?_
    refine k_region ?_
    refine r_val (v := Value.int .i64 (j : Int)) (w' := w5) rfl rfl (rfl) ?_
    refine r_val (v := Value.int .i64 ((j : Int) - 1)) (w' := w5) rfl rfl (x_subE rfl (by omega) (by omega) rfl rfl) ?_
    refine r_val (v := Value.int .i64 ((j : Int) - 1)) (w' := w5) rfl rfl (rfl) ?_
    refine r_nil ?_
    refine ends_sub [(0, Value.slice A n c), (3, Value.int .i64 ((j : Int) - 1))] ⟨rfl, rfl, trivial⟩ ?_
    refine e_loop j ⟨rfl, rfl, trivial⟩ ?_ ?_
    · exact ⟨hM6, by omega⟩
    · (try dsimp only); omega
  · try simp only [decide_eq_true_eq, decide_eq_false_iff_not, Bool.and_eq_true, Bool.or_eq_true, Bool.or_eq_false_iff, Bool.not_eq_true', Bool.not_eq_false', beq_iff_eq, bne_iff_ne, beq_eq_false_iff_ne, bne_eq_false_iff_eq, Int.not_lt, Int.not_le, ne_eq, Bool.not_eq_true, Bool.not_eq_false] at h
    refine k_exit ?_
    refine e_then_exit ?_
    refine e_loop_exit ?_
    refine e_blk_exit ?_
    refine e_then ?_
    refine k_seq ?_
    refine k_region ?_
    refine r_val (v := Value.bool true) (w' := w1) rfl rfl (rfl) ?_
    refine r_nil ?_
    refine ends_sub [(2, Value.bool true)] ⟨rfl, trivial⟩ ?_
    refine e_then ?_
    refine k_ret ?_
    refine e_ret1 rfl rfl ?_
    exact ⟨_, rfl, rfl, hM2⟩


end Go.Proofs.Ytddacakmafdgdaa
