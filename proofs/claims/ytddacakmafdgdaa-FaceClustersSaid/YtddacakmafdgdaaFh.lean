/- Fh: what Go functions of this seat come to, printed by walk.py over the engine. -/
import Derived.Test.YtddacakmafdgdaaFg
import Derived.Test.YtddacakmafdgdaaBe
set_option linter.unusedVariables false
set_option linter.unusedSimpArgs false
set_option maxRecDepth 100000
namespace Go.Proofs.Ytddacakmafdgdaa
open Go.RowKit Go.Kn

theorem checkBonds_s (Al Ab : Option Addr) (nl cl nb cb : Nat) (l : List (List Int)) (bs : List Bond3) (w : World) (hl : RdE intsE 14 w Al nl l) (hb : RdE bondE 3 w Ab nb bs) :
    Calls Try.prog 17 #[Value.slice Al nl cl, Value.slice Ab nb cb] w fun e w' => ∃ r, e = .returned r ∧ r = .int .i64 (checkB l bs) ∧ Mem w No w' [] := by
  refine calls_k (args := [Value.slice Al nl cl, Value.slice Ab nb cb]) 119 [(0, Value.slice Al nl cl), (1, Value.slice Ab nb cb)] Try.func17 rfl rfl ⟨rfl, rfl, trivial⟩ ?_
  have hM := Mem.nil w No
  have hbl := hb.len
  have hll := hl.len
  refine k_seq ?_
  refine k_region ?_
  refine r_val (v := Value.int .i64 0) (w' := w) rfl rfl (rfl) ?_
  refine r_nil ?_
  refine ends_sub [(0, Value.slice Al nl cl), (1, Value.slice Ab nb cb)] ⟨rfl, rfl, trivial⟩ ?_
  refine e_then ?_
  refine k_seq ?_
  refine k_seq ?_
  refine k_region ?_
  refine r_val (v := Value.slice Al nl cl) (w' := w) rfl rfl (rfl) ?_
  refine r_call (f := 25) (args := #[Value.slice Al nl cl]) (w' := w) rfl rfl (x_call (vs := [Value.slice Al nl cl]) (enter25 _ _) rfl rfl) (check_s Al nl cl l w (hl.up hM)) ?_
  rintro v_ w1 ⟨rfl, hM2⟩
  replace hM2 := hM.grow hM2.kept
  refine r_val (v := Value.int .i64 (checkL l)) (w' := w1) rfl rfl (rfl) ?_
  refine r_nil ?_
  refine ends_sub [(0, Value.slice Al nl cl), (1, Value.slice Ab nb cb), (5, Value.int .i64 (checkL l))] ⟨rfl, rfl, rfl, trivial⟩ ?_
  refine e_then ?_
  refine k_seq ?_
  refine k_region ?_
  refine r_val (v := Value.int .i64 (checkL l)) (w' := w1) rfl rfl (rfl) ?_
  refine r_val (v := Value.bool ((checkL l) != 0)) (w' := w1) rfl rfl (rfl) ?_
  refine r_nil ?_
  refine ends_sub [(0, Value.slice Al nl cl), (1, Value.slice Ab nb cb), (5, Value.int .i64 (checkL l)), (19, Value.bool ((checkL l) != 0))] ⟨rfl, rfl, rfl, rfl, trivial⟩ ?_
  refine e_then ?_
  refine k_cond rfl rfl (fun h => ?_) (fun h => ?_)
  · try simp only [decide_eq_true_eq, decide_eq_false_iff_not, Bool.and_eq_true, Bool.or_eq_true, Bool.or_eq_false_iff, Bool.not_eq_true', Bool.not_eq_false', beq_iff_eq, bne_iff_ne, beq_eq_false_iff_ne, bne_eq_false_iff_eq, Int.not_lt, Int.not_le, ne_eq, Bool.not_eq_true, Bool.not_eq_false] at h
    refine k_seq ?_
    refine k_region ?_
    refine r_val (v := Value.int .i64 (checkL l)) (w' := w1) rfl rfl (rfl) ?_
    refine r_val (v := Value.int .i64 (checkL l)) (w' := w1) rfl rfl (rfl) ?_
    refine r_nil ?_
    refine ends_sub [(4, Value.int .i64 (checkL l))] ⟨rfl, trivial⟩ ?_
    refine e_then ?_
    refine k_ret ?_
    refine e_then_ret ?_
    refine e_ret1 rfl rfl ?_
    exact ⟨_, rfl, by rw [checkB_1 h], hM2.drop⟩
  · try simp only [decide_eq_true_eq, decide_eq_false_iff_not, Bool.and_eq_true, Bool.or_eq_true, Bool.or_eq_false_iff, Bool.not_eq_true', Bool.not_eq_false', beq_iff_eq, bne_iff_ne, beq_eq_false_iff_ne, bne_eq_false_iff_eq, Int.not_lt, Int.not_le, ne_eq, Bool.not_eq_true, Bool.not_eq_false] at h
    refine k_skip ?_
    refine e_then ?_
    refine k_seq ?_
    refine k_seq ?_
    refine k_region ?_
    refine r_val (v := Value.slice Ab nb cb) (w' := w1) rfl rfl (rfl) ?_
    refine r_val (v := Value.int .i64 (nb : Int)) (w' := w1) rfl rfl (x_len rfl rfl) ?_
    refine r_val (v := Value.bool (decide ((nb : Int) > 1000))) (w' := w1) rfl rfl (rfl) ?_
    refine r_nil ?_
    refine ends_sub [(0, Value.slice Al nl cl), (1, Value.slice Ab nb cb), (23, Value.bool (decide ((nb : Int) > 1000)))] ⟨rfl, rfl, rfl, trivial⟩ ?_
    refine e_then ?_
    refine k_cond rfl rfl (fun hbig => ?_) (fun hbig => ?_)
    · try simp only [decide_eq_true_eq, decide_eq_false_iff_not, Bool.and_eq_true, Bool.or_eq_true, Bool.or_eq_false_iff, Bool.not_eq_true', Bool.not_eq_false', beq_iff_eq, bne_iff_ne, beq_eq_false_iff_ne, bne_eq_false_iff_eq, Int.not_lt, Int.not_le, ne_eq, Bool.not_eq_true, Bool.not_eq_false] at hbig
      refine k_seq ?_
      refine k_region ?_
      refine r_val (v := Value.int .i64 4) (w' := w1) rfl rfl (rfl) ?_
      refine r_nil ?_
      refine ends_sub [(4, Value.int .i64 4)] ⟨rfl, trivial⟩ ?_
      refine e_then ?_
      refine k_ret ?_
      refine e_then_ret ?_
      refine e_ret1 rfl rfl ?_
      exact ⟨_, rfl, by rw [checkB_2 h (by omega)], hM2.drop⟩
    · try simp only [decide_eq_true_eq, decide_eq_false_iff_not, Bool.and_eq_true, Bool.or_eq_true, Bool.or_eq_false_iff, Bool.not_eq_true', Bool.not_eq_false', beq_iff_eq, bne_iff_ne, beq_eq_false_iff_ne, bne_eq_false_iff_eq, Int.not_lt, Int.not_le, ne_eq, Bool.not_eq_true, Bool.not_eq_false] at hbig
      refine k_skip ?_
      refine e_then ?_
      refine k_seq ?_
      refine k_seq ?_
      refine k_region ?_
      have hgd := good_of h (fun x hx => by have := hl.size x hx; simpa using this)
      have hl3 : nl ≤ 300 := by have := hgd.len; omega
      have hck := checkB_3 (bs := bs) h (by omega)
      refine r_val (v := Value.slice Ab nb cb) (w' := w1) rfl rfl (rfl) ?_
      refine r_val (v := Value.int .i64 (nb : Int)) (w' := w1) rfl rfl (x_len rfl rfl) ?_
      refine r_val (v := Value.int .i64 0) (w' := w1) rfl rfl (rfl) ?_
      refine r_nil ?_
      refine ends_sub [(0, Value.slice Al nl cl), (1, Value.slice Ab nb cb), (24, Value.slice Ab nb cb), (25, Value.int .i64 (nb : Int)), (26, Value.int .i64 0)] ⟨rfl, rfl, rfl, rfl, rfl, trivial⟩ ?_
      refine e_then ?_
      refine k_block ?_
      refine k_loop (σ := Nat) (fun k => [(0, Value.slice Al nl cl), (1, Value.slice Ab nb cb), (24, Value.slice Ab nb cb), (25, Value.int .i64 (nb : Int)), (26, Value.int .i64 (k : Int))]) (fun k w_ => Mem w No w_ [] ∧ k ≤ nb ∧ bondsFrom l none bs = bondsFrom l (bprev bs k) (bs.drop k)) (fun k => nb - k) 0 ⟨rfl, rfl, rfl, rfl, rfl, trivial⟩ ⟨hM2, by omega, rfl⟩ ?_
      rintro k w3 ⟨hM4, hk, he⟩
      refine wpK_sub [(0, Value.slice Al nl cl), (1, Value.slice Ab nb cb), (24, Value.slice Ab nb cb), (25, Value.int .i64 (nb : Int)), (26, Value.int .i64 (k : Int))] ⟨rfl, rfl, rfl, rfl, rfl, trivial⟩ ?_
      refine k_seq ?_
      refine k_region ?_
      refine r_val (v := Value.bool (decide ((k : Int) < (nb : Int)))) (w' := w3) rfl rfl (rfl) ?_
      refine r_nil ?_
      refine ends_sub [(0, Value.slice Al nl cl), (1, Value.slice Ab nb cb), (24, Value.slice Ab nb cb), (25, Value.int .i64 (nb : Int)), (26, Value.int .i64 (k : Int)), (27, Value.bool (decide ((k : Int) < (nb : Int))))] ⟨rfl, rfl, rfl, rfl, rfl, rfl, trivial⟩ ?_
      refine e_then ?_
      refine k_seq ?_
      refine k_cond rfl rfl (fun h1 => ?_) (fun h1 => ?_)
      · try simp only [decide_eq_true_eq, decide_eq_false_iff_not, Bool.and_eq_true, Bool.or_eq_true, Bool.or_eq_false_iff, Bool.not_eq_true', Bool.not_eq_false', beq_iff_eq, bne_iff_ne, beq_eq_false_iff_ne, bne_eq_false_iff_eq, Int.not_lt, Int.not_le, ne_eq, Bool.not_eq_true, Bool.not_eq_false] at h1
        refine k_skip ?_
        refine e_then ?_
        refine k_seq ?_
        refine k_block ?_
        refine k_seq ?_
        refine k_region ?_
        obtain ⟨b, hbk⟩ : ∃ b, bs[k]? = some b := ⟨bs[k]'(by omega), by simp⟩
        have hat := bonds_at (l := l) hbk (bprev bs k)
        refine r_val (v := Value.int .i64 (k : Int)) (w' := w3) rfl rfl (rfl) ?_
        refine r_val (v := Value.pointer (some ((adr Ab).add (k * 3)))) (w' := w3) rfl rfl (x_indexAddrN (i := k) (sz := 3) hb.here (by omega) rfl rfl rfl rfl) ?_
        refine r_val (v := Value.agg (#[Value.int .i64 b.a, Value.int .i64 b.b, Value.bool b.must])) (w' := w3) rfl rfl (x_loadElem (enc := bondE) (e := b) (hb.up hM4) hbk rfl rfl rfl) ?_
        refine r_alloc hM4 (z := Value.agg #[Value.int .i64 0, Value.int .i64 0, Value.bool false]) rfl rfl ?_
        intro b7 w5 hM6 hb7
        replace hM6 : Mem w No w5 [(b7, .cells #[Value.int .i64 0, Value.int .i64 0, Value.bool false] 35 (0, 0))] := hM6
        refine r_val (v := Value.int .i64 (k : Int)) (w' := w5) rfl rfl (rfl) ?_
        refine r_storeRow (vs := (#[Value.int .i64 b.a, Value.int .i64 b.b, Value.bool b.must])) hM6 0 rfl (by rw [show (#[Value.int .i64 b.a, Value.int .i64 b.b, Value.bool b.must]).size = 3 from (by simp [ints_size, *])]; rfl) (by first | (simp [Value.oneCell']; done) | (simp only [List.mem_cons, List.not_mem_nil, or_false, forall_eq_or_imp, forall_eq]; (repeat' constructor) <;> first | assumption | rfl)) (by rw [show (#[Value.int .i64 b.a, Value.int .i64 b.b, Value.bool b.must]).size = 3 from (by simp [ints_size, *])]; rfl) rfl rfl rfl ?_
        intro w8 hM9
        replace hM9 : Mem w No w8 [(b7, .cells (#[Value.int .i64 b.a, Value.int .i64 b.b, Value.bool b.must]) 35 (0, 0))] := hM9
        refine r_nil ?_
        refine ends_sub [(0, Value.slice Al nl cl), (1, Value.slice Ab nb cb), (6, Value.int .i64 (k : Int)), (7, Value.pointer (some ⟨b7, 0, none⟩)), (24, Value.slice Ab nb cb), (25, Value.int .i64 (nb : Int)), (26, Value.int .i64 (k : Int))] ⟨rfl, rfl, rfl, rfl, rfl, rfl, rfl, trivial⟩ ?_
        refine e_then ?_
        refine k_seq ?_
        refine k_region ?_
        refine r_val (v := Value.slice Al nl cl) (w' := w8) rfl rfl (rfl) ?_
        refine r_val (v := Value.pointer (some ⟨b7, 0, none⟩)) (w' := w8) rfl rfl (rfl) ?_
        refine r_val (v := Value.int .i64 b.a) (w' := w8) rfl rfl (x_load (hM9.cell 0 rfl rfl) rfl rfl) ?_
        refine r_call (f := 27) (args := #[Value.slice Al nl cl, Value.int .i64 b.a]) (w' := w8) rfl rfl (x_call (vs := [Value.slice Al nl cl, Value.int .i64 b.a]) (enter27 _ _) rfl rfl) (at_s Al nl cl l b.a w8 (hl.up hM9) hgd.sorted hl3) ?_
        rintro v_ w10 ⟨rfl, hM11⟩
        replace hM11 := hM9.grow hM11.kept
        refine r_val (v := Value.tuple #[Value.int .i64 (atPos l b.a : Int), Value.bool (atOk l b.a)]) (w' := w10) rfl rfl (rfl) ?_
        refine r_val (v := Value.int .i64 (atPos l b.a : Int)) (w' := w10) rfl rfl (rfl) ?_
        refine r_val (v := Value.bool (atOk l b.a)) (w' := w10) rfl rfl (rfl) ?_
        refine r_val (v := Value.int .i64 (atPos l b.a : Int)) (w' := w10) rfl rfl (rfl) ?_
        refine r_val (v := Value.bool (atOk l b.a)) (w' := w10) rfl rfl (rfl) ?_
        refine r_nil ?_
        refine ends_sub [(0, Value.slice Al nl cl), (1, Value.slice Ab nb cb), (6, Value.int .i64 (k : Int)), (7, Value.pointer (some ⟨b7, 0, none⟩)), (9, Value.bool (atOk l b.a)), (24, Value.slice Ab nb cb), (25, Value.int .i64 (nb : Int)), (26, Value.int .i64 (k : Int))] ⟨rfl, rfl, rfl, rfl, rfl, rfl, rfl, rfl, trivial⟩ ?_
        refine e_then ?_
        refine k_seq ?_
        refine k_region ?_
        refine r_val (v := Value.slice Al nl cl) (w' := w10) rfl rfl (rfl) ?_
        refine r_val (v := Value.pointer (some ⟨b7, 1, none⟩)) (w' := w10) rfl rfl (rfl) ?_
        refine r_val (v := Value.int .i64 b.b) (w' := w10) rfl rfl (x_load (hM11.cell 0 rfl rfl) rfl rfl) ?_
        refine r_call (f := 27) (args := #[Value.slice Al nl cl, Value.int .i64 b.b]) (w' := w10) rfl rfl (x_call (vs := [Value.slice Al nl cl, Value.int .i64 b.b]) (enter27 _ _) rfl rfl) (at_s Al nl cl l b.b w10 (hl.up hM11) hgd.sorted hl3) ?_
        rintro v_ w12 ⟨rfl, hM13⟩
        replace hM13 := hM11.grow hM13.kept
        refine r_val (v := Value.tuple #[Value.int .i64 (atPos l b.b : Int), Value.bool (atOk l b.b)]) (w' := w12) rfl rfl (rfl) ?_
        refine r_val (v := Value.int .i64 (atPos l b.b : Int)) (w' := w12) rfl rfl (rfl) ?_
        refine r_val (v := Value.bool (atOk l b.b)) (w' := w12) rfl rfl (rfl) ?_
        refine r_val (v := Value.int .i64 (atPos l b.b : Int)) (w' := w12) rfl rfl (rfl) ?_
        refine r_val (v := Value.bool (atOk l b.b)) (w' := w12) rfl rfl (rfl) ?_
        refine r_nil ?_
        refine ends_sub [(0, Value.slice Al nl cl), (1, Value.slice Ab nb cb), (6, Value.int .i64 (k : Int)), (7, Value.pointer (some ⟨b7, 0, none⟩)), (9, Value.bool (atOk l b.a)), (11, Value.bool (atOk l b.b)), (24, Value.slice Ab nb cb), (25, Value.int .i64 (nb : Int)), (26, Value.int .i64 (k : Int))] ⟨rfl, rfl, rfl, rfl, rfl, rfl, rfl, rfl, rfl, trivial⟩ ?_
        refine e_then ?_
        refine k_block ?_
        refine k_seq ?_
        refine k_region ?_
        refine r_val (v := Value.bool (atOk l b.a)) (w' := w12) rfl rfl (rfl) ?_
        refine r_val (v := Value.bool (!(atOk l b.a))) (w' := w12) rfl rfl (rfl) ?_
        refine r_val (v := Value.bool (!(atOk l b.a))) (w' := w12) rfl rfl (rfl) ?_
        rcases Bool.eq_false_or_eq_true (!(atOk l b.a)) with g0 | g0
        · refine wpR_sub [(0, Value.slice Al nl cl), (1, Value.slice Ab nb cb), (6, Value.int .i64 (k : Int)), (7, Value.pointer (some ⟨b7, 0, none⟩)), (11, Value.bool (atOk l b.b)), (24, Value.slice Ab nb cb), (25, Value.int .i64 (nb : Int)), (26, Value.int .i64 (k : Int)), (48, Value.bool true)] ⟨rfl, rfl, rfl, rfl, rfl, rfl, rfl, rfl, congrArg (fun z => some (Value.bool z)) g0, trivial⟩ ?_
          have h2 : (!atOk l b.a || !atOk l b.b) = true := by rw [g0]; rfl
          refine r_no rfl rfl (by decide) rfl ?_
          refine r_no rfl rfl (by decide) rfl ?_
          refine r_val (v := Value.bool true) (w' := w12) rfl rfl (rfl) ?_
          refine r_val (v := Value.bool true) (w' := w12) rfl rfl (rfl) ?_
          refine r_nil ?_
          refine ends_sub [(0, Value.slice Al nl cl), (1, Value.slice Ab nb cb), (6, Value.int .i64 (k : Int)), (7, Value.pointer (some ⟨b7, 0, none⟩)), (24, Value.slice Ab nb cb), (25, Value.int .i64 (nb : Int)), (26, Value.int .i64 (k : Int)), (45, Value.bool true)] ⟨rfl, rfl, rfl, rfl, rfl, rfl, rfl, rfl, trivial⟩ ?_
          refine e_then ?_
          refine k_cond_true rfl rfl ?_
          refine k_seq ?_
          refine k_region ?_
          refine r_val (v := Value.int .i64 7) (w' := w12) rfl rfl (rfl) ?_
          refine r_nil ?_
          refine ends_sub [(4, Value.int .i64 7)] ⟨rfl, trivial⟩ ?_
          refine e_then ?_
          refine k_ret ?_
          refine e_blk_ret ?_
          refine e_blk_ret ?_
          refine e_then_ret ?_
          refine e_loop_ret ?_
          refine e_blk_ret ?_
          refine e_then_ret ?_
          refine e_ret1 rfl rfl ?_
          exact ⟨_, rfl, by rw [hck, he, hat, bone_none h2]; rfl, hM13.drop⟩
        · refine wpR_sub [(0, Value.slice Al nl cl), (1, Value.slice Ab nb cb), (6, Value.int .i64 (k : Int)), (7, Value.pointer (some ⟨b7, 0, none⟩)), (11, Value.bool (atOk l b.b)), (24, Value.slice Ab nb cb), (25, Value.int .i64 (nb : Int)), (26, Value.int .i64 (k : Int)), (48, Value.bool false)] ⟨rfl, rfl, rfl, rfl, rfl, rfl, rfl, rfl, congrArg (fun z => some (Value.bool z)) g0, trivial⟩ ?_
          refine r_yes rfl rfl ?_
          refine r_val (v := Value.bool (atOk l b.b)) (w' := w12) rfl rfl (rfl) ?_
          refine r_yes rfl rfl ?_
          refine r_val (v := Value.bool (!(atOk l b.b))) (w' := w12) rfl rfl (rfl) ?_
          refine r_val (v := Value.bool (!(atOk l b.b))) (w' := w12) rfl rfl (rfl) ?_
          refine r_val (v := Value.bool (!(atOk l b.b))) (w' := w12) rfl rfl (rfl) ?_
          refine r_nil ?_
          refine ends_sub [(0, Value.slice Al nl cl), (1, Value.slice Ab nb cb), (6, Value.int .i64 (k : Int)), (7, Value.pointer (some ⟨b7, 0, none⟩)), (24, Value.slice Ab nb cb), (25, Value.int .i64 (nb : Int)), (26, Value.int .i64 (k : Int)), (45, Value.bool (!(atOk l b.b)))] ⟨rfl, rfl, rfl, rfl, rfl, rfl, rfl, rfl, trivial⟩ ?_
          refine e_then ?_
          refine k_cond rfl rfl (fun h2b => ?_) (fun h2b => ?_)
          · try simp only [decide_eq_true_eq, decide_eq_false_iff_not, Bool.and_eq_true, Bool.or_eq_true, Bool.or_eq_false_iff, Bool.not_eq_true', Bool.not_eq_false', beq_iff_eq, bne_iff_ne, beq_eq_false_iff_ne, bne_eq_false_iff_eq, Int.not_lt, Int.not_le, ne_eq, Bool.not_eq_true, Bool.not_eq_false] at h2b
            refine k_seq ?_
            refine k_region ?_
            have h2 : (!atOk l b.a || !atOk l b.b) = true := by simp [h2b]
            refine r_val (v := Value.int .i64 7) (w' := w12) rfl rfl (rfl) ?_
            refine r_nil ?_
            refine ends_sub [(4, Value.int .i64 7)] ⟨rfl, trivial⟩ ?_
            refine e_then ?_
            refine k_ret ?_
            refine e_blk_ret ?_
            refine e_blk_ret ?_
            refine e_then_ret ?_
            refine e_loop_ret ?_
            refine e_blk_ret ?_
            refine e_then_ret ?_
            refine e_ret1 rfl rfl ?_
            exact ⟨_, rfl, by rw [hck, he, hat, bone_none h2]; rfl, hM13.drop⟩
          · try simp only [decide_eq_true_eq, decide_eq_false_iff_not, Bool.and_eq_true, Bool.or_eq_true, Bool.or_eq_false_iff, Bool.not_eq_true', Bool.not_eq_false', beq_iff_eq, bne_iff_ne, beq_eq_false_iff_ne, bne_eq_false_iff_eq, Int.not_lt, Int.not_le, ne_eq, Bool.not_eq_true, Bool.not_eq_false] at h2b
            refine k_seq ?_
            refine k_region ?_
            have h2 : (!atOk l b.a || !atOk l b.b) = false := by simp at g0; simp [g0, h2b]
            refine r_val (v := Value.pointer (some ⟨b7, 0, none⟩)) (w' := w12) rfl rfl (rfl) ?_
            refine r_val (v := Value.int .i64 b.a) (w' := w12) rfl rfl (x_load (hM13.cell 0 rfl rfl) rfl rfl) ?_
            refine r_val (v := Value.pointer (some ⟨b7, 1, none⟩)) (w' := w12) rfl rfl (rfl) ?_
            refine r_val (v := Value.int .i64 b.b) (w' := w12) rfl rfl (x_load (hM13.cell 0 rfl rfl) rfl rfl) ?_
            refine r_val (v := Value.bool (decide (b.a ≥ b.b))) (w' := w12) rfl rfl (rfl) ?_
            refine r_val (v := Value.bool (decide (b.a ≥ b.b))) (w' := w12) rfl rfl (rfl) ?_
            refine r_nil ?_
            refine ends_sub [(0, Value.slice Al nl cl), (1, Value.slice Ab nb cb), (6, Value.int .i64 (k : Int)), (7, Value.pointer (some ⟨b7, 0, none⟩)), (24, Value.slice Ab nb cb), (25, Value.int .i64 (nb : Int)), (26, Value.int .i64 (k : Int)), (52, Value.bool (decide (b.a ≥ b.b)))] ⟨rfl, rfl, rfl, rfl, rfl, rfl, rfl, rfl, trivial⟩ ?_
            refine e_then ?_
            refine k_cond rfl rfl (fun h3 => ?_) (fun h3 => ?_)
            · try simp only [decide_eq_true_eq, decide_eq_false_iff_not, Bool.and_eq_true, Bool.or_eq_true, Bool.or_eq_false_iff, Bool.not_eq_true', Bool.not_eq_false', beq_iff_eq, bne_iff_ne, beq_eq_false_iff_ne, bne_eq_false_iff_eq, Int.not_lt, Int.not_le, ne_eq, Bool.not_eq_true, Bool.not_eq_false] at h3
              refine k_seq ?_
              refine k_region ?_
              refine r_val (v := Value.int .i64 1) (w' := w12) rfl rfl (rfl) ?_
              refine r_nil ?_
              refine ends_sub [(4, Value.int .i64 1)] ⟨rfl, trivial⟩ ?_
              refine e_then ?_
              refine k_ret ?_
              refine e_blk_ret ?_
              refine e_blk_ret ?_
              refine e_then_ret ?_
              refine e_loop_ret ?_
              refine e_blk_ret ?_
              refine e_then_ret ?_
              refine e_ret1 rfl rfl ?_
              exact ⟨_, rfl, by rw [hck, he, hat, bone_form h2 h3]; rfl, hM13.drop⟩
            · try simp only [decide_eq_true_eq, decide_eq_false_iff_not, Bool.and_eq_true, Bool.or_eq_true, Bool.or_eq_false_iff, Bool.not_eq_true', Bool.not_eq_false', beq_iff_eq, bne_iff_ne, beq_eq_false_iff_ne, bne_eq_false_iff_eq, Int.not_lt, Int.not_le, ne_eq, Bool.not_eq_true, Bool.not_eq_false] at h3
              refine k_seq ?_
              have h3 : ¬ b.b ≤ b.a := by omega
              rcases Bool.eq_false_or_eq_true (decide ((k : Int) > 0)) with g1 | g1
              · skip
                have hk0 : 0 < k := by simpa using g1
                obtain ⟨q, hq⟩ : ∃ q, bs[k - 1]? = some q := ⟨bs[k - 1]'(by omega), by simp⟩
                have hp := bprev_at hq hk0
                rcases Bool.eq_false_or_eq_true (decide (b.a < q.a)) with g2 | g2
                · skip
                  refine k_draw mixed [0, 1, 3, 7, 15, 7, 7, 71, 231, 487, 999, 2047, 4095, 8191, 16383, 8191, 8191, 73727, 237567, 499711, 1023999, 2097151, 4194303, 8388607, 16777215, 8388607, 8388607, 75497471, 243269631, 511705087, 1048575999, 2147483647, 4294967295, 8589934591, 17179869183, 34359738367] [some (Value.int .i64 (k : Int)), some (Value.bool true), some (Value.bool true), some (Value.pointer (some ⟨b7, 0, none⟩)), some (Value.int .i64 b.a), some (Value.slice Ab nb cb), some (Value.int .i64 (k : Int)), some (Value.int .i64 ((k - 1 : Nat) : Int)), some (Value.pointer (some ((adr Ab).add ((k - 1 : Nat) * 3)))), some (Value.pointer (some ((adr Ab).add ((k - 1 : Nat) * 3)))), some (Value.int .i64 q.a), some (Value.bool true), some (Value.bool true), some (undef), some (undef), some (undef), some (undef), some (undef), some (undef), some (undef), some (undef), some (undef), some (undef), some (undef), some (undef), some (undef), some (undef), some (undef), some (undef), some (undef), some (undef), some (undef), some (undef), some (Value.bool true), some (Value.bool true), some (Value.bool true)] (by kernel_rfl) (fun D V w_ => Mem w No w_ [(b7, .cells (#[Value.int .i64 b.a, Value.int .i64 b.b, Value.bool b.must]) 35 (0, 0))]) (fun V => hM13.drew) ?_ ?_
                  · refine ⟨?_, ?_, ?_, ?_, ?_, ?_, ?_, ?_, ?_, ?_, ?_, ?_, ?_, ?_, ?_, ?_, ?_, ?_, ?_, ?_, ?_, ?_, ?_, ?_, ?_, ?_, ?_, ?_, ?_, ?_, ?_, ?_, ?_, ?_, ?_, ?_, trivial⟩
                    · intro D V w_ hd hi hM_
                      refine goal_of [(6, Value.int .i64 (k : Int))] rfl ⟨rfl, trivial⟩ rfl ?_
                      exact run_val (Value.int .i64 (k : Int)) (rfl) ⟨fun c h => Option.some.inj (Option.some.inj h), hM_⟩
                    · intro D V w_ hd hi hM_
                      refine goal_of [(59, Value.int .i64 (k : Int))] rfl ⟨rfl, trivial⟩ rfl ?_
                      exact run_val (Value.bool true) (Eq.trans (rfl) (congrArg (fun z => Result.ok (Next.value (Value.bool z)) w_) g1)) ⟨fun c h => Option.some.inj (Option.some.inj h), hM_⟩
                    · intro D V w_ hd hi hM_
                      refine goal_of [(60, Value.bool true)] rfl ⟨rfl, trivial⟩ rfl ?_
                      exact run_val (Value.bool true) (rfl) ⟨fun c h => Option.some.inj (Option.some.inj h), hM_⟩
                    · intro D V w_ hd hi hM_
                      refine goal_yes [(7, Value.pointer (some ⟨b7, 0, none⟩))] rfl rfl ⟨rfl, trivial⟩ rfl ?_
                      exact run_val (Value.pointer (some ⟨b7, 0, none⟩)) (rfl) ⟨fun c h => Option.some.inj (Option.some.inj h), hM_⟩
                    · intro D V w_ hd hi hM_
                      refine goal_yes [(62, Value.pointer (some ⟨b7, 0, none⟩))] rfl rfl ⟨rfl, trivial⟩ rfl ?_
                      exact run_val (Value.int .i64 b.a) (x_load (hM_.cell 0 rfl rfl) rfl rfl) ⟨fun c h => Option.some.inj (Option.some.inj h), hM_⟩
                    · intro D V w_ hd hi hM_
                      refine goal_yes [(1, Value.slice Ab nb cb)] rfl rfl ⟨rfl, trivial⟩ rfl ?_
                      exact run_val (Value.slice Ab nb cb) (rfl) ⟨fun c h => Option.some.inj (Option.some.inj h), hM_⟩
                    · intro D V w_ hd hi hM_
                      refine goal_yes [(6, Value.int .i64 (k : Int))] rfl rfl ⟨rfl, trivial⟩ rfl ?_
                      exact run_val (Value.int .i64 (k : Int)) (rfl) ⟨fun c h => Option.some.inj (Option.some.inj h), hM_⟩
                    · intro D V w_ hd hi hM_
                      refine goal_yes [(65, Value.int .i64 (k : Int))] rfl rfl ⟨rfl, trivial⟩ rfl ?_
                      exact run_val (Value.int .i64 ((k - 1 : Nat) : Int)) (x_subE (by omega) (by omega) (by omega) rfl rfl) ⟨fun c h => Option.some.inj (Option.some.inj h), hM_⟩
                    · intro D V w_ hd hi hM_
                      refine goal_yes [(64, Value.slice Ab nb cb), (66, Value.int .i64 ((k - 1 : Nat) : Int))] rfl rfl ⟨rfl, rfl, trivial⟩ rfl ?_
                      exact run_val (Value.pointer (some ((adr Ab).add ((k - 1 : Nat) * 3)))) (x_indexAddrN (i := (k - 1 : Nat)) (sz := 3) hb.here (by omega) rfl rfl rfl rfl) ⟨fun c h => Option.some.inj (Option.some.inj h), hM_⟩
                    · intro D V w_ hd hi hM_
                      refine goal_yes [(67, Value.pointer (some ((adr Ab).add ((k - 1 : Nat) * 3))))] rfl rfl ⟨rfl, trivial⟩ rfl ?_
                      exact run_val (Value.pointer (some ((adr Ab).add ((k - 1 : Nat) * 3)))) (rfl) ⟨fun c h => Option.some.inj (Option.some.inj h), hM_⟩
                    · intro D V w_ hd hi hM_
                      refine goal_yes [(68, Value.pointer (some ((adr Ab).add ((k - 1 : Nat) * 3))))] rfl rfl ⟨rfl, trivial⟩ rfl ?_
                      exact run_val (Value.int .i64 q.a) (x_load ((hb.up hM_).first hq rfl) rfl rfl) ⟨fun c h => Option.some.inj (Option.some.inj h), hM_⟩
                    · intro D V w_ hd hi hM_
                      refine goal_yes [(63, Value.int .i64 b.a), (69, Value.int .i64 q.a)] rfl rfl ⟨rfl, rfl, trivial⟩ rfl ?_
                      exact run_val (Value.bool true) (Eq.trans (rfl) (congrArg (fun z => Result.ok (Next.value (Value.bool z)) w_) g2)) ⟨fun c h => Option.some.inj (Option.some.inj h), hM_⟩
                    · intro D V w_ hd hi hM_
                      refine goal_yes [(70, Value.bool true)] rfl rfl ⟨rfl, trivial⟩ rfl ?_
                      exact run_val (Value.bool true) (rfl) ⟨fun c h => Option.some.inj (Option.some.inj h), hM_⟩
                    · intro D V w_ hd hi hM_
                      exact goal_no rfl rfl (by decide) ⟨fun c h => Option.some.inj (Option.some.inj h), hM_⟩
                    · intro D V w_ hd hi hM_
                      exact goal_no rfl rfl (by decide) ⟨fun c h => Option.some.inj (Option.some.inj h), hM_⟩
                    · intro D V w_ hd hi hM_
                      exact goal_no rfl rfl (by decide) ⟨fun c h => Option.some.inj (Option.some.inj h), hM_⟩
                    · intro D V w_ hd hi hM_
                      exact goal_no rfl rfl (by decide) ⟨fun c h => Option.some.inj (Option.some.inj h), hM_⟩
                    · intro D V w_ hd hi hM_
                      exact goal_no rfl rfl (by decide) ⟨fun c h => Option.some.inj (Option.some.inj h), hM_⟩
                    · intro D V w_ hd hi hM_
                      exact goal_no rfl rfl (by decide) ⟨fun c h => Option.some.inj (Option.some.inj h), hM_⟩
                    · intro D V w_ hd hi hM_
                      exact goal_no rfl rfl (by decide) ⟨fun c h => Option.some.inj (Option.some.inj h), hM_⟩
                    · intro D V w_ hd hi hM_
                      exact goal_no rfl rfl (by decide) ⟨fun c h => Option.some.inj (Option.some.inj h), hM_⟩
                    · intro D V w_ hd hi hM_
                      exact goal_no rfl rfl (by decide) ⟨fun c h => Option.some.inj (Option.some.inj h), hM_⟩
                    · intro D V w_ hd hi hM_
                      exact goal_no rfl rfl (by decide) ⟨fun c h => Option.some.inj (Option.some.inj h), hM_⟩
                    · intro D V w_ hd hi hM_
                      exact goal_no rfl rfl (by decide) ⟨fun c h => Option.some.inj (Option.some.inj h), hM_⟩
                    · intro D V w_ hd hi hM_
                      exact goal_no rfl rfl (by decide) ⟨fun c h => Option.some.inj (Option.some.inj h), hM_⟩
                    · intro D V w_ hd hi hM_
                      exact goal_no rfl rfl (by decide) ⟨fun c h => Option.some.inj (Option.some.inj h), hM_⟩
                    · intro D V w_ hd hi hM_
                      exact goal_no rfl rfl (by decide) ⟨fun c h => Option.some.inj (Option.some.inj h), hM_⟩
                    · intro D V w_ hd hi hM_
                      exact goal_no rfl rfl (by decide) ⟨fun c h => Option.some.inj (Option.some.inj h), hM_⟩
                    · intro D V w_ hd hi hM_
                      exact goal_no rfl rfl (by decide) ⟨fun c h => Option.some.inj (Option.some.inj h), hM_⟩
                    · intro D V w_ hd hi hM_
                      exact goal_no rfl rfl (by decide) ⟨fun c h => Option.some.inj (Option.some.inj h), hM_⟩
                    · intro D V w_ hd hi hM_
                      exact goal_no rfl rfl (by decide) ⟨fun c h => Option.some.inj (Option.some.inj h), hM_⟩
                    · intro D V w_ hd hi hM_
                      exact goal_no rfl rfl (by decide) ⟨fun c h => Option.some.inj (Option.some.inj h), hM_⟩
                    · intro D V w_ hd hi hM_
                      exact goal_no rfl rfl (by decide) ⟨fun c h => Option.some.inj (Option.some.inj h), hM_⟩
                    · intro D V w_ hd hi hM_
                      refine goal_yes [(71, Value.bool true), (91, undef)] rfl rfl ⟨rfl, rfl, trivial⟩ rfl ?_
                      exact run_val (Value.bool true) (rfl) ⟨fun c h => Option.some.inj (Option.some.inj h), hM_⟩
                    · intro D V w_ hd hi hM_
                      refine goal_of [(61, Value.bool true), (92, Value.bool true)] rfl ⟨rfl, rfl, trivial⟩ rfl ?_
                      exact run_val (Value.bool true) (rfl) ⟨fun c h => Option.some.inj (Option.some.inj h), hM_⟩
                    · intro D V w_ hd hi hM_
                      refine goal_of [(93, Value.bool true)] rfl ⟨rfl, trivial⟩ rfl ?_
                      exact run_val (Value.bool true) (rfl) ⟨fun c h => Option.some.inj (Option.some.inj h), hM_⟩
                  intro D V w17 hall hM18
                  refine ends_sub [(0, Value.slice Al nl cl), (1, Value.slice Ab nb cb), (24, Value.slice Ab nb cb), (25, Value.int .i64 (nb : Int)), (26, Value.int .i64 (k : Int)), (58, Value.bool true)] ⟨rfl, rfl, rfl, rfl, rfl, rfl, trivial⟩ ?_
                  refine e_then ?_
                  refine k_cond_true rfl rfl ?_
                  refine k_seq ?_
                  refine k_region ?_
                  refine r_val (v := Value.int .i64 5) (w' := w17) rfl rfl (rfl) ?_
                  refine r_nil ?_
                  refine ends_sub [(4, Value.int .i64 5)] ⟨rfl, trivial⟩ ?_
                  refine e_then ?_
                  refine k_ret ?_
                  refine e_blk_ret ?_
                  refine e_blk_ret ?_
                  refine e_then_ret ?_
                  refine e_loop_ret ?_
                  refine e_blk_ret ?_
                  refine e_then_ret ?_
                  refine e_ret1 rfl rfl ?_
                  exact ⟨_, rfl, by rw [hck, he, hat, bone_order h2 h3 (by rw [hp]; simp at g2; simp [bAfter, g2])]; rfl, hM18.drop⟩
                · skip
                  rcases Bool.eq_false_or_eq_true (b.a == q.a) with g3 | g3
                  · skip
                    refine k_draw mixed [0, 1, 3, 7, 15, 7, 7, 71, 231, 487, 999, 2047, 4095, 8191, 16383, 8191, 8191, 73727, 237567, 499711, 1023999, 2097151, 4194303, 8388607, 16777215, 8388607, 8388607, 75497471, 243269631, 511705087, 1048575999, 2147483647, 4294967295, 8589934591, 17179869183, 34359738367] [some (Value.int .i64 (k : Int)), some (Value.bool true), some (Value.bool true), some (Value.pointer (some ⟨b7, 0, none⟩)), some (Value.int .i64 b.a), some (Value.slice Ab nb cb), some (Value.int .i64 (k : Int)), some (Value.int .i64 ((k - 1 : Nat) : Int)), some (Value.pointer (some ((adr Ab).add ((k - 1 : Nat) * 3)))), some (Value.pointer (some ((adr Ab).add ((k - 1 : Nat) * 3)))), some (Value.int .i64 q.a), some (Value.bool false), some (Value.bool false), some (Value.pointer (some ⟨b7, 0, none⟩)), some (Value.int .i64 b.a), some (Value.slice Ab nb cb), some (Value.int .i64 (k : Int)), some (Value.int .i64 ((k - 1 : Nat) : Int)), some (Value.pointer (some ((adr Ab).add ((k - 1 : Nat) * 3)))), some (Value.pointer (some ((adr Ab).add ((k - 1 : Nat) * 3)))), some (Value.int .i64 q.a), some (Value.bool true), some (Value.bool true), some (Value.pointer (some ⟨b7, 1, none⟩)), some (Value.int .i64 b.b), some (Value.slice Ab nb cb), some (Value.int .i64 (k : Int)), some (Value.int .i64 ((k - 1 : Nat) : Int)), some (Value.pointer (some ((adr Ab).add ((k - 1 : Nat) * 3)))), some (Value.pointer (some (((adr Ab).add ((k - 1 : Nat) * 3)).add 1))), some (Value.int .i64 q.b), some (Value.bool (decide (b.b ≤ q.b))), some (Value.bool (decide (b.b ≤ q.b))), some (Value.bool (decide (b.b ≤ q.b))), some (Value.bool (decide (b.b ≤ q.b))), some (Value.bool (decide (b.b ≤ q.b)))] (by kernel_rfl) (fun D V w_ => Mem w No w_ [(b7, .cells (#[Value.int .i64 b.a, Value.int .i64 b.b, Value.bool b.must]) 35 (0, 0))]) (fun V => hM13.drew) ?_ ?_
                    · refine ⟨?_, ?_, ?_, ?_, ?_, ?_, ?_, ?_, ?_, ?_, ?_, ?_, ?_, ?_, ?_, ?_, ?_, ?_, ?_, ?_, ?_, ?_, ?_, ?_, ?_, ?_, ?_, ?_, ?_, ?_, ?_, ?_, ?_, ?_, ?_, ?_, trivial⟩
                      · intro D V w_ hd hi hM_
                        refine goal_of [(6, Value.int .i64 (k : Int))] rfl ⟨rfl, trivial⟩ rfl ?_
                        exact run_val (Value.int .i64 (k : Int)) (rfl) ⟨fun c h => Option.some.inj (Option.some.inj h), hM_⟩
                      · intro D V w_ hd hi hM_
                        refine goal_of [(59, Value.int .i64 (k : Int))] rfl ⟨rfl, trivial⟩ rfl ?_
                        exact run_val (Value.bool true) (Eq.trans (rfl) (congrArg (fun z => Result.ok (Next.value (Value.bool z)) w_) g1)) ⟨fun c h => Option.some.inj (Option.some.inj h), hM_⟩
                      · intro D V w_ hd hi hM_
                        refine goal_of [(60, Value.bool true)] rfl ⟨rfl, trivial⟩ rfl ?_
                        exact run_val (Value.bool true) (rfl) ⟨fun c h => Option.some.inj (Option.some.inj h), hM_⟩
                      · intro D V w_ hd hi hM_
                        refine goal_yes [(7, Value.pointer (some ⟨b7, 0, none⟩))] rfl rfl ⟨rfl, trivial⟩ rfl ?_
                        exact run_val (Value.pointer (some ⟨b7, 0, none⟩)) (rfl) ⟨fun c h => Option.some.inj (Option.some.inj h), hM_⟩
                      · intro D V w_ hd hi hM_
                        refine goal_yes [(62, Value.pointer (some ⟨b7, 0, none⟩))] rfl rfl ⟨rfl, trivial⟩ rfl ?_
                        exact run_val (Value.int .i64 b.a) (x_load (hM_.cell 0 rfl rfl) rfl rfl) ⟨fun c h => Option.some.inj (Option.some.inj h), hM_⟩
                      · intro D V w_ hd hi hM_
                        refine goal_yes [(1, Value.slice Ab nb cb)] rfl rfl ⟨rfl, trivial⟩ rfl ?_
                        exact run_val (Value.slice Ab nb cb) (rfl) ⟨fun c h => Option.some.inj (Option.some.inj h), hM_⟩
                      · intro D V w_ hd hi hM_
                        refine goal_yes [(6, Value.int .i64 (k : Int))] rfl rfl ⟨rfl, trivial⟩ rfl ?_
                        exact run_val (Value.int .i64 (k : Int)) (rfl) ⟨fun c h => Option.some.inj (Option.some.inj h), hM_⟩
                      · intro D V w_ hd hi hM_
                        refine goal_yes [(65, Value.int .i64 (k : Int))] rfl rfl ⟨rfl, trivial⟩ rfl ?_
                        exact run_val (Value.int .i64 ((k - 1 : Nat) : Int)) (x_subE (by omega) (by omega) (by omega) rfl rfl) ⟨fun c h => Option.some.inj (Option.some.inj h), hM_⟩
                      · intro D V w_ hd hi hM_
                        refine goal_yes [(64, Value.slice Ab nb cb), (66, Value.int .i64 ((k - 1 : Nat) : Int))] rfl rfl ⟨rfl, rfl, trivial⟩ rfl ?_
                        exact run_val (Value.pointer (some ((adr Ab).add ((k - 1 : Nat) * 3)))) (x_indexAddrN (i := (k - 1 : Nat)) (sz := 3) hb.here (by omega) rfl rfl rfl rfl) ⟨fun c h => Option.some.inj (Option.some.inj h), hM_⟩
                      · intro D V w_ hd hi hM_
                        refine goal_yes [(67, Value.pointer (some ((adr Ab).add ((k - 1 : Nat) * 3))))] rfl rfl ⟨rfl, trivial⟩ rfl ?_
                        exact run_val (Value.pointer (some ((adr Ab).add ((k - 1 : Nat) * 3)))) (rfl) ⟨fun c h => Option.some.inj (Option.some.inj h), hM_⟩
                      · intro D V w_ hd hi hM_
                        refine goal_yes [(68, Value.pointer (some ((adr Ab).add ((k - 1 : Nat) * 3))))] rfl rfl ⟨rfl, trivial⟩ rfl ?_
                        exact run_val (Value.int .i64 q.a) (x_load ((hb.up hM_).first hq rfl) rfl rfl) ⟨fun c h => Option.some.inj (Option.some.inj h), hM_⟩
                      · intro D V w_ hd hi hM_
                        refine goal_yes [(63, Value.int .i64 b.a), (69, Value.int .i64 q.a)] rfl rfl ⟨rfl, rfl, trivial⟩ rfl ?_
                        exact run_val (Value.bool false) (Eq.trans (rfl) (congrArg (fun z => Result.ok (Next.value (Value.bool z)) w_) g2)) ⟨fun c h => Option.some.inj (Option.some.inj h), hM_⟩
                      · intro D V w_ hd hi hM_
                        refine goal_yes [(70, Value.bool false)] rfl rfl ⟨rfl, trivial⟩ rfl ?_
                        exact run_val (Value.bool false) (rfl) ⟨fun c h => Option.some.inj (Option.some.inj h), hM_⟩
                      · intro D V w_ hd hi hM_
                        refine goal_yes [(7, Value.pointer (some ⟨b7, 0, none⟩))] rfl rfl ⟨rfl, trivial⟩ rfl ?_
                        exact run_val (Value.pointer (some ⟨b7, 0, none⟩)) (rfl) ⟨fun c h => Option.some.inj (Option.some.inj h), hM_⟩
                      · intro D V w_ hd hi hM_
                        refine goal_yes [(72, Value.pointer (some ⟨b7, 0, none⟩))] rfl rfl ⟨rfl, trivial⟩ rfl ?_
                        exact run_val (Value.int .i64 b.a) (x_load (hM_.cell 0 rfl rfl) rfl rfl) ⟨fun c h => Option.some.inj (Option.some.inj h), hM_⟩
                      · intro D V w_ hd hi hM_
                        refine goal_yes [(1, Value.slice Ab nb cb)] rfl rfl ⟨rfl, trivial⟩ rfl ?_
                        exact run_val (Value.slice Ab nb cb) (rfl) ⟨fun c h => Option.some.inj (Option.some.inj h), hM_⟩
                      · intro D V w_ hd hi hM_
                        refine goal_yes [(6, Value.int .i64 (k : Int))] rfl rfl ⟨rfl, trivial⟩ rfl ?_
                        exact run_val (Value.int .i64 (k : Int)) (rfl) ⟨fun c h => Option.some.inj (Option.some.inj h), hM_⟩
                      · intro D V w_ hd hi hM_
                        refine goal_yes [(75, Value.int .i64 (k : Int))] rfl rfl ⟨rfl, trivial⟩ rfl ?_
                        exact run_val (Value.int .i64 ((k - 1 : Nat) : Int)) (x_subE (by omega) (by omega) (by omega) rfl rfl) ⟨fun c h => Option.some.inj (Option.some.inj h), hM_⟩
                      · intro D V w_ hd hi hM_
                        refine goal_yes [(74, Value.slice Ab nb cb), (76, Value.int .i64 ((k - 1 : Nat) : Int))] rfl rfl ⟨rfl, rfl, trivial⟩ rfl ?_
                        exact run_val (Value.pointer (some ((adr Ab).add ((k - 1 : Nat) * 3)))) (x_indexAddrN (i := (k - 1 : Nat)) (sz := 3) hb.here (by omega) rfl rfl rfl rfl) ⟨fun c h => Option.some.inj (Option.some.inj h), hM_⟩
                      · intro D V w_ hd hi hM_
                        refine goal_yes [(77, Value.pointer (some ((adr Ab).add ((k - 1 : Nat) * 3))))] rfl rfl ⟨rfl, trivial⟩ rfl ?_
                        exact run_val (Value.pointer (some ((adr Ab).add ((k - 1 : Nat) * 3)))) (rfl) ⟨fun c h => Option.some.inj (Option.some.inj h), hM_⟩
                      · intro D V w_ hd hi hM_
                        refine goal_yes [(78, Value.pointer (some ((adr Ab).add ((k - 1 : Nat) * 3))))] rfl rfl ⟨rfl, trivial⟩ rfl ?_
                        exact run_val (Value.int .i64 q.a) (x_load ((hb.up hM_).first hq rfl) rfl rfl) ⟨fun c h => Option.some.inj (Option.some.inj h), hM_⟩
                      · intro D V w_ hd hi hM_
                        refine goal_yes [(73, Value.int .i64 b.a), (79, Value.int .i64 q.a)] rfl rfl ⟨rfl, rfl, trivial⟩ rfl ?_
                        exact run_val (Value.bool true) (Eq.trans (rfl) (congrArg (fun z => Result.ok (Next.value (Value.bool z)) w_) g3)) ⟨fun c h => Option.some.inj (Option.some.inj h), hM_⟩
                      · intro D V w_ hd hi hM_
                        refine goal_yes [(80, Value.bool true)] rfl rfl ⟨rfl, trivial⟩ rfl ?_
                        exact run_val (Value.bool true) (rfl) ⟨fun c h => Option.some.inj (Option.some.inj h), hM_⟩
                      · intro D V w_ hd hi hM_
                        refine goal_yes [(7, Value.pointer (some ⟨b7, 0, none⟩))] rfl rfl ⟨rfl, trivial⟩ rfl ?_
                        exact run_val (Value.pointer (some ⟨b7, 1, none⟩)) (rfl) ⟨fun c h => Option.some.inj (Option.some.inj h), hM_⟩
                      · intro D V w_ hd hi hM_
                        refine goal_yes [(82, Value.pointer (some ⟨b7, 1, none⟩))] rfl rfl ⟨rfl, trivial⟩ rfl ?_
                        exact run_val (Value.int .i64 b.b) (x_load (hM_.cell 0 rfl rfl) rfl rfl) ⟨fun c h => Option.some.inj (Option.some.inj h), hM_⟩
                      · intro D V w_ hd hi hM_
                        refine goal_yes [(1, Value.slice Ab nb cb)] rfl rfl ⟨rfl, trivial⟩ rfl ?_
                        exact run_val (Value.slice Ab nb cb) (rfl) ⟨fun c h => Option.some.inj (Option.some.inj h), hM_⟩
                      · intro D V w_ hd hi hM_
                        refine goal_yes [(6, Value.int .i64 (k : Int))] rfl rfl ⟨rfl, trivial⟩ rfl ?_
                        exact run_val (Value.int .i64 (k : Int)) (rfl) ⟨fun c h => Option.some.inj (Option.some.inj h), hM_⟩
                      · intro D V w_ hd hi hM_
                        refine goal_yes [(85, Value.int .i64 (k : Int))] rfl rfl ⟨rfl, trivial⟩ rfl ?_
                        exact run_val (Value.int .i64 ((k - 1 : Nat) : Int)) (x_subE (by omega) (by omega) (by omega) rfl rfl) ⟨fun c h => Option.some.inj (Option.some.inj h), hM_⟩
                      · intro D V w_ hd hi hM_
                        refine goal_yes [(84, Value.slice Ab nb cb), (86, Value.int .i64 ((k - 1 : Nat) : Int))] rfl rfl ⟨rfl, rfl, trivial⟩ rfl ?_
                        exact run_val (Value.pointer (some ((adr Ab).add ((k - 1 : Nat) * 3)))) (x_indexAddrN (i := (k - 1 : Nat)) (sz := 3) hb.here (by omega) rfl rfl rfl rfl) ⟨fun c h => Option.some.inj (Option.some.inj h), hM_⟩
                      · intro D V w_ hd hi hM_
                        refine goal_yes [(87, Value.pointer (some ((adr Ab).add ((k - 1 : Nat) * 3))))] rfl rfl ⟨rfl, trivial⟩ rfl ?_
                        exact run_val (Value.pointer (some (((adr Ab).add ((k - 1 : Nat) * 3)).add 1))) (rfl) ⟨fun c h => Option.some.inj (Option.some.inj h), hM_⟩
                      · intro D V w_ hd hi hM_
                        refine goal_yes [(88, Value.pointer (some (((adr Ab).add ((k - 1 : Nat) * 3)).add 1)))] rfl rfl ⟨rfl, trivial⟩ rfl ?_
                        exact run_val (Value.int .i64 q.b) (x_load ((hb.up hM_).elem hq 1 _ rfl) rfl rfl) ⟨fun c h => Option.some.inj (Option.some.inj h), hM_⟩
                      · intro D V w_ hd hi hM_
                        refine goal_yes [(83, Value.int .i64 b.b), (89, Value.int .i64 q.b)] rfl rfl ⟨rfl, rfl, trivial⟩ rfl ?_
                        exact run_val (Value.bool (decide (b.b ≤ q.b))) (rfl) ⟨fun c h => Option.some.inj (Option.some.inj h), hM_⟩
                      · intro D V w_ hd hi hM_
                        refine goal_yes [(81, Value.bool true), (90, Value.bool (decide (b.b ≤ q.b)))] rfl rfl ⟨rfl, rfl, trivial⟩ rfl ?_
                        exact run_val (Value.bool (decide (b.b ≤ q.b))) (rfl) ⟨fun c h => Option.some.inj (Option.some.inj h), hM_⟩
                      · intro D V w_ hd hi hM_
                        refine goal_yes [(71, Value.bool false), (91, Value.bool (decide (b.b ≤ q.b)))] rfl rfl ⟨rfl, rfl, trivial⟩ rfl ?_
                        exact run_val (Value.bool (decide (b.b ≤ q.b))) (rfl) ⟨fun c h => Option.some.inj (Option.some.inj h), hM_⟩
                      · intro D V w_ hd hi hM_
                        refine goal_of [(61, Value.bool true), (92, Value.bool (decide (b.b ≤ q.b)))] rfl ⟨rfl, rfl, trivial⟩ rfl ?_
                        exact run_val (Value.bool (decide (b.b ≤ q.b))) (rfl) ⟨fun c h => Option.some.inj (Option.some.inj h), hM_⟩
                      · intro D V w_ hd hi hM_
                        refine goal_of [(93, Value.bool (decide (b.b ≤ q.b)))] rfl ⟨rfl, trivial⟩ rfl ?_
                        exact run_val (Value.bool (decide (b.b ≤ q.b))) (rfl) ⟨fun c h => Option.some.inj (Option.some.inj h), hM_⟩
                    intro D V w20 hall hM21
                    refine ends_sub [(0, Value.slice Al nl cl), (1, Value.slice Ab nb cb), (24, Value.slice Ab nb cb), (25, Value.int .i64 (nb : Int)), (26, Value.int .i64 (k : Int)), (58, Value.bool (decide (b.b ≤ q.b)))] ⟨rfl, rfl, rfl, rfl, rfl, rfl, trivial⟩ ?_
                    refine e_then ?_
                    refine k_cond rfl rfl (fun h4 => ?_) (fun h4 => ?_)
                    · try simp only [decide_eq_true_eq, decide_eq_false_iff_not, Bool.and_eq_true, Bool.or_eq_true, Bool.or_eq_false_iff, Bool.not_eq_true', Bool.not_eq_false', beq_iff_eq, bne_iff_ne, beq_eq_false_iff_ne, bne_eq_false_iff_eq, Int.not_lt, Int.not_le, ne_eq, Bool.not_eq_true, Bool.not_eq_false] at h4
                      refine k_seq ?_
                      refine k_region ?_
                      refine r_val (v := Value.int .i64 5) (w' := w20) rfl rfl (rfl) ?_
                      refine r_nil ?_
                      refine ends_sub [(4, Value.int .i64 5)] ⟨rfl, trivial⟩ ?_
                      refine e_then ?_
                      refine k_ret ?_
                      refine e_blk_ret ?_
                      refine e_blk_ret ?_
                      refine e_then_ret ?_
                      refine e_loop_ret ?_
                      refine e_blk_ret ?_
                      refine e_then_ret ?_
                      refine e_ret1 rfl rfl ?_
                      exact ⟨_, rfl, by rw [hck, he, hat, bone_order h2 h3 (by rw [hp]; simp at g2 g3; simp [bAfter, g3, h4])]; rfl, hM21.drop⟩
                    · try simp only [decide_eq_true_eq, decide_eq_false_iff_not, Bool.and_eq_true, Bool.or_eq_true, Bool.or_eq_false_iff, Bool.not_eq_true', Bool.not_eq_false', beq_iff_eq, bne_iff_ne, beq_eq_false_iff_ne, bne_eq_false_iff_eq, Int.not_lt, Int.not_le, ne_eq, Bool.not_eq_true, Bool.not_eq_false] at h4
                      refine k_skip ?_
                      refine e_blk ?_
                      refine e_blk ?_
                      refine e_then ?_
                      refine k_region ?_
                      refine r_val (v := Value.int .i64 ((k : Int) + 1)) (w' := w20) rfl rfl (x_addE rfl (by omega) (by omega) rfl rfl) ?_
                      refine r_val (v := Value.int .i64 ((k : Int) + 1)) (w' := w20) rfl rfl (rfl) ?_
                      refine r_nil ?_
                      refine ends_sub [(0, Value.slice Al nl cl), (1, Value.slice Ab nb cb), (24, Value.slice Ab nb cb), (25, Value.int .i64 (nb : Int)), (26, Value.int .i64 ((k : Int) + 1))] ⟨rfl, rfl, rfl, rfl, rfl, trivial⟩ ?_
                      refine e_loop (k + 1) ⟨rfl, rfl, rfl, rfl, rfl, trivial⟩ ?_ ?_
                      · exact ⟨hM21.drop, by omega, by rw [he, hat, bone_ok h2 h3 (by rw [hp]; simp at g2 g3; simp [bAfter, g3]; omega)]; rfl⟩
                      · (try dsimp only); omega
                  · skip
                    refine k_draw mixed [0, 1, 3, 7, 15, 7, 7, 71, 231, 487, 999, 2047, 4095, 8191, 16383, 8191, 8191, 73727, 237567, 499711, 1023999, 2097151, 4194303, 8388607, 16777215, 8388607, 8388607, 75497471, 243269631, 511705087, 1048575999, 2147483647, 4294967295, 8589934591, 17179869183, 34359738367] [some (Value.int .i64 (k : Int)), some (Value.bool true), some (Value.bool true), some (Value.pointer (some ⟨b7, 0, none⟩)), some (Value.int .i64 b.a), some (Value.slice Ab nb cb), some (Value.int .i64 (k : Int)), some (Value.int .i64 ((k - 1 : Nat) : Int)), some (Value.pointer (some ((adr Ab).add ((k - 1 : Nat) * 3)))), some (Value.pointer (some ((adr Ab).add ((k - 1 : Nat) * 3)))), some (Value.int .i64 q.a), some (Value.bool false), some (Value.bool false), some (Value.pointer (some ⟨b7, 0, none⟩)), some (Value.int .i64 b.a), some (Value.slice Ab nb cb), some (Value.int .i64 (k : Int)), some (Value.int .i64 ((k - 1 : Nat) : Int)), some (Value.pointer (some ((adr Ab).add ((k - 1 : Nat) * 3)))), some (Value.pointer (some ((adr Ab).add ((k - 1 : Nat) * 3)))), some (Value.int .i64 q.a), some (Value.bool false), some (Value.bool false), some (undef), some (undef), some (undef), some (undef), some (undef), some (undef), some (undef), some (undef), some (undef), some (Value.bool false), some (Value.bool false), some (Value.bool false), some (Value.bool false)] (by kernel_rfl) (fun D V w_ => Mem w No w_ [(b7, .cells (#[Value.int .i64 b.a, Value.int .i64 b.b, Value.bool b.must]) 35 (0, 0))]) (fun V => hM13.drew) ?_ ?_
                    · refine ⟨?_, ?_, ?_, ?_, ?_, ?_, ?_, ?_, ?_, ?_, ?_, ?_, ?_, ?_, ?_, ?_, ?_, ?_, ?_, ?_, ?_, ?_, ?_, ?_, ?_, ?_, ?_, ?_, ?_, ?_, ?_, ?_, ?_, ?_, ?_, ?_, trivial⟩
                      · intro D V w_ hd hi hM_
                        refine goal_of [(6, Value.int .i64 (k : Int))] rfl ⟨rfl, trivial⟩ rfl ?_
                        exact run_val (Value.int .i64 (k : Int)) (rfl) ⟨fun c h => Option.some.inj (Option.some.inj h), hM_⟩
                      · intro D V w_ hd hi hM_
                        refine goal_of [(59, Value.int .i64 (k : Int))] rfl ⟨rfl, trivial⟩ rfl ?_
                        exact run_val (Value.bool true) (Eq.trans (rfl) (congrArg (fun z => Result.ok (Next.value (Value.bool z)) w_) g1)) ⟨fun c h => Option.some.inj (Option.some.inj h), hM_⟩
                      · intro D V w_ hd hi hM_
                        refine goal_of [(60, Value.bool true)] rfl ⟨rfl, trivial⟩ rfl ?_
                        exact run_val (Value.bool true) (rfl) ⟨fun c h => Option.some.inj (Option.some.inj h), hM_⟩
                      · intro D V w_ hd hi hM_
                        refine goal_yes [(7, Value.pointer (some ⟨b7, 0, none⟩))] rfl rfl ⟨rfl, trivial⟩ rfl ?_
                        exact run_val (Value.pointer (some ⟨b7, 0, none⟩)) (rfl) ⟨fun c h => Option.some.inj (Option.some.inj h), hM_⟩
                      · intro D V w_ hd hi hM_
                        refine goal_yes [(62, Value.pointer (some ⟨b7, 0, none⟩))] rfl rfl ⟨rfl, trivial⟩ rfl ?_
                        exact run_val (Value.int .i64 b.a) (x_load (hM_.cell 0 rfl rfl) rfl rfl) ⟨fun c h => Option.some.inj (Option.some.inj h), hM_⟩
                      · intro D V w_ hd hi hM_
                        refine goal_yes [(1, Value.slice Ab nb cb)] rfl rfl ⟨rfl, trivial⟩ rfl ?_
                        exact run_val (Value.slice Ab nb cb) (rfl) ⟨fun c h => Option.some.inj (Option.some.inj h), hM_⟩
                      · intro D V w_ hd hi hM_
                        refine goal_yes [(6, Value.int .i64 (k : Int))] rfl rfl ⟨rfl, trivial⟩ rfl ?_
                        exact run_val (Value.int .i64 (k : Int)) (rfl) ⟨fun c h => Option.some.inj (Option.some.inj h), hM_⟩
                      · intro D V w_ hd hi hM_
                        refine goal_yes [(65, Value.int .i64 (k : Int))] rfl rfl ⟨rfl, trivial⟩ rfl ?_
                        exact run_val (Value.int .i64 ((k - 1 : Nat) : Int)) (x_subE (by omega) (by omega) (by omega) rfl rfl) ⟨fun c h => Option.some.inj (Option.some.inj h), hM_⟩
                      · intro D V w_ hd hi hM_
                        refine goal_yes [(64, Value.slice Ab nb cb), (66, Value.int .i64 ((k - 1 : Nat) : Int))] rfl rfl ⟨rfl, rfl, trivial⟩ rfl ?_
                        exact run_val (Value.pointer (some ((adr Ab).add ((k - 1 : Nat) * 3)))) (x_indexAddrN (i := (k - 1 : Nat)) (sz := 3) hb.here (by omega) rfl rfl rfl rfl) ⟨fun c h => Option.some.inj (Option.some.inj h), hM_⟩
                      · intro D V w_ hd hi hM_
                        refine goal_yes [(67, Value.pointer (some ((adr Ab).add ((k - 1 : Nat) * 3))))] rfl rfl ⟨rfl, trivial⟩ rfl ?_
                        exact run_val (Value.pointer (some ((adr Ab).add ((k - 1 : Nat) * 3)))) (rfl) ⟨fun c h => Option.some.inj (Option.some.inj h), hM_⟩
                      · intro D V w_ hd hi hM_
                        refine goal_yes [(68, Value.pointer (some ((adr Ab).add ((k - 1 : Nat) * 3))))] rfl rfl ⟨rfl, trivial⟩ rfl ?_
                        exact run_val (Value.int .i64 q.a) (x_load ((hb.up hM_).first hq rfl) rfl rfl) ⟨fun c h => Option.some.inj (Option.some.inj h), hM_⟩
                      · intro D V w_ hd hi hM_
                        refine goal_yes [(63, Value.int .i64 b.a), (69, Value.int .i64 q.a)] rfl rfl ⟨rfl, rfl, trivial⟩ rfl ?_
                        exact run_val (Value.bool false) (Eq.trans (rfl) (congrArg (fun z => Result.ok (Next.value (Value.bool z)) w_) g2)) ⟨fun c h => Option.some.inj (Option.some.inj h), hM_⟩
                      · intro D V w_ hd hi hM_
                        refine goal_yes [(70, Value.bool false)] rfl rfl ⟨rfl, trivial⟩ rfl ?_
                        exact run_val (Value.bool false) (rfl) ⟨fun c h => Option.some.inj (Option.some.inj h), hM_⟩
                      · intro D V w_ hd hi hM_
                        refine goal_yes [(7, Value.pointer (some ⟨b7, 0, none⟩))] rfl rfl ⟨rfl, trivial⟩ rfl ?_
                        exact run_val (Value.pointer (some ⟨b7, 0, none⟩)) (rfl) ⟨fun c h => Option.some.inj (Option.some.inj h), hM_⟩
                      · intro D V w_ hd hi hM_
                        refine goal_yes [(72, Value.pointer (some ⟨b7, 0, none⟩))] rfl rfl ⟨rfl, trivial⟩ rfl ?_
                        exact run_val (Value.int .i64 b.a) (x_load (hM_.cell 0 rfl rfl) rfl rfl) ⟨fun c h => Option.some.inj (Option.some.inj h), hM_⟩
                      · intro D V w_ hd hi hM_
                        refine goal_yes [(1, Value.slice Ab nb cb)] rfl rfl ⟨rfl, trivial⟩ rfl ?_
                        exact run_val (Value.slice Ab nb cb) (rfl) ⟨fun c h => Option.some.inj (Option.some.inj h), hM_⟩
                      · intro D V w_ hd hi hM_
                        refine goal_yes [(6, Value.int .i64 (k : Int))] rfl rfl ⟨rfl, trivial⟩ rfl ?_
                        exact run_val (Value.int .i64 (k : Int)) (rfl) ⟨fun c h => Option.some.inj (Option.some.inj h), hM_⟩
                      · intro D V w_ hd hi hM_
                        refine goal_yes [(75, Value.int .i64 (k : Int))] rfl rfl ⟨rfl, trivial⟩ rfl ?_
                        exact run_val (Value.int .i64 ((k - 1 : Nat) : Int)) (x_subE (by omega) (by omega) (by omega) rfl rfl) ⟨fun c h => Option.some.inj (Option.some.inj h), hM_⟩
                      · intro D V w_ hd hi hM_
                        refine goal_yes [(74, Value.slice Ab nb cb), (76, Value.int .i64 ((k - 1 : Nat) : Int))] rfl rfl ⟨rfl, rfl, trivial⟩ rfl ?_
                        exact run_val (Value.pointer (some ((adr Ab).add ((k - 1 : Nat) * 3)))) (x_indexAddrN (i := (k - 1 : Nat)) (sz := 3) hb.here (by omega) rfl rfl rfl rfl) ⟨fun c h => Option.some.inj (Option.some.inj h), hM_⟩
                      · intro D V w_ hd hi hM_
                        refine goal_yes [(77, Value.pointer (some ((adr Ab).add ((k - 1 : Nat) * 3))))] rfl rfl ⟨rfl, trivial⟩ rfl ?_
                        exact run_val (Value.pointer (some ((adr Ab).add ((k - 1 : Nat) * 3)))) (rfl) ⟨fun c h => Option.some.inj (Option.some.inj h), hM_⟩
                      · intro D V w_ hd hi hM_
                        refine goal_yes [(78, Value.pointer (some ((adr Ab).add ((k - 1 : Nat) * 3))))] rfl rfl ⟨rfl, trivial⟩ rfl ?_
                        exact run_val (Value.int .i64 q.a) (x_load ((hb.up hM_).first hq rfl) rfl rfl) ⟨fun c h => Option.some.inj (Option.some.inj h), hM_⟩
                      · intro D V w_ hd hi hM_
                        refine goal_yes [(73, Value.int .i64 b.a), (79, Value.int .i64 q.a)] rfl rfl ⟨rfl, rfl, trivial⟩ rfl ?_
                        exact run_val (Value.bool false) (Eq.trans (rfl) (congrArg (fun z => Result.ok (Next.value (Value.bool z)) w_) g3)) ⟨fun c h => Option.some.inj (Option.some.inj h), hM_⟩
                      · intro D V w_ hd hi hM_
                        refine goal_yes [(80, Value.bool false)] rfl rfl ⟨rfl, trivial⟩ rfl ?_
                        exact run_val (Value.bool false) (rfl) ⟨fun c h => Option.some.inj (Option.some.inj h), hM_⟩
                      · intro D V w_ hd hi hM_
                        exact goal_no rfl rfl (by decide) ⟨fun c h => Option.some.inj (Option.some.inj h), hM_⟩
                      · intro D V w_ hd hi hM_
                        exact goal_no rfl rfl (by decide) ⟨fun c h => Option.some.inj (Option.some.inj h), hM_⟩
                      · intro D V w_ hd hi hM_
                        exact goal_no rfl rfl (by decide) ⟨fun c h => Option.some.inj (Option.some.inj h), hM_⟩
                      · intro D V w_ hd hi hM_
                        exact goal_no rfl rfl (by decide) ⟨fun c h => Option.some.inj (Option.some.inj h), hM_⟩
                      · intro D V w_ hd hi hM_
                        exact goal_no rfl rfl (by decide) ⟨fun c h => Option.some.inj (Option.some.inj h), hM_⟩
                      · intro D V w_ hd hi hM_
                        exact goal_no rfl rfl (by decide) ⟨fun c h => Option.some.inj (Option.some.inj h), hM_⟩
                      · intro D V w_ hd hi hM_
                        exact goal_no rfl rfl (by decide) ⟨fun c h => Option.some.inj (Option.some.inj h), hM_⟩
                      · intro D V w_ hd hi hM_
                        exact goal_no rfl rfl (by decide) ⟨fun c h => Option.some.inj (Option.some.inj h), hM_⟩
                      · intro D V w_ hd hi hM_
                        exact goal_no rfl rfl (by decide) ⟨fun c h => Option.some.inj (Option.some.inj h), hM_⟩
                      · intro D V w_ hd hi hM_
                        refine goal_yes [(81, Value.bool false), (90, undef)] rfl rfl ⟨rfl, rfl, trivial⟩ rfl ?_
                        exact run_val (Value.bool false) (rfl) ⟨fun c h => Option.some.inj (Option.some.inj h), hM_⟩
                      · intro D V w_ hd hi hM_
                        refine goal_yes [(71, Value.bool false), (91, Value.bool false)] rfl rfl ⟨rfl, rfl, trivial⟩ rfl ?_
                        exact run_val (Value.bool false) (rfl) ⟨fun c h => Option.some.inj (Option.some.inj h), hM_⟩
                      · intro D V w_ hd hi hM_
                        refine goal_of [(61, Value.bool true), (92, Value.bool false)] rfl ⟨rfl, rfl, trivial⟩ rfl ?_
                        exact run_val (Value.bool false) (rfl) ⟨fun c h => Option.some.inj (Option.some.inj h), hM_⟩
                      · intro D V w_ hd hi hM_
                        refine goal_of [(93, Value.bool false)] rfl ⟨rfl, trivial⟩ rfl ?_
                        exact run_val (Value.bool false) (rfl) ⟨fun c h => Option.some.inj (Option.some.inj h), hM_⟩
                    intro D V w22 hall hM23
                    refine ends_sub [(0, Value.slice Al nl cl), (1, Value.slice Ab nb cb), (24, Value.slice Ab nb cb), (25, Value.int .i64 (nb : Int)), (26, Value.int .i64 (k : Int)), (58, Value.bool false)] ⟨rfl, rfl, rfl, rfl, rfl, rfl, trivial⟩ ?_
                    refine e_then ?_
                    refine k_cond_false rfl rfl ?_
                    refine k_skip ?_
                    refine e_blk ?_
                    refine e_blk ?_
                    refine e_then ?_
                    refine k_region ?_
                    refine r_val (v := Value.int .i64 ((k : Int) + 1)) (w' := w22) rfl rfl (x_addE rfl (by omega) (by omega) rfl rfl) ?_
                    refine r_val (v := Value.int .i64 ((k : Int) + 1)) (w' := w22) rfl rfl (rfl) ?_
                    refine r_nil ?_
                    refine ends_sub [(0, Value.slice Al nl cl), (1, Value.slice Ab nb cb), (24, Value.slice Ab nb cb), (25, Value.int .i64 (nb : Int)), (26, Value.int .i64 ((k : Int) + 1))] ⟨rfl, rfl, rfl, rfl, rfl, trivial⟩ ?_
                    refine e_loop (k + 1) ⟨rfl, rfl, rfl, rfl, rfl, trivial⟩ ?_ ?_
                    · exact ⟨hM23.drop, by omega, by rw [he, hat, bone_ok h2 h3 (by rw [hp]; simp at g2 g3; simp [bAfter, g3]; omega)]; rfl⟩
                    · (try dsimp only); omega
              · skip
                have hk0 : k = 0 := by simp at g1; omega
                refine k_draw mixed [0, 1, 3, 7, 15, 7, 7, 71, 231, 487, 999, 2047, 4095, 8191, 16383, 8191, 8191, 73727, 237567, 499711, 1023999, 2097151, 4194303, 8388607, 16777215, 8388607, 8388607, 75497471, 243269631, 511705087, 1048575999, 2147483647, 4294967295, 8589934591, 17179869183, 34359738367] [some (Value.int .i64 (k : Int)), some (Value.bool false), some (Value.bool false), some (undef), some (undef), some (undef), some (undef), some (undef), some (undef), some (undef), some (undef), some (undef), some (undef), some (undef), some (undef), some (undef), some (undef), some (undef), some (undef), some (undef), some (undef), some (undef), some (undef), some (undef), some (undef), some (undef), some (undef), some (undef), some (undef), some (undef), some (undef), some (undef), some (undef), some (undef), some (Value.bool false), some (Value.bool false)] (by kernel_rfl) (fun D V w_ => Mem w No w_ [(b7, .cells (#[Value.int .i64 b.a, Value.int .i64 b.b, Value.bool b.must]) 35 (0, 0))]) (fun V => hM13.drew) ?_ ?_
                · refine ⟨?_, ?_, ?_, ?_, ?_, ?_, ?_, ?_, ?_, ?_, ?_, ?_, ?_, ?_, ?_, ?_, ?_, ?_, ?_, ?_, ?_, ?_, ?_, ?_, ?_, ?_, ?_, ?_, ?_, ?_, ?_, ?_, ?_, ?_, ?_, ?_, trivial⟩
                  · intro D V w_ hd hi hM_
                    refine goal_of [(6, Value.int .i64 (k : Int))] rfl ⟨rfl, trivial⟩ rfl ?_
                    exact run_val (Value.int .i64 (k : Int)) (rfl) ⟨fun c h => Option.some.inj (Option.some.inj h), hM_⟩
                  · intro D V w_ hd hi hM_
                    refine goal_of [(59, Value.int .i64 (k : Int))] rfl ⟨rfl, trivial⟩ rfl ?_
                    exact run_val (Value.bool false) (Eq.trans (rfl) (congrArg (fun z => Result.ok (Next.value (Value.bool z)) w_) g1)) ⟨fun c h => Option.some.inj (Option.some.inj h), hM_⟩
                  · intro D V w_ hd hi hM_
                    refine goal_of [(60, Value.bool false)] rfl ⟨rfl, trivial⟩ rfl ?_
                    exact run_val (Value.bool false) (rfl) ⟨fun c h => Option.some.inj (Option.some.inj h), hM_⟩
                  · intro D V w_ hd hi hM_
                    exact goal_no rfl rfl (by decide) ⟨fun c h => Option.some.inj (Option.some.inj h), hM_⟩
                  · intro D V w_ hd hi hM_
                    exact goal_no rfl rfl (by decide) ⟨fun c h => Option.some.inj (Option.some.inj h), hM_⟩
                  · intro D V w_ hd hi hM_
                    exact goal_no rfl rfl (by decide) ⟨fun c h => Option.some.inj (Option.some.inj h), hM_⟩
                  · intro D V w_ hd hi hM_
                    exact goal_no rfl rfl (by decide) ⟨fun c h => Option.some.inj (Option.some.inj h), hM_⟩
                  · intro D V w_ hd hi hM_
                    exact goal_no rfl rfl (by decide) ⟨fun c h => Option.some.inj (Option.some.inj h), hM_⟩
                  · intro D V w_ hd hi hM_
                    exact goal_no rfl rfl (by decide) ⟨fun c h => Option.some.inj (Option.some.inj h), hM_⟩
                  · intro D V w_ hd hi hM_
                    exact goal_no rfl rfl (by decide) ⟨fun c h => Option.some.inj (Option.some.inj h), hM_⟩
                  · intro D V w_ hd hi hM_
                    exact goal_no rfl rfl (by decide) ⟨fun c h => Option.some.inj (Option.some.inj h), hM_⟩
                  · intro D V w_ hd hi hM_
                    exact goal_no rfl rfl (by decide) ⟨fun c h => Option.some.inj (Option.some.inj h), hM_⟩
                  · intro D V w_ hd hi hM_
                    exact goal_no rfl rfl (by decide) ⟨fun c h => Option.some.inj (Option.some.inj h), hM_⟩
                  · intro D V w_ hd hi hM_
                    exact goal_no rfl rfl (by decide) ⟨fun c h => Option.some.inj (Option.some.inj h), hM_⟩
                  · intro D V w_ hd hi hM_
                    exact goal_no rfl rfl (by decide) ⟨fun c h => Option.some.inj (Option.some.inj h), hM_⟩
                  · intro D V w_ hd hi hM_
                    exact goal_no rfl rfl (by decide) ⟨fun c h => Option.some.inj (Option.some.inj h), hM_⟩
                  · intro D V w_ hd hi hM_
                    exact goal_no rfl rfl (by decide) ⟨fun c h => Option.some.inj (Option.some.inj h), hM_⟩
                  · intro D V w_ hd hi hM_
                    exact goal_no rfl rfl (by decide) ⟨fun c h => Option.some.inj (Option.some.inj h), hM_⟩
                  · intro D V w_ hd hi hM_
                    exact goal_no rfl rfl (by decide) ⟨fun c h => Option.some.inj (Option.some.inj h), hM_⟩
                  · intro D V w_ hd hi hM_
                    exact goal_no rfl rfl (by decide) ⟨fun c h => Option.some.inj (Option.some.inj h), hM_⟩
                  · intro D V w_ hd hi hM_
                    exact goal_no rfl rfl (by decide) ⟨fun c h => Option.some.inj (Option.some.inj h), hM_⟩
                  · intro D V w_ hd hi hM_
                    exact goal_no rfl rfl (by decide) ⟨fun c h => Option.some.inj (Option.some.inj h), hM_⟩
                  · intro D V w_ hd hi hM_
                    exact goal_no rfl rfl (by decide) ⟨fun c h => Option.some.inj (Option.some.inj h), hM_⟩
                  · intro D V w_ hd hi hM_
                    exact goal_no rfl rfl (by decide) ⟨fun c h => Option.some.inj (Option.some.inj h), hM_⟩
                  · intro D V w_ hd hi hM_
                    exact goal_no rfl rfl (by decide) ⟨fun c h => Option.some.inj (Option.some.inj h), hM_⟩
                  · intro D V w_ hd hi hM_
                    exact goal_no rfl rfl (by decide) ⟨fun c h => Option.some.inj (Option.some.inj h), hM_⟩
                  · intro D V w_ hd hi hM_
                    exact goal_no rfl rfl (by decide) ⟨fun c h => Option.some.inj (Option.some.inj h), hM_⟩
                  · intro D V w_ hd hi hM_
                    exact goal_no rfl rfl (by decide) ⟨fun c h => Option.some.inj (Option.some.inj h), hM_⟩
                  · intro D V w_ hd hi hM_
                    exact goal_no rfl rfl (by decide) ⟨fun c h => Option.some.inj (Option.some.inj h), hM_⟩
                  · intro D V w_ hd hi hM_
                    exact goal_no rfl rfl (by decide) ⟨fun c h => Option.some.inj (Option.some.inj h), hM_⟩
                  · intro D V w_ hd hi hM_
                    exact goal_no rfl rfl (by decide) ⟨fun c h => Option.some.inj (Option.some.inj h), hM_⟩
                  · intro D V w_ hd hi hM_
                    exact goal_no rfl rfl (by decide) ⟨fun c h => Option.some.inj (Option.some.inj h), hM_⟩
                  · intro D V w_ hd hi hM_
                    exact goal_no rfl rfl (by decide) ⟨fun c h => Option.some.inj (Option.some.inj h), hM_⟩
                  · intro D V w_ hd hi hM_
                    exact goal_no rfl rfl (by decide) ⟨fun c h => Option.some.inj (Option.some.inj h), hM_⟩
                  · intro D V w_ hd hi hM_
                    refine goal_of [(61, Value.bool false), (92, undef)] rfl ⟨rfl, rfl, trivial⟩ rfl ?_
                    exact run_val (Value.bool false) (rfl) ⟨fun c h => Option.some.inj (Option.some.inj h), hM_⟩
                  · intro D V w_ hd hi hM_
                    refine goal_of [(93, Value.bool false)] rfl ⟨rfl, trivial⟩ rfl ?_
                    exact run_val (Value.bool false) (rfl) ⟨fun c h => Option.some.inj (Option.some.inj h), hM_⟩
                intro D V w24 hall hM25
                refine ends_sub [(0, Value.slice Al nl cl), (1, Value.slice Ab nb cb), (24, Value.slice Ab nb cb), (25, Value.int .i64 (nb : Int)), (26, Value.int .i64 (k : Int)), (58, Value.bool false)] ⟨rfl, rfl, rfl, rfl, rfl, rfl, trivial⟩ ?_
                refine e_then ?_
                refine k_cond_false rfl rfl ?_
                refine k_skip ?_
                refine e_blk ?_
                refine e_blk ?_
                refine e_then ?_
                refine k_region ?_
                refine r_val (v := Value.int .i64 ((k : Int) + 1)) (w' := w24) rfl rfl (x_addE rfl (by omega) (by omega) rfl rfl) ?_
                refine r_val (v := Value.int .i64 ((k : Int) + 1)) (w' := w24) rfl rfl (rfl) ?_
                refine r_nil ?_
                refine ends_sub [(0, Value.slice Al nl cl), (1, Value.slice Ab nb cb), (24, Value.slice Ab nb cb), (25, Value.int .i64 (nb : Int)), (26, Value.int .i64 ((k : Int) + 1))] ⟨rfl, rfl, rfl, rfl, rfl, trivial⟩ ?_
                refine e_loop (k + 1) ⟨rfl, rfl, rfl, rfl, rfl, trivial⟩ ?_ ?_
                · exact ⟨hM25.drop, by omega, by rw [he, hat, bone_ok h2 h3 (by subst hk0; rfl)]; rfl⟩
                · (try dsimp only); omega
      · try simp only [decide_eq_true_eq, decide_eq_false_iff_not, Bool.and_eq_true, Bool.or_eq_true, Bool.or_eq_false_iff, Bool.not_eq_true', Bool.not_eq_false', beq_iff_eq, bne_iff_ne, beq_eq_false_iff_ne, bne_eq_false_iff_eq, Int.not_lt, Int.not_le, ne_eq, Bool.not_eq_true, Bool.not_eq_false] at h1
        refine k_exit ?_
        refine e_then_exit ?_
        refine e_loop_exit ?_
        refine e_blk_exit ?_
        refine e_then ?_
        refine k_seq ?_
        refine k_region ?_
        have hdr : bs.drop k = [] := List.drop_eq_nil_of_le (by omega)
        have hb0 : bondsFrom l none bs = 0 := by rw [he, hdr]; rfl
        rw [hb0, eq_if rfl] at hck
        have hf := musts_lt hgd.sorted hb0
        have hf2 := nots_lt hgd.sorted hb0
        refine r_val (v := Value.slice Al nl cl) (w' := w3) rfl rfl (rfl) ?_
        refine r_val (v := Value.slice Ab nb cb) (w' := w3) rfl rfl (rfl) ?_
        refine r_call (f := 23) (args := #[Value.slice Al nl cl, Value.slice Ab nb cb]) (w' := w3) rfl rfl (x_call (vs := [Value.slice Al nl cl, Value.slice Ab nb cb]) (enter23 _ _) rfl rfl) (bondsOf_s Al Ab nl cl nb cb l bs w3 (hl.up hM4) (hb.up hM4) hgd.sorted hl3 (by omega)) ?_
        rintro v_ w26 ⟨v1, v2, L1, L2, rfl, ⟨hr1, hr2⟩, hM27⟩
        replace hM27 : Mem w No w26 (L1 ++ L2) := by simpa using Mem.call0 hM4.drop hM27
        obtain ⟨A1, c1, rfl, hnc1, hcx1, hA1⟩ := hr1.slice
        obtain ⟨A2, c2, rfl, hnc2, hcx2, hA2x⟩ := hr2.slice
        have hml := musts_len (l := l) (bs := bs) (k := nb)
        have hnl := nots_len (l := l) (bs := bs) (k := nb)
        rw [List.take_of_length_le (by omega)] at hml hnl
        refine r_alloc hM27 (z := Value.agg #[Value.slice none 0 0, Value.slice none 0 0]) rfl rfl ?_
        intro b30 w28 hM29 hb30
        replace hM29 : Mem w No w28 ((b30, .cells #[Value.slice none 0 0, Value.slice none 0 0] 57 (0, 0)) :: (L1 ++ L2)) := hM29
        refine r_storeRow (vs := (#[Value.slice A1 (mustsOf l bs).length c1, Value.slice A2 (notsOf l bs).length c2])) hM29 0 rfl (by rw [show (#[Value.slice A1 (mustsOf l bs).length c1, Value.slice A2 (notsOf l bs).length c2]).size = 2 from (by simp [ints_size, *])]; rfl) (by first | (simp [Value.oneCell']; done) | (simp only [List.mem_cons, List.not_mem_nil, or_false, forall_eq_or_imp, forall_eq]; (repeat' constructor) <;> first | assumption | rfl)) (by rw [show (#[Value.slice A1 (mustsOf l bs).length c1, Value.slice A2 (notsOf l bs).length c2]).size = 2 from (by simp [ints_size, *])]; rfl) rfl rfl rfl ?_
        intro w31 hM32
        replace hM32 : Mem w No w31 ((b30, .cells (#[Value.slice A1 (mustsOf l bs).length c1, Value.slice A2 (notsOf l bs).length c2]) 57 (0, 0)) :: (L1 ++ L2)) := hM32
        refine r_nil ?_
        refine ends_sub [(0, Value.slice Al nl cl), (12, Value.pointer (some ⟨b30, 0, none⟩))] ⟨rfl, rfl, trivial⟩ ?_
        refine e_then ?_
        refine k_seq ?_
        refine k_region ?_
        refine r_val (v := Value.agg (#[Value.slice A1 (mustsOf l bs).length c1, Value.slice A2 (notsOf l bs).length c2])) (w' := w31) rfl rfl (x_loadPart hM32 0 rfl (o := 0) (l := [Value.slice A1 (mustsOf l bs).length c1, Value.slice A2 (notsOf l bs).length c2]) rfl rfl rfl rfl) ?_
        refine r_val (v := Value.slice Al nl cl) (w' := w31) rfl rfl (rfl) ?_
        refine r_val (v := Value.int .i64 (nl : Int)) (w' := w31) rfl rfl (x_len rfl rfl) ?_
        refine r_call (f := 44) (args := #[Value.agg (#[Value.slice A1 (mustsOf l bs).length c1, Value.slice A2 (notsOf l bs).length c2]), Value.int .i64 (nl : Int)]) (w' := w31) rfl rfl (x_call (vs := [Value.agg (#[Value.slice A1 (mustsOf l bs).length c1, Value.slice A2 (notsOf l bs).length c2]), Value.int .i64 (nl : Int)]) (enter44 _ _) rfl rfl) (joined_s A1 A2 (mustsOf l bs).length c1 (notsOf l bs).length c2 nl (mustsOf l bs) w31 (hr1.rd (Mem.left (L' := L2) hM32.tail).holds (by simp) (by decide)) (fun m hm => hll ▸ hf m hm) hl3 (by omega)) ?_
        rintro v_ w33 ⟨bm, gs, rfl, ⟨hG, hF⟩, hM34⟩
        replace hM34 : Mem w No w33 ((b30, .cells (#[Value.slice A1 (mustsOf l bs).length c1, Value.slice A2 (notsOf l bs).length c2]) 57 (0, 0)) :: (bm, mapO (gs.map Grp.ent) nl) :: (gs.flatMap Grp.L ++ (L1 ++ L2))) := (Mem.call0 hM32 hM34).perm (List.perm_append_comm_assoc (GL bm gs nl) ([(b30, .cells (#[Value.slice A1 (mustsOf l bs).length c1, Value.slice A2 (notsOf l bs).length c2]) 57 (0, 0))] : Hp) (L1 ++ L2))
        refine r_val (v := Value.map (some bm)) (w' := w33) rfl rfl (rfl) ?_
        refine r_nil ?_
        refine ends_sub [(12, Value.pointer (some ⟨b30, 0, none⟩)), (13, Value.map (some bm))] ⟨rfl, rfl, trivial⟩ ?_
        refine e_then ?_
        refine k_seq ?_
        refine k_seq ?_
        refine k_region ?_
        refine r_val (v := Value.pointer (some ⟨b30, 1, none⟩)) (w' := w33) rfl rfl (rfl) ?_
        refine r_val (v := Value.slice A2 ((notsOf l bs).length) c2) (w' := w33) rfl rfl (x_load (hM34.cell 0 rfl rfl) rfl rfl) ?_
        refine r_val (v := Value.int .i64 ((notsOf l bs).length : Int)) (w' := w33) rfl rfl (x_len rfl rfl) ?_
        refine r_val (v := Value.int .i64 0) (w' := w33) rfl rfl (rfl) ?_
        refine r_nil ?_
        refine ends_sub [(13, Value.map (some bm)), (103, Value.slice A2 ((notsOf l bs).length) c2), (104, Value.int .i64 ((notsOf l bs).length : Int)), (105, Value.int .i64 0)] ⟨rfl, rfl, rfl, rfl, trivial⟩ ?_
        refine e_then ?_
        refine k_block ?_
        refine k_loop (σ := Nat) (fun k => [(13, Value.map (some bm)), (103, Value.slice A2 ((notsOf l bs).length) c2), (104, Value.int .i64 ((notsOf l bs).length : Int)), (105, Value.int .i64 (k : Int))]) (fun k w_ => Mem w No w_ ((bm, mapO (gs.map Grp.ent) nl) :: (gs.flatMap Grp.L ++ (L1 ++ L2))) ∧ k ≤ (notsOf l bs).length ∧ apartBad (firstsOf l bs) ((notsOf l bs).take k) = false) (fun k => (notsOf l bs).length - k) 0 ⟨rfl, rfl, rfl, rfl, trivial⟩ ⟨(hM34.pickT [(b30, .cells (#[Value.slice A1 (mustsOf l bs).length c1, Value.slice A2 (notsOf l bs).length c2]) 57 (0, 0)), (bm, mapO (gs.map Grp.ent) nl)] (gs.flatMap Grp.L ++ (L1 ++ L2)) rfl [1] _ (by decide) rfl), by omega, rfl⟩ ?_
        rintro k w35 ⟨hM36, hk, hno⟩
        refine wpK_sub [(13, Value.map (some bm)), (103, Value.slice A2 ((notsOf l bs).length) c2), (104, Value.int .i64 ((notsOf l bs).length : Int)), (105, Value.int .i64 (k : Int))] ⟨rfl, rfl, rfl, rfl, trivial⟩ ?_
        refine k_seq ?_
        refine k_region ?_
        refine r_val (v := Value.bool (decide ((k : Int) < ((notsOf l bs).length : Int)))) (w' := w35) rfl rfl (rfl) ?_
        refine r_nil ?_
        refine ends_sub [(13, Value.map (some bm)), (103, Value.slice A2 ((notsOf l bs).length) c2), (104, Value.int .i64 ((notsOf l bs).length : Int)), (105, Value.int .i64 (k : Int)), (106, Value.bool (decide ((k : Int) < ((notsOf l bs).length : Int))))] ⟨rfl, rfl, rfl, rfl, rfl, trivial⟩ ?_
        refine e_then ?_
        refine k_seq ?_
        refine k_cond rfl rfl (fun h5 => ?_) (fun h5 => ?_)
        · try simp only [decide_eq_true_eq, decide_eq_false_iff_not, Bool.and_eq_true, Bool.or_eq_true, Bool.or_eq_false_iff, Bool.not_eq_true', Bool.not_eq_false', beq_iff_eq, bne_iff_ne, beq_eq_false_iff_ne, bne_eq_false_iff_eq, Int.not_lt, Int.not_le, ne_eq, Bool.not_eq_true, Bool.not_eq_false] at h5
          refine k_skip ?_
          refine e_then ?_
          refine k_seq ?_
          refine k_block ?_
          refine k_seq ?_
          refine k_region ?_
          obtain ⟨m, hmk⟩ : ∃ m, (notsOf l bs)[k]? = some m := ⟨(notsOf l bs)[k]'(by omega), by simp⟩
          obtain ⟨hm1, hm2⟩ := hf2 m (List.mem_of_getElem? hmk)
          rw [hll] at hm1 hm2
          have hA2 := hr2.rd (enc := pairE) (w := w35) (Mem.right (L := GL bm gs nl) (L' := L1 ++ L2) hM36).right.holds (by simp) (by decide)
          refine r_val (v := Value.pointer (some ((adr A2).add (k * 2)))) (w' := w35) rfl rfl (x_indexAddrN (i := k) (sz := 2) hA2.here (by omega) rfl rfl rfl rfl) ?_
          refine r_val (v := Value.agg (#[Value.int .i64 (m.1 : Int), Value.int .i64 (m.2 : Int)])) (w' := w35) rfl rfl (x_loadElem (enc := pairE) (e := m) hA2 hmk rfl rfl rfl) ?_
          refine r_alloc hM36 (z := Value.agg #[Value.int .i64 0, Value.int .i64 0]) rfl rfl ?_
          intro b39 w37 hM38 hb39
          replace hM38 : Mem w No w37 ((b39, .cells #[Value.int .i64 0, Value.int .i64 0] 36 (0, 0)) :: (bm, mapO (gs.map Grp.ent) nl) :: (gs.flatMap Grp.L ++ (L1 ++ L2))) := hM38
          refine r_storeRow (vs := (#[Value.int .i64 (m.1 : Int), Value.int .i64 (m.2 : Int)])) hM38 0 rfl (by rw [show (#[Value.int .i64 (m.1 : Int), Value.int .i64 (m.2 : Int)]).size = 2 from (by simp [ints_size, *])]; rfl) (by first | (simp [Value.oneCell']; done) | (simp only [List.mem_cons, List.not_mem_nil, or_false, forall_eq_or_imp, forall_eq]; (repeat' constructor) <;> first | assumption | rfl)) (by rw [show (#[Value.int .i64 (m.1 : Int), Value.int .i64 (m.2 : Int)]).size = 2 from (by simp [ints_size, *])]; rfl) rfl rfl rfl ?_
          intro w40 hM41
          replace hM41 : Mem w No w40 ((b39, .cells (#[Value.int .i64 (m.1 : Int), Value.int .i64 (m.2 : Int)]) 36 (0, 0)) :: (bm, mapO (gs.map Grp.ent) nl) :: (gs.flatMap Grp.L ++ (L1 ++ L2))) := hM41
          refine r_nil ?_
          refine ends_sub [(13, Value.map (some bm)), (15, Value.pointer (some ⟨b39, 0, none⟩)), (103, Value.slice A2 ((notsOf l bs).length) c2), (104, Value.int .i64 ((notsOf l bs).length : Int)), (105, Value.int .i64 (k : Int))] ⟨rfl, rfl, rfl, rfl, rfl, trivial⟩ ?_
          refine e_then ?_
          refine k_seq ?_
          refine k_draw mixed [0, 0, 2, 7, 0, 0, 32, 127, 255] [some (Value.map (some bm)), some (Value.pointer (some ⟨b39, 0, none⟩)), some (Value.int .i64 (m.1 : Int)), some (Value.int .i64 (joinAll (mustsOf l bs) m.1 : Int)), some (Value.map (some bm)), some (Value.pointer (some ⟨b39, 1, none⟩)), some (Value.int .i64 (m.2 : Int)), some (Value.int .i64 (joinAll (mustsOf l bs) m.2 : Int)), some (Value.bool ((joinAll (mustsOf l bs) m.1 : Int) == (joinAll (mustsOf l bs) m.2 : Int)))] (by kernel_rfl) (fun D V w_ => Mem w No w_ ((b39, .cells (#[Value.int .i64 (m.1 : Int), Value.int .i64 (m.2 : Int)]) 36 (0, 0)) :: (bm, mapO (gs.map Grp.ent) nl) :: (gs.flatMap Grp.L ++ (L1 ++ L2)))) (fun V => hM41.drew) ?_ ?_
          · refine ⟨?_, ?_, ?_, ?_, ?_, ?_, ?_, ?_, ?_, trivial⟩
            · intro D V w_ hd hi hM_
              refine goal_of [(13, Value.map (some bm))] rfl ⟨rfl, trivial⟩ rfl ?_
              exact run_val (Value.map (some bm)) (rfl) ⟨fun c h => Option.some.inj (Option.some.inj h), hM_⟩
            · intro D V w_ hd hi hM_
              refine goal_of [(15, Value.pointer (some ⟨b39, 0, none⟩))] rfl ⟨rfl, trivial⟩ rfl ?_
              exact run_val (Value.pointer (some ⟨b39, 0, none⟩)) (x_indexAddrB (i := 0) (sz := 1) (by omega) rfl rfl rfl rfl (by omega)) ⟨fun c h => Option.some.inj (Option.some.inj h), hM_⟩
            · intro D V w_ hd hi hM_
              refine goal_of [(110, Value.pointer (some ⟨b39, 0, none⟩))] rfl ⟨rfl, trivial⟩ rfl ?_
              exact run_val (Value.int .i64 (m.1 : Int)) (x_load (hM_.cell 0 rfl rfl) rfl rfl) ⟨fun c h => Option.some.inj (Option.some.inj h), hM_⟩
            · intro D V w_ hd hi hM_
              refine goal_of [(109, Value.map (some bm)), (111, Value.int .i64 (m.1 : Int))] rfl ⟨rfl, rfl, trivial⟩ rfl ?_
              refine run_call (f := 45) (args := #[Value.map (some bm), Value.int .i64 (m.1 : Int)]) (w' := w_) (x_call (vs := [Value.map (some bm), Value.int .i64 (m.1 : Int)]) (enter45 _ _) rfl rfl) (of_f bm gs nl hG nl _ hF hl3 m.1 hm1 w_ (Mem.left (L := GL bm gs nl) (L' := L1 ++ L2) hM_.tail).holds) ?_
              rintro v_ w2_ ⟨rfl, hM2_⟩
              exact ⟨fun c h => Option.some.inj (Option.some.inj h), hM_.grow hM2_.kept⟩
            · intro D V w_ hd hi hM_
              refine goal_of [(13, Value.map (some bm))] rfl ⟨rfl, trivial⟩ rfl ?_
              exact run_val (Value.map (some bm)) (rfl) ⟨fun c h => Option.some.inj (Option.some.inj h), hM_⟩
            · intro D V w_ hd hi hM_
              refine goal_of [(15, Value.pointer (some ⟨b39, 0, none⟩))] rfl ⟨rfl, trivial⟩ rfl ?_
              exact run_val (Value.pointer (some ⟨b39, 1, none⟩)) (x_indexAddrB (i := 1) (sz := 1) (by omega) rfl rfl rfl rfl (by omega)) ⟨fun c h => Option.some.inj (Option.some.inj h), hM_⟩
            · intro D V w_ hd hi hM_
              refine goal_of [(114, Value.pointer (some ⟨b39, 1, none⟩))] rfl ⟨rfl, trivial⟩ rfl ?_
              exact run_val (Value.int .i64 (m.2 : Int)) (x_load (hM_.cell 0 rfl rfl) rfl rfl) ⟨fun c h => Option.some.inj (Option.some.inj h), hM_⟩
            · intro D V w_ hd hi hM_
              refine goal_of [(113, Value.map (some bm)), (115, Value.int .i64 (m.2 : Int))] rfl ⟨rfl, rfl, trivial⟩ rfl ?_
              refine run_call (f := 45) (args := #[Value.map (some bm), Value.int .i64 (m.2 : Int)]) (w' := w_) (x_call (vs := [Value.map (some bm), Value.int .i64 (m.2 : Int)]) (enter45 _ _) rfl rfl) (of_f bm gs nl hG nl _ hF hl3 m.2 hm2 w_ (Mem.left (L := GL bm gs nl) (L' := L1 ++ L2) hM_.tail).holds) ?_
              rintro v_ w2_ ⟨rfl, hM2_⟩
              exact ⟨fun c h => Option.some.inj (Option.some.inj h), hM_.grow hM2_.kept⟩
            · intro D V w_ hd hi hM_
              refine goal_of [(112, Value.int .i64 (joinAll (mustsOf l bs) m.1 : Int)), (116, Value.int .i64 (joinAll (mustsOf l bs) m.2 : Int))] rfl ⟨rfl, rfl, trivial⟩ rfl ?_
              exact run_val (Value.bool ((joinAll (mustsOf l bs) m.1 : Int) == (joinAll (mustsOf l bs) m.2 : Int))) (rfl) ⟨fun c h => Option.some.inj (Option.some.inj h), hM_⟩
          intro D V w46 hall hM47
          refine ends_sub [(13, Value.map (some bm)), (103, Value.slice A2 ((notsOf l bs).length) c2), (104, Value.int .i64 ((notsOf l bs).length : Int)), (105, Value.int .i64 (k : Int)), (117, Value.bool ((joinAll (mustsOf l bs) m.1 : Int) == (joinAll (mustsOf l bs) m.2 : Int)))] ⟨rfl, rfl, rfl, rfl, rfl, trivial⟩ ?_
          refine e_then ?_
          refine k_cond rfl rfl (fun h6 => ?_) (fun h6 => ?_)
          · try simp only [decide_eq_true_eq, decide_eq_false_iff_not, Bool.and_eq_true, Bool.or_eq_true, Bool.or_eq_false_iff, Bool.not_eq_true', Bool.not_eq_false', beq_iff_eq, bne_iff_ne, beq_eq_false_iff_ne, bne_eq_false_iff_eq, Int.not_lt, Int.not_le, ne_eq, Bool.not_eq_true, Bool.not_eq_false] at h6
            refine k_seq ?_
            refine k_region ?_
            refine r_val (v := Value.int .i64 11) (w' := w46) rfl rfl (rfl) ?_
            refine r_nil ?_
            refine ends_sub [(4, Value.int .i64 11)] ⟨rfl, trivial⟩ ?_
            refine e_then ?_
            refine k_ret ?_
            refine e_blk_ret ?_
            refine e_then_ret ?_
            refine e_loop_ret ?_
            refine e_blk_ret ?_
            refine e_then_ret ?_
            refine e_ret1 rfl rfl ?_
            exact ⟨_, rfl, by rw [hck, if_pos (apart_yes hmk (by exact Int.ofNat.inj h6))], hM47.drop⟩
          · try simp only [decide_eq_true_eq, decide_eq_false_iff_not, Bool.and_eq_true, Bool.or_eq_true, Bool.or_eq_false_iff, Bool.not_eq_true', Bool.not_eq_false', beq_iff_eq, bne_iff_ne, beq_eq_false_iff_ne, bne_eq_false_iff_eq, Int.not_lt, Int.not_le, ne_eq, Bool.not_eq_true, Bool.not_eq_false] at h6
            refine k_skip ?_
            refine e_blk ?_
            refine e_then ?_
            refine k_region ?_
            refine r_val (v := Value.int .i64 ((k : Int) + 1)) (w' := w46) rfl rfl (x_addE rfl (by omega) (by omega) rfl rfl) ?_
            refine r_val (v := Value.int .i64 ((k : Int) + 1)) (w' := w46) rfl rfl (rfl) ?_
            refine r_nil ?_
            refine ends_sub [(13, Value.map (some bm)), (103, Value.slice A2 ((notsOf l bs).length) c2), (104, Value.int .i64 ((notsOf l bs).length : Int)), (105, Value.int .i64 ((k : Int) + 1))] ⟨rfl, rfl, rfl, rfl, trivial⟩ ?_
            refine e_loop (k + 1) ⟨rfl, rfl, rfl, rfl, trivial⟩ ?_ ?_
            · exact ⟨(hM47.pickT [(b39, .cells (#[Value.int .i64 (m.1 : Int), Value.int .i64 (m.2 : Int)]) 36 (0, 0)), (bm, mapO (gs.map Grp.ent) nl)] (gs.flatMap Grp.L ++ (L1 ++ L2)) rfl [1] _ (by decide) rfl), by omega, apart_snoc hmk hno (by intro e; exact h6 (congrArg Nat.cast e))⟩
            · (try dsimp only); omega
        · try simp only [decide_eq_true_eq, decide_eq_false_iff_not, Bool.and_eq_true, Bool.or_eq_true, Bool.or_eq_false_iff, Bool.not_eq_true', Bool.not_eq_false', beq_iff_eq, bne_iff_ne, beq_eq_false_iff_ne, bne_eq_false_iff_eq, Int.not_lt, Int.not_le, ne_eq, Bool.not_eq_true, Bool.not_eq_false] at h5
          refine k_exit ?_
          refine e_then_exit ?_
          refine e_loop_exit ?_
          refine e_blk_exit ?_
          refine e_then ?_
          refine k_seq ?_
          refine k_region ?_
          have hkn : (notsOf l bs).take k = notsOf l bs := List.take_of_length_le (by omega)
          rw [hkn] at hno
          refine r_val (v := Value.int .i64 0) (w' := w35) rfl rfl (rfl) ?_
          refine r_nil ?_
          refine ends_sub [(4, Value.int .i64 0)] ⟨rfl, trivial⟩ ?_
          refine e_then ?_
          refine k_ret ?_
          refine e_ret1 rfl rfl ?_
          exact ⟨_, rfl, by rw [hck, if_neg (by simp [hno])], hM36.drop⟩


end Go.Proofs.Ytddacakmafdgdaa
