/- Fg: what Go functions of this seat come to, printed by walk.py over the engine. -/
import Derived.Test.YtddacakmafdgdaaFf
import Derived.Test.YtddacakmafdgdaaKnH
import Derived.Test.YtddacakmafdgdaaBd
set_option linter.unusedVariables false
set_option linter.unusedSimpArgs false
set_option maxRecDepth 100000
namespace Go.Proofs.Ytddacakmafdgdaa
open Go.RowKit Go.Kn

theorem bondsOf_s (Al Ab : Option Addr) (nl cl nb cb : Nat) (l : List (List Int)) (bs : List Bond3) (w : World) (hl : RdE intsE 14 w Al nl l) (hb : RdE bondE 3 w Ab nb bs) (hs : sortedIds l) (hn : nl ≤ 300) (hnb : nb ≤ 1000) :
    Calls Try.prog 23 #[Value.slice Al nl cl, Value.slice Ab nb cb] w fun e w' => ∃ r, e = .returned r ∧ ∃ v1 v2 L1 L2, r = .agg #[v1, v2] ∧ (OwnR tPair 2 v1 (mustsOf l bs).length ((mustsOf l bs).flatMap pairE) L1 ∧ OwnR tPair 2 v2 (notsOf l bs).length ((notsOf l bs).flatMap pairE) L2) ∧ Mem w No w' (L1 ++ L2) := by
  refine calls_k (args := [Value.slice Al nl cl, Value.slice Ab nb cb]) 52 [(0, Value.slice Al nl cl), (1, Value.slice Ab nb cb)] Try.func23 rfl rfl ⟨rfl, rfl, trivial⟩ ?_
  have hM := Mem.nil w No
  have hbl := hb.len
  refine k_seq ?_
  refine k_region ?_
  refine r_alloc hM (z := Value.agg #[Value.slice none 0 0, Value.slice none 0 0]) rfl rfl ?_
  intro b3 w1 hM2 hb3
  replace hM2 : Mem w No w1 [(b3, .cells #[Value.slice none 0 0, Value.slice none 0 0] 57 (0, 0))] := hM2
  refine r_nil ?_
  refine ends_sub [(0, Value.slice Al nl cl), (1, Value.slice Ab nb cb), (4, Value.pointer (some ⟨b3, 0, none⟩))] ⟨rfl, rfl, rfl, trivial⟩ ?_
  refine e_then ?_
  refine k_seq ?_
  refine k_region ?_
  refine r_alloc hM2 (z := Value.agg #[Value.slice none 0 0, Value.slice none 0 0]) rfl rfl ?_
  intro b6 w4 hM5 hb6
  replace hM5 : Mem w No w4 [(b6, .cells #[Value.slice none 0 0, Value.slice none 0 0] 57 (0, 0)), (b3, .cells #[Value.slice none 0 0, Value.slice none 0 0] 57 (0, 0))] := hM5
  refine r_nil ?_
  refine ends_sub [(0, Value.slice Al nl cl), (1, Value.slice Ab nb cb), (4, Value.pointer (some ⟨b3, 0, none⟩)), (5, Value.pointer (some ⟨b6, 0, none⟩))] ⟨rfl, rfl, rfl, rfl, trivial⟩ ?_
  refine e_then ?_
  refine k_seq ?_
  refine k_seq ?_
  refine k_region ?_
  refine r_val (v := Value.slice Ab nb cb) (w' := w4) rfl rfl (rfl) ?_
  refine r_val (v := Value.int .i64 (nb : Int)) (w' := w4) rfl rfl (x_len rfl rfl) ?_
  refine r_val (v := Value.int .i64 0) (w' := w4) rfl rfl (rfl) ?_
  refine r_nil ?_
  refine ends_sub [(0, Value.slice Al nl cl), (4, Value.pointer (some ⟨b3, 0, none⟩)), (5, Value.pointer (some ⟨b6, 0, none⟩)), (12, Value.slice Ab nb cb), (13, Value.int .i64 (nb : Int)), (14, Value.int .i64 0)] ⟨rfl, rfl, rfl, rfl, rfl, rfl, trivial⟩ ?_
  refine e_then ?_
  refine k_block ?_
  refine k_loop (σ := Nat × Value × Value × Hp × Hp) (fun ⟨k, v1, v2, L1, L2⟩ => [(0, Value.slice Al nl cl), (4, Value.pointer (some ⟨b3, 0, none⟩)), (5, Value.pointer (some ⟨b6, 0, none⟩)), (12, Value.slice Ab nb cb), (13, Value.int .i64 (nb : Int)), (14, Value.int .i64 (k : Int))]) (fun ⟨k, v1, v2, L1, L2⟩ w_ => Mem w No w_ ((b6, .cells #[v1, v2] 57 (0, 0)) :: (b3, .cells #[Value.slice none 0 0, Value.slice none 0 0] 57 (0, 0)) :: (L1 ++ L2)) ∧ k ≤ nb ∧ OwnR tPair 2 v1 (mustsOf l (bs.take k)).length ((mustsOf l (bs.take k)).flatMap pairE) L1 ∧ OwnR tPair 2 v2 (notsOf l (bs.take k)).length ((notsOf l (bs.take k)).flatMap pairE) L2) (fun ⟨k, v1, v2, L1, L2⟩ => nb - k) (0, .slice none 0 0, .slice none 0 0, [], []) ⟨rfl, rfl, rfl, rfl, rfl, rfl, trivial⟩ ⟨hM5, Nat.zero_le _, OwnR.nil _ _, OwnR.nil _ _⟩ ?_
  rintro ⟨k, v1, v2, L1, L2⟩ w7 ⟨hM8, hk, hr1, hr2⟩
  refine wpK_sub [(0, Value.slice Al nl cl), (4, Value.pointer (some ⟨b3, 0, none⟩)), (5, Value.pointer (some ⟨b6, 0, none⟩)), (12, Value.slice Ab nb cb), (13, Value.int .i64 (nb : Int)), (14, Value.int .i64 (k : Int))] ⟨rfl, rfl, rfl, rfl, rfl, rfl, trivial⟩ ?_
  refine k_seq ?_
  refine k_region ?_
  refine r_val (v := Value.bool (decide ((k : Int) < (nb : Int)))) (w' := w7) rfl rfl (rfl) ?_
  refine r_nil ?_
  refine ends_sub [(0, Value.slice Al nl cl), (4, Value.pointer (some ⟨b3, 0, none⟩)), (5, Value.pointer (some ⟨b6, 0, none⟩)), (12, Value.slice Ab nb cb), (13, Value.int .i64 (nb : Int)), (14, Value.int .i64 (k : Int)), (15, Value.bool (decide ((k : Int) < (nb : Int))))] ⟨rfl, rfl, rfl, rfl, rfl, rfl, rfl, trivial⟩ ?_
  refine e_then ?_
  refine k_seq ?_
  refine k_cond rfl rfl (fun h => ?_) (fun h => ?_)
  · try simp only [decide_eq_true_eq, decide_eq_false_iff_not, Bool.and_eq_true, Bool.or_eq_true, Bool.or_eq_false_iff, Bool.not_eq_true', Bool.not_eq_false', beq_iff_eq, bne_iff_ne, beq_eq_false_iff_ne, bne_eq_false_iff_eq, Int.not_lt, Int.not_le, ne_eq, Bool.not_eq_true, Bool.not_eq_false] at h
    refine k_skip ?_
    refine e_then ?_
    refine k_seq ?_
    refine k_block ?_
    refine k_seq ?_
    refine k_region ?_
    obtain ⟨b, hbk⟩ : ∃ b, bs[k]? = some b := ⟨bs[k]'(by omega), by simp⟩
    refine r_val (v := Value.pointer (some ((adr Ab).add (k * 3)))) (w' := w7) rfl rfl (x_indexAddrN (i := k) (sz := 3) hb.here (by omega) rfl rfl rfl rfl) ?_
    refine r_val (v := Value.agg (#[Value.int .i64 b.a, Value.int .i64 b.b, Value.bool b.must])) (w' := w7) rfl rfl (x_loadElem (enc := bondE) (e := b) (hb.up hM8) hbk rfl rfl rfl) ?_
    refine r_alloc hM8 (z := Value.agg #[Value.int .i64 0, Value.int .i64 0, Value.bool false]) rfl rfl ?_
    intro b11 w9 hM10 hb11
    replace hM10 : Mem w No w9 ((b11, .cells #[Value.int .i64 0, Value.int .i64 0, Value.bool false] 35 (0, 0)) :: (b6, .cells #[v1, v2] 57 (0, 0)) :: (b3, .cells #[Value.slice none 0 0, Value.slice none 0 0] 57 (0, 0)) :: (L1 ++ L2)) := hM10
    refine r_storeRow (vs := (#[Value.int .i64 b.a, Value.int .i64 b.b, Value.bool b.must])) hM10 0 rfl (by rw [show (#[Value.int .i64 b.a, Value.int .i64 b.b, Value.bool b.must]).size = 3 from (by simp [ints_size, *])]; rfl) (by first | (simp [Value.oneCell']; done) | (simp only [List.mem_cons, List.not_mem_nil, or_false, forall_eq_or_imp, forall_eq]; (repeat' constructor) <;> first | assumption | rfl)) (by rw [show (#[Value.int .i64 b.a, Value.int .i64 b.b, Value.bool b.must]).size = 3 from (by simp [ints_size, *])]; rfl) rfl rfl rfl ?_
    intro w12 hM13
    replace hM13 : Mem w No w12 ((b11, .cells (#[Value.int .i64 b.a, Value.int .i64 b.b, Value.bool b.must]) 35 (0, 0)) :: (b6, .cells #[v1, v2] 57 (0, 0)) :: (b3, .cells #[Value.slice none 0 0, Value.slice none 0 0] 57 (0, 0)) :: (L1 ++ L2)) := hM13
    refine r_nil ?_
    refine ends_sub [(0, Value.slice Al nl cl), (4, Value.pointer (some ⟨b3, 0, none⟩)), (5, Value.pointer (some ⟨b6, 0, none⟩)), (7, Value.pointer (some ⟨b11, 0, none⟩)), (12, Value.slice Ab nb cb), (13, Value.int .i64 (nb : Int)), (14, Value.int .i64 (k : Int))] ⟨rfl, rfl, rfl, rfl, rfl, rfl, rfl, trivial⟩ ?_
    refine e_then ?_
    refine k_seq ?_
    refine k_region ?_
    refine r_val (v := Value.slice Al nl cl) (w' := w12) rfl rfl (rfl) ?_
    refine r_val (v := Value.pointer (some ⟨b11, 0, none⟩)) (w' := w12) rfl rfl (rfl) ?_
    refine r_val (v := Value.int .i64 b.a) (w' := w12) rfl rfl (x_load (hM13.cell 0 rfl rfl) rfl rfl) ?_
    refine r_call (f := 27) (args := #[Value.slice Al nl cl, Value.int .i64 b.a]) (w' := w12) rfl rfl (x_call (vs := [Value.slice Al nl cl, Value.int .i64 b.a]) (enter27 _ _) rfl rfl) (at_s Al nl cl l b.a w12 (hl.up hM13) hs hn) ?_
    rintro v_ w14 ⟨rfl, hM15⟩
    replace hM15 := hM13.grow hM15.kept
    refine r_val (v := Value.tuple #[Value.int .i64 (atPos l b.a : Int), Value.bool (atOk l b.a)]) (w' := w14) rfl rfl (rfl) ?_
    refine r_val (v := Value.int .i64 (atPos l b.a : Int)) (w' := w14) rfl rfl (rfl) ?_
    refine r_val (v := Value.bool (atOk l b.a)) (w' := w14) rfl rfl (rfl) ?_
    refine r_val (v := Value.int .i64 (atPos l b.a : Int)) (w' := w14) rfl rfl (rfl) ?_
    refine r_val (v := Value.bool (atOk l b.a)) (w' := w14) rfl rfl (rfl) ?_
    refine r_nil ?_
    refine ends_sub [(0, Value.slice Al nl cl), (4, Value.pointer (some ⟨b3, 0, none⟩)), (5, Value.pointer (some ⟨b6, 0, none⟩)), (7, Value.pointer (some ⟨b11, 0, none⟩)), (8, Value.int .i64 (atPos l b.a : Int)), (12, Value.slice Ab nb cb), (13, Value.int .i64 (nb : Int)), (14, Value.int .i64 (k : Int))] ⟨rfl, rfl, rfl, rfl, rfl, rfl, rfl, rfl, trivial⟩ ?_
    refine e_then ?_
    refine k_seq ?_
    refine k_region ?_
    refine r_val (v := Value.slice Al nl cl) (w' := w14) rfl rfl (rfl) ?_
    refine r_val (v := Value.pointer (some ⟨b11, 1, none⟩)) (w' := w14) rfl rfl (rfl) ?_
    refine r_val (v := Value.int .i64 b.b) (w' := w14) rfl rfl (x_load (hM15.cell 0 rfl rfl) rfl rfl) ?_
    refine r_call (f := 27) (args := #[Value.slice Al nl cl, Value.int .i64 b.b]) (w' := w14) rfl rfl (x_call (vs := [Value.slice Al nl cl, Value.int .i64 b.b]) (enter27 _ _) rfl rfl) (at_s Al nl cl l b.b w14 (hl.up hM15) hs hn) ?_
    rintro v_ w16 ⟨rfl, hM17⟩
    replace hM17 := hM15.grow hM17.kept
    refine r_val (v := Value.tuple #[Value.int .i64 (atPos l b.b : Int), Value.bool (atOk l b.b)]) (w' := w16) rfl rfl (rfl) ?_
    refine r_val (v := Value.int .i64 (atPos l b.b : Int)) (w' := w16) rfl rfl (rfl) ?_
    refine r_val (v := Value.bool (atOk l b.b)) (w' := w16) rfl rfl (rfl) ?_
    refine r_val (v := Value.int .i64 (atPos l b.b : Int)) (w' := w16) rfl rfl (rfl) ?_
    refine r_val (v := Value.bool (atOk l b.b)) (w' := w16) rfl rfl (rfl) ?_
    refine r_nil ?_
    refine ends_sub [(0, Value.slice Al nl cl), (4, Value.pointer (some ⟨b3, 0, none⟩)), (5, Value.pointer (some ⟨b6, 0, none⟩)), (7, Value.pointer (some ⟨b11, 0, none⟩)), (8, Value.int .i64 (atPos l b.a : Int)), (10, Value.int .i64 (atPos l b.b : Int)), (12, Value.slice Ab nb cb), (13, Value.int .i64 (nb : Int)), (14, Value.int .i64 (k : Int))] ⟨rfl, rfl, rfl, rfl, rfl, rfl, rfl, rfl, rfl, trivial⟩ ?_
    refine e_then ?_
    refine k_seq ?_
    refine k_region ?_
    refine r_val (v := Value.pointer (some ⟨b11, 2, none⟩)) (w' := w16) rfl rfl (rfl) ?_
    refine r_val (v := Value.bool b.must) (w' := w16) rfl rfl (x_load (hM17.cell 0 rfl rfl) rfl rfl) ?_
    refine r_nil ?_
    refine ends_sub [(0, Value.slice Al nl cl), (4, Value.pointer (some ⟨b3, 0, none⟩)), (5, Value.pointer (some ⟨b6, 0, none⟩)), (8, Value.int .i64 (atPos l b.a : Int)), (10, Value.int .i64 (atPos l b.b : Int)), (12, Value.slice Ab nb cb), (13, Value.int .i64 (nb : Int)), (14, Value.int .i64 (k : Int)), (33, Value.bool b.must)] ⟨rfl, rfl, rfl, rfl, rfl, rfl, rfl, rfl, rfl, trivial⟩ ?_
    refine e_then ?_
    refine k_cond rfl rfl (fun h2 => ?_) (fun h2 => ?_)
    · try simp only [decide_eq_true_eq, decide_eq_false_iff_not, Bool.and_eq_true, Bool.or_eq_true, Bool.or_eq_false_iff, Bool.not_eq_true', Bool.not_eq_false', beq_iff_eq, bne_iff_ne, beq_eq_false_iff_ne, bne_eq_false_iff_eq, Int.not_lt, Int.not_le, ne_eq, Bool.not_eq_true, Bool.not_eq_false] at h2
      refine k_region ?_
      refine r_val (v := Value.pointer (some ⟨b6, 0, none⟩)) (w' := w16) rfl rfl (rfl) ?_
      refine r_val (v := v1) (w' := w16) rfl rfl (x_load (hM17.cell 1 rfl rfl) rfl rfl) ?_
      refine r_val (v := Value.int .i64 (atPos l b.a : Int)) (w' := w16) rfl rfl (rfl) ?_
      refine r_val (v := Value.int .i64 (atPos l b.b : Int)) (w' := w16) rfl rfl (rfl) ?_
      refine r_val (v := Value.agg (#[Value.int .i64 (atPos l b.a : Int), Value.int .i64 (atPos l b.b : Int)])) (w' := w16) rfl rfl (by kernel_rfl) ?_
      refine r_new (fun b => .slice (some ⟨b, 0, none⟩) 1 1) (.cells #[Value.int .i64 (atPos l b.a : Int), Value.int .i64 (atPos l b.b : Int)] 36 (0, 0)) hM17 (by kernel_rfl) rfl rfl ?_
      intro b20 w18 hM19 hb20
      replace hM19 : Mem w No w18 ((b20, .cells #[Value.int .i64 (atPos l b.a : Int), Value.int .i64 (atPos l b.b : Int)] 36 (0, 0)) :: (b11, .cells (#[Value.int .i64 b.a, Value.int .i64 b.b, Value.bool b.must]) 35 (0, 0)) :: (b6, .cells #[v1, v2] 57 (0, 0)) :: (b3, .cells #[Value.slice none 0 0, Value.slice none 0 0] 57 (0, 0)) :: (L1 ++ L2)) := hM19
      refine r_append (bytes := 16) (z := zPair) (A := some ⟨b20, 0, none⟩) (m := 1) (c := 1) (news := pairE (atPos l b.a, atPos l b.b)) hr1 (hM19.perm (List.perm_append_comm_assoc ([(b20, .cells #[Value.int .i64 (atPos l b.a : Int), Value.int .i64 (atPos l b.b : Int)] 36 (0, 0)), (b11, .cells (#[Value.int .i64 b.a, Value.int .i64 b.b, Value.bool b.must]) 35 (0, 0)), (b6, .cells #[v1, v2] 57 (0, 0)), (b3, .cells #[Value.slice none 0 0, Value.slice none 0 0] 57 (0, 0))] : Hp) L1 L2)) (fun _ => rfl) (rfl) (hM19.cells 0 rfl) (by simp [Value.oneCell']) (by have := musts_len (l := l) (bs := bs) (k := k); omega) (by kernel_rfl) (by kernel_rfl) rfl (by decide) (by decide) rfl rfl rfl ?_
      intro v9 L9 w21 hr9 hM22
      replace hM22 := (hM22).perm (List.perm_append_comm_assoc L9 ([(b20, .cells #[Value.int .i64 (atPos l b.a : Int), Value.int .i64 (atPos l b.b : Int)] 36 (0, 0)), (b11, .cells (#[Value.int .i64 b.a, Value.int .i64 b.b, Value.bool b.must]) 35 (0, 0)), (b6, .cells #[v1, v2] 57 (0, 0)), (b3, .cells #[Value.slice none 0 0, Value.slice none 0 0] 57 (0, 0))] : Hp) L2)
      have hone_v9 := hr9.one
      replace hM22 : Mem w No w21 ((b20, .cells #[Value.int .i64 (atPos l b.a : Int), Value.int .i64 (atPos l b.b : Int)] 36 (0, 0)) :: (b11, .cells (#[Value.int .i64 b.a, Value.int .i64 b.b, Value.bool b.must]) 35 (0, 0)) :: (b6, .cells #[v1, v2] 57 (0, 0)) :: (b3, .cells #[Value.slice none 0 0, Value.slice none 0 0] 57 (0, 0)) :: (L9 ++ L2)) := hM22
      refine r_val (v := Value.pointer (some ⟨b6, 0, none⟩)) (w' := w21) rfl rfl (rfl) ?_
      refine r_store (v := v9) hM22 2 rfl (by simp) (by first | rfl | assumption) rfl rfl rfl rfl ?_
      intro w23 hM24
      replace hM24 : Mem w No w23 ((b20, .cells #[Value.int .i64 (atPos l b.a : Int), Value.int .i64 (atPos l b.b : Int)] 36 (0, 0)) :: (b11, .cells (#[Value.int .i64 b.a, Value.int .i64 b.b, Value.bool b.must]) 35 (0, 0)) :: (b6, .cells #[v9, v2] 57 (0, 0)) :: (b3, .cells #[Value.slice none 0 0, Value.slice none 0 0] 57 (0, 0)) :: (L9 ++ L2)) := hM24
      refine r_nil ?_
      refine ends_sub [(0, Value.slice Al nl cl), (4, Value.pointer (some ⟨b3, 0, none⟩)), (5, Value.pointer (some ⟨b6, 0, none⟩)), (12, Value.slice Ab nb cb), (13, Value.int .i64 (nb : Int)), (14, Value.int .i64 (k : Int))] ⟨rfl, rfl, rfl, rfl, rfl, rfl, trivial⟩ ?_
      refine e_blk ?_
      refine e_then ?_
      refine k_region ?_
      refine r_val (v := Value.int .i64 ((k : Int) + 1)) (w' := w23) rfl rfl (x_addE rfl (by omega) (by omega) rfl rfl) ?_
      refine r_val (v := Value.int .i64 ((k : Int) + 1)) (w' := w23) rfl rfl (rfl) ?_
      refine r_nil ?_
      refine ends_sub [(0, Value.slice Al nl cl), (4, Value.pointer (some ⟨b3, 0, none⟩)), (5, Value.pointer (some ⟨b6, 0, none⟩)), (12, Value.slice Ab nb cb), (13, Value.int .i64 (nb : Int)), (14, Value.int .i64 ((k : Int) + 1))] ⟨rfl, rfl, rfl, rfl, rfl, rfl, trivial⟩ ?_
      refine e_loop (k + 1, v9, v2, L9, L2) ⟨rfl, rfl, rfl, rfl, rfl, rfl, trivial⟩ ?_ ?_
      · exact ⟨(hM24.pickT [(b20, .cells #[Value.int .i64 (atPos l b.a : Int), Value.int .i64 (atPos l b.b : Int)] 36 (0, 0)), (b11, .cells (#[Value.int .i64 b.a, Value.int .i64 b.b, Value.bool b.must]) 35 (0, 0)), (b6, .cells #[v9, v2] 57 (0, 0)), (b3, .cells #[Value.slice none 0 0, Value.slice none 0 0] 57 (0, 0))] (L9 ++ L2) rfl [2, 3] _ (by decide) rfl), by omega, musts_yes hbk h2 hr9, nots_no hbk h2 hr2⟩
      · (try dsimp only); omega
    · try simp only [decide_eq_true_eq, decide_eq_false_iff_not, Bool.and_eq_true, Bool.or_eq_true, Bool.or_eq_false_iff, Bool.not_eq_true', Bool.not_eq_false', beq_iff_eq, bne_iff_ne, beq_eq_false_iff_ne, bne_eq_false_iff_eq, Int.not_lt, Int.not_le, ne_eq, Bool.not_eq_true, Bool.not_eq_false] at h2
      refine k_region ?_
      refine r_val (v := Value.pointer (some ⟨b6, 1, none⟩)) (w' := w16) rfl rfl (rfl) ?_
      refine r_val (v := v2) (w' := w16) rfl rfl (x_load (hM17.cell 1 rfl rfl) rfl rfl) ?_
      refine r_val (v := Value.int .i64 (atPos l b.a : Int)) (w' := w16) rfl rfl (rfl) ?_
      refine r_val (v := Value.int .i64 (atPos l b.b : Int)) (w' := w16) rfl rfl (rfl) ?_
      refine r_val (v := Value.agg (#[Value.int .i64 (atPos l b.a : Int), Value.int .i64 (atPos l b.b : Int)])) (w' := w16) rfl rfl (by kernel_rfl) ?_
      refine r_new (fun b => .slice (some ⟨b, 0, none⟩) 1 1) (.cells #[Value.int .i64 (atPos l b.a : Int), Value.int .i64 (atPos l b.b : Int)] 36 (0, 0)) hM17 (by kernel_rfl) rfl rfl ?_
      intro b27 w25 hM26 hb27
      replace hM26 : Mem w No w25 ((b27, .cells #[Value.int .i64 (atPos l b.a : Int), Value.int .i64 (atPos l b.b : Int)] 36 (0, 0)) :: (b11, .cells (#[Value.int .i64 b.a, Value.int .i64 b.b, Value.bool b.must]) 35 (0, 0)) :: (b6, .cells #[v1, v2] 57 (0, 0)) :: (b3, .cells #[Value.slice none 0 0, Value.slice none 0 0] 57 (0, 0)) :: (L1 ++ L2)) := hM26
      refine r_append (bytes := 16) (z := zPair) (A := some ⟨b27, 0, none⟩) (m := 1) (c := 1) (news := pairE (atPos l b.a, atPos l b.b)) hr2 (hM26.perm ((List.Perm.append_left ([(b27, .cells #[Value.int .i64 (atPos l b.a : Int), Value.int .i64 (atPos l b.b : Int)] 36 (0, 0)), (b11, .cells (#[Value.int .i64 b.a, Value.int .i64 b.b, Value.bool b.must]) 35 (0, 0)), (b6, .cells #[v1, v2] 57 (0, 0)), (b3, .cells #[Value.slice none 0 0, Value.slice none 0 0] 57 (0, 0))] : Hp) List.perm_append_comm).trans (List.perm_append_comm_assoc ([(b27, .cells #[Value.int .i64 (atPos l b.a : Int), Value.int .i64 (atPos l b.b : Int)] 36 (0, 0)), (b11, .cells (#[Value.int .i64 b.a, Value.int .i64 b.b, Value.bool b.must]) 35 (0, 0)), (b6, .cells #[v1, v2] 57 (0, 0)), (b3, .cells #[Value.slice none 0 0, Value.slice none 0 0] 57 (0, 0))] : Hp) L2 L1))) (fun _ => rfl) (rfl) (hM26.cells 0 rfl) (by simp [Value.oneCell']) (by have := nots_len (l := l) (bs := bs) (k := k); omega) (by kernel_rfl) (by kernel_rfl) rfl (by decide) (by decide) rfl rfl rfl ?_
      intro v9 L9 w28 hr9 hM29
      replace hM29 := (hM29).perm ((List.perm_append_comm_assoc L9 ([(b27, .cells #[Value.int .i64 (atPos l b.a : Int), Value.int .i64 (atPos l b.b : Int)] 36 (0, 0)), (b11, .cells (#[Value.int .i64 b.a, Value.int .i64 b.b, Value.bool b.must]) 35 (0, 0)), (b6, .cells #[v1, v2] 57 (0, 0)), (b3, .cells #[Value.slice none 0 0, Value.slice none 0 0] 57 (0, 0))] : Hp) L1).trans (List.Perm.append_left ([(b27, .cells #[Value.int .i64 (atPos l b.a : Int), Value.int .i64 (atPos l b.b : Int)] 36 (0, 0)), (b11, .cells (#[Value.int .i64 b.a, Value.int .i64 b.b, Value.bool b.must]) 35 (0, 0)), (b6, .cells #[v1, v2] 57 (0, 0)), (b3, .cells #[Value.slice none 0 0, Value.slice none 0 0] 57 (0, 0))] : Hp) List.perm_append_comm))
      have hone_v9 := hr9.one
      replace hM29 : Mem w No w28 ((b27, .cells #[Value.int .i64 (atPos l b.a : Int), Value.int .i64 (atPos l b.b : Int)] 36 (0, 0)) :: (b11, .cells (#[Value.int .i64 b.a, Value.int .i64 b.b, Value.bool b.must]) 35 (0, 0)) :: (b6, .cells #[v1, v2] 57 (0, 0)) :: (b3, .cells #[Value.slice none 0 0, Value.slice none 0 0] 57 (0, 0)) :: (L1 ++ L9)) := hM29
      refine r_val (v := Value.pointer (some ⟨b6, 1, none⟩)) (w' := w28) rfl rfl (rfl) ?_
      refine r_store (v := v9) hM29 2 rfl (by simp) (by first | rfl | assumption) rfl rfl rfl rfl ?_
      intro w30 hM31
      replace hM31 : Mem w No w30 ((b27, .cells #[Value.int .i64 (atPos l b.a : Int), Value.int .i64 (atPos l b.b : Int)] 36 (0, 0)) :: (b11, .cells (#[Value.int .i64 b.a, Value.int .i64 b.b, Value.bool b.must]) 35 (0, 0)) :: (b6, .cells #[v1, v9] 57 (0, 0)) :: (b3, .cells #[Value.slice none 0 0, Value.slice none 0 0] 57 (0, 0)) :: (L1 ++ L9)) := hM31
      refine r_nil ?_
      refine ends_sub [(0, Value.slice Al nl cl), (4, Value.pointer (some ⟨b3, 0, none⟩)), (5, Value.pointer (some ⟨b6, 0, none⟩)), (12, Value.slice Ab nb cb), (13, Value.int .i64 (nb : Int)), (14, Value.int .i64 (k : Int))] ⟨rfl, rfl, rfl, rfl, rfl, rfl, trivial⟩ ?_
      refine e_blk ?_
      refine e_then ?_
      refine k_region ?_
      refine r_val (v := Value.int .i64 ((k : Int) + 1)) (w' := w30) rfl rfl (x_addE rfl (by omega) (by omega) rfl rfl) ?_
      refine r_val (v := Value.int .i64 ((k : Int) + 1)) (w' := w30) rfl rfl (rfl) ?_
      refine r_nil ?_
      refine ends_sub [(0, Value.slice Al nl cl), (4, Value.pointer (some ⟨b3, 0, none⟩)), (5, Value.pointer (some ⟨b6, 0, none⟩)), (12, Value.slice Ab nb cb), (13, Value.int .i64 (nb : Int)), (14, Value.int .i64 ((k : Int) + 1))] ⟨rfl, rfl, rfl, rfl, rfl, rfl, trivial⟩ ?_
      refine e_loop (k + 1, v1, v9, L1, L9) ⟨rfl, rfl, rfl, rfl, rfl, rfl, trivial⟩ ?_ ?_
      · exact ⟨(hM31.pickT [(b27, .cells #[Value.int .i64 (atPos l b.a : Int), Value.int .i64 (atPos l b.b : Int)] 36 (0, 0)), (b11, .cells (#[Value.int .i64 b.a, Value.int .i64 b.b, Value.bool b.must]) 35 (0, 0)), (b6, .cells #[v1, v9] 57 (0, 0)), (b3, .cells #[Value.slice none 0 0, Value.slice none 0 0] 57 (0, 0))] (L1 ++ L9) rfl [2, 3] _ (by decide) rfl), by omega, musts_no hbk h2 hr1, nots_yes hbk h2 hr9⟩
      · (try dsimp only); omega
  · try simp only [decide_eq_true_eq, decide_eq_false_iff_not, Bool.and_eq_true, Bool.or_eq_true, Bool.or_eq_false_iff, Bool.not_eq_true', Bool.not_eq_false', beq_iff_eq, bne_iff_ne, beq_eq_false_iff_ne, bne_eq_false_iff_eq, Int.not_lt, Int.not_le, ne_eq, Bool.not_eq_true, Bool.not_eq_false] at h
    refine k_exit ?_
    refine e_then_exit ?_
    refine e_loop_exit ?_
    refine e_blk_exit ?_
    refine e_then ?_
    refine k_seq ?_
    refine k_region ?_
    have hone1 := hr1.one
    have hone2 := hr2.one
    have hkn : bs.take k = bs := List.take_of_length_le (by omega)
    refine r_val (v := Value.agg (#[v1, v2])) (w' := w7) rfl rfl (x_loadPart hM8 0 rfl (o := 0) (l := [v1, v2]) rfl rfl rfl rfl) ?_
    refine r_storeRow (vs := (#[v1, v2])) hM8 1 rfl (by rw [show (#[v1, v2]).size = 2 from (by simp [ints_size, *])]; rfl) (by first | (simp [Value.oneCell']; done) | (simp only [List.mem_cons, List.not_mem_nil, or_false, forall_eq_or_imp, forall_eq]; (repeat' constructor) <;> first | assumption | rfl)) (by rw [show (#[v1, v2]).size = 2 from (by simp [ints_size, *])]; rfl) rfl rfl rfl ?_
    intro w32 hM33
    replace hM33 : Mem w No w32 ((b6, .cells #[v1, v2] 57 (0, 0)) :: (b3, .cells (#[v1, v2]) 57 (0, 0)) :: (L1 ++ L2)) := hM33
    refine r_nil ?_
    refine ends_sub [(4, Value.pointer (some ⟨b3, 0, none⟩))] ⟨rfl, trivial⟩ ?_
    refine e_then ?_
    refine k_ret ?_
    refine e_retC rfl rfl (run_loadVarRow hM33 1 rfl rfl rfl) ?_
    exact ⟨_, rfl, v1, v2, L1, L2, rfl, by rw [hkn] at hr1 hr2; exact ⟨hr1, hr2⟩, hM33.tail.tail⟩


end Go.Proofs.Ytddacakmafdgdaa
