/- Fd: what Go functions of this seat come to, printed by walk.py over the engine. -/
import Derived.Test.YtddacakmafdgdaaFc
import Derived.Test.YtddacakmafdgdaaGp
set_option linter.unusedVariables false
set_option linter.unusedSimpArgs false
set_option maxRecDepth 100000
namespace Go.Proofs.Ytddacakmafdgdaa
open Go.RowKit Go.Kn

theorem index_s (A : Option Addr) (n c : Nat) (xs : List Int) (x : Int) (w : World) (hl : RdE intE 1 w A n xs) (hn : n ≤ 9223372036854775806) :
    Calls Try.prog 90 #[Value.slice A n c, Value.int .i64 x] w fun e w' => ∃ r, e = .returned r ∧ (∃ i : Int, r = .int .i64 i ∧ (0 ≤ i ↔ x ∈ xs)) ∧ Mem w No w' [] := by
  refine calls_k (args := [Value.slice A n c, Value.int .i64 x]) 19 [(0, Value.slice A n c), (1, Value.int .i64 x)] Try.func90 rfl rfl ⟨rfl, rfl, trivial⟩ ?_
  have hM := Mem.nil w No
  have hln := hl.len
  refine k_seq ?_
  refine k_region ?_
  refine r_val (v := Value.int .i64 0) (w' := w) rfl rfl (rfl) ?_
  refine r_nil ?_
  refine ends_sub [(0, Value.slice A n c), (1, Value.int .i64 x)] ⟨rfl, rfl, trivial⟩ ?_
  refine e_then ?_
  refine k_seq ?_
  refine k_seq ?_
  refine k_region ?_
  refine r_val (v := Value.slice A n c) (w' := w) rfl rfl (rfl) ?_
  refine r_val (v := Value.int .i64 (n : Int)) (w' := w) rfl rfl (x_len rfl rfl) ?_
  refine r_val (v := Value.int .i64 0) (w' := w) rfl rfl (rfl) ?_
  refine r_nil ?_
  refine ends_sub [(0, Value.slice A n c), (1, Value.int .i64 x), (7, Value.int .i64 (n : Int)), (8, Value.int .i64 0)] ⟨rfl, rfl, rfl, rfl, trivial⟩ ?_
  refine e_then ?_
  refine k_block ?_
  refine k_loop (σ := Nat) (fun k => [(0, Value.slice A n c), (1, Value.int .i64 x), (7, Value.int .i64 (n : Int)), (8, Value.int .i64 (k : Int))]) (fun k w_ => Mem w No w_ [] ∧ k ≤ n ∧ x ∉ xs.take k) (fun k => n - k) 0 ⟨rfl, rfl, rfl, rfl, trivial⟩ ⟨hM, by omega, by simp⟩ ?_
  rintro k w1 ⟨hM2, hk, hno⟩
  refine wpK_sub [(0, Value.slice A n c), (1, Value.int .i64 x), (7, Value.int .i64 (n : Int)), (8, Value.int .i64 (k : Int))] ⟨rfl, rfl, rfl, rfl, trivial⟩ ?_
  refine k_seq ?_
  refine k_region ?_
  refine r_val (v := Value.bool (decide ((k : Int) < (n : Int)))) (w' := w1) rfl rfl (rfl) ?_
  refine r_nil ?_
  refine ends_sub [(0, Value.slice A n c), (1, Value.int .i64 x), (7, Value.int .i64 (n : Int)), (8, Value.int .i64 (k : Int)), (9, Value.bool (decide ((k : Int) < (n : Int))))] ⟨rfl, rfl, rfl, rfl, rfl, trivial⟩ ?_
  refine e_then ?_
  refine k_seq ?_
  refine k_cond rfl rfl (fun h => ?_) (fun h => ?_)
  · try simp only [decide_eq_true_eq, decide_eq_false_iff_not, Bool.and_eq_true, Bool.or_eq_true, Bool.or_eq_false_iff, Bool.not_eq_true', Bool.not_eq_false', beq_iff_eq, bne_iff_ne, beq_eq_false_iff_ne, bne_eq_false_iff_eq, Int.not_lt, Int.not_le, ne_eq, Bool.not_eq_true, Bool.not_eq_false] at h
    refine k_skip ?_
    refine e_then ?_
    refine k_seq ?_
    refine k_block ?_
    refine k_seq ?_
    refine k_region ?_
    obtain ⟨y, hy⟩ : ∃ y, xs[k]? = some y := ⟨xs[k]'(by rw [hl.len]; omega), by simp⟩
    refine r_val (v := Value.int .i64 (k : Int)) (w' := w1) rfl rfl (rfl) ?_
    refine r_val (v := Value.int .i64 (k : Int)) (w' := w1) rfl rfl (rfl) ?_
    refine r_nil ?_
    refine ends_sub [(0, Value.slice A n c), (1, Value.int .i64 x), (5, Value.int .i64 (k : Int)), (7, Value.int .i64 (n : Int)), (8, Value.int .i64 (k : Int))] ⟨rfl, rfl, rfl, rfl, rfl, trivial⟩ ?_
    refine e_then ?_
    refine k_seq ?_
    refine k_region ?_
    refine r_val (v := Value.int .i64 x) (w' := w1) rfl rfl (rfl) ?_
    refine r_val (v := Value.slice A n c) (w' := w1) rfl rfl (rfl) ?_
    refine r_val (v := Value.int .i64 (k : Int)) (w' := w1) rfl rfl (rfl) ?_
    refine r_val (v := Value.pointer (some ((adr A).add (k * 1)))) (w' := w1) rfl rfl (x_indexAddrN (i := k) (sz := 1) hl.here (by omega) rfl rfl rfl rfl) ?_
    refine r_val (v := Value.int .i64 y) (w' := w1) rfl rfl (x_loadEInt (hl.up hM2) hy rfl rfl) ?_
    refine r_val (v := Value.bool (x == y)) (w' := w1) rfl rfl (rfl) ?_
    refine r_nil ?_
    refine ends_sub [(0, Value.slice A n c), (1, Value.int .i64 x), (5, Value.int .i64 (k : Int)), (7, Value.int .i64 (n : Int)), (8, Value.int .i64 (k : Int)), (16, Value.bool (x == y))] ⟨rfl, rfl, rfl, rfl, rfl, rfl, trivial⟩ ?_
    refine e_then ?_
    refine k_cond rfl rfl (fun h2 => ?_) (fun h2 => ?_)
    · try simp only [decide_eq_true_eq, decide_eq_false_iff_not, Bool.and_eq_true, Bool.or_eq_true, Bool.or_eq_false_iff, Bool.not_eq_true', Bool.not_eq_false', beq_iff_eq, bne_iff_ne, beq_eq_false_iff_ne, bne_eq_false_iff_eq, Int.not_lt, Int.not_le, ne_eq, Bool.not_eq_true, Bool.not_eq_false] at h2
      refine k_seq ?_
      refine k_region ?_
      refine r_val (v := Value.int .i64 (k : Int)) (w' := w1) rfl rfl (rfl) ?_
      refine r_val (v := Value.int .i64 (k : Int)) (w' := w1) rfl rfl (rfl) ?_
      refine r_nil ?_
      refine ends_sub [(4, Value.int .i64 (k : Int))] ⟨rfl, trivial⟩ ?_
      refine e_then ?_
      refine k_ret ?_
      refine e_blk_ret ?_
      refine e_then_ret ?_
      refine e_loop_ret ?_
      refine e_blk_ret ?_
      refine e_then_ret ?_
      refine e_ret1 rfl rfl ?_
      exact ⟨_, rfl, ⟨_, rfl, ⟨fun _ => by rw [h2]; exact List.mem_of_getElem? hy, fun _ => by omega⟩⟩, hM2.drop⟩
    · try simp only [decide_eq_true_eq, decide_eq_false_iff_not, Bool.and_eq_true, Bool.or_eq_true, Bool.or_eq_false_iff, Bool.not_eq_true', Bool.not_eq_false', beq_iff_eq, bne_iff_ne, beq_eq_false_iff_ne, bne_eq_false_iff_eq, Int.not_lt, Int.not_le, ne_eq, Bool.not_eq_true, Bool.not_eq_false] at h2
      refine k_skip ?_
      refine e_blk ?_
      refine e_then ?_
      refine k_region ?_
      refine r_val (v := Value.int .i64 ((k : Int) + 1)) (w' := w1) rfl rfl (x_addE rfl (by omega) (by omega) rfl rfl) ?_
      refine r_val (v := Value.int .i64 ((k : Int) + 1)) (w' := w1) rfl rfl (rfl) ?_
      refine r_nil ?_
      refine ends_sub [(0, Value.slice A n c), (1, Value.int .i64 x), (7, Value.int .i64 (n : Int)), (8, Value.int .i64 ((k : Int) + 1))] ⟨rfl, rfl, rfl, rfl, trivial⟩ ?_
      refine e_loop (k + 1) ⟨rfl, rfl, rfl, rfl, trivial⟩ ?_ ?_
      · exact ⟨hM2.drop, by omega, by rw [take_snoc' hy]; simp [hno, h2]⟩
      · (try dsimp only); omega
  · try simp only [decide_eq_true_eq, decide_eq_false_iff_not, Bool.and_eq_true, Bool.or_eq_true, Bool.or_eq_false_iff, Bool.not_eq_true', Bool.not_eq_false', beq_iff_eq, bne_iff_ne, beq_eq_false_iff_ne, bne_eq_false_iff_eq, Int.not_lt, Int.not_le, ne_eq, Bool.not_eq_true, Bool.not_eq_false] at h
    refine k_exit ?_
    refine e_then_exit ?_
    refine e_loop_exit ?_
    refine e_blk_exit ?_
    refine e_then ?_
    refine k_seq ?_
    refine k_region ?_
    refine r_val (v := Value.int .i64 (-1)) (w' := w1) rfl rfl (rfl) ?_
    refine r_nil ?_
    refine ends_sub [(4, Value.int .i64 (-1))] ⟨rfl, trivial⟩ ?_
    refine e_then ?_
    refine k_ret ?_
    refine e_ret1 rfl rfl ?_
    exact ⟨_, rfl, ⟨-1, rfl, ⟨fun h => absurd h (by omega), fun h => absurd h (by rwa [List.take_of_length_le (by omega)] at hno)⟩⟩, hM2.drop⟩

theorem contains_s (A : Option Addr) (n c : Nat) (xs : List Int) (x : Int) (w : World) (hl : RdE intE 1 w A n xs) (hn : n ≤ 9223372036854775806) :
    Calls Try.prog 69 #[Value.slice A n c, Value.int .i64 x] w fun e w' => ∃ r, e = .returned r ∧ r = .bool (decide (x ∈ xs)) ∧ Mem w No w' [] := by
  refine calls_k (args := [Value.slice A n c, Value.int .i64 x]) 9 [(0, Value.slice A n c), (1, Value.int .i64 x)] Try.func69 rfl rfl ⟨rfl, rfl, trivial⟩ ?_
  have hM := Mem.nil w No
  refine k_seq ?_
  refine k_region ?_
  refine r_val (v := Value.bool false) (w' := w) rfl rfl (rfl) ?_
  refine r_nil ?_
  refine ends_sub [(0, Value.slice A n c), (1, Value.int .i64 x)] ⟨rfl, rfl, trivial⟩ ?_
  refine e_then ?_
  refine k_seq ?_
  refine k_region ?_
  refine r_val (v := Value.slice A n c) (w' := w) rfl rfl (rfl) ?_
  refine r_val (v := Value.int .i64 x) (w' := w) rfl rfl (rfl) ?_
  refine r_call (f := 90) (args := #[Value.slice A n c, Value.int .i64 x]) (w' := w) rfl rfl (x_call (vs := [Value.slice A n c, Value.int .i64 x]) (enter90 _ _) rfl rfl) (index_s A n c xs x w (hl.up hM) hn) ?_
  rintro v_ w1 ⟨⟨i1, rfl, hi1⟩, hM2⟩
  replace hM2 := hM.grow hM2.kept
  refine r_val (v := Value.bool (decide (i1 ≥ 0))) (w' := w1) rfl rfl (rfl) ?_
  refine r_val (v := Value.bool (decide (i1 ≥ 0))) (w' := w1) rfl rfl (rfl) ?_
  refine r_nil ?_
  refine ends_sub [(4, Value.bool (decide (i1 ≥ 0)))] ⟨rfl, trivial⟩ ?_
  refine e_then ?_
  refine k_ret ?_
  refine e_ret1 rfl rfl ?_
  exact ⟨_, rfl, by congr 1; simp [hi1], hM2.drop⟩

theorem each_s (n : Nat) (w : World) (hn : n ≤ 300) :
    Calls Try.prog 68 #[Value.int .i64 (n : Int)] w fun e w' => ∃ r, e = .returned r ∧ ∃ bm gs, r = .map (some bm) ∧ GMp tInt gs n ∧ view gs = eachG n ∧ Mem w No w' (GL bm gs n) := by
  refine calls_k (args := [Value.int .i64 (n : Int)]) 16 [(0, Value.int .i64 (n : Int))] Try.func68 rfl rfl ⟨rfl, trivial⟩ ?_
  have hM := Mem.nil w No
  refine k_seq ?_
  refine k_region ?_
  refine r_val (v := Value.map none) (w' := w) rfl rfl (rfl) ?_
  refine r_nil ?_
  refine ends_sub [(0, Value.int .i64 (n : Int))] ⟨rfl, trivial⟩ ?_
  refine e_then ?_
  refine k_seq ?_
  refine k_region ?_
  refine r_new (fun b => .map (some b)) (mapO [] 0) hM (by kernel_rfl) rfl rfl ?_
  intro bm w1 hM2 hbm
  replace hM2 : Mem w No w1 [(bm, mapO [] 0)] := hM2
  refine r_val (v := Value.map (some bm)) (w' := w1) rfl rfl (rfl) ?_
  refine r_nil ?_
  refine ends_sub [(0, Value.int .i64 (n : Int)), (3, Value.map (some bm))] ⟨rfl, rfl, trivial⟩ ?_
  refine e_then ?_
  refine k_seq ?_
  refine k_seq ?_
  refine k_region ?_
  refine r_val (v := Value.int .i64 (n : Int)) (w' := w1) rfl rfl (rfl) ?_
  refine r_val (v := Value.int .i64 0) (w' := w1) rfl rfl (rfl) ?_
  refine r_nil ?_
  refine ends_sub [(3, Value.map (some bm)), (6, Value.int .i64 (n : Int)), (7, Value.int .i64 0)] ⟨rfl, rfl, rfl, trivial⟩ ?_
  refine e_then ?_
  refine k_block ?_
  refine k_loop (σ := Nat × List Grp) (fun ⟨k, gs⟩ => [(3, Value.map (some bm)), (6, Value.int .i64 (n : Int)), (7, Value.int .i64 (k : Int))]) (fun ⟨k, gs⟩ w_ => Mem w No w_ ((bm, mapO (gs.map Grp.ent) k) :: gs.flatMap Grp.L) ∧ k ≤ n ∧ GMp tInt gs k ∧ view gs = eachG k) (fun ⟨k, gs⟩ => n - k) (0, []) ⟨rfl, rfl, rfl, trivial⟩ ⟨hM2, Nat.zero_le _, GMp.nil _ _, rfl⟩ ?_
  rintro ⟨k, gs⟩ w3 ⟨hM4, hk, hG, hV⟩
  refine wpK_sub [(3, Value.map (some bm)), (6, Value.int .i64 (n : Int)), (7, Value.int .i64 (k : Int))] ⟨rfl, rfl, rfl, trivial⟩ ?_
  refine k_seq ?_
  refine k_region ?_
  refine r_val (v := Value.bool (decide ((k : Int) < (n : Int)))) (w' := w3) rfl rfl (rfl) ?_
  refine r_nil ?_
  refine ends_sub [(3, Value.map (some bm)), (6, Value.int .i64 (n : Int)), (7, Value.int .i64 (k : Int)), (8, Value.bool (decide ((k : Int) < (n : Int))))] ⟨rfl, rfl, rfl, rfl, trivial⟩ ?_
  refine e_then ?_
  refine k_seq ?_
  refine k_cond rfl rfl (fun h => ?_) (fun h => ?_)
  · try simp only [decide_eq_true_eq, decide_eq_false_iff_not, Bool.and_eq_true, Bool.or_eq_true, Bool.or_eq_false_iff, Bool.not_eq_true', Bool.not_eq_false', beq_iff_eq, bne_iff_ne, beq_eq_false_iff_ne, bne_eq_false_iff_eq, Int.not_lt, Int.not_le, ne_eq, Bool.not_eq_true, Bool.not_eq_false] at h
    refine k_skip ?_
    refine e_then ?_
    refine k_seq ?_
    refine k_block ?_
    refine k_seq ?_
    refine k_region ?_
    have hnew : ∀ q ∈ gs, q.key ≠ (k : Int) := each_new hV
    refine r_val (v := Value.int .i64 (k : Int)) (w' := w3) rfl rfl (rfl) ?_
    refine r_val (v := Value.int .i64 (k : Int)) (w' := w3) rfl rfl (rfl) ?_
    refine r_nil ?_
    refine ends_sub [(3, Value.map (some bm)), (4, Value.int .i64 (k : Int)), (6, Value.int .i64 (n : Int)), (7, Value.int .i64 (k : Int))] ⟨rfl, rfl, rfl, rfl, trivial⟩ ?_
    refine e_then ?_
    refine k_region ?_
    refine r_val (v := Value.map (some bm)) (w' := w3) rfl rfl (rfl) ?_
    refine r_val (v := Value.int .i64 (k : Int)) (w' := w3) rfl rfl (rfl) ?_
    refine r_val (v := Value.int .i64 (k : Int)) (w' := w3) rfl rfl (rfl) ?_
    refine r_new (fun b => .slice (some ⟨b, 0, none⟩) 1 1) (.cells #[Value.int .i64 (k : Int)] 3 (0, 0)) hM4 (by kernel_rfl) rfl rfl ?_
    intro b7 w5 hM6 hb7
    replace hM6 : Mem w No w5 ((b7, .cells #[Value.int .i64 (k : Int)] 3 (0, 0)) :: (bm, mapO (gs.map Grp.ent) k) :: gs.flatMap Grp.L) := hM6
    refine r_mapNew hM6 1 rfl (mget_none (k := (k : Int)) (fun e he => by obtain ⟨g, hg, rfl⟩ := ent_mem he; exact hnew g hg)) rfl rfl rfl rfl rfl rfl ?_
    intro w8 hM9
    replace hM9 : Mem w No w8 ((b7, .cells #[Value.int .i64 (k : Int)] 3 (0, 0)) :: (bm, mapO (gs.map Grp.ent ++ [(⟨(k : Int), Value.slice (some ⟨b7, 0, none⟩) 1 1, k⟩ : Ent)]) (k + 1)) :: gs.flatMap Grp.L) := hM9
    refine r_nil ?_
    refine ends_sub [(3, Value.map (some bm)), (6, Value.int .i64 (n : Int)), (7, Value.int .i64 (k : Int))] ⟨rfl, rfl, rfl, trivial⟩ ?_
    refine e_blk ?_
    refine e_then ?_
    refine k_region ?_
    obtain ⟨g, hg⟩ : ∃ g : Grp, g = ⟨(k : Int), [(k : Int)], Value.slice (some ⟨b7, 0, none⟩) 1 1, k, [(b7, .cells #[Value.int .i64 (k : Int)] 3 (0, 0))]⟩ := ⟨_, rfl⟩
    have hrow : OwnR tInt 1 g.v g.xs.length (g.xs.map (.int .i64)) g.L := by subst hg; exact OwnR.lit tInt 1 b7 1 #[Value.int .i64 (k : Int)] (by decide) rfl
    refine r_val (v := Value.int .i64 ((k : Int) + 1)) (w' := w8) rfl rfl (x_addE rfl (by omega) (by omega) rfl rfl) ?_
    refine r_val (v := Value.int .i64 ((k : Int) + 1)) (w' := w8) rfl rfl (rfl) ?_
    refine r_nil ?_
    refine ends_sub [(3, Value.map (some bm)), (6, Value.int .i64 (n : Int)), (7, Value.int .i64 ((k : Int) + 1))] ⟨rfl, rfl, rfl, trivial⟩ ?_
    refine e_loop (k + 1, gs ++ [g]) ⟨rfl, rfl, rfl, trivial⟩ ?_ ?_
    · exact ⟨GL_snoc (by rw [hg]) (by rw [hg]; exact hM9), by omega, hG.snoc hrow (by rw [hg]) (fun q hq => by rw [hg]; exact hnew q hq), by rw [view_snoc, hV, hg, eachG_succ]⟩
    · (try dsimp only); omega
  · try simp only [decide_eq_true_eq, decide_eq_false_iff_not, Bool.and_eq_true, Bool.or_eq_true, Bool.or_eq_false_iff, Bool.not_eq_true', Bool.not_eq_false', beq_iff_eq, bne_iff_ne, beq_eq_false_iff_ne, bne_eq_false_iff_eq, Int.not_lt, Int.not_le, ne_eq, Bool.not_eq_true, Bool.not_eq_false] at h
    refine k_exit ?_
    refine e_then_exit ?_
    refine e_loop_exit ?_
    refine e_blk_exit ?_
    refine e_then ?_
    refine k_seq ?_
    refine k_region ?_
    have hkn : k = n := by omega
    refine r_val (v := Value.map (some bm)) (w' := w3) rfl rfl (rfl) ?_
    refine r_val (v := Value.map (some bm)) (w' := w3) rfl rfl (rfl) ?_
    refine r_nil ?_
    refine ends_sub [(2, Value.map (some bm))] ⟨rfl, trivial⟩ ?_
    refine e_then ?_
    refine k_ret ?_
    refine e_ret1 rfl rfl ?_
    exact ⟨_, rfl, bm, gs, rfl, hkn ▸ hG, hkn ▸ hV, hkn ▸ hM4⟩

theorem of_s (bm : Nat) (gs : List Grp) (ck : Nat) (hG : GMp tInt gs ck) (n : Int) (w : World) (hL : Holds w (GL bm gs ck)) (hlen : ∀ g ∈ gs, g.xs.length ≤ 300) :
    Calls Try.prog 45 #[Value.map (some bm), Value.int .i64 n] w fun e w' => ∃ r, e = .returned r ∧ (∃ i : Int, r = .int .i64 i ∧ ofIs (view gs) n i) ∧ Mem w No w' [] := by
  refine calls_k (args := [Value.map (some bm), Value.int .i64 n]) 18 [(0, Value.map (some bm)), (1, Value.int .i64 n)] Try.func45 rfl rfl ⟨rfl, rfl, trivial⟩ ?_
  have hM := hL.mem
  refine k_seq ?_
  refine k_region ?_
  refine r_val (v := Value.int .i64 0) (w' := w) rfl rfl (rfl) ?_
  refine r_nil ?_
  refine ends_sub [(0, Value.map (some bm)), (1, Value.int .i64 n)] ⟨rfl, rfl, trivial⟩ ?_
  refine e_then ?_
  refine k_seq ?_
  refine k_seq ?_
  refine k_region ?_
  refine r_val (v := Value.map (some bm)) (w' := w) rfl rfl (rfl) ?_
  refine r_range hM 0 rfl rfl rfl rfl ?_
  intro bi w1 hM2 hbi
  replace hM2 : Mem w (keys (GL bm gs ck)) w1 ((bi, .mapIter (some bm) ck #[] ck) :: (bm, mapO (gs.map Grp.ent) ck) :: gs.flatMap Grp.L) := hM2
  refine r_nil ?_
  refine ends_sub [(1, Value.int .i64 n), (8, Value.pointer (some ⟨bi, 0, none⟩))] ⟨rfl, rfl, trivial⟩ ?_
  refine e_then ?_
  refine k_block ?_
  refine k_loop (σ := Array Nat) (fun seen => [(1, Value.int .i64 n), (8, Value.pointer (some ⟨bi, 0, none⟩))]) (fun seen w_ => Mem w (keys (GL bm gs ck)) w_ ((bi, .mapIter (some bm) ck seen ck) :: (bm, mapO (gs.map Grp.ent) ck) :: gs.flatMap Grp.L) ∧ ∀ g ∈ gs, g.born ∈ seen.toList → n ∉ g.xs) (fun seen => todo gs seen) #[] ⟨rfl, rfl, trivial⟩ ⟨hM2, by simp⟩ ?_
  rintro seen w3 ⟨hM4, hno⟩
  refine wpK_sub [(1, Value.int .i64 n), (8, Value.pointer (some ⟨bi, 0, none⟩))] ⟨rfl, rfl, trivial⟩ ?_
  refine k_seq ?_
  refine k_region ?_
  refine r_next hM4 0 1 rfl rfl (ents_born hG) rfl rfl (fun hall w5 hM6 => ?_) (fun e_ he_ hns w5 hM6 => ?_)
  · skip
    refine r_val (v := Value.bool false) (w' := w5) rfl rfl (rfl) ?_
    refine r_nil ?_
    refine ends_sub [(1, Value.int .i64 n), (8, Value.pointer (some ⟨bi, 0, none⟩)), (10, Value.bool false)] ⟨rfl, rfl, rfl, trivial⟩ ?_
    refine e_then ?_
    refine k_seq ?_
    refine k_cond_false rfl rfl ?_
    refine k_exit ?_
    refine e_then_exit ?_
    refine e_loop_exit ?_
    refine e_blk_exit ?_
    refine e_then ?_
    refine k_seq ?_
    refine k_region ?_
    refine r_val (v := Value.int .i64 (-1)) (w' := w5) rfl rfl (rfl) ?_
    refine r_nil ?_
    refine ends_sub [(4, Value.int .i64 (-1))] ⟨rfl, trivial⟩ ?_
    refine e_then ?_
    refine k_ret ?_
    refine e_ret1 rfl rfl ?_
    exact ⟨_, rfl, ⟨-1, rfl, .inr ⟨rfl, fun p hp => by obtain ⟨g, hg, rfl⟩ := List.mem_map.1 hp; exact hno g hg (hall g.ent (List.mem_map.2 ⟨g, hg, rfl⟩))⟩⟩, Mem.ro hL (L' := [(bi, .mapIter (some bm) ck seen ck)]) hM6⟩
  · obtain ⟨g, hg, rfl⟩ := ent_mem he_
    replace hM6 : Mem w (keys (GL bm gs ck)) w5 ((bi, .mapIter (some bm) ck (seen.push g.born) ck) :: (bm, mapO (gs.map Grp.ent) ck) :: gs.flatMap Grp.L) := hM6
    obtain ⟨A, c, hv, hnc, _, _⟩ := (hG.row g hg).slice
    have hrd : RdE intE 1 w5 A g.xs.length g.xs := (hv ▸ hG.row g hg).rdI ((GL_row hL hg).up0 (E := [(bi, _)]) hM6 hg)
    refine r_val (v := Value.bool true) (w' := w5) rfl rfl (rfl) ?_
    refine r_nil ?_
    refine ends_sub [(1, Value.int .i64 n), (8, Value.pointer (some ⟨bi, 0, none⟩)), (10, Value.bool true)] ⟨rfl, rfl, rfl, trivial⟩ ?_
    refine e_then ?_
    refine k_seq ?_
    refine k_cond_true rfl rfl ?_
    refine k_skip ?_
    refine e_then ?_
    refine k_block ?_
    refine k_seq ?_
    refine k_region ?_
    refine r_val (v := Value.tuple #[Value.int .i64 g.key, Value.slice A g.xs.length c]) (w' := w5) rfl rfl (by rw [← hv]; exact x_entry (hM6.get 0 rfl) (hM6.get 1 rfl) he_ (ents_bnd hG) rfl) ?_
    refine r_val (v := Value.int .i64 g.key) (w' := w5) rfl rfl (rfl) ?_
    refine r_val (v := Value.slice A g.xs.length c) (w' := w5) rfl rfl (rfl) ?_
    refine r_val (v := Value.int .i64 g.key) (w' := w5) rfl rfl (rfl) ?_
    refine r_val (v := Value.slice A g.xs.length c) (w' := w5) rfl rfl (rfl) ?_
    refine r_nil ?_
    refine ends_sub [(1, Value.int .i64 n), (5, Value.int .i64 g.key), (6, Value.slice A g.xs.length c), (8, Value.pointer (some ⟨bi, 0, none⟩))] ⟨rfl, rfl, rfl, rfl, trivial⟩ ?_
    refine e_then ?_
    refine k_seq ?_
    refine k_region ?_
    refine r_val (v := Value.slice A g.xs.length c) (w' := w5) rfl rfl (rfl) ?_
    refine r_val (v := Value.int .i64 n) (w' := w5) rfl rfl (rfl) ?_
    refine r_call (f := 69) (args := #[Value.slice A g.xs.length c, Value.int .i64 n]) (w' := w5) rfl rfl (x_call (vs := [Value.slice A g.xs.length c, Value.int .i64 n]) (enter69 _ _) rfl rfl) (contains_s A g.xs.length c g.xs n w5 hrd (by have := hlen g hg; omega)) ?_
    rintro v_ w7 ⟨rfl, hM8⟩
    replace hM8 := hM6.grow hM8.kept
    refine r_nil ?_
    refine ends_sub [(1, Value.int .i64 n), (5, Value.int .i64 g.key), (8, Value.pointer (some ⟨bi, 0, none⟩)), (16, Value.bool (decide (n ∈ g.xs)))] ⟨rfl, rfl, rfl, rfl, trivial⟩ ?_
    refine e_then ?_
    refine k_cond rfl rfl (fun h => ?_) (fun h => ?_)
    · try simp only [decide_eq_true_eq, decide_eq_false_iff_not, Bool.and_eq_true, Bool.or_eq_true, Bool.or_eq_false_iff, Bool.not_eq_true', Bool.not_eq_false', beq_iff_eq, bne_iff_ne, beq_eq_false_iff_ne, bne_eq_false_iff_eq, Int.not_lt, Int.not_le, ne_eq, Bool.not_eq_true, Bool.not_eq_false] at h
      refine k_seq ?_
      refine k_region ?_
      refine r_val (v := Value.int .i64 g.key) (w' := w7) rfl rfl (rfl) ?_
      refine r_val (v := Value.int .i64 g.key) (w' := w7) rfl rfl (rfl) ?_
      refine r_nil ?_
      refine ends_sub [(4, Value.int .i64 g.key)] ⟨rfl, trivial⟩ ?_
      refine e_then ?_
      refine k_ret ?_
      refine e_blk_ret ?_
      refine e_loop_ret ?_
      refine e_blk_ret ?_
      refine e_then_ret ?_
      refine e_ret1 rfl rfl ?_
      exact ⟨_, rfl, ⟨_, rfl, .inl ⟨(g.key, g.xs), List.mem_map.2 ⟨g, hg, rfl⟩, h, rfl⟩⟩, Mem.ro hL (L' := [(bi, .mapIter (some bm) ck (seen.push g.born) ck)]) hM8⟩
    · try simp only [decide_eq_true_eq, decide_eq_false_iff_not, Bool.and_eq_true, Bool.or_eq_true, Bool.or_eq_false_iff, Bool.not_eq_true', Bool.not_eq_false', beq_iff_eq, bne_iff_ne, beq_eq_false_iff_ne, bne_eq_false_iff_eq, Int.not_lt, Int.not_le, ne_eq, Bool.not_eq_true, Bool.not_eq_false] at h
      refine k_skip ?_
      refine e_blk ?_
      refine e_loop (seen.push g.born) ⟨rfl, rfl, trivial⟩ ?_ ?_
      · exact ⟨hM8, no_push (grp_inj hG) hg hno h⟩
      · exact todo_push hg hns


end Go.Proofs.Ytddacakmafdgdaa
