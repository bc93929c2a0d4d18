/- Fe: what Go functions of this seat come to, printed by walk.py over the engine. -/
import Derived.Test.YtddacakmafdgdaaFd
import Derived.Test.YtddacakmafdgdaaGs
import Derived.Test.YtddacakmafdgdaaGj
set_option linter.unusedVariables false
set_option linter.unusedSimpArgs false
set_option maxRecDepth 100000
namespace Go.Proofs.Ytddacakmafdgdaa
open Go.RowKit Go.Kn

theorem join_s (bm : Nat) (gs : List Grp) (ck : Nat) (hG : GMp tInt gs ck) (a b : Int) (w : World) (hL : Holds w (GL bm gs ck)) (ha : ∃ g ∈ gs, g.key = a) (hb : ∃ g ∈ gs, g.key = b) (hlen : ∀ g ∈ gs, g.xs.length ≤ 300) :
    Calls Try.prog 53 #[Value.map (some bm), Value.int .i64 a, Value.int .i64 b] w fun e w' => ∃ r, e = .returned r ∧ r = .tuple #[] ∧ ∃ gs', GMp tInt gs' ck ∧ view gs' = joinV a b (view gs) ∧ Mem w (keys (GL bm gs ck)) w' (GL bm gs' ck) := by
  refine calls_k (args := [Value.map (some bm), Value.int .i64 a, Value.int .i64 b]) 30 [(0, Value.map (some bm)), (1, Value.int .i64 a), (2, Value.int .i64 b)] Try.func53 rfl rfl ⟨rfl, rfl, rfl, trivial⟩ ?_
  have hM := hL.mem
  refine k_seq ?_
  refine k_seq ?_
  refine k_region ?_
  refine r_val (v := Value.int .i64 a) (w' := w) rfl rfl (rfl) ?_
  refine r_val (v := Value.int .i64 b) (w' := w) rfl rfl (rfl) ?_
  refine r_val (v := Value.bool (a == b)) (w' := w) rfl rfl (rfl) ?_
  refine r_nil ?_
  refine ends_sub [(0, Value.map (some bm)), (1, Value.int .i64 a), (2, Value.int .i64 b), (9, Value.bool (a == b))] ⟨rfl, rfl, rfl, rfl, trivial⟩ ?_
  refine e_then ?_
  refine k_cond rfl rfl (fun h => ?_) (fun h => ?_)
  · try simp only [decide_eq_true_eq, decide_eq_false_iff_not, Bool.and_eq_true, Bool.or_eq_true, Bool.or_eq_false_iff, Bool.not_eq_true', Bool.not_eq_false', beq_iff_eq, bne_iff_ne, beq_eq_false_iff_ne, bne_eq_false_iff_eq, Int.not_lt, Int.not_le, ne_eq, Bool.not_eq_true, Bool.not_eq_false] at h
    refine k_ret ?_
    refine e_then_ret ?_
    refine e_ret0 rfl ?_
    exact ⟨_, rfl, rfl, gs, hG, by rw [joinV, if_pos h], hM⟩
  · try simp only [decide_eq_true_eq, decide_eq_false_iff_not, Bool.and_eq_true, Bool.or_eq_true, Bool.or_eq_false_iff, Bool.not_eq_true', Bool.not_eq_false', beq_iff_eq, bne_iff_ne, beq_eq_false_iff_ne, bne_eq_false_iff_eq, Int.not_lt, Int.not_le, ne_eq, Bool.not_eq_true, Bool.not_eq_false] at h
    refine k_skip ?_
    refine e_then ?_
    refine k_seq ?_
    refine k_region ?_
    obtain ⟨g, gm, gk⟩ := key_min ha hb
    obtain ⟨q, qm, qk⟩ := key_max ha hb
    have hne : g.key ≠ q.key := by omega
    have hqm : q ∈ gs.filter fun p => decide (p.key ≠ g.key) := List.mem_filter.2 ⟨qm, by simpa using fun e => hne e.symm⟩
    have hkn2 : ((gs.filter fun p => decide (p.key ≠ g.key)).map Grp.key).Nodup := (List.filter_sublist.map _).nodup hG.knd
    obtain ⟨R, hR⟩ : ∃ R, R = (((gs.filter fun p => decide (p.key ≠ g.key)).filter fun p => decide (p.key ≠ q.key)).flatMap Grp.L) := ⟨_, rfl⟩
    have hflat : (gs.flatMap Grp.L).Perm (g.L ++ (q.L ++ R)) := hR ▸ (flat_pull hG.knd gm).trans (List.Perm.append_left _ (flat_pull hkn2 hqm))
    obtain ⟨A2, c2, hv2, hnc2, hc2, hA2⟩ := (hG.row q qm).slice
    have hrow1 := hG.row g gm
    have hrow2 := hv2 ▸ hG.row q qm
    refine wpR_sub [(0, Value.map (some bm)), (1, Value.int .i64 a), (2, Value.int .i64 b), (9, Value.bool (a == b))] ⟨rfl, rfl, rfl, rfl, trivial⟩ ?_
    have hM1 : Mem w (keys (GL bm gs ck)) w ((bm, mapO (gs.map Grp.ent) ck) :: (g.L ++ (q.L ++ R))) := hM.perm (List.Perm.cons _ hflat)
    refine r_val (v := Value.int .i64 a) (w' := w) rfl rfl (rfl) ?_
    refine r_val (v := Value.int .i64 b) (w' := w) rfl rfl (rfl) ?_
    refine r_val (v := Value.int .i64 (min a b)) (w' := w) rfl rfl (x_min rfl rfl) ?_
    refine r_val (v := Value.int .i64 a) (w' := w) rfl rfl (rfl) ?_
    refine r_val (v := Value.int .i64 b) (w' := w) rfl rfl (rfl) ?_
    refine r_val (v := Value.int .i64 (max a b)) (w' := w) rfl rfl (x_max rfl rfl) ?_
    refine r_val (v := Value.int .i64 (min a b)) (w' := w) rfl rfl (rfl) ?_
    refine r_val (v := Value.int .i64 (max a b)) (w' := w) rfl rfl (rfl) ?_
    refine r_nil ?_
    refine ends_sub [(0, Value.map (some bm)), (1, Value.int .i64 (min a b)), (2, Value.int .i64 (max a b))] ⟨rfl, rfl, rfl, trivial⟩ ?_
    refine e_then ?_
    refine k_seq ?_
    refine k_region ?_
    refine r_val (v := Value.map (some bm)) (w' := w) rfl rfl (rfl) ?_
    refine r_val (v := Value.int .i64 (min a b)) (w' := w) rfl rfl (rfl) ?_
    refine r_val (v := g.v) (w' := w) rfl rfl (x_lookupS (hM1.get 0 rfl) (mget_some (List.mem_map.2 ⟨g, gm, rfl⟩) gk (ents_knd hG)) rfl rfl rfl rfl rfl) ?_
    refine r_val (v := Value.map (some bm)) (w' := w) rfl rfl (rfl) ?_
    refine r_val (v := Value.int .i64 (max a b)) (w' := w) rfl rfl (rfl) ?_
    refine r_val (v := q.v) (w' := w) rfl rfl (x_lookupS (hM1.get 0 rfl) (mget_some (List.mem_map.2 ⟨q, qm, rfl⟩) qk (ents_knd hG)) rfl rfl rfl rfl rfl) ?_
    have hL2 : Holds w q.L := (hM1.tail.right.left).holds
    refine r_append (bytes := 8) (z := .int .i64 0) (A := A2) (m := q.xs.length) (c := c2) (news := q.xs.map (.int .i64)) hrow1 (hM1.perm List.perm_middle.symm) hA2 (by simp) (hrow2.cell hL2) (by simp [Value.oneCell']) (by have := hlen g gm; have := hlen q qm; omega) (by kernel_rfl) (by kernel_rfl) rfl (by decide) (by decide) rfl rfl (by exact hv2) ?_
    intro v1 L1 w2 hr1 hM3
    replace hM3 := (hM3).perm List.perm_middle
    rw [← List.map_append] at hr1
    replace hM3 : Mem w (keys (GL bm gs ck)) w2 ((bm, mapO (gs.map Grp.ent) ck) :: (L1 ++ (q.L ++ R))) := hM3
    refine r_val (v := v1) (w' := w2) rfl rfl (rfl) ?_
    refine r_nil ?_
    refine ends_sub [(0, Value.map (some bm)), (1, Value.int .i64 (min a b)), (2, Value.int .i64 (max a b)), (6, v1)] ⟨rfl, rfl, rfl, rfl, trivial⟩ ?_
    refine e_then ?_
    refine k_seq ?_
    refine k_region ?_
    refine r_val (v := v1) (w' := w2) rfl rfl (rfl) ?_
    refine r_call (f := 40) (args := #[v1]) (w' := w2) rfl rfl (x_call (vs := [v1]) (enter40 _ _) rfl rfl) (sort_s v1 _ (g.xs ++ q.xs) L1 w2 hr1 hM3.tail.left.holds (by have := hlen g gm; have := hlen q qm; omega)) ?_
    rintro v_ w4 ⟨rfl, L2, hr2, hM5⟩
    replace hM5 : Mem w (keys (GL bm gs ck)) w4 ((bm, mapO (gs.map Grp.ent) ck) :: (L2 ++ (q.L ++ R))) := (Mem.call (hM3.perm List.perm_middle.symm) hM5).perm List.perm_middle
    refine r_nil ?_
    refine ends_sub [(0, Value.map (some bm)), (1, Value.int .i64 (min a b)), (2, Value.int .i64 (max a b)), (6, v1)] ⟨rfl, rfl, rfl, rfl, trivial⟩ ?_
    refine e_then ?_
    refine k_seq ?_
    refine k_region ?_
    refine r_val (v := Value.map (some bm)) (w' := w4) rfl rfl (rfl) ?_
    refine r_val (v := Value.int .i64 (min a b)) (w' := w4) rfl rfl (rfl) ?_
    refine r_val (v := v1) (w' := w4) rfl rfl (rfl) ?_
    refine r_mapOld hM5 0 rfl (mget_some (List.mem_map.2 ⟨g, gm, rfl⟩) gk (ents_knd hG)) (ents_knd hG) rfl rfl rfl rfl rfl rfl ?_
    intro w6 hM7
    replace hM7 : Mem w (keys (GL bm gs ck)) w6 ((bm, mapO (mset (min a b) v1 (gs.map Grp.ent)) ck) :: (L2 ++ (q.L ++ R))) := hM7
    refine r_nil ?_
    refine ends_sub [(0, Value.map (some bm)), (2, Value.int .i64 (max a b))] ⟨rfl, rfl, trivial⟩ ?_
    refine e_then ?_
    refine k_region ?_
    refine r_val (v := Value.map (some bm)) (w' := w6) rfl rfl (rfl) ?_
    refine r_val (v := Value.int .i64 (max a b)) (w' := w6) rfl rfl (rfl) ?_
    refine r_delete (k := max a b) hM7 0 rfl (mset_knd (ents_knd hG)) rfl rfl rfl rfl rfl ?_
    intro w8 hM9
    replace hM9 : Mem w (keys (GL bm gs ck)) w8 ((bm, mapO (mdel (max a b) (mset (min a b) v1 (gs.map Grp.ent))) ck) :: (L2 ++ (q.L ++ R))) := hM9
    refine r_nil ?_
    refine ends_sub [] trivial ?_
    refine e_end0 rfl ?_
    have hz : (sortI (g.xs ++ q.xs)).length = g.xs.length + q.xs.length := by rw [sortI_len, List.length_append]
    refine ⟨_, rfl, rfl, joinG g q (sortI (g.xs ++ q.xs)) v1 L2 gs, joinG_GMp hG gm (hz ▸ hr2), joinG_view hG.knd gm qm h gk qk rfl, ?_⟩
    have he := joinG_ents (h := q) (zs := sortI (g.xs ++ q.xs)) (v := v1) (L := L2) hG.knd gm
    rw [gk, qk] at he
    unfold GL
    rw [he]
    exact Mem.right (L := q.L) (Mem.perm hM9 ((List.Perm.cons _ (List.perm_append_comm_assoc L2 q.L R)).trans (List.perm_middle.symm.trans (List.Perm.append_left _ (List.Perm.cons _ (hR ▸ joinG_flat hG.knd gm hne).symm)))))


end Go.Proofs.Ytddacakmafdgdaa
