/- Fl: what Go functions of this seat come to, printed by walk.py over the engine. -/
import Derived.Test.YtddacakmafdgdaaFk
import Derived.Test.YtddacakmafdgdaaCe
set_option linter.unusedVariables false
set_option linter.unusedSimpArgs false
set_option maxRecDepth 100000
namespace Go.Proofs.Ytddacakmafdgdaa
open Go.RowKit Go.Kn

theorem cluster_s (Al Ab : Option Addr) (nl cl nb cb : Nat) (l : List (List Int)) (bs : List Bond3) (limit : Int) (w : World) (hl : RdE intsE 14 w Al nl l) (hb : RdE bondE 3 w Ab nb bs) :
    Calls Try.prog 6 #[Value.slice Al nl cl, Value.slice Ab nb cb, Value.int .i64 limit] w fun e w' => ∃ r, e = .returned r ∧ ∃ gv e, r = .tuple #[gv, .int .i64 e] ∧ e = clErr l bs limit ∧ (e ≠ 0 → gv = .slice none 0 0) ∧ (e = 0 → ∃ fE, (Runs l nl (notsOf l bs) limit (firstsOf l bs) fE ∧ Stop l nl (notsOf l bs) limit fE ∧ (∀ p, p < nl → fE p ≤ p) ∧ ∀ p, p < nl → fE (fE p) = fE p) ∧ ∃ (A : Option Addr) (rows : List ORow), gv = .slice A rows.length rows.length ∧ rows.map ORow.xs = idsG l nl fE ∧ ∃ (c : Nat) (Lo : Hp), OwnR tInts 1 (.slice A rows.length c) rows.length (rows.map rowV) Lo ∧ (∀ r ∈ rows, r.ok) ∧ Mem w No w' (Lo ++ rows.flatMap ORow.L)) ∧ Mem w No w' [] := by
  refine calls_k (args := [Value.slice Al nl cl, Value.slice Ab nb cb, Value.int .i64 limit]) 23 [(0, Value.slice Al nl cl), (1, Value.slice Ab nb cb), (2, Value.int .i64 limit)] Try.func6 rfl rfl ⟨rfl, rfl, rfl, trivial⟩ ?_
  have hM := Mem.nil w No
  have hbl := hb.len
  have hll := hl.len
  refine k_seq ?_
  refine k_region ?_
  refine r_val (v := Value.slice none 0 0) (w' := w) rfl rfl (rfl) ?_
  refine r_val (v := Value.int .i64 0) (w' := w) rfl rfl (rfl) ?_
  refine r_nil ?_
  refine ends_sub [(0, Value.slice Al nl cl), (1, Value.slice Ab nb cb), (2, Value.int .i64 limit)] ⟨rfl, rfl, rfl, trivial⟩ ?_
  refine e_then ?_
  refine k_seq ?_
  refine k_seq ?_
  refine k_region ?_
  refine r_val (v := Value.slice Al nl cl) (w' := w) rfl rfl (rfl) ?_
  refine r_val (v := Value.slice Ab nb cb) (w' := w) rfl rfl (rfl) ?_
  refine r_call (f := 17) (args := #[Value.slice Al nl cl, Value.slice Ab nb cb]) (w' := w) rfl rfl (x_call (vs := [Value.slice Al nl cl, Value.slice Ab nb cb]) (enter17 _ _) rfl rfl) (checkBonds_s Al Ab nl cl nb cb l bs w (hl.up hM) (hb.up hM)) ?_
  rintro v_ w1 ⟨rfl, hM2⟩
  replace hM2 := hM.grow hM2.kept
  refine r_val (v := Value.int .i64 (checkB l bs)) (w' := w1) rfl rfl (rfl) ?_
  refine r_nil ?_
  refine ends_sub [(0, Value.slice Al nl cl), (1, Value.slice Ab nb cb), (2, Value.int .i64 limit), (8, Value.int .i64 (checkB l bs))] ⟨rfl, rfl, rfl, rfl, trivial⟩ ?_
  refine e_then ?_
  refine k_seq ?_
  refine k_region ?_
  refine r_val (v := Value.int .i64 (checkB l bs)) (w' := w1) rfl rfl (rfl) ?_
  refine r_val (v := Value.bool ((checkB l bs) != 0)) (w' := w1) rfl rfl (rfl) ?_
  refine r_nil ?_
  refine ends_sub [(0, Value.slice Al nl cl), (1, Value.slice Ab nb cb), (2, Value.int .i64 limit), (8, Value.int .i64 (checkB l bs)), (13, Value.bool ((checkB l bs) != 0))] ⟨rfl, rfl, rfl, rfl, rfl, trivial⟩ ?_
  refine e_then ?_
  refine k_cond rfl rfl (fun h => ?_) (fun h => ?_)
  · try simp only [decide_eq_true_eq, decide_eq_false_iff_not, Bool.and_eq_true, Bool.or_eq_true, Bool.or_eq_false_iff, Bool.not_eq_true', Bool.not_eq_false', beq_iff_eq, bne_iff_ne, beq_eq_false_iff_ne, bne_eq_false_iff_eq, Int.not_lt, Int.not_le, ne_eq, Bool.not_eq_true, Bool.not_eq_false] at h
    refine k_seq ?_
    refine k_region ?_
    refine r_val (v := Value.int .i64 (checkB l bs)) (w' := w1) rfl rfl (rfl) ?_
    refine r_val (v := Value.slice none 0 0) (w' := w1) rfl rfl (rfl) ?_
    refine r_val (v := Value.int .i64 (checkB l bs)) (w' := w1) rfl rfl (rfl) ?_
    refine r_nil ?_
    refine ends_sub [(6, Value.slice none 0 0), (7, Value.int .i64 (checkB l bs))] ⟨rfl, rfl, trivial⟩ ?_
    refine e_then ?_
    refine k_ret ?_
    refine e_then_ret ?_
    refine e_ret2 rfl rfl rfl ?_
    exact ⟨_, rfl, _, _, rfl, by rw [clErr, if_pos h], fun _ => rfl, fun h0 => absurd h0 (h), hM2.drop⟩
  · try simp only [decide_eq_true_eq, decide_eq_false_iff_not, Bool.and_eq_true, Bool.or_eq_true, Bool.or_eq_false_iff, Bool.not_eq_true', Bool.not_eq_false', beq_iff_eq, bne_iff_ne, beq_eq_false_iff_ne, bne_eq_false_iff_eq, Int.not_lt, Int.not_le, ne_eq, Bool.not_eq_true, Bool.not_eq_false] at h
    refine k_skip ?_
    refine e_then ?_
    refine k_seq ?_
    refine k_seq ?_
    refine k_region ?_
    refine r_val (v := Value.int .i64 limit) (w' := w1) rfl rfl (rfl) ?_
    refine r_call (f := 21) (args := #[Value.int .i64 limit, Value.int .i64 0, Value.int .i64 774192]) (w' := w1) rfl rfl (x_call (vs := [Value.int .i64 limit, Value.int .i64 0, Value.int .i64 774192]) (enter21 _ _) rfl rfl) (outside_s limit 0 774192 w1) ?_
    rintro v_ w3 ⟨rfl, hM4⟩
    replace hM4 := hM2.grow hM4.kept
    refine r_nil ?_
    refine ends_sub [(0, Value.slice Al nl cl), (1, Value.slice Ab nb cb), (2, Value.int .i64 limit), (16, Value.bool (outN limit 0 774192))] ⟨rfl, rfl, rfl, rfl, trivial⟩ ?_
    refine e_then ?_
    refine k_cond rfl rfl (fun h2 => ?_) (fun h2 => ?_)
    · try simp only [decide_eq_true_eq, decide_eq_false_iff_not, Bool.and_eq_true, Bool.or_eq_true, Bool.or_eq_false_iff, Bool.not_eq_true', Bool.not_eq_false', beq_iff_eq, bne_iff_ne, beq_eq_false_iff_ne, bne_eq_false_iff_eq, Int.not_lt, Int.not_le, ne_eq, Bool.not_eq_true, Bool.not_eq_false] at h2
      refine k_seq ?_
      refine k_region ?_
      refine r_val (v := Value.slice none 0 0) (w' := w3) rfl rfl (rfl) ?_
      refine r_val (v := Value.int .i64 2) (w' := w3) rfl rfl (rfl) ?_
      refine r_nil ?_
      refine ends_sub [(6, Value.slice none 0 0), (7, Value.int .i64 2)] ⟨rfl, rfl, trivial⟩ ?_
      refine e_then ?_
      refine k_ret ?_
      refine e_then_ret ?_
      refine e_ret2 rfl rfl rfl ?_
      exact ⟨_, rfl, _, _, rfl, by rw [clErr, if_neg (by simp [h]), if_pos h2], fun _ => rfl, fun h0 => absurd h0 (by decide), hM4.drop⟩
    · try simp only [decide_eq_true_eq, decide_eq_false_iff_not, Bool.and_eq_true, Bool.or_eq_true, Bool.or_eq_false_iff, Bool.not_eq_true', Bool.not_eq_false', beq_iff_eq, bne_iff_ne, beq_eq_false_iff_ne, bne_eq_false_iff_eq, Int.not_lt, Int.not_le, ne_eq, Bool.not_eq_true, Bool.not_eq_false] at h2
      refine k_skip ?_
      refine e_then ?_
      refine k_seq ?_
      refine k_region ?_
      have hc := checkB_ok h
      have hgd := good_of hc.1 (fun x hx => by have := hl.size x hx; simpa using this)
      have hl3 : nl ≤ 300 := by have := hgd.len; omega
      have hlim : 0 ≤ limit ∧ limit ≤ 774192 := by simp [outN] at h2; omega
      have hf := musts_lt hgd.sorted hc.2.2
      have hf2 := nots_lt hgd.sorted hc.2.2
      have hnb := hc.2.1
      have hml := musts_len (l := l) (bs := bs) (k := nb)
      have hnl := nots_len (l := l) (bs := bs) (k := nb)
      rw [List.take_of_length_le (by omega)] at hml hnl
      refine r_val (v := Value.slice Al nl cl) (w' := w3) rfl rfl (rfl) ?_
      refine r_val (v := Value.slice Al nl cl) (w' := w3) rfl rfl (rfl) ?_
      refine r_val (v := Value.slice Ab nb cb) (w' := w3) rfl rfl (rfl) ?_
      refine r_call (f := 23) (args := #[Value.slice Al nl cl, Value.slice Ab nb cb]) (w' := w3) rfl rfl (x_call (vs := [Value.slice Al nl cl, Value.slice Ab nb cb]) (enter23 _ _) rfl rfl) (bondsOf_s Al Ab nl cl nb cb l bs w3 (hl.up hM4) (hb.up hM4) hgd.sorted hl3 (by omega)) ?_
      rintro v_ w5 ⟨v1, v2, L1, L2, rfl, ⟨hr1, hr2⟩, hM6⟩
      replace hM6 : Mem w No w5 (L1 ++ L2) := by simpa using Mem.call0 hM4.drop hM6
      obtain ⟨A1, c1, rfl, hnc1, hcx1, hA1⟩ := hr1.slice
      obtain ⟨A2, c2, rfl, hnc2, hcx2, hA2x⟩ := hr2.slice
      refine r_val (v := Value.int .i64 limit) (w' := w5) rfl rfl (rfl) ?_
      refine r_call (f := 22) (args := #[Value.slice Al nl cl, Value.agg (#[Value.slice A1 (mustsOf l bs).length c1, Value.slice A2 (notsOf l bs).length c2]), Value.int .i64 limit]) (w' := w5) rfl rfl (x_call (vs := [Value.slice Al nl cl, Value.agg (#[Value.slice A1 (mustsOf l bs).length c1, Value.slice A2 (notsOf l bs).length c2]), Value.int .i64 limit]) (enter22 _ _) rfl rfl) (clustered_s Al A1 A2 nl cl (mustsOf l bs).length c1 (notsOf l bs).length c2 l (mustsOf l bs) (notsOf l bs) limit w5 (hl.up hM6) hgd (hr1.rd (Mem.left (L := L1) (L' := L2) hM6).holds (by simp) (by decide)) (hr2.rd (Mem.right (L := L1) (L' := L2) hM6).holds (by simp) (by decide)) (fun m hm => hll ▸ hf m hm) (fun m hm => hll ▸ hf2 m hm) hl3 (by omega) (by omega) hlim.1 hlim.2) ?_
      rintro v_ w7 ⟨fE, hRS, A, rows, rfl, hrx, c9, Lo, hro, hrk, hM8⟩
      replace hM8 : Mem w No w7 (Lo ++ rows.flatMap ORow.L) := by simpa using Mem.call0 hM6.drop hM8
      refine r_val (v := Value.slice A rows.length rows.length) (w' := w7) rfl rfl (rfl) ?_
      refine r_val (v := Value.int .i64 0) (w' := w7) rfl rfl (rfl) ?_
      refine r_nil ?_
      refine ends_sub [(6, Value.slice A rows.length rows.length), (7, Value.int .i64 0)] ⟨rfl, rfl, trivial⟩ ?_
      refine e_then ?_
      refine k_ret ?_
      refine e_ret2 rfl rfl rfl ?_
      exact ⟨_, rfl, _, _, rfl, by rw [clErr, if_neg (by simp [h]), if_neg (by simp [h2])], fun h0 => absurd rfl h0, fun _ => ⟨fE, hRS, A, rows, rfl, hrx, c9, Lo, hro, hrk, hM8⟩, hM8.drop⟩


end Go.Proofs.Ytddacakmafdgdaa
