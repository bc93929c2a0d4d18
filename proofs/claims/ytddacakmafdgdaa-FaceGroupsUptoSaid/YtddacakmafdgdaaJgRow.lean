/- The row of FaceGroups, of the second form. -/
import Derived.Test.YtddacakmafdgdaaJg9
import Derived.Test.YtddacakmafdgdaaRows
import Derived.WalkKit
import Derived.ProofKit
import Derived.OpenShut
import Derived.JoinedCond
import Derived.Carry
set_option linter.unusedVariables false
set_option linter.unusedSimpArgs false
namespace Go.Proofs.Ytddacakmafdgdaa.groups
open Go.RowKit Go.ChangeShapes Go.WideShapes Go.ChangeAt Go.Deep Go.Kn
theorem own : ownKnob Try.prog.godebug = none := by kernel_rfl
theorem laidOut : laidOutB Try.prog = true := by kernel_rfl
theorem u3 : Try.prog.underlying tInt = some (.int .i64) := by kernel_rfl
theorem c3 : Try.prog.cellsOf tInt = 1 := by kernel_rfl
theorem c30 : Try.prog.cellsOf 30 = 1 := by kernel_rfl
set_option maxRecDepth 100000 in
theorem lifted (os : Os) (started : os.Started) (H : Type) (enc : TypeId × Value → H) (F : Stop.Interp) :
    ReturnsInHanded {} Try.checked os 4 .any ((Rows.OpenSpec.upto Rows.faceGroupsSpec).pre6 enc Try.prog Try.f4 Rows.faceGroupsUptoRow.domain false) (((Rows.OpenSpec.upto Rows.faceGroupsSpec).at F).post enc Try.prog Try.f4 false true false false) := by
  refine returnsInHanded_of_cond (C := Try.checked) (s := Rows.OpenSpec.upto Rows.faceGroupsSpec) (k := Rows.uptoSmall) rfl own started (by kernel_rfl) Try.func4
    (OpenSpec.witness (enc := enc) (C := Try.checked) (s := Rows.OpenSpec.upto Rows.faceGroupsSpec) (k := Rows.uptoSmall) rfl false ⟨#[], #[.slice none 0 0, .slice none 0 0, .int .i64 0, .slice none 0 0, .slice none 0 0, .slice none 0 0], []⟩ 8 (by kernel_rfl) (by kernel_rfl) (by kernel_rfl)
      (x := ([.nil, .nil, .lit (.int .i64 0), .nil, .nil, .nil], [], [])) (by kernel_rfl) rfl (by kernel_rfl)) ?_
  intro W base args ds gs before hval0 hW9 _ hk _
  have hW : DataW.Whole enc Try.prog Try.f4.params.toList Rows.faceGroupsSpec.vars false W args.toList ds gs before := hW9
  show Calls Try.prog 4 args W fun e W' => ∃ v, e = .returned v ∧ Rows.faceGroupsSpec.post enc Try.prog Try.f4 false true false false W args v W'
  clear hW9
  have hval : ∀ (j : Nat) t v, Try.f4.params[j]? = some t → args[j]? = some v → Value.okWide Try.prog W .any base t v := hval0
  have hW' := hW
  obtain ⟨p, q, hA0, hV, rfl, _, _⟩ := hW
  have hA : DataW.TrodAll enc Try.prog W 0 (fun _ => true) true Try.f4.params.toList args.toList ds p := hA0
  rw [Try.params4] at hA hval
  obtain ⟨v0, vs0, d0, ds0, p0, q0, hargs, rfl, rfl, h0, r0⟩ := trodAll_cons hA
  obtain ⟨v1, vs1, d1, ds1, p1, q1, rfl, rfl, rfl, h1, r1⟩ := trodAll_cons r0
  obtain ⟨v2, vs2, d2, ds2, p2, q2, rfl, rfl, rfl, h2, r2⟩ := trodAll_cons r1
  obtain ⟨v3, vs3, d3, ds3, p3, q3, rfl, rfl, rfl, h3, r3⟩ := trodAll_cons r2
  obtain ⟨v4, vs4, d4, ds4, p4, q4, rfl, rfl, rfl, h4, r4⟩ := trodAll_cons r3
  obtain ⟨v5, vs5, d5, ds5, p5, q5, rfl, rfl, rfl, h5, r5⟩ := trodAll_cons r4
  obtain ⟨rfl, rfl, rfl⟩ := trodAll_nil r5
  obtain rfl : args = #[v0, v1, v2, v3, v4, v5] := by cases args; simp_all
  obtain ⟨rfl, rfl⟩ := trodVars_none hV
  obtain ⟨n, rfl, rfl, rfl, wn⟩ := open_int Try.underlying3 (hval 2 3 v2 rfl rfl) h2
  have hbu := bulks.bound hk
  rw [List.append_nil] at hbu
  have hb0 := bulks.part_le (d := d0) (l := [d0, d1, .lit (.int .i64 n), d3, d4, d5]) (by simp)
  have hb1 := bulks.part_le (d := d1) (l := [d0, d1, .lit (.int .i64 n), d3, d4, d5]) (by simp)
  have hb3 := bulks.part_le (d := d3) (l := [d0, d1, .lit (.int .i64 n), d3, d4, d5]) (by simp)
  have hb4 := bulks.part_le (d := d4) (l := [d0, d1, .lit (.int .i64 n), d3, d4, d5]) (by simp)
  have hb5 := bulks.part_le (d := d5) (l := [d0, d1, .lit (.int .i64 n), d3, d4, d5]) (by simp)
  have h0k := h0
  have h1k := h1
  have h3k := h3
  have h4k := h4
  have h5k := h5
  obtain ⟨A0, L0, C0, rfl⟩ := okWide_slice Try.underlying22 (hval 0 22 v0 rfl rfl)
  obtain ⟨A1, L1, C1, rfl⟩ := okWide_slice Try.underlying23 (hval 1 23 v1 rfl rfl)
  obtain ⟨A3, L3, C3, rfl⟩ := okWide_slice Try.underlying30 (hval 3 30 v3 rfl rfl)
  obtain ⟨A4, L4, C4, rfl⟩ := okWide_slice Try.underlying30 (hval 4 30 v4 rfl rfl)
  obtain ⟨A5, L5, C5, rfl⟩ := okWide_slice Try.underlying25 (hval 5 25 v5 rfl rfl)
  obtain ⟨f0, hf0⟩ := h0
  obtain ⟨f1, hf1⟩ := h1
  obtain ⟨f3, hf3⟩ := h3
  obtain ⟨f4, hf4⟩ := h4
  obtain ⟨f5, hf5⟩ := h5
  clear hA0 hval0
  simp only [List.append_nil, List.nil_append] at hW'
  have hlt : ∀ x ∈ p0 ++ (p1 ++ (p3 ++ (p4 ++ p5))), x.block < W.heap.size := fun x hx => by simpa using hW'.lt x (by simpa using hx)
  obtain ⟨B0, n0, c0, l, e0, hl, ds0, sp0, hz0, hd0, _⟩ := open_rdP (p := fun _ _ => True) (en := intsE) (sz := 14) Try.underlying22 (by kernel_rfl) (fun n cs y h => by obtain ⟨x, hx, hx2⟩ := like_el n cs y h; exact ⟨x, hx, hx2, trivial⟩) hf0
  obtain ⟨B1, n1, c1, bs, e1, hb, ds1, sp1, hz1, hd1, _⟩ := open_rdP (p := fun _ _ => True) (en := bondE) (sz := 3) Try.underlying23 (by kernel_rfl) (fun n cs y h => by obtain ⟨x, hx, hx2⟩ := bond_el n cs y h; exact ⟨x, hx, hx2, trivial⟩) hf1
  have hn0 := bulk_len hz0 hd0
  have hn1 := bulk_len hz1 hd1
  obtain ⟨B3, c3', xs, e3, ha, hn3⟩ := open_ints u3 c3 Try.underlying30 hf3
  obtain ⟨B4, c4', ys, e4, hy, hn4⟩ := open_ints u3 c3 Try.underlying30 hf4
  obtain ⟨B5, n5, c5', ro, e5, ho, hoe, hn5, hs5⟩ := open_rows u3 c3 Try.underlying30 c30 Try.underlying25 hf5
  injection e0 with e0 e0' e0''
  injection e1 with e1 e1' e1''
  injection e3 with e3 e3' e3''
  injection e4 with e4 e4' e4''
  injection e5 with e5 e5' e5''
  subst e0; subst e0'; subst e0''; subst e1; subst e1'; subst e1''; subst e3; subst e3'; subst e3''; subst e4; subst e4'; subst e4''; subst e5; subst e5'; subst e5''
  refine (faceGroups_s _ _ _ _ _ _ _ _ _ _ _ _ _ l bs n xs ys ro W hl hb ha hy ⟨ho, hoe⟩ (by dsimp only at *; omega) (by dsimp only at *; omega) (by dsimp only at *; omega) (by dsimp only at *; omega) (by dsimp only at *; omega) (by dsimp only at *; omega)).mono ?_
  rintro e W' ⟨r, rfl, rfl, hM⟩
  have hnx : Below W.heap.size W W' := hM.kept.below
  have a0 := Below.trod laidOut (by kernel_rfl) (of_decide_eq_true (by kernel_rfl)) h0k hnx (fun x hx => hlt x (by simp [hx]))
  have a1 := Below.trod laidOut (by kernel_rfl) (of_decide_eq_true (by kernel_rfl)) h1k hnx (fun x hx => hlt x (by simp [hx]))
  have a3 := Below.trod laidOut (by kernel_rfl) (of_decide_eq_true (by kernel_rfl)) h3k hnx (fun x hx => hlt x (by simp [hx]))
  have a4 := Below.trod laidOut (by kernel_rfl) (of_decide_eq_true (by kernel_rfl)) h4k hnx (fun x hx => hlt x (by simp [hx]))
  have a5 := Below.trod laidOut (by kernel_rfl) (of_decide_eq_true (by kernel_rfl)) h5k hnx (fun x hx => hlt x (by simp [hx]))
  exact ⟨_, rfl, _, _, _, [], p0 ++ (p1 ++ ([] ++ (p3 ++ (p4 ++ (p5 ++ []))))), [], hW', trodAll_cons_mk (shut_bool Try.underlying4 _) trodAll_mk0, trodAll_cons_mk a0 (trodAll_cons_mk a1 (trodAll_cons_mk (shut_int Try.underlying3 wn) (trodAll_cons_mk a3 (trodAll_cons_mk a4 (trodAll_cons_mk a5 trodAll_mk0))))), rfl, hnx.frame _, fun h => by cases h⟩
theorem over : Rows.faceGroupsUptoRow.holds Try.pinned (Rows.OpenSpec.upto Rows.faceGroupsSpec) :=
  OpenClaim.holds_of_cond 4 Try.f4 rfl rfl rfl rfl rfl rfl rfl ⟨rfl, rfl, rfl, rfl, rfl⟩ rfl rfl rfl rfl rfl (by kernel_rfl) Try.func4 (by kernel_rfl)
    (of_decide_eq_true (by kernel_rfl)) (by unfold Func.isWrapper; first | (rw [if_pos (by decide +kernel)]; kernel_rfl) | (rw [if_neg (by decide +kernel)]; exact ⟨rfl, rfl⟩))
    (fun os started H enc _ F => lifted os started H enc F)
theorem proved : Rows.FaceGroupsUptoSaid := over
end Go.Proofs.Ytddacakmafdgdaa.groups
