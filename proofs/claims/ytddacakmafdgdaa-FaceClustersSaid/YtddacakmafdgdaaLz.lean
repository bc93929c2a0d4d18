/- The law on clusters: more pieces. -/
import Derived.Test.YtddacakmafdgdaaLy
import Derived.Test.YtddacakmafdgdaaFl
set_option linter.unusedVariables false
set_option linter.unusedSimpArgs false
namespace Go.Proofs.Ytddacakmafdgdaa
open Go.RowKit Go.Kn Go.Proofs
section
variable {l : List (List Int)} {n : Nat} {f : Nat → Nat} {bs : List Bond3}
theorem row_ids {rows : List ORow} (h : rows.map ORow.xs = idsG l n f) {i x : Nat} {r : ORow} (hr : rows[i]? = some r) (hx : (keysOf n f)[i]? = some x) : r.xs = idsAt l n f x := by
  have h1 : (rows.map ORow.xs)[i]? = some r.xs := by rw [List.getElem?_map, hr]; rfl
  rw [h, ids_get hx] at h1
  injection h1 with h1
  exact h1.symm
theorem keys_lt {i j x y : Nat} (hx : (keysOf n f)[i]? = some x) (hy : (keysOf n f)[j]? = some y) (h : i < j) : x < y := by
  obtain ⟨h1, rfl⟩ := List.getElem?_eq_some_iff.1 hx
  obtain ⟨h2, rfl⟩ := List.getElem?_eq_some_iff.1 hy
  exact List.pairwise_iff_getElem.1 (keysOf_sorted n f) i j h1 h2 h
theorem gap_fine (hg : Kn.Good l) (hn : l.length = n) (hc : checkL l = 0) (hle : ∀ p, p < n → f p ≤ p) {x y : Nat} (hx : isKey n f x) (hy : isKey n f y) : gapErr l (idsAt l n f x) (idsAt l n f y) = 0 := by
  refine gapErr_0 hc (fun z hz => ?_) ?_
  · rcases List.mem_append.1 hz with hz | hz
    all_goals
      obtain ⟨p, hp, _, rfl⟩ := mem_idsAt.1 hz
      exact (atPos_id hg.sorted (by rw [hn]; exact hp)).2
  · rintro (h | h)
    · have := idsAt_first (l := l) hle hx; rw [h] at this; cases this
    · have := idsAt_first (l := l) hle hy; rw [h] at this; cases this
theorem bond_must {limit : Int} (hR : Runs l n (notsOf l bs) limit (firstsOf l bs) f) (hcb : checkB l bs = 0) {b : Bond3} (hb : b ∈ bs) {ja jb : Nat} (hja : (keysOf n f)[ja]? = some (f (atPos l b.a))) (hjb : (keysOf n f)[jb]? = some (f (atPos l b.b))) : (b.must != ((ja : Int) == (jb : Int))) = false := by
  cases hm : b.must with
  | true =>
    have h1 : firstsOf l bs (atPos l b.a) = firstsOf l bs (atPos l b.b) := joinAll_must (m := placeOf l b) (List.mem_map.2 ⟨b, List.mem_filter.2 ⟨hb, hm⟩, rfl⟩)
    have h2 := runs_same hR h1
    rw [h2] at hja
    have := keys_idx_inj hja hjb
    subst this
    simp
  | false =>
    have hmem : placeOf l b ∈ notsOf l bs := List.mem_map.2 ⟨b, List.mem_filter.2 ⟨hb, by simp [hm]⟩, rfl⟩
    have h1 : firstsOf l bs (placeOf l b).1 ≠ firstsOf l bs (placeOf l b).2 := by
      intro e
      have h9 := checkB_apart hcb
      have : apartBad (firstsOf l bs) (notsOf l bs) = true := List.any_eq_true.2 ⟨_, hmem, by simp [e]⟩
      rw [h9] at this; cases this
    have h2 := runs_apart hR hmem h1
    have h3 : ja ≠ jb := by
      intro e
      subst e
      rw [hja] at hjb
      injection hjb with hjb
      exact h2 hjb
    have h4 : ¬ (ja : Int) = (jb : Int) := fun e => h3 (by omega)
    simp [h4]
end
section
variable {P : Program} {w : World} {ρ : Operand → Value} {dst : Option Tmp} {type : TypeId} {pos : String} {after : Array Edge} {guard : Option (Nat × Bool)}
theorem x_lookupOkN {t kt et : TypeId} {kk : IntKind} {x y : Operand} {b : Nat} {es : List Ent} {clock : Nat} {k : Int} {z : Value} (hb : w.heap[b]? = some (mapO es clock)) (hn : mget k es = none) (hx : ρ x = .map (some b)) (hy : ρ y = .int .i64 k) (ht : P.underlying t = some (.map kt et)) (hk : P.underlying kt = some (.int kk)) (hz : (zeroValue et).run P w = .ok z w) :
    (execOp ρ ⟨dst, .lookup t x y true, type, pos, after, guard⟩).run P w = .ok (.value (.tuple #[z, .bool false])) w := by
  have h := x_lookupOk (P := P) (ρ := ρ) (dst := dst) (type := type) (pos := pos) (after := after) (guard := guard) (t := t) hb hx hy ht hk hz
  rw [hn] at h; exact h
theorem x_lenMapE {x : Operand} {t kt et : TypeId} {b m : Nat} {es : List Ent} {clock : Nat} (hm : es.length = m) (hb : w.heap[b]? = some (mapO es clock)) (hx : ρ x = .map (some b)) (ht : (underlying t).run P w = .ok (.map kt et) w) :
    (execOp ρ ⟨dst, .call { callee := .builtin .len, args := #[x], argTypes := #[t] }, type, pos, after, guard⟩).run P w = .ok (.value (.int .i64 (m : Int))) w := by
  rw [← hm]; exact x_lenMap hb hx ht
theorem xp_lookupS {κ : Type} [DecidableEq κ] {enc : κ → Value} {t kt et : TypeId} {x y : Operand} {b : Nat} {es : List (PEnt κ)} {clock : Nat} {k : κ} {z v : Value} (L : KeyLaw P kt enc) (hb : w.heap[b]? = some (pmapO enc es clock)) (hv : pget k es = some v) (hx : ρ x = .map (some b)) (hy : ρ y = enc k) (ht : P.underlying t = some (.map kt et)) (hz : (zeroValue et).run P w = .ok z w) :
    (execOp ρ ⟨dst, .lookup t x y false, type, pos, after, guard⟩).run P w = .ok (.value v) w := by
  have h := xp_lookup (P := P) (ρ := ρ) (dst := dst) (type := type) (pos := pos) (after := after) (guard := guard) (t := t) L hb hx hy ht hz
  rw [hv] at h; exact h
end
end Go.Proofs.Ytddacakmafdgdaa
