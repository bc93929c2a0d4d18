/- The row's side: slices of the arguments as they are read. -/
import Derived.Test.YtddacakmafdgdaaBd
import Derived.WalkKit
import Derived.ProofKit
import Derived.OpenShut
import Derived.Deep.Slices
set_option linter.unusedVariables false
set_option linter.unusedSimpArgs false
namespace Go.Kn
open Go.RowKit Go.ChangeShapes Go.WideShapes Go.ChangeAt Go.Deep Go.Proofs.Ytddacakmafdgdaa
section
variable {H : Type} {enc : TypeId × Value → H} {P : Program} {w : World} {base : Nat} {spare : Nat → Bool} {held : Bool}
theorem open_rd {α : Type} [Inhabited α] {en : α → List Value} {sz fuel : Nat} {t e : TypeId} {v : Value} {z : DataW H × List MemPlace} (ht : P.underlying t = some (.slice e)) (hc : P.cellsOf e = sz)
    (hel : ∀ (n : Nat) (cs' : List Value) (y : DataW H × List MemPlace), DataW.trod enc P w base spare held n e cs' = some y → ∃ x : α, cs' = en x ∧ (en x).length = sz)
    (h : DataW.trod enc P w base spare held fuel t [v] = some z) : ∃ (A : Option Addr) (n c : Nat) (l : List α), v = .slice A n c ∧ RdE en sz w A n l ∧ n ≤ c ∧ c ≤ maxLen := by
  rcases open_slice ht h with ⟨h1, _⟩ | ⟨a, len, cap, m, n, D, Pl, h1, hb, hl, hm, hmm, _, hx⟩
  · injection h1 with h1 _
    subst h1
    exact ⟨none, 0, 0, [], rfl, ⟨rfl, by simp, by omega, fun k x i v hk => by simp at hk⟩, Nat.le_refl _, by simp⟩
  · injection h1 with h1 _
    subst h1
    have hlm : len ≤ m := by rw [hmm]; split <;> omega
    obtain ⟨X, hX⟩ := choose_lt (n := len) (α := α) (p := fun i x => (en x).length = sz ∧ ∀ j u, (en x)[j]? = some u → w.cell? ((a.add (i * sz)).add j) = some u) (fun i hi => by
      obtain ⟨cs', h2, h3⟩ := hx i (by omega)
      obtain ⟨x, rfl, h4⟩ := hel n cs' _ h3
      obtain ⟨_, _, h6⟩ := World.cells?_some h2
      exact ⟨x, h4, fun j u hu => by
        have hj := (List.getElem?_eq_some_iff.1 hu).1
        rw [hc] at h6
        have := h6 j (by omega)
        rw [this]; exact hu⟩)
    refine ⟨some a, len, cap, (List.range len).map X, rfl, ⟨by simp, fun x hx => ?_, fun _ => rfl, fun k x i u hk hi => ?_⟩, hl, hm⟩
    · obtain ⟨i, hi, rfl⟩ := List.mem_map.1 hx
      exact (hX i (List.mem_range.1 hi)).1
    · rw [List.getElem?_map] at hk
      obtain ⟨i', hi', rfl⟩ := Option.map_eq_some_iff.1 hk
      have hk2 := List.getElem?_eq_some_iff.1 hi'
      simp at hk2
      obtain ⟨hk3, rfl⟩ := hk2
      have := (hX k hk3).2 i u hi
      rw [add_add] at this
      exact this
end
end Go.Kn
