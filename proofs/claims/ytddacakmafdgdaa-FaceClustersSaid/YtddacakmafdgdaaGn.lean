/- The next two groups. -/
import Derived.Test.YtddacakmafdgdaaGm
import Derived.Test.YtddacakmafdgdaaKnU
set_option linter.unusedVariables false
set_option linter.unusedSimpArgs false
namespace Go.Kn
open Go.RowKit Go.Proofs.Ytddacakmafdgdaa
section
variable {g : Nat → Nat → Int} {a : Nat → Nat → Bool} {limit : Int} {ks : List Nat} {D E : Nat → Nat → Prop} {x y u v : Nat} {least : Int} {i j k : Nat}
def Cand (g : Nat → Nat → Int) (a : Nat → Nat → Bool) (limit : Int) (ks : List Nat) (i j x y : Nat) : Prop := ks[i]? = some x ∧ ks[j]? = some y ∧ a x y = false ∧ g x y ≤ limit
def Best (g : Nat → Nat → Int) (a : Nat → Nat → Bool) (limit : Int) (ks : List Nat) (D : Nat → Nat → Prop) (x y : Nat) (least : Int) : Prop :=
  (least = limit + 1 ∧ ∀ i j u v, D i j → ¬ Cand g a limit ks i j u v) ∨
  (∃ i0 j0, D i0 j0 ∧ Cand g a limit ks i0 j0 x y ∧ least = g x y ∧ ∀ i j u v, D i j → Cand g a limit ks i j u v → g x y < g u v ∨ (g x y = g u v ∧ (i0 < i ∨ (i0 = i ∧ j0 ≤ j))))
/-- pairs of places that have been looked at -/
def upP (n i k : Nat) (p q : Nat) : Prop := p < q ∧ q < n ∧ (p < i ∨ (p = i ∧ q < i + 1 + k))
theorem best_none (g : Nat → Nat → Int) (a : Nat → Nat → Bool) (limit : Int) (ks : List Nat) (n : Nat) : Best g a limit ks (upP n 0 0) 0 0 (limit + 1) :=
  .inl ⟨rfl, fun i j u v hd => by unfold upP at hd; omega⟩
theorem best_congr (h : Best g a limit ks D x y least) (hD : ∀ i j, D i j ↔ E i j) : Best g a limit ks E x y least := by
  have : D = E := by funext i j; exact propext (hD i j)
  rw [← this]; exact h
theorem best_row {n : Nat} (hk : n ≤ i + 1 + k) (h : Best g a limit ks (upP n i k) x y least) : Best g a limit ks (upP n (i + 1) 0) x y least :=
  best_congr h (fun p q => by unfold upP; omega)
/-- the pair at (i, i + 1 + k) is better -/
theorem best_yes {n : Nat} (hi : ks[i]? = some u) (hj : ks[i + 1 + k]? = some v) (hn : i + 1 + k < n) (h : Best g a limit ks (upP n i k) x y least) (ha : a u v = false) (hg : g u v < least) : Best g a limit ks (upP n i (k + 1)) u v (g u v) := by
  have hlim : g u v ≤ limit := by
    rcases h with ⟨h1, _⟩ | ⟨_, _, _, hc, h2, _⟩
    · omega
    · have := hc.2.2.2; omega
  refine .inr ⟨i, i + 1 + k, by unfold upP; omega, ⟨hi, hj, ha, hlim⟩, rfl, fun p q r s hd hc => ?_⟩
  by_cases hold : upP n i k p q
  · left
    rcases h with ⟨_, h2⟩ | ⟨_, _, _, _, h3, h4⟩
    · exact absurd hc (h2 p q r s hold)
    · have := h4 p q r s hold hc; omega
  · have hp : p = i ∧ q = i + 1 + k := by unfold upP at hd hold; omega
    obtain ⟨rfl, rfl⟩ := hp
    obtain ⟨h5, h6, _⟩ := hc
    rw [hi] at h5; rw [hj] at h6
    injection h5 with h5; injection h6 with h6
    subst h5; subst h6
    right; exact ⟨rfl, .inr ⟨rfl, Nat.le_refl _⟩⟩
theorem best_no {n : Nat} (hi : ks[i]? = some u) (hj : ks[i + 1 + k]? = some v) (h : Best g a limit ks (upP n i k) x y least) (hno : a u v = true ∨ least ≤ g u v) : Best g a limit ks (upP n i (k + 1)) x y least := by
  have hnew : ∀ p q, upP n i (k + 1) p q → ¬ upP n i k p q → p = i ∧ q = i + 1 + k := by intro p q hd hold; unfold upP at hd hold; omega
  have hmono : ∀ p q, upP n i k p q → upP n i (k + 1) p q := by intro p q; unfold upP; omega
  rcases h with ⟨h1, h2⟩ | ⟨i0, j0, hd0, hc0, h3, h4⟩
  · refine .inl ⟨h1, fun p q r s hd hc => ?_⟩
    by_cases hold : upP n i k p q
    · exact h2 p q r s hold hc
    · obtain ⟨rfl, rfl⟩ := hnew p q hd hold
      obtain ⟨h5, h6, h7, h8⟩ := hc
      rw [hi] at h5; rw [hj] at h6
      injection h5 with h5; injection h6 with h6
      subst h5; subst h6
      rcases hno with h9 | h9
      · rw [h9] at h7; cases h7
      · omega
  · refine .inr ⟨i0, j0, hmono _ _ hd0, hc0, h3, fun p q r s hd hc => ?_⟩
    by_cases hold : upP n i k p q
    · exact h4 p q r s hold hc
    · obtain ⟨rfl, rfl⟩ := hnew p q hd hold
      obtain ⟨h5, h6, h7, h8⟩ := hc
      rw [hi] at h5; rw [hj] at h6
      injection h5 with h5; injection h6 with h6
      subst h5; subst h6
      rcases hno with h9 | h9
      · rw [h9] at h7; cases h7
      · have hb : i0 < p ∨ (i0 = p ∧ j0 ≤ p + 1 + k) := by unfold upP at hd0; omega
        by_cases he : g x y = g u v
        · exact .inr ⟨he, hb⟩
        · left; omega
end
abbrev natsI (ks : List Nat) : List Int := ks.map fun (k : Nat) => (k : Int)
theorem natsI_get {ks : List Nat} {i x : Nat} (h : ks[i]? = some x) : (natsI ks)[i]? = some (x : Int) := by simp [natsI, h]
end Go.Kn
