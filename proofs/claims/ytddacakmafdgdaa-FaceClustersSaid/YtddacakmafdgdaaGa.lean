/- Gap: what it says. -/
import Derived.Test.YtddacakmafdgdaaFm
set_option linter.unusedVariables false
set_option linter.unusedSimpArgs false
namespace Go.Kn
open Go.RowKit Go.Proofs.Ytddacakmafdgdaa
def gapErr (l : List (List Int)) (xs ys : List Int) : Int := if checkL l ≠ 0 then checkL l else if (xs ++ ys).all (atOk l) = false then 7 else if xs = [] ∨ ys = [] then 7 else 0
def GapL (l : List (List Int)) (xs ys : List Int) (D : Nat → Nat → Prop) (g : Int) : Prop :=
  ∀ v, v ≤ g ↔ v ≤ 774192 ∧ ∀ p q x y, D p q → xs[p]? = some x → ys[q]? = some y → v ≤ farAt l (atPos l x) (atPos l y)
/-- the least Far of two lists of Ids -/
def GapAll (l : List (List Int)) (xs ys : List Int) (g : Int) : Prop := ∀ v, v ≤ g ↔ v ≤ 774192 ∧ ∀ x ∈ xs, ∀ y ∈ ys, v ≤ farAt l (atPos l x) (atPos l y)
def upQ (i k : Nat) (p q : Nat) : Prop := p < i ∨ (p = i ∧ q < k)
section
variable {l : List (List Int)} {xs ys : List Int} {g : Int} {i k : Nat} {x y : Int}
theorem gapL_none : GapL l xs ys (upQ 0 0) 774192 := by
  intro v
  exact ⟨fun h => ⟨h, fun p q x y hd => by unfold upQ at hd; omega⟩, fun h => h.1⟩
theorem gapL_row (h : GapL l xs ys (upQ i k) g) (hk : ys.length ≤ k) : GapL l xs ys (upQ (i + 1) 0) g := by
  intro v
  rw [h v]
  constructor
  · rintro ⟨h1, h2⟩
    refine ⟨h1, fun p q x y hd hx hy => h2 p q x y ?_ hx hy⟩
    have := (List.getElem?_eq_some_iff.1 hy).1
    unfold upQ at *; omega
  · rintro ⟨h1, h2⟩
    exact ⟨h1, fun p q x y hd hx hy => h2 p q x y (by unfold upQ at *; omega) hx hy⟩
theorem gapL_step (h : GapL l xs ys (upQ i k) g) (hx : xs[i]? = some x) (hy : ys[k]? = some y) : GapL l xs ys (upQ i (k + 1)) (min g (farAt l (atPos l x) (atPos l y))) := by
  intro v
  rw [Int.le_min, h v]
  constructor
  · rintro ⟨⟨h1, h2⟩, h3⟩
    refine ⟨h1, fun p q x' y' hd hx' hy' => ?_⟩
    by_cases hold : upQ i k p q
    · exact h2 p q x' y' hold hx' hy'
    · have : p = i ∧ q = k := by unfold upQ at *; omega
      obtain ⟨rfl, rfl⟩ := this
      rw [hx] at hx'; rw [hy] at hy'
      injection hx' with hx'; injection hy' with hy'
      subst hx'; subst hy'
      exact h3
  · rintro ⟨h1, h2⟩
    exact ⟨⟨h1, fun p q x' y' hd => h2 p q x' y' (by unfold upQ at *; omega)⟩, h2 i k x y (by unfold upQ; omega) hx hy⟩
theorem gapL_all (h : GapL l xs ys (upQ xs.length 0) g) : GapAll l xs ys g := by
  intro v
  rw [h v]
  constructor
  · rintro ⟨h1, h2⟩
    refine ⟨h1, fun x hx y hy => ?_⟩
    obtain ⟨p, hp⟩ := List.mem_iff_getElem?.1 hx
    obtain ⟨q, hq⟩ := List.mem_iff_getElem?.1 hy
    exact h2 p q x y (.inl (List.getElem?_eq_some_iff.1 hp).1) hp hq
  · rintro ⟨h1, h2⟩
    exact ⟨h1, fun p q x y _ hx hy => h2 x (List.mem_of_getElem? hx) y (List.mem_of_getElem? hy)⟩
theorem gapErr_1 (h : checkL l ≠ 0) : gapErr l xs ys = checkL l := if_pos h
theorem gapErr_2 (h : checkL l = 0) {z : Int} (hz : z ∈ xs ++ ys) (h2 : atOk l z = false) : gapErr l xs ys = 7 := by
  unfold gapErr
  rw [eq_if h, if_pos]
  rw [List.all_eq_false]
  exact ⟨z, hz, by simp [h2]⟩
theorem gapErr_3 (h : checkL l = 0) (h2 : xs = [] ∨ ys = []) : gapErr l xs ys = 7 := by
  unfold gapErr
  rw [eq_if h, if_pos h2]
  split <;> rfl
theorem gapErr_0 (h : checkL l = 0) (h2 : ∀ z ∈ xs ++ ys, atOk l z = true) (h3 : ¬ (xs = [] ∨ ys = [])) : gapErr l xs ys = 0 := by
  unfold gapErr
  rw [eq_if h, if_neg, if_neg h3]
  simp only [Bool.not_eq_false, List.all_eq_true]
  exact h2
end
theorem concat2_s (bx : Nat) (A B : Option Addr) (ca cb : Nat) (xs ys : List Int) (e : TypeId) (w : World) (hx : w.heap[bx]? = some (.cells #[.slice A xs.length ca, .slice B ys.length cb] e (0, 0))) (ha : RdE intE 1 w A xs.length xs) (hb : RdE intE 1 w B ys.length ys) (h1 : xs.length ≤ 274877906944) (h2 : ys.length ≤ 274877906944) :
    Calls Go.Proofs.Try.prog 26 #[.slice (some ⟨bx, 0, none⟩) 2 2] w fun e w' => ∃ r, e = .returned r ∧ ∃ L, OwnR tInt 1 r (xs ++ ys).length ((xs ++ ys).map (.int .i64)) L ∧ Mem w No w' L := by
  have hal : allXs [⟨A, ca, xs⟩, ⟨B, cb, ys⟩] = xs ++ ys := by simp [allXs]
  have hlit := OwnR.lit e 1 bx 2 #[.slice A xs.length ca, .slice B ys.length cb] (by decide) rfl
  have hrd : RdE encR 1 w (some ⟨bx, 0, none⟩) 2 [⟨A, ca, xs⟩, ⟨B, cb, ys⟩] := OwnR.rd (enc := encR) hlit ⟨by simp, by simpa using hx⟩ (by simp) (by decide)
  have h := concat_s (some ⟨bx, 0, none⟩) 2 2 [⟨A, ca, xs⟩, ⟨B, cb, ys⟩] w hrd (by
    intro r hr
    simp at hr
    rcases hr with rfl | rfl
    · exact ha
    · exact hb) (by rw [hal, List.length_append]; omega) (by omega)
  rw [hal] at h
  exact h
end Go.Kn
