/- The table of groups: what it says. -/
import Derived.Test.YtddacakmafdgdaaGi
import Derived.Test.YtddacakmafdgdaaBe
set_option linter.unusedVariables false
set_option linter.unusedSimpArgs false
namespace Go.Kn
open Go.RowKit Go.Proofs.Ytddacakmafdgdaa
abbrev tBool : TypeId := 4
abbrev tInts : TypeId := 30
abbrev tBools : TypeId := 78
def farAt (l : List (List Int)) (p q : Nat) : Int := farOf (vecOf (l.getD p [])) (vecOf (l.getD q []))
/-- g has the gaps of the groups of f, as far as the pairs in D go -/
def GapIs (l : List (List Int)) (f : Nat → Nat) (D : Nat → Nat → Prop) (g : Nat → Nat → Int) : Prop :=
  ∀ x y v, v ≤ g x y ↔ v ≤ 774193 ∧ ∀ p q, D p q → f p = x → f q = y → v ≤ farAt l p q
def ApartIs (f : Nat → Nat) (ns : List (Nat × Nat)) (a : Nat → Nat → Bool) : Prop :=
  ∀ x y, a x y = true ↔ ∃ m ∈ ns, (f m.1 = x ∧ f m.2 = y) ∨ (f m.2 = x ∧ f m.1 = y)
def upTo (n i k : Nat) (p q : Nat) : Prop := p < n ∧ q < n ∧ (p < i ∨ (p = i ∧ q < k))
theorem gap_none (l : List (List Int)) (f : Nat → Nat) (n : Nat) : GapIs l f (upTo n 0 0) (fun _ _ => 774193) := by
  intro x y v
  constructor
  · exact fun h => ⟨h, fun p q hd => by unfold upTo at hd; omega⟩
  · exact fun h => h.1
theorem gap_row {l : List (List Int)} {f : Nat → Nat} {n i : Nat} {g : Nat → Nat → Int} (h : GapIs l f (upTo n i n) g) : GapIs l f (upTo n (i + 1) 0) g := by
  intro x y v
  rw [h x y v]
  have : ∀ p q, upTo n i n p q ↔ upTo n (i + 1) 0 p q := by intro p q; unfold upTo; omega
  simp only [this]
theorem gap_step {l : List (List Int)} {f : Nat → Nat} {n i k : Nat} {g : Nat → Nat → Int} (hi : i < n) (hk : k < n) (h : GapIs l f (upTo n i k) g) : GapIs l f (upTo n i (k + 1)) (upd2 g (f i) (f k) (min (g (f i) (f k)) (farAt l i k))) := by
  intro x y v
  have hu : ∀ p q, upTo n i (k + 1) p q ↔ upTo n i k p q ∨ (p = i ∧ q = k) := by intro p q; unfold upTo; omega
  by_cases hxy : x = f i ∧ y = f k
  · obtain ⟨rfl, rfl⟩ := hxy
    have e : upd2 g (f i) (f k) (min (g (f i) (f k)) (farAt l i k)) (f i) (f k) = min (g (f i) (f k)) (farAt l i k) := by simp [upd2]
    rw [e, Int.le_min, h]
    constructor
    · rintro ⟨⟨h1, h2⟩, h3⟩
      refine ⟨h1, fun p q hd hp hq => ?_⟩
      rcases (hu p q).1 hd with h4 | ⟨rfl, rfl⟩
      · exact h2 p q h4 hp hq
      · exact h3
    · rintro ⟨h1, h2⟩
      exact ⟨⟨h1, fun p q hd hp hq => h2 p q ((hu p q).2 (.inl hd)) hp hq⟩, h2 i k ((hu i k).2 (.inr ⟨rfl, rfl⟩)) rfl rfl⟩
  · have e : upd2 g (f i) (f k) (min (g (f i) (f k)) (farAt l i k)) x y = g x y := by unfold upd2; rw [if_neg hxy]
    rw [e, h]
    constructor
    · rintro ⟨h1, h2⟩
      refine ⟨h1, fun p q hd hp hq => ?_⟩
      rcases (hu p q).1 hd with h4 | ⟨rfl, rfl⟩
      · exact h2 p q h4 hp hq
      · exact absurd ⟨hp.symm, hq.symm⟩ hxy
    · rintro ⟨h1, h2⟩
      exact ⟨h1, fun p q hd hp hq => h2 p q ((hu p q).2 (.inl hd)) hp hq⟩
def inN (n : Nat) (p q : Nat) : Prop := p < n ∧ q < n
theorem gap_all {l : List (List Int)} {f : Nat → Nat} {n : Nat} {g : Nat → Nat → Int} (h : GapIs l f (upTo n n 0) g) : GapIs l f (inN n) g := by
  intro x y v
  rw [h x y v]
  have : ∀ p q, upTo n n 0 p q ↔ inN n p q := by intro p q; unfold upTo inN; omega
  simp only [this]
theorem apart_none (f : Nat → Nat) : ApartIs f [] (fun _ _ => false) := by intro x y; simp
theorem apart_step {f : Nat → Nat} {ns : List (Nat × Nat)} {m : Nat × Nat} {k : Nat} {a : Nat → Nat → Bool} (hm : ns[k]? = some m) (h : ApartIs f (ns.take k) a) : ApartIs f (ns.take (k + 1)) (upd2 (upd2 a (f m.1) (f m.2) true) (f m.2) (f m.1) true) := by
  intro x y
  rw [take_snoc' hm]
  have h1 := h x y
  unfold upd2
  by_cases h2 : x = f m.2 ∧ y = f m.1
  · rw [if_pos h2]
    simp only [true_iff]
    exact ⟨m, by simp, .inr ⟨h2.1.symm, h2.2.symm⟩⟩
  · rw [if_neg h2]
    by_cases h3 : x = f m.1 ∧ y = f m.2
    · rw [if_pos h3]
      simp only [true_iff]
      exact ⟨m, by simp, .inl ⟨h3.1.symm, h3.2.symm⟩⟩
    · rw [if_neg h3, h1]
      constructor
      · rintro ⟨q, hq, h4⟩
        exact ⟨q, by simp [hq], h4⟩
      · rintro ⟨q, hq, h4⟩
        rcases List.mem_append.1 hq with hq | hq
        · exact ⟨q, hq, h4⟩
        · simp at hq; subst hq
          rcases h4 with h4 | h4
          · exact absurd ⟨h4.1.symm, h4.2.symm⟩ h3
          · exact absurd ⟨h4.1.symm, h4.2.symm⟩ h2
/-- which places know their first one -/
def ofIn (n : Nat) (gs : List Grp) (seen : Array Nat) (o : Nat → Int) : Prop := ∀ q ∈ gs, q.born ∈ seen.toList → ∀ p, p < n → (p : Int) ∈ q.xs → o p = q.key
theorem of_all {n : Nat} {f : Nat → Nat} {gs : List Grp} {seen : Array Nat} {o : Nat → Int} (hF : IsG n f (view gs)) (h : ofIn n gs seen o) (hall : ∀ g ∈ gs, g.born ∈ seen.toList) : ∀ p, p < n → o p = (f p : Int) := by
  intro p hp
  have h0 : ((f p : Int), membersI n f (f p)) ∈ view gs := (hF.mem _).2 ⟨f p, hF.lt hp, hF.idem p hp, rfl⟩
  obtain ⟨g, hg, he⟩ := List.mem_map.1 h0
  injection he with h1 h2
  rw [h g hg (hall g hg) p hp (by rw [h2]; exact mem_membersI.2 ⟨hp, rfl⟩), h1]
def setO (o : Nat → Int) (p : Nat) (v : Int) : Nat → Int := fun q => if q = p then v else o q
/-- inside a group's row -/
def ofRow (n : Nat) (gs : List Grp) (seen : Array Nat) (g : Grp) (k : Nat) (o : Nat → Int) : Prop := ofIn n gs seen o ∧ ∀ j y, j < k → g.xs[j]? = some y → ∀ p : Nat, (p : Int) = y → o p = g.key
theorem row_step {n : Nat} {f : Nat → Nat} {gs : List Grp} {seen : Array Nat} {g : Grp} {k : Nat} {o : Nat → Int} (hF : IsG n f (view gs)) (hG : ∀ q ∈ gs, q.born ∈ seen.toList → q.key ≠ g.key) (hg : g ∈ gs) {p : Nat} (hx : g.xs[k]? = some (p : Int)) (h : ofRow n gs seen g k o) : ofRow n gs seen g (k + 1) (setO o p g.key) := by
  refine ⟨fun q hq hs r hr hm => ?_, fun j y hj hy r hry => ?_⟩
  · have h1 := h.1 q hq hs r hr hm
    unfold setO
    by_cases e : r = p
    · subst e
      exfalso
      obtain ⟨a, _, _, ha, hax⟩ := hF.xs hg
      obtain ⟨b, _, _, hb, hbx⟩ := hF.xs hq
      have h2 : (r : Int) ∈ g.xs := List.mem_of_getElem? hx
      rw [hax] at h2
      rw [hbx] at hm
      have h3 := (mem_membersI.1 h2).2
      have h4 := (mem_membersI.1 hm).2
      exact hG q hq hs (by rw [ha, hb, ← h3, ← h4])
    · rw [if_neg e]; exact h1
  · unfold setO
    by_cases e : r = p
    · rw [if_pos e]
    · rw [if_neg e]
      have hjk : j ≠ k := by
        intro e2
        subst e2
        rw [hx] at hy
        injection hy with hy
        omega
      exact h.2 j y (by omega) hy r hry
theorem row_done {n : Nat} {gs : List Grp} {seen : Array Nat} {g : Grp} {k : Nat} {o : Nat → Int} (inj : ∀ {p q : Grp}, p ∈ gs → q ∈ gs → p.born = q.born → p = q) (hg : g ∈ gs) (hk : g.xs.length ≤ k) (h : ofRow n gs seen g k o) : ofIn n gs (seen.push g.born) o := by
  intro q hq hb p hp hm
  have h2 : q.born ∈ seen.toList ∨ q.born = g.born := by simpa using hb
  rcases h2 with h3 | h3
  · exact h.1 q hq h3 p hp hm
  · have := inj hq hg h3
    subst this
    obtain ⟨j, hj⟩ := List.mem_iff_getElem?.1 hm
    exact h.2 j p (Nat.lt_of_lt_of_le (List.getElem?_eq_some_iff.1 hj).1 hk) hj p rfl
theorem row_start {n : Nat} {gs : List Grp} {seen : Array Nat} {g : Grp} {o : Nat → Int} (h : ofIn n gs seen o) : ofRow n gs seen g 0 o := ⟨h, fun j y hj => absurd hj (by omega)⟩
theorem seen_ne {e : TypeId} {gs : List Grp} {ck : Nat} {seen : Array Nat} {g : Grp} (hG : GMp e gs ck) (hg : g ∈ gs) (hns : g.born ∉ seen.toList) : ∀ q ∈ gs, q.born ∈ seen.toList → q.key ≠ g.key := by
  intro q hq hb he
  have := key_inj hG.knd hq hg he
  subst this
  exact hns hb
theorem rowO_set {n p : Nat} {o : Nat → Int} {v : Int} (hp : p < n) : (rowC n (Value.int .i64) o).setIfInBounds p (.int .i64 v) = rowC n (Value.int .i64) (setO o p v) := rowC_set hp
theorem fill_step {k : Nat} : (fun q => if q = k then (774193 : Int) else if q < k then 774193 else 0) = fun q => if q < k + 1 then 774193 else 0 := by
  funext q
  by_cases h1 : q = k
  · rw [if_pos h1, if_pos (by omega)]
  · rw [if_neg h1]
    by_cases h2 : q < k
    · rw [if_pos h2, if_pos (by omega)]
    · rw [if_neg h2, if_neg (by omega)]
theorem fill_all {n : Nat} : rowC n (Value.int .i64) (fun q => if q < n then 774193 else 0) = rowC n (Value.int .i64) (fun _ => 774193) := by
  unfold rowC
  congr 1
  refine List.map_congr_left fun q hq => ?_
  simp [List.mem_range.1 hq]
theorem self_get {cs : Array Value} {i : Nat} {v : Value} (h : i < cs.size) : (cs.setIfInBounds i v)[i]? = some v := by simp [h]
end Go.Kn
