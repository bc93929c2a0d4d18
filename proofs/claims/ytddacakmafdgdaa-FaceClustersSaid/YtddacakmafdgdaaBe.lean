/- What CheckBonds says. -/
import Derived.Test.YtddacakmafdgdaaBd
set_option linter.unusedVariables false
set_option linter.unusedSimpArgs false
namespace Go.Kn
open Go.RowKit Go.Proofs.Ytddacakmafdgdaa
def bAfter (p : Option Bond3) (b : Bond3) : Bool := match p with | none => false | some q => decide (b.a < q.a) || (decide (b.a = q.a) && decide (b.b ≤ q.b))
def bondOne (l : List (List Int)) (p : Option Bond3) (b : Bond3) : Int := if (!atOk l b.a || !atOk l b.b) = true then 7 else if b.b ≤ b.a then 1 else if bAfter p b = true then 5 else 0
def bondsFrom (l : List (List Int)) (p : Option Bond3) : List Bond3 → Int
  | [] => 0
  | b :: r => if bondOne l p b ≠ 0 then bondOne l p b else bondsFrom l (some b) r
def bprev (bs : List Bond3) : Nat → Option Bond3
  | 0 => none
  | k + 1 => bs[k]?
def apartBad (f : Nat → Nat) (ns : List (Nat × Nat)) : Bool := ns.any fun m => decide (f m.1 = f m.2)
def firstsOf (l : List (List Int)) (bs : List Bond3) : Nat → Nat := joinAll (mustsOf l bs)
def checkB (l : List (List Int)) (bs : List Bond3) : Int := if checkL l ≠ 0 then checkL l else if 1000 < bs.length then 4 else if bondsFrom l none bs ≠ 0 then bondsFrom l none bs else if apartBad (firstsOf l bs) (notsOf l bs) = true then 11 else 0
section
variable {l : List (List Int)} {bs : List Bond3} {k : Nat} {b q : Bond3} {p : Option Bond3}
theorem bonds_at (hb : bs[k]? = some b) (p : Option Bond3) : bondsFrom l p (bs.drop k) = if bondOne l p b ≠ 0 then bondOne l p b else bondsFrom l (bprev bs (k + 1)) (bs.drop (k + 1)) := by
  obtain ⟨hlt, he⟩ := List.getElem?_eq_some_iff.1 hb
  rw [List.drop_eq_getElem_cons hlt, he]
  simp [bondsFrom, bprev, hb]
theorem bone_none (h : (!atOk l b.a || !atOk l b.b) = true) : bondOne l p b = 7 := if_pos h
theorem bone_form (h : (!atOk l b.a || !atOk l b.b) = false) (h2 : b.b ≤ b.a) : bondOne l p b = 1 := by rw [bondOne, if_neg (by simp [h]), if_pos h2]
theorem bone_order (h : (!atOk l b.a || !atOk l b.b) = false) (h2 : ¬ b.b ≤ b.a) (h3 : bAfter p b = true) : bondOne l p b = 5 := by rw [bondOne, if_neg (by simp [h]), if_neg h2, if_pos h3]
theorem bone_ok (h : (!atOk l b.a || !atOk l b.b) = false) (h2 : ¬ b.b ≤ b.a) (h3 : bAfter p b = false) : bondOne l p b = 0 := by rw [bondOne, if_neg (by simp [h]), if_neg h2, if_neg (by simp [h3])]
theorem bprev_at (hq : bs[k - 1]? = some q) (hk : 0 < k) : bprev bs k = some q := by
  obtain ⟨j, rfl⟩ : ∃ j, k = j + 1 := ⟨k - 1, by omega⟩
  simpa [bprev] using hq
theorem bonds_ok : ∀ {bs : List Bond3} {p : Option Bond3}, bondsFrom l p bs = 0 → ∀ b ∈ bs, atOk l b.a = true ∧ atOk l b.b = true ∧ b.a < b.b
  | [], _, _, b, hb => by cases hb
  | a :: r, p, h, b, hb => by
    unfold bondsFrom at h
    by_cases h0 : bondOne l p a = 0
    · rw [eq_if h0] at h
      rcases List.mem_cons.1 hb with rfl | hb
      · unfold bondOne at h0
        split at h0
        · cases h0
        · rename_i h1
          split at h0
          · cases h0
          · rename_i h2
            simp at h1
            exact ⟨h1.1, h1.2, by omega⟩
      · exact bonds_ok h b hb
    · rw [ne_if h0] at h; exact absurd h h0
theorem place_lt (hg : sortedIds l) {t : Int} (h : atOk l t = true) : atPos l t < l.length := by
  obtain ⟨x, hx, _⟩ := at_found hg h
  exact (List.getElem?_eq_some_iff.1 hx).1
theorem musts_lt (hg : sortedIds l) (h : bondsFrom l none bs = 0) : ∀ m ∈ mustsOf l bs, m.1 < l.length ∧ m.2 < l.length := by
  intro m hm
  obtain ⟨b, hb, rfl⟩ := List.mem_map.1 hm
  obtain ⟨h1, h2, _⟩ := bonds_ok h b (List.mem_filter.1 hb).1
  exact ⟨place_lt hg h1, place_lt hg h2⟩
theorem nots_lt (hg : sortedIds l) (h : bondsFrom l none bs = 0) : ∀ m ∈ notsOf l bs, m.1 < l.length ∧ m.2 < l.length := by
  intro m hm
  obtain ⟨b, hb, rfl⟩ := List.mem_map.1 hm
  obtain ⟨h1, h2, _⟩ := bonds_ok h b (List.mem_filter.1 hb).1
  exact ⟨place_lt hg h1, place_lt hg h2⟩
theorem checkB_1 (h : checkL l ≠ 0) : checkB l bs = checkL l := by unfold checkB; rw [if_pos h]
theorem checkB_2 (h : checkL l = 0) (h2 : 1000 < bs.length) : checkB l bs = 4 := by unfold checkB; rw [if_neg (by simp [h]), if_pos h2]
theorem checkB_3 (h : checkL l = 0) (h2 : ¬ 1000 < bs.length) : checkB l bs = if bondsFrom l none bs ≠ 0 then bondsFrom l none bs else if apartBad (firstsOf l bs) (notsOf l bs) = true then 11 else 0 := by unfold checkB; rw [if_neg (by simp [h]), if_neg h2]
theorem apart_snoc {f : Nat → Nat} {ns : List (Nat × Nat)} {m : Nat × Nat} (hm : ns[k]? = some m) (h : apartBad f (ns.take k) = false) (h2 : ¬ f m.1 = f m.2) : apartBad f (ns.take (k + 1)) = false := by
  rw [take_snoc' hm]
  unfold apartBad at *
  rw [List.any_append, h]
  simp [h2]
theorem apart_yes {f : Nat → Nat} {ns : List (Nat × Nat)} {m : Nat × Nat} (hm : ns[k]? = some m) (h2 : f m.1 = f m.2) : apartBad f ns = true := List.any_eq_true.2 ⟨m, List.mem_of_getElem? hm, by simp [h2]⟩
end
end Go.Kn
