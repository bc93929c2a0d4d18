/- The arguments' elements. -/
import Derived.Test.YtddacakmafdgdaaRa
set_option linter.unusedVariables false
set_option linter.unusedSimpArgs false
namespace Go.Proofs.Ytddacakmafdgdaa
open Go.RowKit Go.ChangeShapes Go.WideShapes Go.ChangeAt Go.Deep Go.Kn
section
variable {H : Type} {enc : TypeId × Value → H} {w : World} {base : Nat} {spare : Nat → Bool} {held : Bool}
theorem one_at {cs : List Value} {o : Nat} {u : Value} (h : (cs.drop o).take 1 = [u]) : cs[o]? = some u := by
  have := congrArg (fun l => l[0]?) h
  simpa [List.getElem?_take, List.getElem?_drop] using this
theorem like_el (n : Nat) (cs : List Value) (y : DataW H × List MemPlace) (h : DataW.trod enc Try.prog w base spare held n 64 cs = some y) : ∃ x : List Int, cs = intsE x ∧ (intsE x).length = 14 := by
  obtain ⟨xs, m, _, _, hl, hxl, hf⟩ := DataW.trod_struct Try.underlying64 h
  have hl14 : cs.length = 14 := by rw [hl]; kernel_rfl
  have hc3 : Try.prog.cellsOf tInt = 1 := by kernel_rfl
  have hc52 : Try.prog.cellsOf 52 = 12 := by kernel_rfl
  have hu3 : Try.prog.underlying tInt = some (.int .i64) := by kernel_rfl
  have hint : ∀ (m : Nat) (cs' : List Value) (z : DataW H × List MemPlace), DataW.trod enc Try.prog w base spare held m tInt cs' = some z → ∃ k : Int, cs' = [.int .i64 k] := fun m cs' z hz => by
    obtain ⟨k, hk, _⟩ := DataW.trod_int hu3 hz
    exact ⟨k, hk⟩
  have h0 : ∃ k : Int, cs[0]? = some (.int .i64 k) := by
    have h1 : DataW.trod enc Try.prog w base spare held m tInt ((cs.drop 0).take (Try.prog.cellsOf tInt)) = xs[0]? := hf 0 _ rfl
    have h2 : xs[0]? = some (xs[0]'(by rw [hxl]; decide)) := by simp
    rw [h2] at h1
    obtain ⟨k, hk⟩ := hint _ _ _ h1
    rw [hc3] at hk
    exact ⟨k, one_at hk⟩
  have h1 : ∃ k : Int, cs[1]? = some (.int .i64 k) := by
    have h1 : DataW.trod enc Try.prog w base spare held m tInt ((cs.drop 1).take (Try.prog.cellsOf tInt)) = xs[1]? := hf 1 _ rfl
    have h2 : xs[1]? = some (xs[1]'(by rw [hxl]; decide)) := by simp
    rw [h2] at h1
    obtain ⟨k, hk⟩ := hint _ _ _ h1
    rw [hc3] at hk
    exact ⟨k, one_at hk⟩
  have hv : ∀ i, i < 12 → ∃ k : Int, cs[2 + i]? = some (.int .i64 k) := by
    have h1 : DataW.trod enc Try.prog w base spare held m 52 ((cs.drop 2).take (Try.prog.cellsOf 52)) = xs[2]? := hf 2 _ rfl
    have h2 : xs[2]? = some (xs[2]'(by rw [hxl]; decide)) := by simp
    rw [h2] at h1
    obtain ⟨zs, m', _, _, _, hzl, hg⟩ := DataW.trod_array Try.underlying52 h1
    intro i hi
    have h3 : DataW.trod enc Try.prog w base spare held m' tInt ((((cs.drop 2).take (Try.prog.cellsOf 52)).drop (i * Try.prog.cellsOf tInt)).take (Try.prog.cellsOf tInt)) = zs[i]? := hg i hi
    have h4 : zs[i]? = some (zs[i]'(by omega)) := by simp
    rw [h4] at h3
    obtain ⟨k, hk⟩ := hint _ _ _ h3
    rw [hc3, hc52, Nat.mul_one] at hk
    refine ⟨k, ?_⟩
    have h5 := one_at hk
    rw [List.getElem?_take] at h5
    rw [if_pos (by omega), List.getElem?_drop] at h5
    simpa using h5
  have hall : ∀ i, i < 14 → ∃ k : Int, cs[i]? = some (.int .i64 k) := by
    intro i hi
    by_cases hi0 : i = 0
    · subst hi0; exact h0
    · by_cases hi1 : i = 1
      · subst hi1; exact h1
      · obtain ⟨k, hk⟩ := hv (i - 2) (by omega)
        exact ⟨k, by rw [show 2 + (i - 2) = i by omega] at hk; exact hk⟩
  obtain ⟨f, hfn⟩ := choose_lt (n := 14) (α := Int) hall
  refine ⟨(List.range 14).map f, ?_, by simp⟩
  apply List.ext_getElem?
  intro i
  by_cases hi : i < 14
  · rw [hfn i hi]; simp [intsE, hi]
  · rw [List.getElem?_eq_none (by omega), List.getElem?_eq_none (by simp; omega)]
theorem bond_el (n : Nat) (cs : List Value) (y : DataW H × List MemPlace) (h : DataW.trod enc Try.prog w base spare held n 35 cs = some y) : ∃ x : Bond3, cs = bondE x ∧ (bondE x).length = 3 := by
  obtain ⟨xs, m, _, _, hl, hxl, hf⟩ := DataW.trod_struct Try.underlying35 h
  have hl3 : cs.length = 3 := by rw [hl]; kernel_rfl
  have hc3 : Try.prog.cellsOf tInt = 1 := by kernel_rfl
  have hc4 : Try.prog.cellsOf 4 = 1 := by kernel_rfl
  have hu3 : Try.prog.underlying tInt = some (.int .i64) := by kernel_rfl
  have hu4 : Try.prog.underlying 4 = some .bool := by kernel_rfl
  obtain ⟨a, ha⟩ : ∃ k : Int, cs[0]? = some (.int .i64 k) := by
    have h1 : DataW.trod enc Try.prog w base spare held m tInt ((cs.drop 0).take (Try.prog.cellsOf tInt)) = xs[0]? := hf 0 _ rfl
    have h2 : xs[0]? = some (xs[0]'(by rw [hxl]; decide)) := by simp
    rw [h2] at h1
    obtain ⟨k, hk, _⟩ := DataW.trod_int hu3 h1
    rw [hc3] at hk
    exact ⟨k, one_at hk⟩
  obtain ⟨b, hb⟩ : ∃ k : Int, cs[1]? = some (.int .i64 k) := by
    have h1 : DataW.trod enc Try.prog w base spare held m tInt ((cs.drop 1).take (Try.prog.cellsOf tInt)) = xs[1]? := hf 1 _ rfl
    have h2 : xs[1]? = some (xs[1]'(by rw [hxl]; decide)) := by simp
    rw [h2] at h1
    obtain ⟨k, hk, _⟩ := DataW.trod_int hu3 h1
    rw [hc3] at hk
    exact ⟨k, one_at hk⟩
  obtain ⟨u, hu⟩ : ∃ k : Bool, cs[2]? = some (.bool k) := by
    have h1 : DataW.trod enc Try.prog w base spare held m 4 ((cs.drop 2).take (Try.prog.cellsOf 4)) = xs[2]? := hf 2 _ rfl
    have h2 : xs[2]? = some (xs[2]'(by rw [hxl]; decide)) := by simp
    rw [h2] at h1
    obtain ⟨k, hk, _⟩ := DataW.trod_bool hu4 h1
    rw [hc4] at hk
    exact ⟨k, one_at hk⟩
  refine ⟨⟨a, b, u⟩, ?_, rfl⟩
  apply List.ext_getElem?
  intro i
  rcases i with _ | _ | _ | i
  · simpa using ha
  · simpa using hb
  · simpa using hu
  · rw [List.getElem?_eq_none (by omega), List.getElem?_eq_none (by simp)]
end
instance : Inhabited Bond3 := ⟨⟨0, 0, false⟩⟩
end Go.Proofs.Ytddacakmafdgdaa
