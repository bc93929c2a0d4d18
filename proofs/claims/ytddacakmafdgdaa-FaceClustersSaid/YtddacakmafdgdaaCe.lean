/- Cluster's errors. -/
import Derived.Test.YtddacakmafdgdaaBe
namespace Go.Kn
open Go.RowKit
def clErr (l : List (List Int)) (bs : List Bond3) (limit : Int) : Int := if checkB l bs ≠ 0 then checkB l bs else if outN limit 0 774192 = true then 2 else 0
theorem checkB_ok {l : List (List Int)} {bs : List Bond3} (h : checkB l bs = 0) : checkL l = 0 ∧ bs.length ≤ 1000 ∧ bondsFrom l none bs = 0 := by
  unfold checkB at h
  split at h
  · rename_i h1; exact absurd h h1
  · rename_i h1
    split at h
    · cases h
    · rename_i h2
      split at h
      · rename_i h3; exact absurd h h3
      · rename_i h3
        exact ⟨by simpa using h1, by omega, by simpa using h3⟩
theorem checkB_apart {l : List (List Int)} {bs : List Bond3} (h : checkB l bs = 0) : apartBad (firstsOf l bs) (notsOf l bs) = false := by
  obtain ⟨h1, h2, h3⟩ := checkB_ok h
  rw [checkB_3 h1 (by omega), eq_if h3] at h
  split at h
  · cases h
  · rename_i h4; simpa using h4
end Go.Kn
