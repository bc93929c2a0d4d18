/- Parts of slices. -/
import Derived.Test.YtddacakmafdgdaaKnE
set_option linter.unusedVariables false
set_option linter.unusedSimpArgs false
namespace Go.Kn
open Go.RowKit
section
variable {P : Program} {w : World} {ρ : Operand → Value} {dst : Option Tmp} {type : TypeId} {pos : String} {after : Array Edge} {guard : Option (Nat × Bool)}
theorem x_sliceLow {t e : TypeId} {x lo : Operand} {A : Option Addr} {n c l sz : Nat} {k : IntKind} (hl : l ≤ n) (hx : ρ x = .slice A n c) (hlo : ρ lo = .int k (l : Int)) (ht : (underlying t).run P w = .ok (.slice e) w) (hs : (sizeOf e).run P w = .ok sz w) :
    (execOp ρ ⟨dst, .slice t x (some lo) none none, type, pos, after, guard⟩).run P w = .ok (.value (.slice (if c = l then A else A.map (·.add (l * sz))) (n - l) (c - l))) w := by
  have h1 : (0 : Int) ≤ (l : Int) ∧ (l : Int) ≤ (n : Int) := by omega
  simp [execOp, hx, hlo, Instr.sliceAt, Instr.slice, Instr.sliceBounds, Instr.sliceBound, asIntOf, ht, hs, h1]
  intro hlt
  omega
theorem add_zero (a : Addr) : a.add 0 = a := by simp [Addr.add]
theorem x_sliceClip {t e : TypeId} {x hi mx : Operand} {A : Option Addr} {n c sz : Nat} {k k' : IntKind} (hc : n ≤ c) (hx : ρ x = .slice A n c) (hhi : ρ hi = .int k (n : Int)) (hmx : ρ mx = .int k' (n : Int)) (ht : (underlying t).run P w = .ok (.slice e) w) (hs : (sizeOf e).run P w = .ok sz w) :
    (execOp ρ ⟨dst, .slice t x none (some hi) (some mx), type, pos, after, guard⟩).run P w = .ok (.value (.slice A n n)) w := by
  have h1 : (0 : Int) ≤ (n : Int) ∧ (n : Int) ≤ (c : Int) := by omega
  have h2 : (0 : Int) ≤ (n : Int) ∧ (n : Int) ≤ (n : Int) := by omega
  have h3 : (if n = 0 then A else A.map fun x => x.add 0) = A := by
    split
    · rfl
    · cases A <;> simp [add_zero]
  simp [execOp, hx, hhi, hmx, Instr.sliceAt, Instr.slice, Instr.sliceBounds, Instr.sliceBound, asIntOf, ht, hs, h1, h3]
  intro hlt
  omega
/-- up to a length -/
theorem x_sliceHigh {t e : TypeId} {x hi : Operand} {A : Option Addr} {n c h sz : Nat} {k : IntKind} (hc : h ≤ c) (hx : ρ x = .slice A n c) (hhi : ρ hi = .int k (h : Int)) (ht : (underlying t).run P w = .ok (.slice e) w) (hs : (sizeOf e).run P w = .ok sz w) :
    (execOp ρ ⟨dst, .slice t x none (some hi) none, type, pos, after, guard⟩).run P w = .ok (.value (.slice A h c)) w := by
  have h1 : (0 : Int) ≤ (h : Int) ∧ (h : Int) ≤ (c : Int) := by omega
  have h3 : (if c = 0 then A else A.map fun x => x.add 0) = A := by
    split
    · rfl
    · cases A <;> simp [add_zero]
  simp [execOp, hx, hhi, Instr.sliceAt, Instr.slice, Instr.sliceBounds, Instr.sliceBound, asIntOf, ht, hs, h1, h3]
  intro hlt
  omega
end
end Go.Kn
