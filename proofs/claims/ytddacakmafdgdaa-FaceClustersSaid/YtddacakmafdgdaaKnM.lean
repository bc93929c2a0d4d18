/- Lists of numbers as cells; slices that are read. -/
import Derived.Test.YtddacakmafdgdaaKnB
set_option linter.unusedVariables false
namespace Go.Kn
open Go.RowKit
def ints (v : List Int) : Array Value := (v.map (.int .i64)).toArray
theorem ints_size (v : List Int) : (ints v).size = v.length := by simp [ints]
theorem ints_get (v : List Int) (i : Nat) (h : i < v.length) : (ints v)[i]? = some (.int .i64 (v.getD i 0)) := by simp [ints, h]
def adr (A : Option Addr) : Addr := A.getD ⟨0, 0, none⟩
theorem add_add (a : Addr) (i j : Nat) : (a.add i).add j = a.add (i + j) := by
  unfold Addr.add
  by_cases h1 : i = 0 <;> by_cases h2 : j = 0 <;> simp [h1, h2, Nat.add_assoc]
/-- A slice that is read: n elements of sz cells each, the cells cs. -/
structure Rd (w : World) (A : Option Addr) (n : Nat) (sz : Nat) (cs : List Value) : Prop where
  len : cs.length = n * sz
  here : 0 < n → A.isSome = true
  cell : ∀ j v, cs[j]? = some v → w.cell? ((adr A).add j) = some v
theorem Rd.up {w0 w : World} {A : Option Addr} {n sz : Nat} {cs : List Value} {L : Hp} (h : Rd w0 A n sz cs) (hM : Mem w0 No w L) : Rd w A n sz cs :=
  ⟨h.len, h.here, fun j v hv => hM.old (h.cell j v hv) (fun h => h)⟩
theorem Rd.kept {w0 w : World} {A : Option Addr} {n sz : Nat} {cs : List Value} (h : Rd w0 A n sz cs) (hM : Kept w0 w No) : Rd w A n sz cs :=
  h.up (L := []) ⟨hM, Holds.nil _, by simp [keys]⟩
section
variable {P : Program} {w : World} {ρ : Operand → Value} {dst : Option Tmp} {type : TypeId} {pos : String} {after : Array Edge} {guard : Option (Nat × Bool)}
theorem x_indexAddrR {t e : TypeId} {x y : Operand} {A : Option Addr} {n c : Nat} {k : IntKind} {i : Int} {sz : Nat} (hA : 0 < n → A.isSome = true) (h0 : 0 ≤ i) (h1 : i < n) (hx : ρ x = .slice A n c) (hy : ρ y = .int k i) (ht : (underlying t).run P w = .ok (.slice e) w) (hs : (sizeOf e).run P w = .ok sz w) :
    (execOp ρ ⟨dst, .indexAddr t x y, type, pos, after, guard⟩).run P w = .ok (.value (.pointer (some ((adr A).add (i.toNat * sz))))) w := by
  obtain ⟨ad, rfl⟩ := Option.isSome_iff_exists.1 (hA (by omega))
  exact x_indexAddr h0 h1 hx hy ht hs
end
theorem x_indexAddrB {P : Program} {w : World} {ρ : Operand → Value} {dst : Option Tmp} {type : TypeId} {pos : String} {after : Array Edge} {guard : Option (Nat × Bool)} {t e : TypeId} {x y : Operand} {b o r : Nat} {n : Nat} {k : IntKind} {i sz : Nat} (h1 : i < n) (hx : ρ x = .pointer (some ⟨b, o, none⟩)) (hy : ρ y = .int k (i : Int)) (ht : (underlying t).run P w = .ok (.array n e) w) (hs : (sizeOf e).run P w = .ok sz w) (hr : o + i * sz = r) :
    (execOp ρ ⟨dst, .indexAddr t x y, type, pos, after, guard⟩).run P w = .ok (.value (.pointer (some ⟨b, r, none⟩))) w := by
  have h := x_indexAddrA (P := P) (dst := dst) (type := type) (pos := pos) (after := after) (guard := guard) (w := w) (k := k) (i := (i : Int)) (n := n) (sz := sz) (e := e) (t := t) (Int.natCast_nonneg i) (by omega) hx hy ht hs
  rw [h]
  have : (⟨b, o, none⟩ : Addr).add (i * sz) = ⟨b, r, none⟩ := by
    subst hr
    unfold Addr.add; split <;> simp_all
  simp [this]
theorem x_indexAddrN {P : Program} {w : World} {ρ : Operand → Value} {dst : Option Tmp} {type : TypeId} {pos : String} {after : Array Edge} {guard : Option (Nat × Bool)} {t e : TypeId} {x y : Operand} {A : Option Addr} {n c : Nat} {k : IntKind} {i : Nat} {sz : Nat} (hA : 0 < n → A.isSome = true) (h1 : i < n) (hx : ρ x = .slice A n c) (hy : ρ y = .int k (i : Int)) (ht : (underlying t).run P w = .ok (.slice e) w) (hs : (sizeOf e).run P w = .ok sz w) :
    (execOp ρ ⟨dst, .indexAddr t x y, type, pos, after, guard⟩).run P w = .ok (.value (.pointer (some ((adr A).add (i * sz))))) w := by
  have h := x_indexAddrR (P := P) (dst := dst) (type := type) (pos := pos) (after := after) (guard := guard) (w := w) (k := k) (i := (i : Int)) (n := n) (c := c) (sz := sz) (e := e) (t := t) hA (Int.natCast_nonneg i) (by omega) hx hy ht hs
  rw [h]
  simp
theorem x_loadRow {P : Program} {w w0 : World} {S : Nat → Prop} {L : Hp} {ρ : Operand → Value} {dst : Option Tmp} {type : TypeId} {pos : String} {after : Array Edge} {guard : Option (Nat × Bool)} {t e : TypeId} {x : Operand} {b : Nat} {cs : Array Value} (hM : Mem w0 S w L) (i : Nat) (hi : L[i]? = some (b, .cells cs e (0, 0))) (hx : ρ x = .pointer (some ⟨b, 0, none⟩)) (hg : (isAgg t).run P w = .ok true w) (hs : (sizeOf t).run P w = .ok cs.size w) :
    (execOp ρ ⟨dst, .load t x, type, pos, after, guard⟩).run P w = .ok (.value (.agg cs)) w := by
  have := x_loadAgg (P := P) (ρ := ρ) (dst := dst) (type := type) (pos := pos) (after := after) (guard := guard) (t := t) (x := x) (a := ⟨b, 0, none⟩) (cs := cs.toList) (w := w) (fun j v hv => by
    rw [show (⟨b, 0, none⟩ : Addr).add j = ⟨b, j, none⟩ by unfold Addr.add; split <;> simp_all]
    exact hM.cell i hi (by simpa using hv)) hx hg (by rw [hs]; simp)
  simpa using this
end Go.Kn
