/- Slices of elements that are read; stores of many cells; arithmetic with a told result. -/
import Derived.Test.YtddacakmafdgdaaKnM
set_option linter.unusedVariables false
set_option linter.unusedSimpArgs false
namespace Go.Kn
open Go.RowKit
theorem add_row (b o j : Nat) : (⟨b, o, none⟩ : Addr).add j = ⟨b, o + j, none⟩ := by unfold Addr.add; split <;> simp_all
/-- A slice that is read: n elements of sz cells each; enc: an element's cells. -/
structure RdE {α : Type} (enc : α → List Value) (sz : Nat) (w : World) (A : Option Addr) (n : Nat) (l : List α) : Prop where
  len : l.length = n
  size : ∀ x ∈ l, (enc x).length = sz
  here : 0 < n → A.isSome = true
  cell : ∀ k x i v, l[k]? = some x → (enc x)[i]? = some v → w.cell? ((adr A).add (k * sz + i)) = some v
theorem RdE.upS {α : Type} {enc : α → List Value} {sz : Nat} {w0 w : World} {S : Nat → Prop} {A : Option Addr} {n : Nat} {l : List α} {L : Hp} (h : RdE enc sz w0 A n l) (hM : Mem w0 S w L) (hS : ¬ S (adr A).block) : RdE enc sz w A n l :=
  ⟨h.len, h.size, h.here, fun k x i v hk hi => hM.old (h.cell k x i v hk hi) (by
    have : ((adr A).add (k * sz + i)).block = (adr A).block := by unfold Addr.add; split <;> rfl
    rw [this]; exact hS)⟩
theorem RdE.up {α : Type} {enc : α → List Value} {sz : Nat} {w0 w : World} {A : Option Addr} {n : Nat} {l : List α} {L : Hp} (h : RdE enc sz w0 A n l) (hM : Mem w0 No w L) : RdE enc sz w A n l := h.upS hM (fun h => h)
theorem RdE.elem {α : Type} {enc : α → List Value} {sz : Nat} {w : World} {A : Option Addr} {n : Nat} {l : List α} (h : RdE enc sz w A n l) {k : Nat} {x : α} (hk : l[k]? = some x) : ∀ i v, (enc x)[i]? = some v → w.cell? (((adr A).add (k * sz)).add i) = some v :=
  fun i v hi => by rw [add_add]; exact h.cell k x i v hk hi
theorem RdE.first {α : Type} {enc : α → List Value} {sz : Nat} {w : World} {A : Option Addr} {n : Nat} {l : List α} (h : RdE enc sz w A n l) {k : Nat} {x : α} {v : Value} (hk : l[k]? = some x) (hv : (enc x)[0]? = some v) : w.cell? ((adr A).add (k * sz)) = some v := by
  have := h.cell k x 0 v hk hv
  simpa using this
theorem RdE.size' {α : Type} {enc : α → List Value} {sz : Nat} {w : World} {A : Option Addr} {n : Nat} {l : List α} (h : RdE enc sz w A n l) {k : Nat} {x : α} (hk : l[k]? = some x) : (enc x).length = sz := h.size x (List.mem_of_getElem? hk)
/-- a part of it -/
theorem RdE.dropN {α : Type} {enc : α → List Value} {sz : Nat} {w : World} {A : Option Addr} {n : Nat} {l : List α} (h : RdE enc sz w A n l) (k : Nat) (hk : k ≤ n) (A' : Option Addr) (hA : k < n → A' = A.map (·.add (k * sz))) : RdE enc sz w A' (n - k) (l.drop k) :=
  ⟨by rw [List.length_drop, h.len], fun x hx => h.size x (List.mem_of_mem_drop hx), fun hp => by rw [hA (by omega)]; have := h.here (by omega); simpa using this, fun j x i v hj hi => by
    rw [List.getElem?_drop] at hj
    have hlt : k + j < n := by have := (List.getElem?_eq_some_iff.1 hj).1; rw [h.len] at this; exact this
    have h2 := h.cell (k + j) x i v hj hi
    rw [hA (by omega)]
    obtain ⟨a, rfl⟩ := Option.isSome_iff_exists.1 (h.here (by omega))
    simp only [adr, Option.map_some, Option.getD_some] at h2 ⊢
    rw [add_add, show k * sz + (j * sz + i) = (k + j) * sz + i by rw [Nat.add_mul]; omega]
    exact h2⟩
abbrev intE (x : Int) : List Value := [.int .i64 x]
abbrev intsE (x : List Int) : List Value := x.map (.int .i64)
theorem intsE_at {y : List Int} (i : Nat) (h : i < y.length) : (intsE y)[i]? = some (.int .i64 (y.getD i 0)) := by simp [h]
theorem intsE_0 {y : List Int} (h : 0 < y.length) : (intsE y)[0]? = some (.int .i64 (y.getD 0 0)) := intsE_at 0 h

section
variable {P : Program} {w : World} {ρ : Operand → Value} {dst : Option Tmp} {type : TypeId} {pos : String} {after : Array Edge} {guard : Option (Nat × Bool)}
theorem x_loadElem {α : Type} {enc : α → List Value} {sz : Nat} {A : Option Addr} {n : Nat} {l : List α} {k : Nat} {e : α} {t : TypeId} {x : Operand} (h : RdE enc sz w A n l) (hk : l[k]? = some e) (hx : ρ x = .pointer (some ((adr A).add (k * sz)))) (hg : (isAgg t).run P w = .ok true w) (hs : (sizeOf t).run P w = .ok sz w) :
    (execOp ρ ⟨dst, .load t x, type, pos, after, guard⟩).run P w = .ok (.value (.agg (enc e).toArray)) w :=
  x_loadAgg (h.elem hk) hx hg (by rw [hs, h.size e (List.mem_of_getElem? hk)])
theorem x_loadEInt {A : Option Addr} {n : Nat} {l : List Int} {k : Nat} {e : Int} {t : TypeId} {x : Operand} (h : RdE intE 1 w A n l) (hk : l[k]? = some e) (hx : ρ x = .pointer (some ((adr A).add (k * 1)))) (hg : (isAgg t).run P w = .ok false w) :
    (execOp ρ ⟨dst, .load t x, type, pos, after, guard⟩).run P w = .ok (.value (.int .i64 e)) w := x_load (h.first hk rfl) hx hg
theorem x_addE {t t' : TypeId} {x y : Operand} {a b r : Int} (h : a + b = r) (h1 : -9223372036854775808 ≤ r) (h2 : r ≤ 9223372036854775807) (hx : ρ x = .int .i64 a) (hy : ρ y = .int .i64 b) :
    (execOp ρ ⟨dst, .binOp .add t x y t', type, pos, after, guard⟩).run P w = .ok (.value (.int .i64 r)) w := by subst h; exact x_add (wrap_i64 h1 h2) hx hy
theorem x_subE {t t' : TypeId} {x y : Operand} {a b r : Int} (h : a - b = r) (h1 : -9223372036854775808 ≤ r) (h2 : r ≤ 9223372036854775807) (hx : ρ x = .int .i64 a) (hy : ρ y = .int .i64 b) :
    (execOp ρ ⟨dst, .binOp .sub t x y t', type, pos, after, guard⟩).run P w = .ok (.value (.int .i64 r)) w := by subst h; exact x_sub (wrap_i64 h1 h2) hx hy
theorem x_mulE {t t' : TypeId} {x y : Operand} {a b r : Int} (h : a * b = r) (h1 : -9223372036854775808 ≤ r) (h2 : r ≤ 9223372036854775807) (hx : ρ x = .int .i64 a) (hy : ρ y = .int .i64 b) :
    (execOp ρ ⟨dst, .binOp .mul t x y t', type, pos, after, guard⟩).run P w = .ok (.value (.int .i64 r)) w := by subst h; exact x_mul (wrap_i64 h1 h2) hx hy
theorem x_convE {s d : TypeId} {x : Operand} {k k' : IntKind} {u : TypeDesc} {a r : Int} (h : k'.wrap a = r) (hx : ρ x = .int k a) (hs : (underlying s).run P w = .ok u w) (hd : (underlying d).run P w = .ok (.int k') w) :
    (execOp ρ ⟨dst, .convert s d x, type, pos, after, guard⟩).run P w = .ok (.value (.int k' r)) w := by
  subst h
  simp [execOp, hx, Go.convert, hs, hd, Conv.intToInt]
theorem wrap_u64 {a : Int} (h1 : 0 ≤ a) (h2 : a ≤ 18446744073709551615) : IntKind.u64.wrap a = a := by
  simp only [IntKind.wrap, IntKind.bits, IntKind.signed]
  simp
  omega
theorem x_shr1 {t t' : TypeId} {x y : Operand} {a : Int} {k : IntKind} (hx : ρ x = .int .u64 a) (hy : ρ y = .int k 1) :
    (execOp ρ ⟨dst, .binOp .shr t x y t', type, pos, after, guard⟩).run P w = .ok (.value (.int .u64 (a / 2))) w := by
  have h : a.fdiv 2 = a / 2 := Int.fdiv_eq_ediv_of_nonneg _ (by decide)
  simp [execOp, hx, hy, eqGuard, Go.binOp, Op.shift, IntKind.bits, h]
theorem x_len {x : Operand} {t e : TypeId} {A : Option Addr} {m c : Nat} (hx : ρ x = .slice A m c) (ht : (underlying t).run P w = .ok (.slice e) w) :
    (execOp ρ ⟨dst, .call { callee := .builtin .len, args := #[x], argTypes := #[t] }, type, pos, after, guard⟩).run P w = .ok (.value (.int .i64 (m : Int))) w := by
  simp [execOp, resolve, invoke, builtin, Builtin.len_, hx, ht, goInt]
theorem x_lenStr {x : Operand} {t : TypeId} {s : ByteArray} (hx : ρ x = .string s) (ht : (underlying t).run P w = .ok .string w) :
    (execOp ρ ⟨dst, .call { callee := .builtin .len, args := #[x], argTypes := #[t] }, type, pos, after, guard⟩).run P w = .ok (.value (.int .i64 (s.size : Int))) w := by
  simp [execOp, resolve, invoke, builtin, Builtin.len_, hx, ht, goInt]
theorem x_shrE {t t' : TypeId} {x y : Operand} {a r : Int} {k : IntKind} (h : a / 2 = r) (hx : ρ x = .int .u64 a) (hy : ρ y = .int k 1) :
    (execOp ρ ⟨dst, .binOp .shr t x y t', type, pos, after, guard⟩).run P w = .ok (.value (.int .u64 r)) w := by subst h; exact x_shr1 hx hy
/-- a part of a block of numbers -/
theorem x_loadInts {w0 : World} {S : Nat → Prop} {L : Hp} {b o m : Nat} {e t : TypeId} {v : List Int} {x : Operand} (hM : Mem w0 S w L) (i : Nat) (hi : L[i]? = some (b, .cells (ints v) e (0, 0))) (hl : v.length = o + m) (hx : ρ x = .pointer (some ⟨b, o, none⟩)) (hg : (isAgg t).run P w = .ok true w) (hs : (sizeOf t).run P w = .ok m w) :
    (execOp ρ ⟨dst, .load t x, type, pos, after, guard⟩).run P w = .ok (.value (.agg (ints (v.drop o)))) w := by
  have := x_loadAgg (P := P) (ρ := ρ) (dst := dst) (type := type) (pos := pos) (after := after) (guard := guard) (t := t) (x := x) (a := ⟨b, o, none⟩) (cs := (v.drop o).map (.int .i64)) (w := w) (fun j u hu => by
    rw [add_row]
    refine hM.cell i hi ?_
    rw [List.getElem?_map, List.getElem?_drop] at hu
    simpa [ints] using hu) hx hg (by rw [hs]; simp; omega)
  simpa [ints] using this
end

theorem x_loadPart {P : Program} {w w0 : World} {ρ : Operand → Value} {dst : Option Tmp} {type : TypeId} {pos : String} {after : Array Edge} {guard : Option (Nat × Bool)} {S : Nat → Prop} {L : Hp} {b : Nat} {e t : TypeId} {cs : Array Value} {x : Operand} (hM : Mem w0 S w L) (i : Nat) (hi : L[i]? = some (b, .cells cs e (0, 0))) {o : Nat} {l : List Value} (hl : (cs.toList.drop o).take l.length = l) (hx : ρ x = .pointer (some ⟨b, o, none⟩)) (hg : (isAgg t).run P w = .ok true w) (hs : (sizeOf t).run P w = .ok l.length w) :
    (execOp ρ ⟨dst, .load t x, type, pos, after, guard⟩).run P w = .ok (.value (.agg l.toArray)) w :=
  x_loadAgg (fun j u hu => by
    rw [add_row]
    refine hM.cell i hi ?_
    rw [← hl, List.getElem?_take] at hu
    split at hu
    · rw [List.getElem?_drop] at hu; simpa using hu
    · cases hu) hx hg hs
/-! ### stores of many cells -/
def setMany (cs : Array Value) : Nat → List Value → Array Value
  | _, [] => cs
  | i, v :: r => setMany (cs.setIfInBounds i v) (i + 1) r
theorem setMany_size : ∀ (vs : List Value) (cs : Array Value) (i : Nat), (setMany cs i vs).size = cs.size
  | [], _, _ => rfl
  | v :: r, cs, i => by unfold setMany; rw [setMany_size r]; simp
theorem setMany_get : ∀ (vs : List Value) (cs : Array Value) (i j : Nat), i + vs.length ≤ cs.size → (setMany cs i vs)[j]? = if i ≤ j ∧ j < i + vs.length then vs[j - i]? else cs[j]?
  | [], cs, i, j, _ => by unfold setMany; rw [if_neg (by simp)]
  | v :: r, cs, i, j, h => by
    simp only [List.length_cons] at h
    unfold setMany
    rw [setMany_get r _ (i + 1) j (by simp; omega)]
    by_cases hj : j = i
    · subst hj
      rw [if_neg (by omega), if_pos ⟨Nat.le_refl _, by simp⟩]
      simp [Array.getElem?_setIfInBounds]
      omega
    · by_cases h2 : i + 1 ≤ j ∧ j < i + 1 + r.length
      · rw [if_pos h2, if_pos ⟨by omega, by simp; omega⟩, show j - i = (j - (i + 1)) + 1 by omega]
        rfl
      · rw [if_neg h2, if_neg (by simp only [List.length_cons]; omega), Array.getElem?_setIfInBounds_ne (by omega)]
theorem setMany_all {cs cs' : Array Value} (h : cs'.size = cs.size) : setMany cs 0 cs'.toList = cs' := by
  apply Array.ext_getElem?
  intro j
  rw [setMany_get _ _ _ _ (by simp [h])]
  by_cases hj : j < cs'.size
  · rw [if_pos ⟨by omega, by simpa using hj⟩]; simp
  · rw [if_neg (by simp; omega)]
    rw [Array.getElem?_eq_none (by omega), Array.getElem?_eq_none (by omega)]
theorem run_storeCells {P : Program} : ∀ (vs : List Value) (w : World) (b o i : Nat) (cs : Array Value) (e : TypeId), w.heap[b]? = some (.cells cs e (0, 0)) → o + i + vs.length ≤ cs.size → (∀ u ∈ vs, u.oneCell' = true) →
    ∃ w', (storeCells ⟨b, o, none⟩ vs i).run P w = .ok () w' ∧ w'.heap[b]? = some (.cells (setMany cs (o + i) vs) e (0, 0)) ∧ Kept w w' (fun k => k = b)
  | [], w, b, o, i, cs, e, h, _, _ => ⟨w, by simp [storeCells], h, Kept.refl _ _⟩
  | v :: r, w, b, o, i, cs, e, h, hs, h1 => by
    simp only [List.length_cons] at hs
    have hc : w.cell? ⟨b, o + i, none⟩ = some cs[o + i] := by rw [cell_of_row w b (o + i) cs e (0, 0) h]; simp
    have hf : w.frozen? ⟨b, o + i, none⟩ = false := by simp [World.frozen?, h]
    have hv := h1 v (by simp)
    obtain ⟨w', h2, h3, h4⟩ := run_storeCells (P := P) r (w.setCell ⟨b, o + i, none⟩ v) b o (i + 1) (cs.setIfInBounds (o + i) v) e (heap_setCell_row h) (by simp; omega) (fun u hu => h1 u (by simp [hu]))
    refine ⟨w', ?_, by show w'.heap[b]? = some (.cells (setMany (cs.setIfInBounds (o + i) v) (o + i + 1) r) e (0, 0)); exact h3, (kept_setCell (w := w) (b := b) (j := o + i) (v := v)).trans h4 (fun k hk => .inl hk)⟩
    have hst : (Go.store ((⟨b, o, none⟩ : Addr).add i) v).run P w = .ok () (w.setCell ⟨b, o + i, none⟩ v) := by
      rw [add_row]
      unfold Go.store
      cases v <;> first | (simp [Value.oneCell'] at hv; done) | simp [Sem.run, hc, hf]
    simp only [storeCells, Sem.run_bind, hst, Result.andThen_ok]
    exact h2
section
variable {P : Program} {n : Nat} {ops : Array Oper} {Q : Exit → Act → World → Prop} {K : St} {w w0 : World} {S : Nat → Prop} {L : Hp} {dst : Option Tmp} {type : TypeId} {pos : String} {after : Array Edge} {rest : List Oper}
theorem r_storeAgg {t : TypeId} {x y : Operand} (hM : Mem w0 S w L) (i : Nat) {b o : Nat} {cs vs : Array Value} {e : TypeId} (hi : L[i]? = some (b, .cells cs e (0, 0))) (ho : o + vs.size ≤ cs.size) (h1 : ∀ u ∈ vs.toList, u.oneCell' = true) (hs : (sizeOf t).run P w = .ok vs.size w)
    (hx : okOp n K ⟨dst, .store t x y, type, pos, after, none⟩ = true) (ha : K.ev x = .pointer (some ⟨b, o, none⟩)) (hv : K.ev y = .agg vs)
    (h : ∀ w', Mem w0 S w' (L.set i (b, .cells (setMany cs o vs.toList) e (0, 0))) → wpR P n ops Q rest (K.put dst undef) w') : wpR P n ops Q (⟨dst, .store t x y, type, pos, after, none⟩ :: rest) K w := by
  obtain ⟨w', h2, h3, h4⟩ := run_storeCells (P := P) vs.toList w b o 0 cs e (hM.get i hi) (by simpa using ho) h1
  refine r_skip (w' := w') rfl hx ?_ (h _ (hM.turn hi h4 h3))
  simp [execOp, ha, hv, Instr.storeAt, Instr.sureAddr, storeVar, hs, Value.cells, h2]
/-- a whole block -/
theorem r_storeRow {t : TypeId} {x y : Operand} (hM : Mem w0 S w L) (i : Nat) {b : Nat} {cs vs : Array Value} {e : TypeId} (hi : L[i]? = some (b, .cells cs e (0, 0))) (ho : vs.size = cs.size) (h1 : ∀ u ∈ vs.toList, u.oneCell' = true) (hs : (sizeOf t).run P w = .ok vs.size w)
    (hx : okOp n K ⟨dst, .store t x y, type, pos, after, none⟩ = true) (ha : K.ev x = .pointer (some ⟨b, 0, none⟩)) (hv : K.ev y = .agg vs)
    (h : ∀ w', Mem w0 S w' (L.set i (b, .cells vs e (0, 0))) → wpR P n ops Q rest (K.put dst undef) w') : wpR P n ops Q (⟨dst, .store t x y, type, pos, after, none⟩ :: rest) K w :=
  r_storeAgg hM i hi (by omega) h1 hs hx ha hv (fun w' hM' => by rw [setMany_all ho] at hM'; exact h w' hM')
end
theorem ints_one (v : List Int) : ∀ u ∈ (ints v).toList, u.oneCell' = true := by
  intro u hu
  simp [ints] at hu
  obtain ⟨x, _, rfl⟩ := hu
  rfl
end Go.Kn
