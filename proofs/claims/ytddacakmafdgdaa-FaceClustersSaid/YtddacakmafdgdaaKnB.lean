/- Memory as a list of blocks that are known whole; what is kept. -/
import Derived.Test.YtddacakmafdgdaaKnA
import Derived.Deep.Draws
set_option linter.unusedVariables false
set_option linter.unusedSimpArgs false
namespace Go.Kn
open Go.RowKit

abbrev No : Nat → Prop := fun _ => False
/-- Of what was there only the blocks in S may have turned. -/
structure Kept (w w' : World) (S : Nat → Prop) : Prop where
  os : w'.os = w.os
  tape : w'.tape = w.tape
  output : w'.output = w.output
  size : w.heap.size ≤ w'.heap.size
  block : ∀ k, k < w.heap.size → ¬ S k → w'.heap[k]? = w.heap[k]?
theorem Kept.refl (w : World) (S : Nat → Prop) : Kept w w S := ⟨rfl, rfl, rfl, Nat.le_refl _, fun _ _ _ => rfl⟩
theorem Kept.trans {a b c : World} {S : Nat → Prop} (h : Kept a b S) {T : Nat → Prop} (k : Kept b c T) (hT : ∀ i, T i → S i ∨ a.heap.size ≤ i) : Kept a c S :=
  ⟨k.os.trans h.os, k.tape.trans h.tape, k.output.trans h.output, Nat.le_trans h.size k.size, fun i hi hS => (k.block i (Nat.lt_of_lt_of_le hi h.size) (fun ht => by
    rcases hT i ht with h1 | h1
    · exact hS h1
    · omega)).trans (h.block i hi hS)⟩
theorem Kept.mono {a b : World} {S T : Nat → Prop} (h : Kept a b S) (hT : ∀ i, S i → T i) : Kept a b T := ⟨h.os, h.tape, h.output, h.size, fun i hi hn => h.block i hi (fun hs => hn (hT i hs))⟩
theorem Kept.below {w w' : World} (h : Kept w w' No) : Below w.heap.size w w' := ⟨h.os, h.tape, h.output, h.size, fun k hk => h.block k hk (fun h => h)⟩
theorem Kept.of_below {w w' : World} (h : Below w.heap.size w w') : Kept w w' No := ⟨h.os, h.tape, h.output, h.size, fun k hk _ => h.block k hk⟩
theorem Kept.drew (w : World) (S : Nat → Prop) : Kept w w.drew S := ⟨rfl, rfl, rfl, Nat.le_refl _, fun _ _ _ => rfl⟩
theorem Kept.drewN (w : World) (S : Nat → Prop) (n : Nat) : Kept w (w.drewN n) S := ⟨rfl, rfl, rfl, Nat.le_refl _, fun _ _ _ => rfl⟩
theorem Kept.alloc (w : World) (S : Nat → Prop) (o : Obj) : Kept w (w.alloc o) S := ⟨rfl, rfl, rfl, by simp, fun k hk _ => Below.heap_alloc _ _ _ hk⟩

abbrev Hp := List (Nat × Obj)
def keys (L : Hp) : Nat → Prop := fun k => k ∈ L.map (·.1)
/-- The blocks of L hold what L says. -/
structure Holds (w : World) (L : Hp) : Prop where
  nodup : (L.map (·.1)).Nodup
  at_ : ∀ p ∈ L, w.heap[p.1]? = some p.2
theorem Holds.lt {w : World} {L : Hp} (h : Holds w L) {k : Nat} (hk : keys L k) : k < w.heap.size := by
  obtain ⟨p, hp, rfl⟩ := List.mem_map.1 hk
  exact lt_of_block (h.at_ p hp)
theorem Holds.nil (w : World) : Holds w [] := ⟨by simp, by simp⟩
/-- w has come of w0; of the old blocks only those in S may have turned; L's blocks are of S or new, and hold what L says. -/
structure Mem (w0 : World) (S : Nat → Prop) (w : World) (L : Hp) : Prop where
  kept : Kept w0 w S
  holds : Holds w L
  own : ∀ k, keys L k → S k ∨ w0.heap.size ≤ k
theorem Mem.nil (w : World) (S : Nat → Prop) : Mem w S w [] := ⟨Kept.refl _ _, Holds.nil _, by simp [keys]⟩
theorem Holds.mem {w : World} {L : Hp} (h : Holds w L) : Mem w (keys L) w L := ⟨Kept.refl _ _, h, fun _ hk => .inl hk⟩
theorem Mem.lt {w0 w : World} {S : Nat → Prop} {L : Hp} (h : Mem w0 S w L) {k : Nat} (hk : keys L k) : k < w.heap.size := h.holds.lt hk
/-- the list in another order, or a part of it -/
theorem Mem.sub {w0 w : World} {S : Nat → Prop} {L : Hp} (h : Mem w0 S w L) (L' : Hp) (hn : (L'.map (·.1)).Nodup) (hs : ∀ p ∈ L', p ∈ L) : Mem w0 S w L' :=
  ⟨h.kept, ⟨hn, fun p hp => h.holds.at_ p (hs p hp)⟩, fun k hk => h.own k (by
    obtain ⟨p, hp, rfl⟩ := List.mem_map.1 hk
    exact List.mem_map.2 ⟨p, hs p hp, rfl⟩)⟩
theorem Mem.perm {w0 w : World} {S : Nat → Prop} {L L' : Hp} (h : Mem w0 S w L) (hp : L.Perm L') : Mem w0 S w L' :=
  h.sub L' ((hp.map _).nodup_iff.1 h.holds.nodup) (fun p hm => hp.mem_iff.2 hm)
theorem Mem.tail {w0 w : World} {S : Nat → Prop} {p : Nat × Obj} {L : Hp} (h : Mem w0 S w (p :: L)) : Mem w0 S w L :=
  h.sub L (by have := h.holds.nodup; simp only [List.map_cons, List.nodup_cons] at this; exact this.2) (fun q hq => List.mem_cons_of_mem _ hq)
theorem Mem.drop {w0 w : World} {S : Nat → Prop} {L : Hp} (h : Mem w0 S w L) : Mem w0 S w [] := h.sub [] (by simp) (by simp)
theorem Mem.left {w0 w : World} {S : Nat → Prop} {L L' : Hp} (h : Mem w0 S w (L ++ L')) : Mem w0 S w L :=
  h.sub L (by have := h.holds.nodup; rw [List.map_append, List.nodup_append] at this; exact this.1) (fun q hq => List.mem_append_left _ hq)
theorem Mem.right {w0 w : World} {S : Nat → Prop} {L L' : Hp} (h : Mem w0 S w (L ++ L')) : Mem w0 S w L' :=
  h.sub L' (by have := h.holds.nodup; rw [List.map_append, List.nodup_append] at this; exact this.2.1) (fun q hq => List.mem_append_right _ hq)
/-- only entries idx of L, in that order -/
theorem Mem.pick {w0 w : World} {S : Nat → Prop} {L : Hp} (h : Mem w0 S w L) (idx : List Nat) (L' : Hp) (hn : idx.Nodup) (hl : L' = idx.filterMap (fun i => L[i]?)) : Mem w0 S w L' := by
  have hnd := h.holds.nodup
  have inj : ∀ (i j : Nat) (p q : Nat × Obj), L[i]? = some p → L[j]? = some q → p.1 = q.1 → i = j := by
    intro i j p q hi hj he
    refine (List.getElem?_inj (l := L.map (·.1)) ?_ hnd).1 ?_
    · rw [List.length_map]; exact (List.getElem?_eq_some_iff.1 hi).1
    · rw [List.getElem?_map, List.getElem?_map, hi, hj]; simp [he]
  subst hl
  refine h.sub _ ?_ ?_
  · induction idx with
    | nil => simp
    | cons i r ih =>
      simp only [List.nodup_cons] at hn
      simp only [List.filterMap_cons]
      cases hi : L[i]? with
      | none => exact ih hn.2
      | some p =>
        simp only [List.map_cons, List.nodup_cons]
        refine ⟨fun hm => ?_, ih hn.2⟩
        obtain ⟨q, hq, he⟩ := List.mem_map.1 hm
        obtain ⟨j, hj, hq'⟩ := List.mem_filterMap.1 hq
        exact hn.1 (inj i j p q hi hq' he.symm ▸ hj)
  · intro p hp
    obtain ⟨j, _, hq⟩ := List.mem_filterMap.1 hp
    exact List.mem_of_getElem? hq
theorem Mem.step {w0 w w' : World} {S T : Nat → Prop} {L : Hp} (h : Mem w0 S w L) (k : Kept w w' T) (hT : ∀ i, T i → ¬ keys L i ∧ (S i ∨ w0.heap.size ≤ i)) : Mem w0 S w' L :=
  ⟨h.kept.trans k (fun i hi => (hT i hi).2), ⟨h.holds.nodup, fun p hp => by
    have hk : keys L p.1 := List.mem_map.2 ⟨p, hp, rfl⟩
    rw [k.block p.1 (h.lt hk) (fun ht => (hT _ ht).1 hk)]
    exact h.holds.at_ p hp⟩, h.own⟩
theorem Mem.grow {w0 w w' : World} {S : Nat → Prop} {L : Hp} (h : Mem w0 S w L) (k : Kept w w' No) : Mem w0 S w' L := h.step k (fun _ hi => hi.elim)
theorem Mem.drew {w0 w : World} {S : Nat → Prop} {L : Hp} (h : Mem w0 S w L) : Mem w0 S w.drew L := h.grow (Kept.drew _ _)
/-- a call that has L1 for its own -/
theorem Mem.call {w0 w w' : World} {S : Nat → Prop} {L1 L2 L1' : Hp} (h : Mem w0 S w (L1 ++ L2)) (k : Mem w (keys L1) w' L1') : Mem w0 S w' (L1' ++ L2) := by
  have hnd := h.holds.nodup
  rw [List.map_append, List.nodup_append] at hnd
  obtain ⟨hn1, hn2, hdis⟩ := hnd
  have hr := h.right
  have h2 : Mem w0 S w' L2 := hr.step k.kept (fun i hi => ⟨fun hk => hdis i hi i hk rfl, h.own i (by simp only [keys, List.map_append, List.mem_append]; exact .inl hi)⟩)
  refine ⟨h2.kept, ⟨?_, fun p hp => ?_⟩, fun i hi => ?_⟩
  · rw [List.map_append, List.nodup_append]
    refine ⟨k.holds.nodup, hn2, fun a ha b hb e => ?_⟩
    subst e
    rcases k.own a ha with h3 | h3
    · exact hdis a h3 a hb rfl
    · have := hr.lt hb
      omega
  · rcases List.mem_append.1 hp with hp | hp
    · exact k.holds.at_ p hp
    · exact h2.holds.at_ p hp
  · simp only [keys, List.map_append, List.mem_append] at hi
    rcases hi with hi | hi
    · rcases k.own i hi with h3 | h3
      · exact h.own i (by simp only [keys, List.map_append, List.mem_append]; exact .inl h3)
      · exact .inr (Nat.le_trans h.kept.size h3)
    · exact h2.own i hi
/-- a call that has nothing of ours -/
theorem Mem.call0 {w0 w w' : World} {S : Nat → Prop} {L L' : Hp} (h : Mem w0 S w L) (k : Mem w No w' L') : Mem w0 S w' (L' ++ L) := by
  have := Mem.call (L1 := []) (L2 := L) (L1' := L') h ⟨k.kept.mono (fun _ hi => hi.elim), k.holds, fun i hi => (k.own i hi).imp (fun h => h.elim) id⟩
  simpa using this
theorem Mem.add {w0 w w' : World} {S : Nat → Prop} {L : Hp} (h : Mem w0 S w L) (k : Kept w w' No) {b : Nat} {o : Obj} (hb : w.heap.size ≤ b) (ho : w'.heap[b]? = some o) : Mem w0 S w' ((b, o) :: L) :=
  h.call0 (L' := [(b, o)]) ⟨k, ⟨by simp, by simp [ho]⟩, by simp [keys]; exact hb⟩
theorem Mem.alloc {w0 w : World} {S : Nat → Prop} {L : Hp} (h : Mem w0 S w L) (o : Obj) : Mem w0 S (w.alloc o) ((w.heap.size, o) :: L) :=
  h.add (Kept.alloc _ _ _) (Nat.le_refl _) (heap_alloc_new w o)
/-- the block of entry i turned -/
theorem Mem.turn {w0 w w' : World} {S : Nat → Prop} {L : Hp} (h : Mem w0 S w L) {i b : Nat} {o o' : Obj} (hi : L[i]? = some (b, o)) (k : Kept w w' (fun j => j = b)) (ho : w'.heap[b]? = some o') : Mem w0 S w' (L.set i (b, o')) := by
  obtain ⟨hlt, hii⟩ := List.getElem?_eq_some_iff.1 hi
  have hbk : keys L b := List.mem_map.2 ⟨(b, o), List.mem_of_getElem? hi, rfl⟩
  have hown := h.own b hbk
  have hmap : (L.set i (b, o')).map (·.1) = L.map (·.1) := by
    rw [List.map_set]
    apply List.ext_getElem
    · simp
    · intro j h1 h2
      by_cases hj : i = j
      · subst hj; simp [hii]
      · rw [List.getElem_set_ne hj]
  have hkeys : keys (L.set i (b, o')) = keys L := by unfold keys; rw [hmap]
  refine ⟨h.kept.trans k (fun j hj => by subst hj; exact hown), ⟨by rw [hmap]; exact h.holds.nodup, fun p hp => ?_⟩, fun j hj => h.own j (by rw [hkeys] at hj; exact hj)⟩
  obtain ⟨j, hj⟩ := List.mem_iff_getElem?.1 hp
  rw [List.getElem?_set] at hj
  by_cases hij : i = j
  · subst hij
    simp [hlt] at hj
    subst hj
    exact ho
  · rw [if_neg hij] at hj
    have hpm := List.mem_of_getElem? hj
    have hne : p.1 ≠ b := by
      intro e
      have hnd := h.holds.nodup
      refine hij ((List.getElem?_inj (l := L.map (·.1)) (by rw [List.length_map]; exact hlt) hnd).1 ?_)
      rw [List.getElem?_map, List.getElem?_map, hi, hj]; simp [e]
    rw [k.block p.1 (lt_of_block (h.holds.at_ p hpm)) hne]
    exact h.holds.at_ p hpm
theorem Mem.get {w0 w : World} {S : Nat → Prop} {L : Hp} (h : Mem w0 S w L) (i : Nat) {b : Nat} {o : Obj} (hi : L[i]? = some (b, o)) : w.heap[b]? = some o := h.holds.at_ _ (List.mem_of_getElem? hi)
theorem Mem.cell {w0 w : World} {S : Nat → Prop} {L : Hp} (h : Mem w0 S w L) (i : Nat) {b j : Nat} {cs : Array Value} {e : TypeId} {fr : Nat × Nat} {v : Value} (hi : L[i]? = some (b, .cells cs e fr)) (hv : cs[j]? = some v) : w.cell? ⟨b, j, none⟩ = some v := by
  rw [cell_of_row w b j cs e fr (h.get i hi)]; exact hv
/-- what was there and is not ours reads as it did -/
theorem Mem.old {w0 w : World} {S : Nat → Prop} {L : Hp} (h : Mem w0 S w L) {a : Addr} {v : Value} (hc : w0.cell? a = some v) (hS : ¬ S a.block) : w.cell? a = some v := by
  rw [World.cell?_of_block (w := w0) (h.kept.block a.block (World.block_lt_of_cell? w0 a hc) hS)]; exact hc
theorem Mem.oldBlock {w0 w : World} {S : Nat → Prop} {L : Hp} (h : Mem w0 S w L) {b : Nat} {o : Obj} (hc : w0.heap[b]? = some o) (hS : ¬ S b) : w.heap[b]? = some o := by
  rw [h.kept.block b (lt_of_block hc) hS]; exact hc
theorem kept_setCell {w : World} {b j : Nat} {v : Value} : Kept w (w.setCell ⟨b, j, none⟩ v) (fun k => k = b) :=
  ⟨rfl, rfl, rfl, by simp [World.setCell], fun k _ hk => Below.heap_setCell _ _ _ _ hk⟩
theorem heap_setCell_row {w : World} {b j : Nat} {cs : Array Value} {e : TypeId} {fr : Nat × Nat} {v : Value} (h : w.heap[b]? = some (.cells cs e fr)) : (w.setCell ⟨b, j, none⟩ v).heap[b]? = some (.cells (cs.setIfInBounds j v) e fr) := by
  simp only [World.setCell, Array.getElem?_modify, h]
  simp
theorem Mem.store {w0 w : World} {S : Nat → Prop} {L : Hp} (h : Mem w0 S w L) (i : Nat) {b j : Nat} {cs : Array Value} {e : TypeId} {fr : Nat × Nat} (v : Value) (hi : L[i]? = some (b, .cells cs e fr)) : Mem w0 S (w.setCell ⟨b, j, none⟩ v) (L.set i (b, .cells (cs.setIfInBounds j v) e fr)) :=
  h.turn hi kept_setCell (heap_setCell_row (h.get i hi))

/-! ### runs of operations -/
section
variable {P : Program} {w : World} {ρ : Operand → Value} {dst : Option Tmp} {type : TypeId} {pos : String} {after : Array Edge} {guard : Option (Nat × Bool)}
theorem x_load {t : TypeId} {x : Operand} {a : Addr} {v : Value} (hc : w.cell? a = some v) (hx : ρ x = .pointer (some a)) (hg : (isAgg t).run P w = .ok false w) :
    (execOp ρ ⟨dst, .load t x, type, pos, after, guard⟩).run P w = .ok (.value v) w := by
  simp only [execOp, hx, Instr.loadAt, Instr.sureAddr, loadVar, Sem.run_bind, Sem.run_pure, Result.andThen_ok, hg, Bool.false_eq_true, if_false, Go.load]
  simp [Sem.run, hc]
theorem x_loadAgg {t : TypeId} {x : Operand} {a : Addr} {cs : List Value} (hc : ∀ j v, cs[j]? = some v → w.cell? (a.add j) = some v) (hx : ρ x = .pointer (some a)) (hg : (isAgg t).run P w = .ok true w) (hs : (sizeOf t).run P w = .ok cs.length w) :
    (execOp ρ ⟨dst, .load t x, type, pos, after, guard⟩).run P w = .ok (.value (.agg cs.toArray)) w := by
  simp only [execOp, hx, Instr.loadAt, Instr.sureAddr, loadVar, Sem.run_bind, Sem.run_pure, Result.andThen_ok, hg, hs, if_true, run_loadCells_list (P := P) w a cs hc]
theorem x_add {t t' : TypeId} {x y : Operand} {k : IntKind} {a b : Int} (h : k.wrap (a + b) = a + b) (hx : ρ x = .int k a) (hy : ρ y = .int k b) :
    (execOp ρ ⟨dst, .binOp .add t x y t', type, pos, after, guard⟩).run P w = .ok (.value (.int k (a + b))) w := by
  simp [execOp, hx, hy, eqGuard, Go.binOp, Op.intArith, h]
theorem x_sub {t t' : TypeId} {x y : Operand} {k : IntKind} {a b : Int} (h : k.wrap (a - b) = a - b) (hx : ρ x = .int k a) (hy : ρ y = .int k b) :
    (execOp ρ ⟨dst, .binOp .sub t x y t', type, pos, after, guard⟩).run P w = .ok (.value (.int k (a - b))) w := by
  simp [execOp, hx, hy, eqGuard, Go.binOp, Op.intArith, h]
theorem x_mul {t t' : TypeId} {x y : Operand} {k : IntKind} {a b : Int} (h : k.wrap (a * b) = a * b) (hx : ρ x = .int k a) (hy : ρ y = .int k b) :
    (execOp ρ ⟨dst, .binOp .mul t x y t', type, pos, after, guard⟩).run P w = .ok (.value (.int k (a * b))) w := by
  simp [execOp, hx, hy, eqGuard, Go.binOp, Op.intArith, h]
theorem wrap_i64 {a : Int} (h1 : -9223372036854775808 ≤ a) (h2 : a ≤ 9223372036854775807) : IntKind.i64.wrap a = a := IntWalk.i64_in _ ⟨h1, by omega⟩
/-- the address of an element of a slice -/
theorem x_indexAddr {t e : TypeId} {x y : Operand} {ad : Addr} {n c : Nat} {k : IntKind} {i : Int} {sz : Nat} (h0 : 0 ≤ i) (h1 : i < n) (hx : ρ x = .slice (some ad) n c) (hy : ρ y = .int k i) (ht : (underlying t).run P w = .ok (.slice e) w) (hs : (sizeOf e).run P w = .ok sz w) :
    (execOp ρ ⟨dst, .indexAddr t x y, type, pos, after, guard⟩).run P w = .ok (.value (.pointer (some (ad.add (i.toNat * sz))))) w := by
  simp [execOp, hx, hy, Instr.indexAt, asIntOf, ht, hs, h0, h1]
/-- .. of an array -/
theorem x_indexAddrA {t e : TypeId} {x y : Operand} {ad : Addr} {n : Nat} {k : IntKind} {i : Int} {sz : Nat} (h0 : 0 ≤ i) (h1 : i < n) (hx : ρ x = .pointer (some ad)) (hy : ρ y = .int k i) (ht : (underlying t).run P w = .ok (.array n e) w) (hs : (sizeOf e).run P w = .ok sz w) :
    (execOp ρ ⟨dst, .indexAddr t x y, type, pos, after, guard⟩).run P w = .ok (.value (.pointer (some (ad.add (i.toNat * sz))))) w := by
  simp [execOp, hx, hy, Instr.indexAt, Instr.sureAddr, asIntOf, ht, hs, h0, h1]
/-- an element of an array value, of one cell -/
theorem x_index {t e : TypeId} {x y : Operand} {cs : Array Value} {n : Nat} {k : IntKind} {i : Int} {v : Value} (h0 : 0 ≤ i) (h1 : i < n) (hv : cs[i.toNat]? = some v) (hx : ρ x = .agg cs) (hy : ρ y = .int k i) (ht : (underlying t).run P w = .ok (.array n e) w) (hs : (sizeOf e).run P w = .ok 1 w) (hg : (isAgg e).run P w = .ok false w) :
    (execOp ρ ⟨dst, .index t x y, type, pos, after, guard⟩).run P w = .ok (.value v) w := by
  simp [execOp, hx, hy, Instr.index, asIntOf, ht, hs, h0, h1, part, hg, hv]
/-- a byte of a string -/
theorem x_indexS {t : TypeId} {x y : Operand} {s : ByteArray} {k : IntKind} {i : Int} (h0 : 0 ≤ i) (h1 : i.toNat < s.size) (hx : ρ x = .string s) (hy : ρ y = .int k i) (ht : (underlying t).run P w = .ok .string w) :
    (execOp ρ ⟨dst, .index t x y, type, pos, after, guard⟩).run P w = .ok (.value (.int .u8 (s[i.toNat]).toNat)) w := by
  simp [execOp, hx, hy, Instr.index, asIntOf, ht, h0, h1]
theorem x_pick {c x y : Operand} {b : Bool} {u v : Value} (hc : ρ c = .bool b) (hx : ρ x = u) (hy : ρ y = v) :
    (execOp ρ ⟨dst, .pick c x y, type, pos, after, guard⟩).run P w = .ok (.value (if b then u else v)) w := by
  simp [execOp, hc, hx, hy, asBool]
theorem x_call {x : Operand} {f : FuncId} {l : List Operand} {cap vs : List Value} {ts : Array TypeId} (hcf : (callFunc f vs.toArray).run P w = .ok (.enter f vs.toArray) w) (hx : ρ x = .func (.func f) #[] cap.toArray) (hl : l.map ρ ++ cap = vs) :
    (execOp ρ ⟨dst, .call { callee := .value x, args := l.toArray, argTypes := ts }, type, pos, after, guard⟩).run P w = .ok (.enter f vs.toArray) w := by
  subst hl
  have : l.toArray.map ρ ++ cap.toArray = (l.map ρ ++ cap).toArray := by simp
  simp only [execOp, resolve, Sem.run_bind, hx, Deferred.ofValue, Sem.run_pure, Result.andThen_ok, invoke]
  simpa [this] using hcf
theorem enter_of {f : FuncId} {fn : Func} (hf : P.funcs[f]? = some fn) (hb : fn.body.isNone = false) (hnm : (fn.name == "runtime.NumGoroutine") = false) (vs : Array Value) (w : World) : (callFunc f vs).run P w = .ok (.enter f vs) w := by
  have h1 : ¬ fn.name = "runtime.NumGoroutine" := by simpa using hnm
  have h2 : ¬ fn.body = none := by intro h; simp [h] at hb
  simp [callFunc, program, Sem.run, Sem.run_bind, hf, h1, h2]
theorem x_min {x y : Operand} {k : IntKind} {a b : Int} {ts : Array TypeId} (hx : ρ x = .int k a) (hy : ρ y = .int k b) :
    (execOp ρ ⟨dst, .call { callee := .builtin .min, args := #[x, y], argTypes := ts }, type, pos, after, guard⟩).run P w = .ok (.value (.int k (min a b))) w := by
  have : (if b < a then b else a) = min a b := by simp only [Int.min_def]; split <;> split <;> omega
  simp [execOp, resolve, invoke, builtin, Builtin.min_, Builtin.min2, hx, hy, this]
theorem x_max {x y : Operand} {k : IntKind} {a b : Int} {ts : Array TypeId} (hx : ρ x = .int k a) (hy : ρ y = .int k b) :
    (execOp ρ ⟨dst, .call { callee := .builtin .max, args := #[x, y], argTypes := ts }, type, pos, after, guard⟩).run P w = .ok (.value (.int k (max a b))) w := by
  have : (if a < b then b else a) = max a b := by simp only [Int.max_def]; split <;> split <;> omega
  simp [execOp, resolve, invoke, builtin, Builtin.max_, Builtin.max2, hx, hy, this]
end

/-! ### operations that turn the world -/
section
variable {P : Program} {n : Nat} {ops : Array Oper} {Q : Exit → Act → World → Prop} {K : St} {w w0 : World} {S : Nat → Prop} {L : Hp} {dst : Option Tmp} {type : TypeId} {pos : String} {after : Array Edge} {rest : List Oper}
theorem r_box {t : TypeId} {x : Operand} (hM : Mem w0 S w L) {v : Value} (hx : okOp n K ⟨dst, .box t x, type, pos, after, none⟩ = true) (hv : K.ev x = v)
    (h : ∀ b w', Mem w0 S w' ((b, .cells v.cells t (0, 0)) :: L) → w0.heap.size ≤ b → wpR P n ops Q rest (K.put dst (.pointer (some ⟨b, 0, none⟩))) w') : wpR P n ops Q (⟨dst, .box t x, type, pos, after, none⟩ :: rest) K w := by
  refine r_val (v := .pointer (some ⟨w.heap.size, 0, none⟩)) (w' := w.alloc (.cells v.cells t)) rfl hx ?_ (h _ _ (hM.alloc _) hM.kept.size)
  subst hv
  rfl
theorem r_alloc {t : TypeId} (hM : Mem w0 S w L) {z : Value} (hz : (zeroValue t).run P w = .ok z w) (hx : okOp n K ⟨dst, .alloc t, type, pos, after, none⟩ = true)
    (h : ∀ b w', Mem w0 S w' ((b, .cells z.cells t (0, 0)) :: L) → w0.heap.size ≤ b → wpR P n ops Q rest (K.put dst (.pointer (some ⟨b, 0, none⟩))) w') : wpR P n ops Q (⟨dst, .alloc t, type, pos, after, none⟩ :: rest) K w := by
  refine r_val (v := .pointer (some ⟨w.heap.size, 0, none⟩)) (w' := w.alloc (.cells z.cells t)) rfl hx ?_ (h _ _ (hM.alloc _) hM.kept.size)
  simp only [execOp, Instr.alloc, Sem.run_bind, hz, Result.andThen_ok]
  rfl
/-- a store of one cell into the block of entry i -/
theorem r_store {t : TypeId} {x y : Operand} (hM : Mem w0 S w L) (i : Nat) {b j : Nat} {cs : Array Value} {e : TypeId} {v : Value} (hi : L[i]? = some (b, .cells cs e (0, 0))) (hj : j < cs.size) (h1 : v.oneCell' = true) (hs : (sizeOf t).run P w = .ok 1 w)
    (hx : okOp n K ⟨dst, .store t x y, type, pos, after, none⟩ = true) (ha : K.ev x = .pointer (some ⟨b, j, none⟩)) (hv : K.ev y = v)
    (h : ∀ w', Mem w0 S w' (L.set i (b, .cells (cs.setIfInBounds j v) e (0, 0))) → wpR P n ops Q rest (K.put dst undef) w') : wpR P n ops Q (⟨dst, .store t x y, type, pos, after, none⟩ :: rest) K w := by
  refine r_skip (w' := w.setCell ⟨b, j, none⟩ v) rfl hx ?_ (h _ (hM.store i v hi))
  have hc : w.cell? ⟨b, j, none⟩ = some cs[j] := hM.cell i hi (by simp [hj])
  have hf : w.frozen? ⟨b, j, none⟩ = false := by simp [World.frozen?, hM.get i hi]
  have hcell : v.cells = #[v] := by cases v <;> first | rfl | (simp [Value.oneCell'] at h1)
  have hst : (storeCells ⟨b, j, none⟩ [v]).run P w = .ok () (w.setCell ⟨b, j, none⟩ v) := by
    simp only [storeCells, Sem.run_bind, Addr.add, if_true, Go.store]
    cases v <;> first | (simp [Value.oneCell'] at h1; done) | simp [Sem.run, hc, hf]
  simp [execOp, ha, hv, Instr.storeAt, Instr.sureAddr, storeVar, hs, hcell, hst]
end
end Go.Kn
