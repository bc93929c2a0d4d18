/- Parts of the proof, laid together: KnT, Hr, Hc, Ff, Fg, Fh, ShI, Gi, Gt. -/
import Derived.Test.YtddacakmafdgdaaJg2
import Derived.Laws.MakeOwn
import Derived.Shelf.SlIterI.Nil
import Derived.Shelf.SlIterI.Sorted
import Derived.Shelf.Spec.SlicesGrow
import Derived.Ground.GgzProg
import Derived.Test.YtddacakmafdgdaaProg
section
/- Tables: a row of rows of the call's own, by functions. -/
set_option linter.unusedVariables false
set_option linter.unusedSimpArgs false
namespace Go.Kn
open Go.RowKit
variable {α : Type}
def rowC (n : Nat) (enc : α → Value) (h : Nat → α) : Array Value := ((List.range n).map fun j => enc (h j)).toArray
def topC (k n : Nat) (rb : Nat → Nat) : Array Value := ((List.range n).map fun i => if i < k then Value.slice (some ⟨rb i, 0, none⟩) n n else Value.slice none 0 0).toArray
def tabL (ty : TypeId) (enc : α → Value) (k n : Nat) (rb : Nat → Nat) (g : Nat → Nat → α) : Hp := (List.range k).map fun i => (rb i, Obj.cells (rowC n enc (g i)) ty (0, 0))
def upd2 (g : Nat → Nat → α) (i j : Nat) (v : α) : Nat → Nat → α := fun p q => if p = i ∧ q = j then v else g p q
def condU (c : Bool) (i j : Nat) (v : α) (g : Nat → Nat → α) : Nat → Nat → α := if c then upd2 g i j v else g
theorem upd2_comm (g : Nat → Nat → α) (a b c d : Nat) (v : α) : upd2 (upd2 g a b v) c d v = upd2 (upd2 g c d v) a b v := by
  funext p q
  unfold upd2
  by_cases h1 : p = c ∧ q = d <;> by_cases h2 : p = a ∧ q = b <;> simp [h1, h2]
theorem condU_comm (x : Bool) (g : Nat → Nat → α) (a b c d : Nat) (v : α) : upd2 (condU x a b v g) c d v = condU x a b v (upd2 g c d v) := by
  cases x
  · rfl
  · exact upd2_comm g a b c d v
section
variable {n k i j : Nat} {enc : α → Value} {h : Nat → α} {rb : Nat → Nat} {g : Nat → Nat → α} {ty : TypeId} {v : α}
theorem rowC_size : (rowC n enc h).size = n := by simp [rowC]
theorem topC_size : (topC k n rb).size = n := by simp [topC]
theorem rowC_get (hj : j < n) : (rowC n enc h)[j]? = some (enc (h j)) := by simp [rowC, hj]
theorem topC_get (hi : i < k) (hk : k ≤ n) : (topC k n rb)[i]? = some (.slice (some ⟨rb i, 0, none⟩) n n) := by
  have : i < n := by omega
  simp [topC, hi, this]
theorem rowC_set (hj : j < n) : (rowC n enc h).setIfInBounds j (enc v) = rowC n enc (fun q => if q = j then v else h q) := by
  apply Array.ext_getElem?
  intro q
  rw [Array.getElem?_setIfInBounds]
  by_cases hq : q < n
  · rw [rowC_get hq]
    rw [rowC_get hq]
    by_cases hqj : j = q
    · subst hqj; simp [rowC_size, hj]
    · rw [if_neg hqj, if_neg (fun e => hqj e.symm)]
  · have h1 : (rowC n enc h)[q]? = none := Array.getElem?_eq_none (by rw [rowC_size]; omega)
    have h2 : (rowC n enc (fun q => if q = j then v else h q))[q]? = none := Array.getElem?_eq_none (by rw [rowC_size]; omega)
    rw [if_neg (by omega), h1, h2]
theorem topC_set (hk : k < n) {b : Nat} : (topC k n rb).setIfInBounds k (.slice (some ⟨b, 0, none⟩) n n) = topC (k + 1) n (fun q => if q = k then b else rb q) := by
  apply Array.ext_getElem?
  intro q
  rw [Array.getElem?_setIfInBounds]
  by_cases hq : q < n
  · by_cases hqj : k = q
    · subst hqj; simp [topC_size, topC, hk]
    · rw [if_neg hqj]
      have : ¬ q = k := fun e => hqj e.symm
      by_cases hlt : q < k
      · have : q < k + 1 := by omega
        simp [topC, hq, hlt, this]
        omega
      · have : ¬ q < k + 1 := by omega
        simp [topC, hq, hlt, this]
  · have h1 : (topC k n rb)[q]? = none := Array.getElem?_eq_none (by rw [topC_size]; omega)
    have h2 : (topC (k + 1) n (fun q => if q = k then b else rb q))[q]? = none := Array.getElem?_eq_none (by rw [topC_size]; omega)
    rw [if_neg (by omega), h1, h2]
theorem tabL_len : (tabL ty enc k n rb g).length = k := by simp [tabL]
theorem tabL_get (hi : i < k) : (tabL ty enc k n rb g)[i]? = some (rb i, .cells (rowC n enc (g i)) ty (0, 0)) := by simp [tabL, hi]
theorem tabL_mem (hi : i < k) : (rb i, Obj.cells (rowC n enc (g i)) ty (0, 0)) ∈ tabL ty enc k n rb g := List.mem_of_getElem? (tabL_get hi)
theorem tabL_set (hi : i < k) (hj : j < n) : (tabL ty enc k n rb g).set i (rb i, .cells ((rowC n enc (g i)).setIfInBounds j (enc v)) ty (0, 0)) = tabL ty enc k n rb (upd2 g i j v) := by
  apply List.ext_getElem?
  intro q
  rw [List.getElem?_set]
  by_cases hq : q < k
  · rw [tabL_get hq]
    by_cases hqi : i = q
    · subst hqi
      have e : upd2 g i j v i = fun q => if q = j then v else g i q := by funext x; simp [upd2]
      rw [if_pos rfl, if_pos (by rw [tabL_len]; exact hi), rowC_set hj, tabL_get hi, e]
    · have e : upd2 g i j v q = g q := by funext x; unfold upd2; rw [if_neg (fun e => hqi e.1.symm)]
      rw [if_neg hqi, tabL_get hq, e]
  · rw [if_neg (by omega), List.getElem?_eq_none (by rw [tabL_len]; omega), List.getElem?_eq_none (by rw [tabL_len]; omega)]
theorem tabL_snoc {b : Nat} {h : Nat → α} : tabL ty enc (k + 1) n (fun q => if q = k then b else rb q) (fun p => if p = k then h else g p) = tabL ty enc k n rb g ++ [(b, .cells (rowC n enc h) ty (0, 0))] := by
  unfold tabL
  rw [List.range_succ, List.map_append]
  congr 1
  · refine List.map_congr_left fun p hp => ?_
    have hp' := List.mem_range.1 hp
    have hne : ¬ p = k := by omega
    simp only [if_neg hne]
  · simp
end
section
variable {P : Program} {w w0 : World} {S : Nat → Prop} {L A R : Hp} {n k i j : Nat} {enc : α → Value} {rb : Nat → Nat} {g : Nat → Nat → α} {ty : TypeId}
theorem Mem.tcell (hM : Mem w0 S w L) (hm : (rb i, Obj.cells (rowC n enc (g i)) ty (0, 0)) ∈ L) (hj : j < n) : w.cell? ⟨rb i, j, none⟩ = some (enc (g i j)) := by
  rw [cell_of_row w (rb i) j _ ty (0, 0) (hM.holds.at_ _ hm)]
  exact rowC_get hj
variable {ρ : Operand → Value} {dst : Option Tmp} {type : TypeId} {pos : String} {after : Array Edge} {guard : Option (Nat × Bool)}
/-- the run of a store of one cell into a row -/
theorem run_storeT {t : TypeId} {x y : Operand} (hM : Mem w0 S w (A ++ (tabL ty enc k n rb g ++ R))) (hi : i < k) (hj : j < n) {v : α} (h1 : (enc v).oneCell' = true) (hs : (sizeOf t).run P w = .ok 1 w) (ha : ρ x = .pointer (some ⟨rb i, j, none⟩)) (hv : ρ y = enc v) :
    ∃ w', (execOp ρ ⟨dst, .store t x y, type, pos, after, guard⟩).run P w = .ok .skip w' ∧ Mem w0 S w' (A ++ (tabL ty enc k n rb (upd2 g i j v) ++ R)) := by
  have hidx : (A ++ (tabL ty enc k n rb g ++ R))[A.length + i]? = some (rb i, .cells (rowC n enc (g i)) ty (0, 0)) := by
    rw [List.getElem?_append_right (by omega), Nat.add_sub_cancel_left, List.getElem?_append_left (by rw [tabL_len]; exact hi), tabL_get hi]
  have hset : (A ++ (tabL ty enc k n rb g ++ R)).set (A.length + i) (rb i, .cells ((rowC n enc (g i)).setIfInBounds j (enc v)) ty (0, 0)) = A ++ (tabL ty enc k n rb (upd2 g i j v) ++ R) := by
    rw [List.set_append, if_neg (by omega), Nat.add_sub_cancel_left, List.set_append, if_pos (by rw [tabL_len]; exact hi), tabL_set hi hj]
  refine ⟨w.setCell ⟨rb i, j, none⟩ (enc v), ?_, hset ▸ hM.store (A.length + i) (enc v) hidx⟩
  have hc : w.cell? ⟨rb i, j, none⟩ = some (enc (g i j)) := hM.cell _ hidx (rowC_get hj)
  have hf : w.frozen? ⟨rb i, j, none⟩ = false := by simp [World.frozen?, hM.get _ hidx]
  have hcell : (enc v).cells = #[enc v] := by
    generalize enc v = u at h1
    cases u <;> first | rfl | (simp [Value.oneCell'] at h1)
  have hst : (storeCells ⟨rb i, j, none⟩ [enc v]).run P w = .ok () (w.setCell ⟨rb i, j, none⟩ (enc v)) := by
    simp only [storeCells, Sem.run_bind, Addr.add, if_true, Go.store]
    generalize enc v = u at h1
    cases u <;> first | (simp [Value.oneCell'] at h1; done) | simp [Sem.run, hc, hf]
  simp [execOp, ha, hv, Instr.storeAt, Instr.sureAddr, storeVar, hs, hcell, hst]
end
section
variable {P : Program} {N : Nat} {ops : Array Oper} {Q : Exit → Act → World → Prop} {K : St} {w w0 : World} {S : Nat → Prop} {A R : Hp} {n k i j : Nat} {enc : α → Value} {rb : Nat → Nat} {g : Nat → Nat → α} {ty : TypeId} {dst : Option Tmp} {type : TypeId} {pos : String} {after : Array Edge} {rest : List Oper}
theorem r_storeT {t : TypeId} {x y : Operand} (A : Hp) (hM : Mem w0 S w (A ++ (tabL ty enc k n rb g ++ R))) (hi : i < k) (hj : j < n) {v : α} (h1 : (enc v).oneCell' = true) (hs : (sizeOf t).run P w = .ok 1 w)
    (hx : okOp N K ⟨dst, .store t x y, type, pos, after, none⟩ = true) (ha : K.ev x = .pointer (some ⟨rb i, j, none⟩)) (hv : K.ev y = enc v)
    (h : ∀ w', Mem w0 S w' (A ++ (tabL ty enc k n rb (upd2 g i j v) ++ R)) → wpR P N ops Q rest (K.put dst undef) w') : wpR P N ops Q (⟨dst, .store t x y, type, pos, after, none⟩ :: rest) K w := by
  obtain ⟨w', h2, h3⟩ := run_storeT (P := P) (ρ := K.ev) (dst := dst) (type := type) (pos := pos) (after := after) (guard := none) hM hi hj h1 hs ha hv
  exact r_skip rfl hx h2 (h _ h3)
end
/-- an entry that is there if .. -/
def cnd (c : Bool) (p : Nat × Obj) : Hp := if c then [p] else []
section
variable {P : Program} {w w0 : World} {S : Nat → Prop} {L : Hp} {ρ : Operand → Value} {dst : Option Tmp} {type : TypeId} {pos : String} {after : Array Edge} {guard : Option (Nat × Bool)}
/-- make([]T, n) of one-cell elements -/
theorem x_makeSlice {t e : TypeId} {x y : Operand} {n bytes : Nat} {z : Value} (hx : ρ x = .int .i64 (n : Int)) (hy : ρ y = .int .i64 (n : Int)) (ht : P.underlying t = some (.slice e)) (hi : (P.info? e).map (fun i => (i.zero, i.size, i.bytes)) = some (some z, 1, bytes)) (hz : z.cells = #[z]) (hb : bytes * n ≤ 281474976710656) (hn : n ≤ 4611686018427387904) :
    (execOp ρ ⟨dst, .makeSlice t x y, type, pos, after, guard⟩).run P w = .ok (.value (.slice (some ⟨w.heap.size, 0, none⟩) n n)) (w.alloc (.cells ((List.range n).map fun _ => z).toArray e)) := by
  obtain ⟨i, h2, h3, h4, h5⟩ := info_parts hi
  have hb' : (i.bytes : Int) * (n : Int) ≤ 281474976710656 := by
    have h : ((i.bytes * n : Nat) : Int) ≤ 281474976710656 := by rw [h5]; omega
    rwa [Int.natCast_mul] at h
  have hr := run_make (P := P) w t e i z ht h2 h3 .i64 .i64 n n (Int.natCast_nonneg n) (Int.le_refl _) hb' (by omega)
  simp only [Int.toNat_natCast, h4, Nat.mul_one, hz] at hr
  have he : madeCells #[z] n = ((List.range n).map fun _ => z).toArray := by
    apply Array.ext_getElem?
    intro q
    by_cases hq : q < n
    · simp [madeCells, hq, Nat.mod_one]
    · simp [madeCells, hq]
  rw [he] at hr
  simp only [execOp, hx, hy, Sem.run_bind, hr, Result.andThen_ok, Sem.run_pure]
end
section
variable {P : Program} {w w0 : World} {S : Nat → Prop} {L A B R : Hp} {ρ : Operand → Value} {dst : Option Tmp} {type : TypeId} {pos : String} {after : Array Edge} {guard : Option (Nat × Bool)}
theorem Mem.ins1 {p : Nat × Obj} (h : Mem w0 S w (p :: (A ++ R))) : Mem w0 S w (A ++ (p :: R)) := h.perm List.perm_middle.symm
theorem Mem.ins2 {p : Nat × Obj} (h : Mem w0 S w (p :: (A ++ (B ++ R)))) : Mem w0 S w (A ++ (B ++ (p :: R))) := h.perm (List.perm_middle.symm.trans (List.Perm.append_left A List.perm_middle.symm))
theorem x_alloc {t : TypeId} {z : Value} (hz : (zeroValue t).run P w = .ok z w) : (execOp ρ ⟨dst, .alloc t, type, pos, after, guard⟩).run P w = .ok (.value (.pointer (some ⟨w.heap.size, 0, none⟩))) (w.alloc (.cells z.cells t)) := by
  simp only [execOp, Instr.alloc, Sem.run_bind, hz, Result.andThen_ok]
  rfl
theorem x_store1 {t : TypeId} {x y : Operand} (hM : Mem w0 S w L) (i : Nat) {b j : Nat} {cs : Array Value} {e : TypeId} {v : Value} (hi : L[i]? = some (b, .cells cs e (0, 0))) (hj : j < cs.size) (h1 : v.oneCell' = true) (hs : (sizeOf t).run P w = .ok 1 w) (ha : ρ x = .pointer (some ⟨b, j, none⟩)) (hv : ρ y = v) :
    ∃ w', (execOp ρ ⟨dst, .store t x y, type, pos, after, guard⟩).run P w = .ok .skip w' ∧ Mem w0 S w' (L.set i (b, .cells (cs.setIfInBounds j v) e (0, 0))) := by
  refine ⟨w.setCell ⟨b, j, none⟩ v, ?_, hM.store i v hi⟩
  have hc : w.cell? ⟨b, j, none⟩ = some cs[j] := hM.cell i hi (by simp [hj])
  have hf : w.frozen? ⟨b, j, none⟩ = false := by simp [World.frozen?, hM.get i hi]
  have hcell : v.cells = #[v] := by cases v <;> first | rfl | (simp [Value.oneCell'] at h1)
  have hst : (storeCells ⟨b, j, none⟩ [v]).run P w = .ok () (w.setCell ⟨b, j, none⟩ v) := by
    simp only [storeCells, Sem.run_bind, Addr.add, if_true, Go.store]
    cases v <;> first | (simp [Value.oneCell'] at h1; done) | simp [Sem.run, hc, hf]
  simp [execOp, ha, hv, Instr.storeAt, Instr.sureAddr, storeVar, hs, hcell, hst]
theorem x_storeRow {t : TypeId} {x y : Operand} (hM : Mem w0 S w L) (i : Nat) {b : Nat} {cs vs : Array Value} {e : TypeId} (hi : L[i]? = some (b, .cells cs e (0, 0))) (ho : vs.size = cs.size) (h1 : ∀ u ∈ vs.toList, u.oneCell' = true) (hs : (sizeOf t).run P w = .ok vs.size w) (ha : ρ x = .pointer (some ⟨b, 0, none⟩)) (hv : ρ y = .agg vs) :
    ∃ w', (execOp ρ ⟨dst, .store t x y, type, pos, after, guard⟩).run P w = .ok .skip w' ∧ Mem w0 S w' (L.set i (b, .cells vs e (0, 0))) := by
  obtain ⟨w', h2, h3, h4⟩ := run_storeCells (P := P) vs.toList w b 0 0 cs e (hM.get i hi) (by simp [ho]) h1
  rw [setMany_all ho] at h3
  refine ⟨w', ?_, hM.turn hi h4 h3⟩
  simp [execOp, ha, hv, Instr.storeAt, Instr.sureAddr, storeVar, hs, Value.cells, h2]
end
/-! a range over a map that lies where it lay -/
section
variable {P : Program} {n : Nat} {ops : Array Oper} {Q : Exit → Act → World → Prop} {K : St} {w w0 : World} {S : Nat → Prop} {L : Hp} {dst : Option Tmp} {type : TypeId} {pos : String} {after : Array Edge} {rest : List Oper}
theorem r_rangeH {x : Operand} {t kt et : TypeId} (hM : Mem w0 S w L) {bm : Nat} {es : List Ent} {clock : Nat} (hh : w.heap[bm]? = some (mapO es clock)) (ht : P.underlying t = some (.map kt et))
    (hok : okOp n K ⟨dst, .range t x, type, pos, after, none⟩ = true) (hx : K.ev x = .map (some bm))
    (h : ∀ b w', Mem w0 S w' ((b, .mapIter (some bm) clock #[] clock) :: L) → w0.heap.size ≤ b → wpR P n ops Q rest (K.put dst (.pointer (some ⟨b, 0, none⟩))) w') : wpR P n ops Q (⟨dst, .range t x, type, pos, after, none⟩ :: rest) K w := by
  have hg := run_getObj (P := P) hh (by simp [mapO])
  refine r_new (fun b => .pointer (some ⟨b, 0, none⟩)) (.mapIter (some bm) clock #[] clock) hM ?_ rfl hok h
  simp only [execOp, Instr.range, hx, Sem.run_bind, run_underlying ht, Result.andThen_ok, hg, mapO, Sem.run_pure]
  rfl
end
theorem x_indexAddrL {P : Program} {w : World} {ρ : Operand → Value} {dst : Option Tmp} {type : TypeId} {pos : String} {after : Array Edge} {guard : Option (Nat × Bool)} {t e : TypeId} {x y : Operand} {b o r : Nat} {n c : Nat} {k : IntKind} {i sz : Nat} (h1 : i < n) (hx : ρ x = .slice (some ⟨b, o, none⟩) n c) (hy : ρ y = .int k (i : Int)) (ht : (underlying t).run P w = .ok (.slice e) w) (hs : (sizeOf e).run P w = .ok sz w) (hr : o + i * sz = r) :
    (execOp ρ ⟨dst, .indexAddr t x y, type, pos, after, guard⟩).run P w = .ok (.value (.pointer (some ⟨b, r, none⟩))) w := by
  have h := x_indexAddrN (P := P) (dst := dst) (type := type) (pos := pos) (after := after) (guard := guard) (w := w) (k := k) (i := i) (n := n) (c := c) (sz := sz) (e := e) (t := t) (A := some ⟨b, o, none⟩) (fun _ => rfl) h1 hx hy ht hs
  rw [h]
  subst hr
  simp only [adr, Option.getD_some]
  rw [add_row]
theorem Mem.cellM {w0 w : World} {S : Nat → Prop} {L : Hp} (h : Mem w0 S w L) {b j : Nat} {cs : Array Value} {e : TypeId} {fr : Nat × Nat} {v : Value} (hm : (b, Obj.cells cs e fr) ∈ L) (hv : cs[j]? = some v) : w.cell? ⟨b, j, none⟩ = some v := by
  rw [cell_of_row w b j cs e fr (h.holds.at_ _ hm)]; exact hv
section
variable {P : Program} {w w0 : World} {S : Nat → Prop} {L A T R : Hp} {ρ : Operand → Value} {dst : Option Tmp} {type : TypeId} {pos : String} {after : Array Edge} {guard : Option (Nat × Bool)} {post : Value → World → Prop} {n k i j : Nat} {enc : α → Value} {rb : Nat → Nat} {g : Nat → Nat → α} {ty : TypeId}
theorem o_storeT {t : TypeId} {x y : Operand} (A : Hp) (hM : Mem w0 S w (A ++ (tabL ty enc k n rb g ++ R))) (hi : i < k) (hj : j < n) {v : α} (h1 : (enc v).oneCell' = true) (hs : (sizeOf t).run P w = .ok 1 w) (ha : ρ x = .pointer (some ⟨rb i, j, none⟩)) (hv : ρ y = enc v)
    (hp : ∀ w', Mem w0 S w' (A ++ (tabL ty enc k n rb (upd2 g i j v) ++ R)) → post undef w') : OpRun P ρ ⟨dst, .store t x y, type, pos, after, guard⟩ w post := by
  obtain ⟨w', h2, h3⟩ := run_storeT (P := P) (ρ := ρ) (dst := dst) (type := type) (pos := pos) (after := after) (guard := guard) hM hi hj h1 hs ha hv
  exact run_skip h2 (hp w' h3)
theorem o_storeT2 {t : TypeId} {x y : Operand} (A : Hp) (hM : Mem w0 S w (A ++ (T ++ tabL ty enc k n rb g))) (hi : i < k) (hj : j < n) {v : α} (h1 : (enc v).oneCell' = true) (hs : (sizeOf t).run P w = .ok 1 w) (ha : ρ x = .pointer (some ⟨rb i, j, none⟩)) (hv : ρ y = enc v)
    (hp : ∀ w', Mem w0 S w' (A ++ (T ++ tabL ty enc k n rb (upd2 g i j v))) → post undef w') : OpRun P ρ ⟨dst, .store t x y, type, pos, after, guard⟩ w post := by
  refine o_storeT (R := []) (A ++ T) (by rw [List.append_nil, List.append_assoc]; exact hM) hi hj h1 hs ha hv (fun w' h => hp w' ?_)
  rw [List.append_nil, List.append_assoc] at h
  exact h
theorem o_store1 {t : TypeId} {x y : Operand} (hM : Mem w0 S w L) (i : Nat) {b j : Nat} {cs : Array Value} {e : TypeId} {v : Value} (hi : L[i]? = some (b, .cells cs e (0, 0))) (hj : j < cs.size) (h1 : v.oneCell' = true) (hs : (sizeOf t).run P w = .ok 1 w) (ha : ρ x = .pointer (some ⟨b, j, none⟩)) (hv : ρ y = v)
    (hp : ∀ w', Mem w0 S w' (L.set i (b, .cells (cs.setIfInBounds j v) e (0, 0))) → post undef w') : OpRun P ρ ⟨dst, .store t x y, type, pos, after, guard⟩ w post := by
  obtain ⟨w', h2, h3⟩ := x_store1 (P := P) (ρ := ρ) (dst := dst) (type := type) (pos := pos) (after := after) (guard := guard) (t := t) (x := x) (y := y) hM i hi hj h1 hs ha hv
  exact run_skip h2 (hp w' h3)
theorem o_storeRow {t : TypeId} {x y : Operand} (hM : Mem w0 S w L) (i : Nat) {b : Nat} {cs vs : Array Value} {e : TypeId} (hi : L[i]? = some (b, .cells cs e (0, 0))) (ho : vs.size = cs.size) (h1 : ∀ u ∈ vs.toList, u.oneCell' = true) (hs : (sizeOf t).run P w = .ok vs.size w) (ha : ρ x = .pointer (some ⟨b, 0, none⟩)) (hv : ρ y = .agg vs)
    (hp : ∀ w', Mem w0 S w' (L.set i (b, .cells vs e (0, 0))) → post undef w') : OpRun P ρ ⟨dst, .store t x y, type, pos, after, guard⟩ w post := by
  obtain ⟨w', h2, h3⟩ := x_storeRow (P := P) (ρ := ρ) (dst := dst) (type := type) (pos := pos) (after := after) (guard := guard) (t := t) (x := x) (y := y) hM i hi ho h1 hs ha hv
  exact run_skip h2 (hp w' h3)
/-- a part of an element -/
theorem x_loadEPart {sz n m : Nat} {ad : Option Addr} {l : List (List Int)} {k o : Nat} {e : List Int} {t : TypeId} {x : Operand} (h : RdE intsE sz w ad n l) (hk : l[k]? = some e) (hm : e.length = o + m) (hx : ρ x = .pointer (some (((adr ad).add (k * sz)).add o))) (hg : (isAgg t).run P w = .ok true w) (hs : (sizeOf t).run P w = .ok m w) :
    (execOp ρ ⟨dst, .load t x, type, pos, after, guard⟩).run P w = .ok (.value (.agg (ints (e.drop o)))) w := by
  have := x_loadAgg (P := P) (ρ := ρ) (dst := dst) (type := type) (pos := pos) (after := after) (guard := guard) (t := t) (x := x) (a := ((adr ad).add (k * sz)).add o) (cs := (e.drop o).map (.int .i64)) (w := w) (fun j u hu => by
    rw [add_add]
    refine h.elem hk (o + j) u ?_
    rw [List.getElem?_map, List.getElem?_drop] at hu
    simpa using hu) hx hg (by rw [hs]; simp; omega)
  simpa [ints] using this
end
theorem dno {a b : Bool} (h : a = true → b = true) (hb : b = false) : a = false := by
  cases a with
  | false => rfl
  | true => rw [h rfl] at hb; cases hb
theorem tabL_snocC {ty : TypeId} {enc : α → Value} {k n b : Nat} {rb : Nat → Nat} {c : α} : tabL ty enc (k + 1) n (fun q => if q = k then b else rb q) (fun _ _ => c) = tabL ty enc k n rb (fun _ _ => c) ++ [(b, .cells (rowC n enc (fun _ => c)) ty (0, 0))] := by
  have h := tabL_snoc (ty := ty) (enc := enc) (k := k) (n := n) (rb := rb) (g := fun _ _ => c) (b := b) (h := fun _ => c)
  rw [← h]
  congr 1
  funext p
  split <;> rfl
theorem Mem.tabgrow {w w0 : World} {S : Nat → Prop} {p q : Nat × Obj} {E T1 T2 : Hp} (h : Mem w0 S w (p :: q :: (E ++ (T1 ++ T2)))) : Mem w0 S w (E ++ ((T1 ++ [p]) ++ (T2 ++ [q]))) := by
  refine h.perm ?_
  have h1 : (p :: q :: (E ++ (T1 ++ T2))).Perm (E ++ (p :: q :: (T1 ++ T2))) := (List.perm_append_comm_assoc [p, q] E (T1 ++ T2))
  refine h1.trans (List.Perm.append_left E ?_)
  rw [List.append_assoc]
  have h2 : (p :: q :: (T1 ++ T2)).Perm (T1 ++ (p :: q :: T2)) := List.perm_append_comm_assoc [p, q] T1 T2
  refine h2.trans (List.Perm.append_left T1 (List.Perm.cons p ?_))
  exact (List.perm_append_comm (l₁ := [q]))
theorem rowC_congr {n : Nat} {enc : α → Value} {h h' : Nat → α} (e : ∀ p, p < n → h p = h' p) : rowC n enc h = rowC n enc h' := by
  unfold rowC
  congr 1
  refine List.map_congr_left fun q hq => ?_
  rw [e q (List.mem_range.1 hq)]
theorem rowI_set {n p : Nat} {o : Nat → Int} {v : Int} (hp : p < n) : (rowC n (Value.int .i64) o).setIfInBounds p (.int .i64 v) = rowC n (Value.int .i64) (fun q => if q = p then v else o q) := rowC_set hp
end Go.Kn
end
section
/- Labels of groups, as the reference has them; comparisons. -/
set_option linter.unusedVariables false
namespace Go.Kn
open Go.RowKit Go.Proofs.Ytddacakmafdgdaa
def Lab (n : Nat) (f g : Nat → Nat) : Prop := (∀ p, p < n → g p < n) ∧ ∀ p q, p < n → q < n → (g p = g q ↔ f p = f q)
theorem lab_id (n : Nat) : Lab n id id := ⟨fun p h => h, fun p q _ _ => Iff.rfl⟩
def relab (a b : Nat) (g : Nat → Nat) (k : Nat) : Nat → Nat := fun q => if q < k ∧ g q = b then a else g q
theorem relab_0 (a b : Nat) (g : Nat → Nat) : relab a b g 0 = g := by funext q; simp [relab]
theorem relab_yes {a b k : Nat} {g : Nat → Nat} (h : g k = b) : (fun q => if q = k then a else relab a b g k q) = relab a b g (k + 1) := by
  funext q
  unfold relab
  by_cases e : q = k
  · subst e; simp [h]
  · rw [if_neg e]
    have : (q < k ∧ g q = b) ↔ (q < k + 1 ∧ g q = b) := by omega
    simp only [this]
theorem relab_no {a b k : Nat} {g : Nat → Nat} (h : g k ≠ b) : relab a b g k = relab a b g (k + 1) := by
  funext q
  unfold relab
  have : (q < k ∧ g q = b) ↔ (q < k + 1 ∧ g q = b) := by
    constructor
    · rintro ⟨h1, h2⟩; exact ⟨by omega, h2⟩
    · rintro ⟨h1, h2⟩
      refine ⟨?_, h2⟩
      rcases Nat.lt_or_ge q k with h3 | h3
      · exact h3
      · exfalso; have : q = k := by omega
        subst this; exact h h2
  simp only [this]
theorem relab_at {a b k : Nat} {g : Nat → Nat} : relab a b g k k = g k := by simp [relab]
theorem lab_step {n a b : Nat} {f g : Nat → Nat} (h : Lab n f g) (ha : a < n) (hb : b < n) {k : Nat} (hk : n ≤ k) : Lab n (joinF (f a) (f b) f) (relab (g a) (g b) g k) := by
  obtain ⟨h1, h2⟩ := h
  refine ⟨fun p hp => ?_, fun p q hp hq => ?_⟩
  · unfold relab; split
    · exact h1 a ha
    · exact h1 p hp
  · have e1 := h2 p b hp hb
    have e2 := h2 p a hp ha
    have e3 := h2 q b hq hb
    have e4 := h2 q a hq ha
    have e5 := h2 p q hp hq
    have e6 := h2 a b ha hb
    unfold relab joinF
    have hpk : p < k := by omega
    have hqk : q < k := by omega
    simp only [hpk, hqk, true_and]
    split <;> split <;> split <;> split <;> omega
theorem relabI {n a b k : Nat} {g : Nat → Nat} (hk : k < n) : (rowC n (Value.int .i64) (fun q => (relab a b g k q : Int))).setIfInBounds k (.int .i64 (a : Int)) = rowC n (Value.int .i64) (fun q => ((fun p => if p = k then a else relab a b g k p) q : Int)) := by
  rw [rowI_set hk]
  congr 1
  funext q
  by_cases e : q = k <;> simp [e]
theorem fillI {n k : Nat} (hk : k < n) : (rowC n (Value.int .i64) (fun q => if q < k then (q : Int) else 0)).setIfInBounds k (.int .i64 (k : Int)) = rowC n (Value.int .i64) (fun q => if q < k + 1 then (q : Int) else 0) := by
  rw [rowI_set hk]
  congr 1
  funext q
  by_cases e : q = k
  · subst e; simp
  · by_cases h : q < k
    · have : q < k + 1 := by omega
      simp [e, h, this]
    · have : ¬ q < k + 1 := by omega
      simp [e, h, this]
theorem fillI_0 {n : Nat} : rowC n (Value.int .i64) (fun _ => (0 : Int)) = rowC n (Value.int .i64) (fun q => if q < 0 then (q : Int) else 0) := by simp
theorem fillI_n {n : Nat} : rowC n (Value.int .i64) (fun q => if q < n then (q : Int) else 0) = rowC n (Value.int .i64) (fun q => (id q : Int)) := rowC_congr (fun p hp => by simp [hp])
theorem cmp_after {a b c d : Int} : firstN [cmp3 a c, cmp3 b d] ≤ 0 ↔ a < c ∨ (a = c ∧ b ≤ d) := by
  simp only [firstN, cmp3]
  repeat' split
  all_goals omega
theorem firstN_range {a b : Int} (h : ∀ x ∈ [a, b], -1 ≤ x ∧ x ≤ 1) : -1 ≤ firstN [a, b] ∧ firstN [a, b] ≤ 1 := by
  simp only [firstN]
  have h1 := h a (by simp)
  have h2 := h b (by simp)
  repeat' split
  all_goals omega
/-- what the reference says of bonds, for right likenesses -/
def checkB2 (l : List (List Int)) (bs : List Bond3) : Int := if 1000 < bs.length then 4 else if bondsFrom l none bs ≠ 0 then bondsFrom l none bs else if apartBad (firstsOf l bs) (notsOf l bs) = true then 11 else 0
theorem checkB_eq {l : List (List Int)} {bs : List Bond3} (h : checkL l = 0) : checkB l bs = checkB2 l bs := by
  unfold checkB checkB2
  rw [if_neg (by simp [h])]
theorem lab_apart {n : Nat} {f g : Nat → Nat} (h : Lab n f g) {a b : Nat} (ha : a < n) (hb : b < n) : decide (((g a : Nat) : Int) = (g b : Int)) = decide (f a = f b) := by
  have := h.2 a b ha hb
  by_cases e : f a = f b
  · have e2 := this.2 e; simp [e, e2]
  · have e2 : ¬ g a = g b := fun x => e (this.1 x)
    simp [e]; omega
end Go.Kn
end
section
/- Hc: what Go functions of this seat come to, printed by walk.py over the engine. -/
set_option linter.unusedVariables false
set_option linter.unusedSimpArgs false
set_option maxRecDepth 100000
namespace Go.Proofs.Ytddacakmafdgdaa
open Go.RowKit Go.Kn

theorem nanI_s (a : Int) (w : World) :
  Calls Try.prog 57 #[Value.int .i64 a] w fun e w' => ∃ r, e = .returned r ∧ r = .bool false ∧ Mem w No w' [] := by
 refine calls_k (args := [Value.int .i64 a]) 6 [(0, Value.int .i64 a)] Try.func57 rfl rfl ⟨rfl, trivial⟩ ?_
 have hM := Mem.nil w No
 refine k_seq (k_region (sqV (.bool false) rfl rfl rfl ?_))
 refine r_nil (e_then (k_seq (k_region (sqV (.int .i64 a) rfl rfl rfl ?_))))
 refine sqV (.int .i64 a) rfl rfl rfl ?_
 refine sqV (.bool (a != a)) rfl rfl rfl ?_
 refine sqV (.bool (a != a)) rfl rfl rfl ?_
 refine r_nil (e_then (k_ret (e_ret1 rfl rfl ?_)))
 exact ⟨_, rfl, by simp, hM⟩

theorem compare_s (a b : Int) (w : World) :
  Calls Try.prog 33 #[Value.int .i64 a, Value.int .i64 b] w fun e w' => ∃ r, e = .returned r ∧ r = .int .i64 (cmp3 a b) ∧ Mem w No w' [] := by
 refine calls_k (args := [Value.int .i64 a, Value.int .i64 b]) 20 [(0, Value.int .i64 a), (1, Value.int .i64 b)] Try.func33 rfl rfl ⟨rfl, rfl, trivial⟩ ?_
 have hM := Mem.nil w No
 refine k_seq (k_region (sqV (.int .i64 0) rfl rfl rfl ?_))
 refine r_nil (e_then (k_seq (k_region (sqV (.int .i64 a) rfl rfl rfl ?_))))
 refine r_call (f := 57) (args := #[Value.int .i64 a]) (w' := w) rfl rfl (x_call (vs := [Value.int .i64 a]) (enter57 _ _) rfl rfl) (nanI_s a w) ?_
 rintro v_ w1 ⟨rfl, hM2⟩
 replace hM2 := hM.grow hM2.kept
 refine sqV (.bool false) rfl rfl rfl ?_
 refine r_nil (sqE [(0, .int .i64 a), (1, .int .i64 b), (5, .bool false)] rfl (e_then (k_seq (k_region (sqV (.int .i64 b) rfl rfl rfl ?_)))))
 refine r_call (f := 57) (args := #[Value.int .i64 b]) (w' := w1) rfl rfl (x_call (vs := [Value.int .i64 b]) (enter57 _ _) rfl rfl) (nanI_s b w1) ?_
 rintro v_ w3 ⟨rfl, hM4⟩
 replace hM4 := hM2.grow hM4.kept
 refine sqV (.bool false) rfl rfl rfl ?_
 refine r_nil (e_then (k_seq (k_seq (k_region (sqV (.bool false) rfl rfl rfl ?_)))))
 refine r_nil (e_then (k_cond_false rfl rfl ?_))
 refine k_skip (e_then (k_seq (k_seq (k_region (sqV (.bool false) rfl rfl rfl ?_)))))
 refine r_nil (e_then (k_cond_false rfl rfl ?_))
 refine k_skip (e_then (k_seq (k_seq (k_region (sqV (.int .i64 a) rfl rfl rfl ?_)))))
 refine sqV (.int .i64 b) rfl rfl rfl ?_
 refine sqV (.bool (decide (a < b))) rfl rfl rfl ?_
 refine r_nil (sqE [(0, .int .i64 a), (1, .int .i64 b), (16, .bool (decide (a < b)))] rfl (e_then ?_))
 refine k_cond rfl rfl (fun h => ?_) (fun h => ?_)
 ·try simp only [sqC] at h
  refine k_seq (k_region (sqV (.int .i64 (-1)) rfl rfl rfl ?_))
  refine r_nil (e_then (k_ret (e_then_ret (e_ret1 rfl rfl ?_))))
  exact ⟨_, rfl, by rw [cmp3, if_pos h], hM4.drop⟩
 ·try simp only [sqC] at h
  refine k_skip (e_then (k_seq (k_seq (k_region (sqV (.int .i64 a) rfl rfl rfl ?_)))))
  refine sqV (.int .i64 b) rfl rfl rfl ?_
  refine sqV (.bool (decide (a > b))) rfl rfl rfl ?_
  refine r_nil (e_then ?_)
  refine k_cond rfl rfl (fun h2 => ?_) (fun h2 => ?_)
  ·try simp only [sqC] at h2
   refine k_seq (k_region (sqV (.int .i64 1) rfl rfl rfl ?_))
   refine r_nil (e_then (k_ret (e_then_ret (e_ret1 rfl rfl ?_))))
   exact ⟨_, rfl, by rw [cmp3, if_neg (by omega), if_pos (by omega)], hM4.drop⟩
  ·try simp only [sqC] at h2
   refine k_skip (e_then (k_seq (k_region (sqV (.int .i64 0) rfl rfl rfl ?_))))
   refine r_nil (sqE [(4, .int .i64 0)] rfl (e_then (k_ret (e_ret1 rfl rfl ?_))))
   exact ⟨_, rfl, by rw [cmp3, if_neg (by omega), if_neg (by omega)], hM4.drop⟩

theorem orI_s (A : Option Addr) (n c : Nat) (l : List Int) (w : World) (hl : RdE intE 1 w A n l) (hn : n ≤ 300) :
  Calls Try.prog 32 #[Value.slice A n c] w fun e w' => ∃ r, e = .returned r ∧ r = .int .i64 (firstN l) ∧ Mem w No w' [] := by
 refine calls_k (args := [Value.slice A n c]) 18 [(0, Value.slice A n c)] Try.func32 rfl rfl ⟨rfl, trivial⟩ ?_
 have hM := Mem.nil w No
 have hln := hl.len
 refine k_seq (k_region (sqV (.int .i64 0) rfl rfl rfl ?_))
 refine r_nil (e_then (k_seq (k_region (sqV (.int .i64 0) rfl rfl rfl ?_))))
 refine r_nil (e_then (k_seq (k_seq (k_region (sqV (.slice A n c) rfl rfl rfl ?_)))))
 refine sqV (.int .i64 (n : Int)) rfl rfl (x_len rfl rfl) ?_
 refine sqV (.int .i64 0) rfl rfl rfl ?_
 refine r_nil (e_then (k_block (k_loop (σ := Nat) (fun k => [(3, .int .i64 0), (6, .slice A n c), (7, .int .i64 (n : Int)), (8, .int .i64 (k : Int))]) (fun k w_ => Mem w No w_ [] ∧ k ≤ n ∧ firstN l = firstN (l.drop k)) (fun k => n - k) 0 (sqS rfl) ⟨hM, by omega, rfl⟩ ?_)))
 rintro k w1 ⟨hM2, hk, he⟩
 refine sqK [(3, .int .i64 0), (6, .slice A n c), (7, .int .i64 (n : Int)), (8, .int .i64 (k : Int))] rfl (k_seq (k_region (sqV (.bool (decide ((k : Int) < (n : Int)))) rfl rfl rfl ?_)))
 refine r_nil (sqE [(3, .int .i64 0), (6, .slice A n c), (7, .int .i64 (n : Int)), (8, .int .i64 (k : Int)), (9, .bool (decide ((k : Int) < (n : Int))))] rfl (e_then (k_seq ?_)))
 refine k_cond rfl rfl (fun h => ?_) (fun h => ?_)
 ·try simp only [sqC] at h
  refine k_skip (e_then (k_seq (k_block (k_seq (k_region ?_)))))
  obtain ⟨x, hx⟩ : ∃ x, l[k]? = some x := ⟨l[k]'(by omega), by simp⟩
  refine sqV (.pointer (some ((adr A).add (k * 1)))) rfl rfl (x_indexAddrN (i := k) (sz := 1) hl.here (by omega) rfl rfl rfl rfl) ?_
  refine sqV (.int .i64 x) rfl rfl (x_loadEInt (hl.up hM2) hx rfl rfl) ?_
  refine sqV (.int .i64 x) rfl rfl rfl ?_
  refine r_nil (e_then (k_seq (k_region (sqV (.int .i64 x) rfl rfl rfl ?_))))
  refine sqV (.int .i64 0) rfl rfl rfl ?_
  refine sqV (.bool (x != 0)) rfl rfl rfl ?_
  refine r_nil (e_then ?_)
  refine k_cond rfl rfl (fun h2 => ?_) (fun h2 => ?_)
  ·try simp only [sqC] at h2
   refine k_seq (k_region (sqV (.int .i64 x) rfl rfl rfl ?_))
   refine sqV (.int .i64 x) rfl rfl rfl ?_
   refine r_nil (e_then (k_ret (e_blk_ret (e_then_ret (e_loop_ret (e_blk_ret (e_then_ret (e_ret1 rfl rfl ?_))))))))
   exact ⟨_, rfl, by rw [he, firstN_at hx, if_pos h2], hM2.drop⟩
  ·try simp only [sqC] at h2
   refine k_skip (e_blk (e_then (k_region (sqV (.int .i64 ((k : Int) + 1)) rfl rfl (x_addE rfl (by omega) (by omega) rfl rfl) ?_))))
   refine sqV (.int .i64 ((k : Int) + 1)) rfl rfl rfl ?_
   refine r_nil (sqE [(3, .int .i64 0), (6, .slice A n c), (7, .int .i64 (n : Int)), (8, .int .i64 ((k : Int) + 1))] rfl ?_)
   refine e_loop (k + 1) (sqS rfl) ?_ ?_
   ·exact ⟨hM2, by omega, by rw [he, firstN_at hx, if_neg (by simp [h2])]⟩
   ·(try dsimp only); omega
 ·try simp only [sqC] at h
  refine k_exit (e_then_exit (e_loop_exit (e_blk_exit (e_then (k_seq (k_region (sqV (.int .i64 0) rfl rfl rfl ?_)))))))
  refine sqV (.int .i64 0) rfl rfl rfl ?_
  refine r_nil (e_then (k_ret (e_ret1 rfl rfl ?_)))
  exact ⟨_, rfl, by rw [he, List.drop_eq_nil_of_le (by omega)]; rfl, hM2.drop⟩

theorem mustsR_s (Al Ab : Option Addr) (nl cl nb cb : Nat) (l : List (List Int)) (bs : List Bond3) (w : World) (hl : RdE intsE 14 w Al nl l) (hb : RdE bondE 3 w Ab nb bs) (hgd : Kn.Good l) (hb0 : bondsFrom l none bs = 0) (hnb : nb ≤ 1000) :
  Calls Try.prog 34 #[Value.slice Al nl cl, Value.slice Ab nb cb] w fun e w' => ∃ r, e = .returned r ∧ ∃ (bg : Nat) (g : Nat → Nat), r = .slice (some ⟨bg, 0, none⟩) nl nl ∧ Lab nl (joinAll (mustsOf l bs)) g ∧ Mem w No w' [(bg, .cells (rowC nl (Value.int .i64) (fun q => (g q : Int))) tInt (0, 0))] := by
 refine calls_k (args := [Value.slice Al nl cl, Value.slice Ab nb cb]) 66 [(0, Value.slice Al nl cl), (1, Value.slice Ab nb cb)] Try.func34 rfl rfl ⟨rfl, rfl, trivial⟩ ?_
 have hM := Mem.nil w No
 have hbl := hb.len
 have hll := hl.len
 have hl3 : nl ≤ 300 := by have := hgd.len; omega
 refine k_seq (k_region ?_)
 skip
 refine sqV (.slice none 0 0) rfl rfl rfl ?_
 refine r_nil (e_then (k_seq (k_region (sqV (.slice Al nl cl) rfl rfl rfl ?_))))
 refine sqV (.int .i64 (nl : Int)) rfl rfl (x_len rfl rfl) ?_
 refine r_new (fun b => Value.slice (some ⟨b, 0, none⟩) nl nl) (.cells (rowC nl (Value.int .i64) (fun _ => (0 : Int))) 3 (0, 0)) hM (x_makeSlice (n := nl) (bytes := 8) (z := .int .i64 0) rfl rfl (by kernel_rfl) (by kernel_rfl) rfl (by omega) (by omega)) rfl rfl ?_
 intro bm1 w2 hM3 hbm1
 replace hM3 : Mem w No w2 [(bm1, .cells (rowC nl (Value.int .i64) (fun _ => (0 : Int))) 3 (0, 0))] := hM3
 refine sqV (.slice (some ⟨bm1, 0, none⟩) nl nl) rfl rfl rfl ?_
 refine r_nil (e_then (k_seq (k_seq (k_region (sqV (.slice (some ⟨bm1, 0, none⟩) nl nl) rfl rfl rfl ?_)))))
 refine sqV (.int .i64 (nl : Int)) rfl rfl (x_len rfl rfl) ?_
 refine sqV (.int .i64 0) rfl rfl rfl ?_
 refine r_nil (sqE [(0, .slice Al nl cl), (1, .slice Ab nb cb), (5, .slice (some ⟨bm1, 0, none⟩) nl nl), (17, .int .i64 (nl : Int)), (18, .int .i64 0)] rfl (e_then (k_block (k_loop (σ := Nat) (fun k => [(0, .slice Al nl cl), (1, .slice Ab nb cb), (5, .slice (some ⟨bm1, 0, none⟩) nl nl), (17, .int .i64 (nl : Int)), (18, .int .i64 (k : Int))]) (fun k w_ => Mem w No w_ [(bm1, .cells (rowC nl (.int .i64) (fun q => if q < k then (q : Int) else 0)) 3 (0, 0))] ∧ k ≤ nl) (fun k => nl - k) 0 (sqS rfl) ⟨by rw [← fillI_0]; exact hM3, by omega⟩ ?_))))
 rintro k w4 ⟨hM5, hk⟩
 refine sqK [(0, .slice Al nl cl), (1, .slice Ab nb cb), (5, .slice (some ⟨bm1, 0, none⟩) nl nl), (17, .int .i64 (nl : Int)), (18, .int .i64 (k : Int))] rfl (k_seq (k_region (sqV (.bool (decide ((k : Int) < (nl : Int)))) rfl rfl rfl ?_)))
 refine r_nil (e_then (k_seq ?_))
 refine k_cond rfl rfl (fun h1 => ?_) (fun h1 => ?_)
 ·try simp only [sqC] at h1
  refine k_skip (e_then (k_seq (k_block (k_seq (k_region (sqV (.int .i64 (k : Int)) rfl rfl rfl ?_))))))
  refine sqV (.int .i64 (k : Int)) rfl rfl rfl ?_
  refine r_nil (e_then (k_region (sqV (.slice (some ⟨bm1, 0, none⟩) nl nl) rfl rfl rfl ?_)))
  refine sqV (.int .i64 (k : Int)) rfl rfl rfl ?_
  refine sqV (.int .i64 (k : Int)) rfl rfl rfl ?_
  refine sqV (.pointer (some ⟨bm1, k, none⟩)) rfl rfl (x_indexAddrL (i := k) (sz := 1) (by omega) rfl rfl rfl rfl (by omega)) ?_
  refine r_store (v := Value.int .i64 (k : Int)) hM5 0 rfl (by rw [rowC_size]; omega) (by first | rfl | assumption) rfl rfl rfl rfl ?_
  intro w6 hM7
  replace hM7 : Mem w No w6 [(bm1, .cells ((rowC nl (Value.int .i64) (fun q => if q < k then (q : Int) else 0)).setIfInBounds k (Value.int .i64 (k : Int))) 3 (0, 0))] := hM7
  refine r_nil (e_blk (e_then (k_region ?_)))
  rw [fillI (by omega)] at hM7
  have hM8 : Mem w No w6 [(bm1, .cells (rowC nl (Value.int .i64) (fun q => if q < k + 1 then (q : Int) else 0)) 3 (0, 0))] := hM7
  refine sqV (.int .i64 ((k : Int) + 1)) rfl rfl (x_addE rfl (by omega) (by omega) rfl rfl) ?_
  refine sqV (.int .i64 ((k : Int) + 1)) rfl rfl rfl ?_
  refine r_nil (sqE [(0, .slice Al nl cl), (1, .slice Ab nb cb), (5, .slice (some ⟨bm1, 0, none⟩) nl nl), (17, .int .i64 (nl : Int)), (18, .int .i64 ((k : Int) + 1))] rfl ?_)
  refine e_loop (k + 1) (sqS rfl) ?_ ?_
  ·exact ⟨hM8, by omega⟩
  ·(try dsimp only); omega
 ·try simp only [sqC] at h1
  refine k_exit (e_then_exit (e_loop_exit (e_blk_exit (e_then (k_seq (k_seq (k_region ?_)))))))
  have hkn : k = nl := by omega
  rw [hkn, fillI_n] at hM5
  obtain ⟨bg, hbg⟩ : ∃ q, q = bm1 := ⟨_, rfl⟩
  have hM9 : Mem w No w4 [(bg, .cells (rowC nl (Value.int .i64) (fun q => (id q : Int))) 3 (0, 0))] := by rw [hbg]; exact hM5
  refine wpR_sub [(0, Value.slice Al nl cl), (1, Value.slice Ab nb cb), (5, Value.slice (some ⟨bg, 0, none⟩) nl nl), (17, Value.int .i64 (nl : Int)), (18, Value.int .i64 (k : Int)), (19, Value.bool (decide ((k : Int) < (nl : Int))))] ⟨rfl, rfl, by rw [hbg]; rfl, rfl, rfl, rfl, trivial⟩ ?_
  refine sqV (.slice Ab nb cb) rfl rfl rfl ?_
  refine sqV (.int .i64 (nb : Int)) rfl rfl (x_len rfl rfl) ?_
  refine sqV (.int .i64 0) rfl rfl rfl ?_
  refine r_nil (e_then (k_block (k_loop (σ := Nat × (Nat → Nat)) (fun ⟨k, g⟩ => [(0, .slice Al nl cl), (5, .slice (some ⟨bg, 0, none⟩) nl nl), (26, .slice Ab nb cb), (27, .int .i64 (nb : Int)), (28, .int .i64 (k : Int))]) (fun ⟨k, g⟩ w_ => Mem w No w_ [(bg, .cells (rowC nl (.int .i64) (fun q => (g q : Int))) 3 (0, 0))] ∧ k ≤ nb ∧ Lab nl (joinAll (mustsOf l (bs.take k))) g) (fun ⟨k, g⟩ => nb - k) (0, id) (sqS rfl) ⟨hM9, by omega, lab_id nl⟩ ?_)))
  rintro ⟨k, g⟩ w10 ⟨hM11, hk, hlab⟩
  refine sqK [(0, .slice Al nl cl), (5, .slice (some ⟨bg, 0, none⟩) nl nl), (26, .slice Ab nb cb), (27, .int .i64 (nb : Int)), (28, .int .i64 (k : Int))] rfl (k_seq (k_region (sqV (.bool (decide ((k : Int) < (nb : Int)))) rfl rfl rfl ?_)))
  refine r_nil (e_then (k_seq ?_))
  refine k_cond rfl rfl (fun h2 => ?_) (fun h2 => ?_)
  ·try simp only [sqC] at h2
   refine k_skip (e_then (k_seq (k_block (k_seq (k_region ?_)))))
   obtain ⟨b, hbk⟩ : ∃ b, bs[k]? = some b := ⟨bs[k]'(by omega), by simp⟩
   refine sqV (.pointer (some ((adr Ab).add (k * 3)))) rfl rfl (x_indexAddrN (i := k) (sz := 3) hb.here (by omega) rfl rfl rfl rfl) ?_
   refine sqV (.agg (#[.int .i64 b.a, .int .i64 b.b, .bool b.must])) rfl rfl (x_loadElem (enc := bondE) (e := b) (hb.up hM11) hbk rfl rfl rfl) ?_
   refine r_alloc hM11 (z := Value.agg #[Value.int .i64 0, Value.int .i64 0, Value.bool false]) rfl rfl ?_
   intro b14 w12 hM13 hb14
   replace hM13 : Mem w No w12 [(b14, .cells #[Value.int .i64 0, Value.int .i64 0, Value.bool false] 35 (0, 0)), (bg, .cells (rowC nl (Value.int .i64) (fun q => (g q : Int))) 3 (0, 0))] := hM13
   refine r_storeRow (vs := (#[Value.int .i64 b.a, Value.int .i64 b.b, Value.bool b.must])) hM13 0 rfl (by rw [show (#[Value.int .i64 b.a, Value.int .i64 b.b, Value.bool b.must]).size = 3 from (by simp [ints_size, *])]; rfl) (by first | (simp [Value.oneCell']; done) | (simp only [List.mem_cons, List.not_mem_nil, or_false, forall_eq_or_imp, forall_eq]; (repeat' constructor) <;> first | assumption | rfl)) (by rw [show (#[Value.int .i64 b.a, Value.int .i64 b.b, Value.bool b.must]).size = 3 from (by simp [ints_size, *])]; rfl) rfl rfl rfl ?_
   intro w15 hM16
   replace hM16 : Mem w No w15 [(b14, .cells (#[Value.int .i64 b.a, Value.int .i64 b.b, Value.bool b.must]) 35 (0, 0)), (bg, .cells (rowC nl (Value.int .i64) (fun q => (g q : Int))) 3 (0, 0))] := hM16
   refine r_nil (e_then (k_seq (k_seq (k_region (sqV (.pointer (some ⟨b14, 2, none⟩)) rfl rfl rfl ?_)))))
   refine sqV (.bool b.must) rfl rfl (x_load (hM16.cell 0 rfl rfl) rfl rfl) ?_
   refine sqV (.bool (!b.must)) rfl rfl rfl ?_
   refine r_nil (sqE [(0, .slice Al nl cl), (5, .slice (some ⟨bg, 0, none⟩) nl nl), (8, .pointer (some ⟨b14, 0, none⟩)), (26, .slice Ab nb cb), (27, .int .i64 (nb : Int)), (28, .int .i64 (k : Int)), (34, .bool (!b.must))] rfl (e_then ?_))
   refine k_cond rfl rfl (fun hmust => ?_) (fun hmust => ?_)
   ·try simp only [sqC] at hmust
    refine k_exit (e_then_exit (e_blk_exit (e_then (k_region (sqV (.int .i64 ((k : Int) + 1)) rfl rfl (x_addE rfl (by omega) (by omega) rfl rfl) ?_)))))
    refine sqV (.int .i64 ((k : Int) + 1)) rfl rfl rfl ?_
    refine r_nil ?_
    refine e_loop (k + 1, g) (sqS rfl) ?_ ?_
    ·exact ⟨(hM16.pick [1] _ (by decide) rfl), by omega, by rw [musts_same hbk (by simpa using hmust)]; exact hlab⟩
    ·(try dsimp only); omega
   ·try simp only [sqC] at hmust
    refine k_skip (e_then (k_seq ?_))
    replace hmust : b.must = true := by simpa using hmust
    obtain ⟨hoa, hob, _⟩ := bonds_ok hb0 b (List.mem_of_getElem? hbk)
    have hpa := place_lt hgd.sorted hoa
    have hpb := place_lt hgd.sorted hob
    refine k_drawP mixed [0, 0, 0, 4, 14, 31, 63, 0, 0, 0, 512, 1822, 3998, 8094, 3967, 32767] [some (Value.slice (some ⟨bg, 0, none⟩) nl nl), some (Value.slice Al nl cl), some (Value.pointer (some ⟨b14, 1, none⟩)), some (Value.int .i64 b.b), some (Value.int .i64 (atI l b.b)), some (Value.pointer (some ⟨bg, (atPos l b.b), none⟩)), some (Value.int .i64 (g (atPos l b.b) : Int)), some (Value.slice (some ⟨bg, 0, none⟩) nl nl), some (Value.slice Al nl cl), some (Value.pointer (some ⟨b14, 0, none⟩)), some (Value.int .i64 b.a), some (Value.int .i64 (atI l b.a)), some (Value.pointer (some ⟨bg, (atPos l b.a), none⟩)), some (Value.int .i64 (g (atPos l b.a) : Int)), some (Value.int .i64 (g (atPos l b.b) : Int))] (by kernel_rfl) 15 [] rfl rfl (by kernel_rfl) rfl (fun D V w_ => Mem w No w_ [(b14, .cells (#[Value.int .i64 b.a, Value.int .i64 b.b, Value.bool b.must]) 35 (0, 0)), (bg, .cells (rowC nl (Value.int .i64) (fun q => (g q : Int))) 3 (0, 0))]) (fun V => hM16.drew) trivial ?_ ?_
    ·refine ⟨?_, ?_, ?_, ?_, ?_, ?_, ?_, ?_, ?_, ?_, ?_, ?_, ?_, ?_, ?_, trivial⟩
     ·intro D V w_ hd hi hM_
      refine sqG [(5, .slice (some ⟨bg, 0, none⟩) nl nl)] rfl rfl rfl ?_
      exact run_val (.slice (some ⟨bg, 0, none⟩) nl nl) (rfl) ⟨sqT, hM_⟩
     ·intro D V w_ hd hi hM_
      refine sqG [(0, .slice Al nl cl)] rfl rfl rfl ?_
      exact run_val (.slice Al nl cl) (rfl) ⟨sqT, hM_⟩
     ·intro D V w_ hd hi hM_
      refine sqG [(8, .pointer (some ⟨b14, 0, none⟩))] rfl rfl rfl ?_
      exact run_val (.pointer (some ⟨b14, 1, none⟩)) (rfl) ⟨sqT, hM_⟩
     ·intro D V w_ hd hi hM_
      refine sqG [(37, .pointer (some ⟨b14, 1, none⟩))] rfl rfl rfl ?_
      exact run_val (.int .i64 b.b) (x_load (hM_.cell 0 rfl rfl) rfl rfl) ⟨sqT, hM_⟩
     ·intro D V w_ hd hi hM_
      refine sqG [(36, .slice Al nl cl), (38, .int .i64 b.b)] rfl rfl rfl ?_
      refine run_call (f := 31) (args := #[Value.slice Al nl cl, Value.int .i64 b.b]) (w' := w_) (x_call (vs := [Value.slice Al nl cl, Value.int .i64 b.b]) (enter31 _ _) rfl rfl) (likeAt_s Al nl cl l b.b w_ (hl.up hM_) hgd.sorted hl3) ?_
      rintro v_ w2_ ⟨rfl, hM2_⟩
      exact ⟨sqT, hM_.grow hM2_.kept⟩
     ·intro D V w_ hd hi hM_
      refine sqG [(35, .slice (some ⟨bg, 0, none⟩) nl nl), (39, .int .i64 (atI l b.b))] rfl rfl rfl ?_
      exact run_val (.pointer (some ⟨bg, (atPos l b.b), none⟩)) (by rw [atI_ok hob]; exact x_indexAddrL (i := atPos l b.b) (sz := 1) (by omega) rfl rfl rfl rfl (by omega)) ⟨sqT, hM_⟩
     ·intro D V w_ hd hi hM_
      refine sqG [(40, .pointer (some ⟨bg, (atPos l b.b), none⟩))] rfl rfl rfl ?_
      exact run_val (.int .i64 (g (atPos l b.b) : Int)) (x_load (hM_.cell 1 rfl (rowC_get (by omega))) rfl rfl) ⟨sqT, hM_⟩
     ·intro D V w_ hd hi hM_
      refine sqG [(5, .slice (some ⟨bg, 0, none⟩) nl nl)] rfl rfl rfl ?_
      exact run_val (.slice (some ⟨bg, 0, none⟩) nl nl) (rfl) ⟨sqT, hM_⟩
     ·intro D V w_ hd hi hM_
      refine sqG [(0, .slice Al nl cl)] rfl rfl rfl ?_
      exact run_val (.slice Al nl cl) (rfl) ⟨sqT, hM_⟩
     ·intro D V w_ hd hi hM_
      refine sqG [(8, .pointer (some ⟨b14, 0, none⟩))] rfl rfl rfl ?_
      exact run_val (.pointer (some ⟨b14, 0, none⟩)) (rfl) ⟨sqT, hM_⟩
     ·intro D V w_ hd hi hM_
      refine sqG [(44, .pointer (some ⟨b14, 0, none⟩))] rfl rfl rfl ?_
      exact run_val (.int .i64 b.a) (x_load (hM_.cell 0 rfl rfl) rfl rfl) ⟨sqT, hM_⟩
     ·intro D V w_ hd hi hM_
      refine sqG [(43, .slice Al nl cl), (45, .int .i64 b.a)] rfl rfl rfl ?_
      refine run_call (f := 31) (args := #[Value.slice Al nl cl, Value.int .i64 b.a]) (w' := w_) (x_call (vs := [Value.slice Al nl cl, Value.int .i64 b.a]) (enter31 _ _) rfl rfl) (likeAt_s Al nl cl l b.a w_ (hl.up hM_) hgd.sorted hl3) ?_
      rintro v_ w2_ ⟨rfl, hM2_⟩
      exact ⟨sqT, hM_.grow hM2_.kept⟩
     ·intro D V w_ hd hi hM_
      refine sqG [(42, .slice (some ⟨bg, 0, none⟩) nl nl), (46, .int .i64 (atI l b.a))] rfl rfl rfl ?_
      exact run_val (.pointer (some ⟨bg, (atPos l b.a), none⟩)) (by rw [atI_ok hoa]; exact x_indexAddrL (i := atPos l b.a) (sz := 1) (by omega) rfl rfl rfl rfl (by omega)) ⟨sqT, hM_⟩
     ·intro D V w_ hd hi hM_
      refine sqG [(47, .pointer (some ⟨bg, (atPos l b.a), none⟩))] rfl rfl rfl ?_
      exact run_val (.int .i64 (g (atPos l b.a) : Int)) (x_load (hM_.cell 1 rfl (rowC_get (by omega))) rfl rfl) ⟨sqT, hM_⟩
     ·intro D V w_ hd hi hM_
      refine sqG [(41, .int .i64 (g (atPos l b.b) : Int))] rfl rfl rfl ?_
      exact run_val (.int .i64 (g (atPos l b.b) : Int)) (rfl) ⟨sqT, hM_⟩
    intro D V w21 hall hM22
    refine sqR [(0, .slice Al nl cl), (5, .slice (some ⟨bg, 0, none⟩) nl nl), (9, .int .i64 (g (atPos l b.b) : Int)), (26, .slice Ab nb cb), (27, .int .i64 (nb : Int)), (28, .int .i64 (k : Int)), (48, .int .i64 (g (atPos l b.a) : Int))] rfl (sqV (.int .i64 (g (atPos l b.a) : Int)) rfl rfl rfl ?_)
    refine r_nil (e_then (k_seq (k_region (sqV (.slice (some ⟨bg, 0, none⟩) nl nl) rfl rfl rfl ?_))))
    refine sqV (.int .i64 (nl : Int)) rfl rfl (x_len rfl rfl) ?_
    refine sqV (.int .i64 0) rfl rfl rfl ?_
    refine r_nil (e_then (k_block (k_loop (σ := Nat) (fun q => [(0, .slice Al nl cl), (5, .slice (some ⟨bg, 0, none⟩) nl nl), (9, .int .i64 (g (atPos l b.b) : Int)), (10, .int .i64 (g (atPos l b.a) : Int)), (26, .slice Ab nb cb), (27, .int .i64 (nb : Int)), (28, .int .i64 (k : Int)), (49, .slice (some ⟨bg, 0, none⟩) nl nl), (50, .int .i64 (nl : Int)), (51, .int .i64 (q : Int))]) (fun q w_ => Mem w No w_ [(bg, .cells (rowC nl (.int .i64) (fun z => (relab (g (atPos l b.a)) (g (atPos l b.b)) g q z : Int))) 3 (0, 0))] ∧ q ≤ nl) (fun q => nl - q) 0 (sqS rfl) ⟨by rw [relab_0]; exact (hM22.pick [1] _ (by decide) rfl), by omega⟩ ?_)))
    rintro q w23 ⟨hM24, hq⟩
    refine sqK [(0, .slice Al nl cl), (5, .slice (some ⟨bg, 0, none⟩) nl nl), (9, .int .i64 (g (atPos l b.b) : Int)), (10, .int .i64 (g (atPos l b.a) : Int)), (26, .slice Ab nb cb), (27, .int .i64 (nb : Int)), (28, .int .i64 (k : Int)), (49, .slice (some ⟨bg, 0, none⟩) nl nl), (50, .int .i64 (nl : Int)), (51, .int .i64 (q : Int))] rfl (k_seq (k_region (sqV (.bool (decide ((q : Int) < (nl : Int)))) rfl rfl rfl ?_)))
    refine r_nil (sqE [(0, .slice Al nl cl), (5, .slice (some ⟨bg, 0, none⟩) nl nl), (9, .int .i64 (g (atPos l b.b) : Int)), (10, .int .i64 (g (atPos l b.a) : Int)), (26, .slice Ab nb cb), (27, .int .i64 (nb : Int)), (28, .int .i64 (k : Int)), (49, .slice (some ⟨bg, 0, none⟩) nl nl), (50, .int .i64 (nl : Int)), (51, .int .i64 (q : Int)), (52, .bool (decide ((q : Int) < (nl : Int))))] rfl (e_then (k_seq ?_)))
    refine k_cond rfl rfl (fun h3 => ?_) (fun h3 => ?_)
    ·try simp only [sqC] at h3
     refine k_skip (e_then (k_seq (k_block (k_seq (k_region (sqV (.int .i64 (q : Int)) rfl rfl rfl ?_))))))
     refine sqV (.pointer (some ⟨bg, q, none⟩)) rfl rfl (x_indexAddrL (i := q) (sz := 1) (by omega) rfl rfl rfl rfl (by omega)) ?_
     refine sqV (.int .i64 (relab (g (atPos l b.a)) (g (atPos l b.b)) g q q : Int)) rfl rfl (x_load (hM24.cell 0 rfl (rowC_get (by omega))) rfl rfl) ?_
     refine sqV (.int .i64 (q : Int)) rfl rfl rfl ?_
     refine sqV (.int .i64 (relab (g (atPos l b.a)) (g (atPos l b.b)) g q q : Int)) rfl rfl rfl ?_
     refine r_nil (e_then (k_seq (k_region (sqV (.int .i64 (relab (g (atPos l b.a)) (g (atPos l b.b)) g q q : Int)) rfl rfl rfl ?_))))
     refine sqV (.int .i64 (g (atPos l b.b) : Int)) rfl rfl rfl ?_
     refine sqV (.bool ((relab (g (atPos l b.a)) (g (atPos l b.b)) g q q : Int) == (g (atPos l b.b) : Int))) rfl rfl rfl ?_
     refine r_nil (e_then ?_)
     refine k_cond rfl rfl (fun h4 => ?_) (fun h4 => ?_)
     ·try simp only [sqC] at h4
      refine k_region (sqV (.slice (some ⟨bg, 0, none⟩) nl nl) rfl rfl rfl ?_)
      refine sqV (.int .i64 (q : Int)) rfl rfl rfl ?_
      refine sqV (.int .i64 (g (atPos l b.a) : Int)) rfl rfl rfl ?_
      refine sqV (.pointer (some ⟨bg, q, none⟩)) rfl rfl (x_indexAddrL (i := q) (sz := 1) (by omega) rfl rfl rfl rfl (by omega)) ?_
      refine r_store (v := Value.int .i64 (g (atPos l b.a) : Int)) hM24 0 rfl (by rw [rowC_size]; omega) (by first | rfl | assumption) rfl rfl rfl rfl ?_
      intro w25 hM26
      replace hM26 : Mem w No w25 [(bg, .cells ((rowC nl (Value.int .i64) (fun z => (relab (g (atPos l b.a)) (g (atPos l b.b)) g q z : Int))).setIfInBounds q (Value.int .i64 (g (atPos l b.a) : Int))) 3 (0, 0))] := hM26
      refine r_nil (e_blk (e_then (k_region ?_)))
      rw [relab_at] at h4
      have h4' : g q = g (atPos l b.b) := by omega
      rw [relabI (by omega), relab_yes h4'] at hM26
      have hM27 : Mem w No w25 [(bg, .cells (rowC nl (Value.int .i64) (fun z => (relab (g (atPos l b.a)) (g (atPos l b.b)) g (q + 1) z : Int))) 3 (0, 0))] := hM26
      refine sqV (.int .i64 ((q : Int) + 1)) rfl rfl (x_addE rfl (by omega) (by omega) rfl rfl) ?_
      refine sqV (.int .i64 ((q : Int) + 1)) rfl rfl rfl ?_
      refine r_nil (sqE [(0, .slice Al nl cl), (5, .slice (some ⟨bg, 0, none⟩) nl nl), (9, .int .i64 (g (atPos l b.b) : Int)), (10, .int .i64 (g (atPos l b.a) : Int)), (26, .slice Ab nb cb), (27, .int .i64 (nb : Int)), (28, .int .i64 (k : Int)), (49, .slice (some ⟨bg, 0, none⟩) nl nl), (50, .int .i64 (nl : Int)), (51, .int .i64 ((q : Int) + 1))] rfl ?_)
      refine e_loop (q + 1) (sqS rfl) ?_ ?_
      ·exact ⟨hM27, by omega⟩
      ·(try dsimp only); omega
     ·try simp only [sqC] at h4
      refine k_skip (e_blk (e_then (k_region ?_)))
      rw [relab_at] at h4
      have h4' : g q ≠ g (atPos l b.b) := by omega
      rw [relab_no h4'] at hM24
      have hM28 : Mem w No w23 [(bg, .cells (rowC nl (Value.int .i64) (fun z => (relab (g (atPos l b.a)) (g (atPos l b.b)) g (q + 1) z : Int))) 3 (0, 0))] := hM24
      refine sqV (.int .i64 ((q : Int) + 1)) rfl rfl (x_addE rfl (by omega) (by omega) rfl rfl) ?_
      refine sqV (.int .i64 ((q : Int) + 1)) rfl rfl rfl ?_
      refine r_nil ?_
      refine e_loop (q + 1) (sqS rfl) ?_ ?_
      ·exact ⟨hM28, by omega⟩
      ·(try dsimp only); omega
    ·try simp only [sqC] at h3
     refine k_exit (e_then_exit (e_loop_exit (e_blk_exit (e_blk (e_then (k_region ?_))))))
     have hqn : q = nl := by omega
     refine sqV (.int .i64 ((k : Int) + 1)) rfl rfl (x_addE rfl (by omega) (by omega) rfl rfl) ?_
     refine sqV (.int .i64 ((k : Int) + 1)) rfl rfl rfl ?_
     refine r_nil ?_
     refine e_loop (k + 1, relab (g (atPos l b.a)) (g (atPos l b.b)) g q) (sqS rfl) ?_ ?_
     ·exact ⟨hM24, by omega, by rw [musts_snoc hbk hmust, joinAll_snoc]; exact lab_step (a := atPos l b.a) (b := atPos l b.b) hlab (by omega) (by omega) (by omega)⟩
     ·(try dsimp only); omega
  ·try simp only [sqC] at h2
   refine k_exit (e_then_exit (e_loop_exit (e_blk_exit (e_then (k_seq (k_region ?_))))))
   have hkb : bs.take k = bs := List.take_of_length_le (by omega)
   rw [hkb] at hlab
   refine sqV (.slice (some ⟨bg, 0, none⟩) nl nl) rfl rfl rfl ?_
   refine sqV (.slice (some ⟨bg, 0, none⟩) nl nl) rfl rfl rfl ?_
   refine r_nil (e_then (k_ret (e_ret1 rfl rfl ?_)))
   exact ⟨_, rfl, bg, g, rfl, hlab, hM11⟩


end Go.Proofs.Ytddacakmafdgdaa
end
section
/- Ff: what Go functions of this seat come to, printed by walk.py over the engine. -/
set_option linter.unusedVariables false
set_option linter.unusedSimpArgs false
set_option maxRecDepth 100000
namespace Go.Proofs.Ytddacakmafdgdaa
open Go.RowKit Go.Kn

theorem joined_s (Am An : Option Addr) (nm cm nn cn n : Nat) (ms : List (Nat × Nat)) (w : World) (hm : RdE pairE 2 w Am nm ms) (hms : ∀ m ∈ ms, m.1 < n ∧ m.2 < n) (hn : n ≤ 300) (hnm : nm ≤ 9223372036854775806) :
  Calls Try.prog 44 #[Value.agg (#[Value.slice Am nm cm, Value.slice An nn cn]), Value.int .i64 (n : Int)] w fun e w' => ∃ r, e = .returned r ∧ ∃ bm gs, r = .map (some bm) ∧ (GMp tInt gs n ∧ IsG n (joinAll ms) (view gs)) ∧ Mem w No w' (GL bm gs n) := by
 refine calls_k (args := [Value.agg (#[Value.slice Am nm cm, Value.slice An nn cn]), Value.int .i64 (n : Int)]) 29 [(0, Value.agg (#[Value.slice Am nm cm, Value.slice An nn cn])), (1, Value.int .i64 (n : Int))] Try.func44 rfl rfl ⟨rfl, rfl, trivial⟩ ?_
 have hM := Mem.nil w No
 have hml := hm.len
 refine k_seq (k_region (r_box hM rfl rfl ?_))
 intro b3 w1 hM2 hb3
 replace hM2 : Mem w No w1 [(b3, .cells (#[Value.slice Am nm cm, Value.slice An nn cn]) 57 (0, 0))] := hM2
 refine sqV (.map none) rfl rfl rfl ?_
 refine r_nil (e_then (k_seq (k_region (sqV (.int .i64 (n : Int)) rfl rfl rfl ?_))))
 refine r_call (f := 68) (args := #[Value.int .i64 (n : Int)]) (w' := w1) rfl rfl (x_call (vs := [Value.int .i64 (n : Int)]) (enter68 _ _) rfl rfl) (each_s n w1 hn) ?_
 rintro v_ w4 ⟨bm, gs0, rfl, hG0, hV0, hM5⟩
 replace hM5 : Mem w No w4 ((b3, .cells (#[Value.slice Am nm cm, Value.slice An nn cn]) 57 (0, 0)) :: (bm, mapO (gs0.map Grp.ent) n) :: gs0.flatMap Grp.L) := (Mem.call0 hM2 hM5).perm List.perm_append_comm
 refine sqV (.map (some bm)) rfl rfl rfl ?_
 refine r_nil (e_then (k_seq (k_seq (k_region (sqV (.pointer (some ⟨b3, 0, none⟩)) rfl rfl rfl ?_)))))
 refine sqV (.slice Am nm cm) rfl rfl (x_load (hM5.cell 0 rfl rfl) rfl rfl) ?_
 refine sqV (.int .i64 (nm : Int)) rfl rfl (x_len rfl rfl) ?_
 refine sqV (.int .i64 0) rfl rfl rfl ?_
 refine r_nil (e_then (k_block (k_loop (σ := Nat × List Grp) (fun ⟨k, gs⟩ => [(5, .map (some bm)), (11, .slice Am nm cm), (12, .int .i64 (nm : Int)), (13, .int .i64 (k : Int))]) (fun ⟨k, gs⟩ w_ => Mem w No w_ ((bm, mapO (gs.map Grp.ent) n) :: gs.flatMap Grp.L) ∧ k ≤ nm ∧ GMp tInt gs n ∧ IsG n (joinAll (ms.take k)) (view gs)) (fun ⟨k, gs⟩ => nm - k) (0, gs0) (sqS rfl) ⟨(hM5.pickT [(b3, .cells (#[.slice Am nm cm, .slice An nn cn]) 57 (0, 0)), (bm, mapO (gs0.map Grp.ent) n)] (gs0.flatMap Grp.L) rfl [1] _ (by decide) rfl), Nat.zero_le _, hG0, by rw [hV0]; exact isG_each n⟩ ?_)))
 rintro ⟨k, gs⟩ w6 ⟨hM7, hk, hG, hF⟩
 refine sqK [(5, .map (some bm)), (11, .slice Am nm cm), (12, .int .i64 (nm : Int)), (13, .int .i64 (k : Int))] rfl (k_seq (k_region (sqV (.bool (decide ((k : Int) < (nm : Int)))) rfl rfl rfl ?_)))
 refine r_nil (sqE [(5, .map (some bm)), (11, .slice Am nm cm), (12, .int .i64 (nm : Int)), (13, .int .i64 (k : Int)), (14, .bool (decide ((k : Int) < (nm : Int))))] rfl (e_then (k_seq ?_)))
 refine k_cond rfl rfl (fun h => ?_) (fun h => ?_)
 ·try simp only [sqC] at h
  refine k_skip (e_then (k_seq (k_block (k_seq (k_region ?_)))))
  obtain ⟨m, hmk⟩ : ∃ m, ms[k]? = some m := ⟨ms[k]'(by omega), by simp⟩
  obtain ⟨hm1, hm2⟩ := hms m (List.mem_of_getElem? hmk)
  refine sqV (.pointer (some ((adr Am).add (k * 2)))) rfl rfl (x_indexAddrN (i := k) (sz := 2) hm.here (by omega) rfl rfl rfl rfl) ?_
  refine sqV (.agg (#[.int .i64 (m.1 : Int), .int .i64 (m.2 : Int)])) rfl rfl (x_loadElem (enc := pairE) (e := m) (hm.up hM7) hmk rfl rfl rfl) ?_
  refine r_alloc hM7 (z := Value.agg #[Value.int .i64 0, Value.int .i64 0]) rfl rfl ?_
  intro b10 w8 hM9 hb10
  replace hM9 : Mem w No w8 ((b10, .cells #[Value.int .i64 0, Value.int .i64 0] 36 (0, 0)) :: (bm, mapO (gs.map Grp.ent) n) :: gs.flatMap Grp.L) := hM9
  refine r_storeRow (vs := (#[Value.int .i64 (m.1 : Int), Value.int .i64 (m.2 : Int)])) hM9 0 rfl (by rw [show (#[Value.int .i64 (m.1 : Int), Value.int .i64 (m.2 : Int)]).size = 2 from (by simp [ints_size, *])]; rfl) (by simp [Value.oneCell']) (by rw [show (#[Value.int .i64 (m.1 : Int), Value.int .i64 (m.2 : Int)]).size = 2 from (by simp [ints_size, *])]; rfl) rfl rfl rfl ?_
  intro w11 hM12
  replace hM12 : Mem w No w11 ((b10, .cells (#[Value.int .i64 (m.1 : Int), Value.int .i64 (m.2 : Int)]) 36 (0, 0)) :: (bm, mapO (gs.map Grp.ent) n) :: gs.flatMap Grp.L) := hM12
  refine r_nil (e_then ?_)
  refine k_drawL mixed [0, 0, 0, 4, 14, 0, 0, 64, 254, 511] [some (Value.map (some bm)), some (Value.map (some bm)), some (Value.pointer (some ⟨b10, 0, none⟩)), some (Value.int .i64 (m.1 : Int)), some (Value.int .i64 (joinAll (ms.take k) m.1 : Int)), some (Value.map (some bm)), some (Value.pointer (some ⟨b10, 1, none⟩)), some (Value.int .i64 (m.2 : Int)), some (Value.int .i64 (joinAll (ms.take k) m.2 : Int)), some ((.tuple #[]))] (by kernel_rfl) 9 rfl (by kernel_rfl) (fun D V w_ => Mem w No w_ ((b10, .cells (#[Value.int .i64 (m.1 : Int), Value.int .i64 (m.2 : Int)]) 36 (0, 0)) :: (bm, mapO (gs.map Grp.ent) n) :: gs.flatMap Grp.L)) (fun V w_ => ∃ gs', (GMp tInt gs' n ∧ IsG n (joinF (joinAll (ms.take k) m.1) (joinAll (ms.take k) m.2) (joinAll (ms.take k))) (view gs')) ∧ Mem w No w_ (GL bm gs' n)) (fun V => hM12.drew) ?_ ?_
  ·refine ⟨?_, ?_, ?_, ?_, ?_, ?_, ?_, ?_, ?_, ?_, trivial⟩
   ·intro D V w_ hd hi hM_
    refine sqG [(5, .map (some bm))] rfl rfl rfl ?_
    exact run_val (.map (some bm)) (rfl) ⟨sqT, hM_⟩
   ·intro D V w_ hd hi hM_
    refine sqG [(5, .map (some bm))] rfl rfl rfl ?_
    exact run_val (.map (some bm)) (rfl) ⟨sqT, hM_⟩
   ·intro D V w_ hd hi hM_
    refine sqG [(7, .pointer (some ⟨b10, 0, none⟩))] rfl rfl rfl ?_
    exact run_val (.pointer (some ⟨b10, 0, none⟩)) (x_indexAddrB (i := 0) (sz := 1) (by omega) rfl rfl rfl rfl (by omega)) ⟨sqT, hM_⟩
   ·intro D V w_ hd hi hM_
    refine sqG [(19, .pointer (some ⟨b10, 0, none⟩))] rfl rfl rfl ?_
    exact run_val (.int .i64 (m.1 : Int)) (x_load (hM_.cell 0 rfl rfl) rfl rfl) ⟨sqT, hM_⟩
   ·intro D V w_ hd hi hM_
    refine sqG [(18, .map (some bm)), (20, .int .i64 (m.1 : Int))] rfl rfl rfl ?_
    refine run_call (f := 45) (args := #[Value.map (some bm), Value.int .i64 (m.1 : Int)]) (w' := w_) (x_call (vs := [Value.map (some bm), Value.int .i64 (m.1 : Int)]) (enter45 _ _) rfl rfl) (of_f bm gs n hG n _ hF hn m.1 hm1 w_ hM_.tail.holds) ?_
    rintro v_ w2_ ⟨rfl, hM2_⟩
    exact ⟨sqT, hM_.grow hM2_.kept⟩
   ·intro D V w_ hd hi hM_
    refine sqG [(5, .map (some bm))] rfl rfl rfl ?_
    exact run_val (.map (some bm)) (rfl) ⟨sqT, hM_⟩
   ·intro D V w_ hd hi hM_
    refine sqG [(7, .pointer (some ⟨b10, 0, none⟩))] rfl rfl rfl ?_
    exact run_val (.pointer (some ⟨b10, 1, none⟩)) (x_indexAddrB (i := 1) (sz := 1) (by omega) rfl rfl rfl rfl (by omega)) ⟨sqT, hM_⟩
   ·intro D V w_ hd hi hM_
    refine sqG [(23, .pointer (some ⟨b10, 1, none⟩))] rfl rfl rfl ?_
    exact run_val (.int .i64 (m.2 : Int)) (x_load (hM_.cell 0 rfl rfl) rfl rfl) ⟨sqT, hM_⟩
   ·intro D V w_ hd hi hM_
    refine sqG [(22, .map (some bm)), (24, .int .i64 (m.2 : Int))] rfl rfl rfl ?_
    refine run_call (f := 45) (args := #[Value.map (some bm), Value.int .i64 (m.2 : Int)]) (w' := w_) (x_call (vs := [Value.map (some bm), Value.int .i64 (m.2 : Int)]) (enter45 _ _) rfl rfl) (of_f bm gs n hG n _ hF hn m.2 hm2 w_ hM_.tail.holds) ?_
    rintro v_ w2_ ⟨rfl, hM2_⟩
    exact ⟨sqT, hM_.grow hM2_.kept⟩
   ·intro D V w_ hd hi hM_
    refine sqG [(17, .map (some bm)), (21, .int .i64 (joinAll (ms.take k) m.1 : Int)), (25, .int .i64 (joinAll (ms.take k) m.2 : Int))] rfl rfl rfl ?_
    refine run_call (f := 53) (args := #[Value.map (some bm), Value.int .i64 (joinAll (ms.take k) m.1 : Int), Value.int .i64 (joinAll (ms.take k) m.2 : Int)]) (w' := w_) (x_call (vs := [Value.map (some bm), Value.int .i64 (joinAll (ms.take k) m.1 : Int), Value.int .i64 (joinAll (ms.take k) m.2 : Int)]) (enter53 _ _) rfl rfl) (join_f bm gs n hG n _ hF hn m.1 m.2 hm1 hm2 w_ hM_.tail.holds) ?_
    rintro v_ w2_ ⟨rfl, gs2, hh2, hM2_⟩
    exact ⟨sqT, ⟨gs2, hh2, by simpa using (Mem.call (L2 := []) (by simpa using hM_.tail) hM2_)⟩⟩
  intro V w19 hM20
  obtain ⟨gs2, ⟨hG2, hF2⟩, hM9⟩ := hM20
  refine e_blk (e_then (k_region (sqV (.int .i64 ((k : Int) + 1)) rfl rfl (x_addE rfl (by omega) (by omega) rfl rfl) ?_)))
  refine sqV (.int .i64 ((k : Int) + 1)) rfl rfl rfl ?_
  refine r_nil ?_
  refine e_loop (k + 1, gs2) (sqS rfl) ?_ ?_
  ·exact ⟨hM9, by omega, hG2, by rw [take_snoc' hmk, joinAll_snoc]; exact hF2⟩
  ·(try dsimp only); omega
 ·try simp only [sqC] at h
  refine k_exit (e_then_exit (e_loop_exit (e_blk_exit (e_then (k_seq (k_region ?_))))))
  have hkn : k = nm := by omega
  refine sqV (.map (some bm)) rfl rfl rfl ?_
  refine sqV (.map (some bm)) rfl rfl rfl ?_
  refine r_nil (sqE [(4, .map (some bm))] rfl (e_then (k_ret (e_ret1 rfl rfl ?_))))
  exact ⟨_, rfl, bm, gs, rfl, ⟨hG, by rw [List.take_of_length_le (by omega)] at hF; exact hF⟩, hM7⟩


end Go.Proofs.Ytddacakmafdgdaa
end
section
/- Fg: what Go functions of this seat come to, printed by walk.py over the engine. -/
set_option linter.unusedVariables false
set_option linter.unusedSimpArgs false
set_option maxRecDepth 100000
namespace Go.Proofs.Ytddacakmafdgdaa
open Go.RowKit Go.Kn

theorem bondsOf_s (Al Ab : Option Addr) (nl cl nb cb : Nat) (l : List (List Int)) (bs : List Bond3) (w : World) (hl : RdE intsE 14 w Al nl l) (hb : RdE bondE 3 w Ab nb bs) (hs : sortedIds l) (hn : nl ≤ 300) (hnb : nb ≤ 1000) :
  Calls Try.prog 23 #[Value.slice Al nl cl, Value.slice Ab nb cb] w fun e w' => ∃ r, e = .returned r ∧ ∃ v1 v2 L1 L2, r = .agg #[v1, v2] ∧ (OwnR tPair 2 v1 (mustsOf l bs).length ((mustsOf l bs).flatMap pairE) L1 ∧ OwnR tPair 2 v2 (notsOf l bs).length ((notsOf l bs).flatMap pairE) L2) ∧ Mem w No w' (L1 ++ L2) := by
 refine calls_k (args := [Value.slice Al nl cl, Value.slice Ab nb cb]) 52 [(0, Value.slice Al nl cl), (1, Value.slice Ab nb cb)] Try.func23 rfl rfl ⟨rfl, rfl, trivial⟩ ?_
 have hM := Mem.nil w No
 have hbl := hb.len
 refine k_seq (k_region (r_alloc hM (z := Value.agg #[Value.slice none 0 0, Value.slice none 0 0]) rfl rfl ?_))
 intro b3 w1 hM2 hb3
 replace hM2 : Mem w No w1 [(b3, .cells #[Value.slice none 0 0, Value.slice none 0 0] 57 (0, 0))] := hM2
 refine r_nil (e_then (k_seq (k_region (r_alloc hM2 (z := Value.agg #[Value.slice none 0 0, Value.slice none 0 0]) rfl rfl ?_))))
 intro b6 w4 hM5 hb6
 replace hM5 : Mem w No w4 [(b6, .cells #[Value.slice none 0 0, Value.slice none 0 0] 57 (0, 0)), (b3, .cells #[Value.slice none 0 0, Value.slice none 0 0] 57 (0, 0))] := hM5
 refine r_nil (e_then (k_seq (k_seq (k_region (sqV (.slice Ab nb cb) rfl rfl rfl ?_)))))
 refine sqV (.int .i64 (nb : Int)) rfl rfl (x_len rfl rfl) ?_
 refine sqV (.int .i64 0) rfl rfl rfl ?_
 refine r_nil (e_then (k_block (k_loop (σ := Nat × Value × Value × Hp × Hp) (fun ⟨k, v1, v2, L1, L2⟩ => [(0, .slice Al nl cl), (4, .pointer (some ⟨b3, 0, none⟩)), (5, .pointer (some ⟨b6, 0, none⟩)), (12, .slice Ab nb cb), (13, .int .i64 (nb : Int)), (14, .int .i64 (k : Int))]) (fun ⟨k, v1, v2, L1, L2⟩ w_ => Mem w No w_ ((b6, .cells #[v1, v2] 57 (0, 0)) :: (b3, .cells #[.slice none 0 0, .slice none 0 0] 57 (0, 0)) :: (L1 ++ L2)) ∧ k ≤ nb ∧ OwnR tPair 2 v1 (mustsOf l (bs.take k)).length ((mustsOf l (bs.take k)).flatMap pairE) L1 ∧ OwnR tPair 2 v2 (notsOf l (bs.take k)).length ((notsOf l (bs.take k)).flatMap pairE) L2) (fun ⟨k, v1, v2, L1, L2⟩ => nb - k) (0, .slice none 0 0, .slice none 0 0, [], []) (sqS rfl) ⟨hM5, Nat.zero_le _, OwnR.nil _ _, OwnR.nil _ _⟩ ?_)))
 rintro ⟨k, v1, v2, L1, L2⟩ w7 ⟨hM8, hk, hr1, hr2⟩
 refine sqK [(0, .slice Al nl cl), (4, .pointer (some ⟨b3, 0, none⟩)), (5, .pointer (some ⟨b6, 0, none⟩)), (12, .slice Ab nb cb), (13, .int .i64 (nb : Int)), (14, .int .i64 (k : Int))] rfl (k_seq (k_region (sqV (.bool (decide ((k : Int) < (nb : Int)))) rfl rfl rfl ?_)))
 refine r_nil (sqE [(0, .slice Al nl cl), (4, .pointer (some ⟨b3, 0, none⟩)), (5, .pointer (some ⟨b6, 0, none⟩)), (12, .slice Ab nb cb), (13, .int .i64 (nb : Int)), (14, .int .i64 (k : Int)), (15, .bool (decide ((k : Int) < (nb : Int))))] rfl (e_then (k_seq ?_)))
 refine k_cond rfl rfl (fun h => ?_) (fun h => ?_)
 ·try simp only [sqC] at h
  refine k_skip (e_then (k_seq (k_block (k_seq (k_region ?_)))))
  obtain ⟨b, hbk⟩ : ∃ b, bs[k]? = some b := ⟨bs[k]'(by omega), by simp⟩
  refine sqV (.pointer (some ((adr Ab).add (k * 3)))) rfl rfl (x_indexAddrN (i := k) (sz := 3) hb.here (by omega) rfl rfl rfl rfl) ?_
  refine sqV (.agg (#[.int .i64 b.a, .int .i64 b.b, .bool b.must])) rfl rfl (x_loadElem (enc := bondE) (e := b) (hb.up hM8) hbk rfl rfl rfl) ?_
  refine r_alloc hM8 (z := Value.agg #[Value.int .i64 0, Value.int .i64 0, Value.bool false]) rfl rfl ?_
  intro b11 w9 hM10 hb11
  replace hM10 : Mem w No w9 ((b11, .cells #[Value.int .i64 0, Value.int .i64 0, Value.bool false] 35 (0, 0)) :: (b6, .cells #[v1, v2] 57 (0, 0)) :: (b3, .cells #[Value.slice none 0 0, Value.slice none 0 0] 57 (0, 0)) :: (L1 ++ L2)) := hM10
  refine r_storeRow (vs := (#[Value.int .i64 b.a, Value.int .i64 b.b, Value.bool b.must])) hM10 0 rfl (by rw [show (#[Value.int .i64 b.a, Value.int .i64 b.b, Value.bool b.must]).size = 3 from (by simp [ints_size, *])]; rfl) (by first | (simp [Value.oneCell']; done) | (simp only [List.mem_cons, List.not_mem_nil, or_false, forall_eq_or_imp, forall_eq]; (repeat' constructor) <;> first | assumption | rfl)) (by rw [show (#[Value.int .i64 b.a, Value.int .i64 b.b, Value.bool b.must]).size = 3 from (by simp [ints_size, *])]; rfl) rfl rfl rfl ?_
  intro w12 hM13
  replace hM13 : Mem w No w12 ((b11, .cells (#[Value.int .i64 b.a, Value.int .i64 b.b, Value.bool b.must]) 35 (0, 0)) :: (b6, .cells #[v1, v2] 57 (0, 0)) :: (b3, .cells #[Value.slice none 0 0, Value.slice none 0 0] 57 (0, 0)) :: (L1 ++ L2)) := hM13
  refine r_nil (e_then (k_seq (k_region (sqV (.slice Al nl cl) rfl rfl rfl ?_))))
  refine sqV (.pointer (some ⟨b11, 0, none⟩)) rfl rfl rfl ?_
  refine sqV (.int .i64 b.a) rfl rfl (x_load (hM13.cell 0 rfl rfl) rfl rfl) ?_
  refine r_call (f := 27) (args := #[Value.slice Al nl cl, Value.int .i64 b.a]) (w' := w12) rfl rfl (x_call (vs := [Value.slice Al nl cl, Value.int .i64 b.a]) (enter27 _ _) rfl rfl) (at_s Al nl cl l b.a w12 (hl.up hM13) hs hn) ?_
  rintro v_ w14 ⟨rfl, hM15⟩
  replace hM15 := hM13.grow hM15.kept
  refine sqV (.tuple #[.int .i64 (atPos l b.a : Int), .bool (atOk l b.a)]) rfl rfl rfl ?_
  refine sqV (.int .i64 (atPos l b.a : Int)) rfl rfl rfl ?_
  refine sqV (.bool (atOk l b.a)) rfl rfl rfl ?_
  refine sqV (.int .i64 (atPos l b.a : Int)) rfl rfl rfl ?_
  refine sqV (.bool (atOk l b.a)) rfl rfl rfl ?_
  refine r_nil (e_then (k_seq (k_region (sqV (.slice Al nl cl) rfl rfl rfl ?_))))
  refine sqV (.pointer (some ⟨b11, 1, none⟩)) rfl rfl rfl ?_
  refine sqV (.int .i64 b.b) rfl rfl (x_load (hM15.cell 0 rfl rfl) rfl rfl) ?_
  refine r_call (f := 27) (args := #[Value.slice Al nl cl, Value.int .i64 b.b]) (w' := w14) rfl rfl (x_call (vs := [Value.slice Al nl cl, Value.int .i64 b.b]) (enter27 _ _) rfl rfl) (at_s Al nl cl l b.b w14 (hl.up hM15) hs hn) ?_
  rintro v_ w16 ⟨rfl, hM17⟩
  replace hM17 := hM15.grow hM17.kept
  refine sqV (.tuple #[.int .i64 (atPos l b.b : Int), .bool (atOk l b.b)]) rfl rfl rfl ?_
  refine sqV (.int .i64 (atPos l b.b : Int)) rfl rfl rfl ?_
  refine sqV (.bool (atOk l b.b)) rfl rfl rfl ?_
  refine sqV (.int .i64 (atPos l b.b : Int)) rfl rfl rfl ?_
  refine sqV (.bool (atOk l b.b)) rfl rfl rfl ?_
  refine r_nil (e_then (k_seq (k_region (sqV (.pointer (some ⟨b11, 2, none⟩)) rfl rfl rfl ?_))))
  refine sqV (.bool b.must) rfl rfl (x_load (hM17.cell 0 rfl rfl) rfl rfl) ?_
  refine r_nil (sqE [(0, .slice Al nl cl), (4, .pointer (some ⟨b3, 0, none⟩)), (5, .pointer (some ⟨b6, 0, none⟩)), (8, .int .i64 (atPos l b.a : Int)), (10, .int .i64 (atPos l b.b : Int)), (12, .slice Ab nb cb), (13, .int .i64 (nb : Int)), (14, .int .i64 (k : Int)), (33, .bool b.must)] rfl (e_then ?_))
  refine k_cond rfl rfl (fun h2 => ?_) (fun h2 => ?_)
  ·try simp only [sqC] at h2
   refine k_region (sqV (.pointer (some ⟨b6, 0, none⟩)) rfl rfl rfl ?_)
   refine sqV (v1) rfl rfl (x_load (hM17.cell 1 rfl rfl) rfl rfl) ?_
   refine sqV (.int .i64 (atPos l b.a : Int)) rfl rfl rfl ?_
   refine sqV (.int .i64 (atPos l b.b : Int)) rfl rfl rfl ?_
   refine sqV (.agg (#[.int .i64 (atPos l b.a : Int), .int .i64 (atPos l b.b : Int)])) rfl rfl (by kernel_rfl) ?_
   refine r_new (fun b => .slice (some ⟨b, 0, none⟩) 1 1) (.cells #[Value.int .i64 (atPos l b.a : Int), Value.int .i64 (atPos l b.b : Int)] 36 (0, 0)) hM17 (by kernel_rfl) rfl rfl ?_
   intro b20 w18 hM19 hb20
   replace hM19 : Mem w No w18 ((b20, .cells #[Value.int .i64 (atPos l b.a : Int), Value.int .i64 (atPos l b.b : Int)] 36 (0, 0)) :: (b11, .cells (#[Value.int .i64 b.a, Value.int .i64 b.b, Value.bool b.must]) 35 (0, 0)) :: (b6, .cells #[v1, v2] 57 (0, 0)) :: (b3, .cells #[Value.slice none 0 0, Value.slice none 0 0] 57 (0, 0)) :: (L1 ++ L2)) := hM19
   refine r_append (bytes := 16) (z := zPair) (A := some ⟨b20, 0, none⟩) (m := 1) (c := 1) (news := pairE (atPos l b.a, atPos l b.b)) hr1 (hM19.perm (List.perm_append_comm_assoc ([(b20, .cells #[Value.int .i64 (atPos l b.a : Int), Value.int .i64 (atPos l b.b : Int)] 36 (0, 0)), (b11, .cells (#[Value.int .i64 b.a, Value.int .i64 b.b, Value.bool b.must]) 35 (0, 0)), (b6, .cells #[v1, v2] 57 (0, 0)), (b3, .cells #[Value.slice none 0 0, Value.slice none 0 0] 57 (0, 0))] : Hp) L1 L2)) (fun _ => rfl) (rfl) (hM19.cells 0 rfl) (by simp [Value.oneCell']) (by have := musts_len (l := l) (bs := bs) (k := k); omega) (by kernel_rfl) (by kernel_rfl) rfl (by decide) (by decide) rfl rfl rfl ?_
   intro v9 L9 w21 hr9 hM22
   replace hM22 := (hM22).perm (List.perm_append_comm_assoc L9 ([(b20, .cells #[Value.int .i64 (atPos l b.a : Int), Value.int .i64 (atPos l b.b : Int)] 36 (0, 0)), (b11, .cells (#[Value.int .i64 b.a, Value.int .i64 b.b, Value.bool b.must]) 35 (0, 0)), (b6, .cells #[v1, v2] 57 (0, 0)), (b3, .cells #[Value.slice none 0 0, Value.slice none 0 0] 57 (0, 0))] : Hp) L2)
   have hone_v9 := hr9.one
   replace hM22 : Mem w No w21 ((b20, .cells #[Value.int .i64 (atPos l b.a : Int), Value.int .i64 (atPos l b.b : Int)] 36 (0, 0)) :: (b11, .cells (#[Value.int .i64 b.a, Value.int .i64 b.b, Value.bool b.must]) 35 (0, 0)) :: (b6, .cells #[v1, v2] 57 (0, 0)) :: (b3, .cells #[Value.slice none 0 0, Value.slice none 0 0] 57 (0, 0)) :: (L9 ++ L2)) := hM22
   refine sqV (.pointer (some ⟨b6, 0, none⟩)) rfl rfl rfl ?_
   refine r_store (v := v9) hM22 2 rfl (by simp) (by first | rfl | assumption) rfl rfl rfl rfl ?_
   intro w23 hM24
   replace hM24 : Mem w No w23 ((b20, .cells #[Value.int .i64 (atPos l b.a : Int), Value.int .i64 (atPos l b.b : Int)] 36 (0, 0)) :: (b11, .cells (#[Value.int .i64 b.a, Value.int .i64 b.b, Value.bool b.must]) 35 (0, 0)) :: (b6, .cells #[v9, v2] 57 (0, 0)) :: (b3, .cells #[Value.slice none 0 0, Value.slice none 0 0] 57 (0, 0)) :: (L9 ++ L2)) := hM24
   refine r_nil (e_blk (e_then (k_region (sqV (.int .i64 ((k : Int) + 1)) rfl rfl (x_addE rfl (by omega) (by omega) rfl rfl) ?_))))
   refine sqV (.int .i64 ((k : Int) + 1)) rfl rfl rfl ?_
   refine r_nil ?_
   refine e_loop (k + 1, v9, v2, L9, L2) (sqS rfl) ?_ ?_
   ·exact ⟨(hM24.pickT [(b20, .cells #[Value.int .i64 (atPos l b.a : Int), Value.int .i64 (atPos l b.b : Int)] 36 (0, 0)), (b11, .cells (#[Value.int .i64 b.a, Value.int .i64 b.b, Value.bool b.must]) 35 (0, 0)), (b6, .cells #[v9, v2] 57 (0, 0)), (b3, .cells #[Value.slice none 0 0, Value.slice none 0 0] 57 (0, 0))] (L9 ++ L2) rfl [2, 3] _ (by decide) rfl), by omega, musts_yes hbk h2 hr9, nots_no hbk h2 hr2⟩
   ·(try dsimp only); omega
  ·try simp only [sqC] at h2
   refine k_region (sqV (.pointer (some ⟨b6, 1, none⟩)) rfl rfl rfl ?_)
   refine sqV (v2) rfl rfl (x_load (hM17.cell 1 rfl rfl) rfl rfl) ?_
   refine sqV (.int .i64 (atPos l b.a : Int)) rfl rfl rfl ?_
   refine sqV (.int .i64 (atPos l b.b : Int)) rfl rfl rfl ?_
   refine sqV (.agg (#[.int .i64 (atPos l b.a : Int), .int .i64 (atPos l b.b : Int)])) rfl rfl (by kernel_rfl) ?_
   refine r_new (fun b => .slice (some ⟨b, 0, none⟩) 1 1) (.cells #[Value.int .i64 (atPos l b.a : Int), Value.int .i64 (atPos l b.b : Int)] 36 (0, 0)) hM17 (by kernel_rfl) rfl rfl ?_
   intro b27 w25 hM26 hb27
   replace hM26 : Mem w No w25 ((b27, .cells #[Value.int .i64 (atPos l b.a : Int), Value.int .i64 (atPos l b.b : Int)] 36 (0, 0)) :: (b11, .cells (#[Value.int .i64 b.a, Value.int .i64 b.b, Value.bool b.must]) 35 (0, 0)) :: (b6, .cells #[v1, v2] 57 (0, 0)) :: (b3, .cells #[Value.slice none 0 0, Value.slice none 0 0] 57 (0, 0)) :: (L1 ++ L2)) := hM26
   refine r_append (bytes := 16) (z := zPair) (A := some ⟨b27, 0, none⟩) (m := 1) (c := 1) (news := pairE (atPos l b.a, atPos l b.b)) hr2 (hM26.perm ((List.Perm.append_left ([(b27, .cells #[Value.int .i64 (atPos l b.a : Int), Value.int .i64 (atPos l b.b : Int)] 36 (0, 0)), (b11, .cells (#[Value.int .i64 b.a, Value.int .i64 b.b, Value.bool b.must]) 35 (0, 0)), (b6, .cells #[v1, v2] 57 (0, 0)), (b3, .cells #[Value.slice none 0 0, Value.slice none 0 0] 57 (0, 0))] : Hp) List.perm_append_comm).trans (List.perm_append_comm_assoc ([(b27, .cells #[Value.int .i64 (atPos l b.a : Int), Value.int .i64 (atPos l b.b : Int)] 36 (0, 0)), (b11, .cells (#[Value.int .i64 b.a, Value.int .i64 b.b, Value.bool b.must]) 35 (0, 0)), (b6, .cells #[v1, v2] 57 (0, 0)), (b3, .cells #[Value.slice none 0 0, Value.slice none 0 0] 57 (0, 0))] : Hp) L2 L1))) (fun _ => rfl) (rfl) (hM26.cells 0 rfl) (by simp [Value.oneCell']) (by have := nots_len (l := l) (bs := bs) (k := k); omega) (by kernel_rfl) (by kernel_rfl) rfl (by decide) (by decide) rfl rfl rfl ?_
   intro v9 L9 w28 hr9 hM29
   replace hM29 := (hM29).perm ((List.perm_append_comm_assoc L9 ([(b27, .cells #[Value.int .i64 (atPos l b.a : Int), Value.int .i64 (atPos l b.b : Int)] 36 (0, 0)), (b11, .cells (#[Value.int .i64 b.a, Value.int .i64 b.b, Value.bool b.must]) 35 (0, 0)), (b6, .cells #[v1, v2] 57 (0, 0)), (b3, .cells #[Value.slice none 0 0, Value.slice none 0 0] 57 (0, 0))] : Hp) L1).trans (List.Perm.append_left ([(b27, .cells #[Value.int .i64 (atPos l b.a : Int), Value.int .i64 (atPos l b.b : Int)] 36 (0, 0)), (b11, .cells (#[Value.int .i64 b.a, Value.int .i64 b.b, Value.bool b.must]) 35 (0, 0)), (b6, .cells #[v1, v2] 57 (0, 0)), (b3, .cells #[Value.slice none 0 0, Value.slice none 0 0] 57 (0, 0))] : Hp) List.perm_append_comm))
   have hone_v9 := hr9.one
   replace hM29 : Mem w No w28 ((b27, .cells #[Value.int .i64 (atPos l b.a : Int), Value.int .i64 (atPos l b.b : Int)] 36 (0, 0)) :: (b11, .cells (#[Value.int .i64 b.a, Value.int .i64 b.b, Value.bool b.must]) 35 (0, 0)) :: (b6, .cells #[v1, v2] 57 (0, 0)) :: (b3, .cells #[Value.slice none 0 0, Value.slice none 0 0] 57 (0, 0)) :: (L1 ++ L9)) := hM29
   refine sqV (.pointer (some ⟨b6, 1, none⟩)) rfl rfl rfl ?_
   refine r_store (v := v9) hM29 2 rfl (by simp) (by first | rfl | assumption) rfl rfl rfl rfl ?_
   intro w30 hM31
   replace hM31 : Mem w No w30 ((b27, .cells #[Value.int .i64 (atPos l b.a : Int), Value.int .i64 (atPos l b.b : Int)] 36 (0, 0)) :: (b11, .cells (#[Value.int .i64 b.a, Value.int .i64 b.b, Value.bool b.must]) 35 (0, 0)) :: (b6, .cells #[v1, v9] 57 (0, 0)) :: (b3, .cells #[Value.slice none 0 0, Value.slice none 0 0] 57 (0, 0)) :: (L1 ++ L9)) := hM31
   refine r_nil (e_blk (e_then (k_region (sqV (.int .i64 ((k : Int) + 1)) rfl rfl (x_addE rfl (by omega) (by omega) rfl rfl) ?_))))
   refine sqV (.int .i64 ((k : Int) + 1)) rfl rfl rfl ?_
   refine r_nil (sqE [(0, .slice Al nl cl), (4, .pointer (some ⟨b3, 0, none⟩)), (5, .pointer (some ⟨b6, 0, none⟩)), (12, .slice Ab nb cb), (13, .int .i64 (nb : Int)), (14, .int .i64 ((k : Int) + 1))] rfl ?_)
   refine e_loop (k + 1, v1, v9, L1, L9) (sqS rfl) ?_ ?_
   ·exact ⟨(hM31.pickT [(b27, .cells #[Value.int .i64 (atPos l b.a : Int), Value.int .i64 (atPos l b.b : Int)] 36 (0, 0)), (b11, .cells (#[Value.int .i64 b.a, Value.int .i64 b.b, Value.bool b.must]) 35 (0, 0)), (b6, .cells #[v1, v9] 57 (0, 0)), (b3, .cells #[Value.slice none 0 0, Value.slice none 0 0] 57 (0, 0))] (L1 ++ L9) rfl [2, 3] _ (by decide) rfl), by omega, musts_no hbk h2 hr1, nots_yes hbk h2 hr9⟩
   ·(try dsimp only); omega
 ·try simp only [sqC] at h
  refine k_exit (e_then_exit (e_loop_exit (e_blk_exit (e_then (k_seq (k_region ?_))))))
  have hone1 := hr1.one
  have hone2 := hr2.one
  have hkn : bs.take k = bs := List.take_of_length_le (by omega)
  refine sqV (.agg (#[v1, v2])) rfl rfl (x_loadPart hM8 0 rfl (o := 0) (l := [v1, v2]) rfl rfl rfl rfl) ?_
  refine r_storeRow (vs := (#[v1, v2])) hM8 1 rfl (by rw [show (#[v1, v2]).size = 2 from (by simp [ints_size, *])]; rfl) (by first | (simp [Value.oneCell']; done) | (simp only [List.mem_cons, List.not_mem_nil, or_false, forall_eq_or_imp, forall_eq]; (repeat' constructor) <;> first | assumption | rfl)) (by rw [show (#[v1, v2]).size = 2 from (by simp [ints_size, *])]; rfl) rfl rfl rfl ?_
  intro w32 hM33
  replace hM33 : Mem w No w32 ((b6, .cells #[v1, v2] 57 (0, 0)) :: (b3, .cells (#[v1, v2]) 57 (0, 0)) :: (L1 ++ L2)) := hM33
  refine r_nil (e_then (k_ret (e_retC rfl rfl (run_loadVarRow hM33 1 rfl rfl rfl) ?_)))
  exact ⟨_, rfl, v1, v2, L1, L2, rfl, by rw [hkn] at hr1 hr2; exact ⟨hr1, hr2⟩, hM33.tail.tail⟩


end Go.Proofs.Ytddacakmafdgdaa
end
section
/- Fh: what Go functions of this seat come to, printed by walk.py over the engine. -/
set_option linter.unusedVariables false
set_option linter.unusedSimpArgs false
set_option maxRecDepth 100000
namespace Go.Proofs.Ytddacakmafdgdaa
open Go.RowKit Go.Kn

theorem checkBonds_s (Al Ab : Option Addr) (nl cl nb cb : Nat) (l : List (List Int)) (bs : List Bond3) (w : World) (hl : RdE intsE 14 w Al nl l) (hb : RdE bondE 3 w Ab nb bs) :
  Calls Try.prog 17 #[Value.slice Al nl cl, Value.slice Ab nb cb] w fun e w' => ∃ r, e = .returned r ∧ r = .int .i64 (checkB l bs) ∧ Mem w No w' [] := by
 refine calls_k (args := [Value.slice Al nl cl, Value.slice Ab nb cb]) 119 [(0, Value.slice Al nl cl), (1, Value.slice Ab nb cb)] Try.func17 rfl rfl ⟨rfl, rfl, trivial⟩ ?_
 have hM := Mem.nil w No
 have hbl := hb.len
 have hll := hl.len
 refine k_seq (k_region (sqV (.int .i64 0) rfl rfl rfl ?_))
 refine r_nil (e_then (k_seq (k_seq (k_region (sqV (.slice Al nl cl) rfl rfl rfl ?_)))))
 refine r_call (f := 25) (args := #[Value.slice Al nl cl]) (w' := w) rfl rfl (x_call (vs := [Value.slice Al nl cl]) (enter25 _ _) rfl rfl) (check_s Al nl cl l w (hl.up hM)) ?_
 rintro v_ w1 ⟨rfl, hM2⟩
 replace hM2 := hM.grow hM2.kept
 refine sqV (.int .i64 (checkL l)) rfl rfl rfl ?_
 refine r_nil (e_then (k_seq (k_region (sqV (.int .i64 (checkL l)) rfl rfl rfl ?_))))
 refine sqV (.bool ((checkL l) != 0)) rfl rfl rfl ?_
 refine r_nil (e_then ?_)
 refine k_cond rfl rfl (fun h => ?_) (fun h => ?_)
 ·try simp only [sqC] at h
  refine k_seq (k_region (sqV (.int .i64 (checkL l)) rfl rfl rfl ?_))
  refine sqV (.int .i64 (checkL l)) rfl rfl rfl ?_
  refine r_nil (sqE [(4, .int .i64 (checkL l))] rfl (e_then (k_ret (e_then_ret (e_ret1 rfl rfl ?_)))))
  exact ⟨_, rfl, by rw [checkB_1 h], hM2.drop⟩
 ·try simp only [sqC] at h
  refine k_skip (e_then (k_seq (k_seq (k_region (sqV (.slice Ab nb cb) rfl rfl rfl ?_)))))
  refine sqV (.int .i64 (nb : Int)) rfl rfl (x_len rfl rfl) ?_
  refine sqV (.bool (decide ((nb : Int) > 1000))) rfl rfl rfl ?_
  refine r_nil (e_then ?_)
  refine k_cond rfl rfl (fun hbig => ?_) (fun hbig => ?_)
  ·try simp only [sqC] at hbig
   refine k_seq (k_region (sqV (.int .i64 4) rfl rfl rfl ?_))
   refine r_nil (e_then (k_ret (e_then_ret (e_ret1 rfl rfl ?_))))
   exact ⟨_, rfl, by rw [checkB_2 h (by omega)], hM2.drop⟩
  ·try simp only [sqC] at hbig
   refine k_skip (e_then (k_seq (k_seq (k_region ?_))))
   have hgd := good_of h (fun x hx => by have := hl.size x hx; simpa using this)
   have hl3 : nl ≤ 300 := by have := hgd.len; omega
   have hck := checkB_3 (bs := bs) h (by omega)
   refine sqV (.slice Ab nb cb) rfl rfl rfl ?_
   refine sqV (.int .i64 (nb : Int)) rfl rfl (x_len rfl rfl) ?_
   refine sqV (.int .i64 0) rfl rfl rfl ?_
   refine r_nil (e_then (k_block (k_loop (σ := Nat) (fun k => [(0, .slice Al nl cl), (1, .slice Ab nb cb), (24, .slice Ab nb cb), (25, .int .i64 (nb : Int)), (26, .int .i64 (k : Int))]) (fun k w_ => Mem w No w_ [] ∧ k ≤ nb ∧ bondsFrom l none bs = bondsFrom l (bprev bs k) (bs.drop k)) (fun k => nb - k) 0 (sqS rfl) ⟨hM2, by omega, rfl⟩ ?_)))
   rintro k w3 ⟨hM4, hk, he⟩
   refine sqK [(0, .slice Al nl cl), (1, .slice Ab nb cb), (24, .slice Ab nb cb), (25, .int .i64 (nb : Int)), (26, .int .i64 (k : Int))] rfl (k_seq (k_region (sqV (.bool (decide ((k : Int) < (nb : Int)))) rfl rfl rfl ?_)))
   refine r_nil (sqE [(0, .slice Al nl cl), (1, .slice Ab nb cb), (24, .slice Ab nb cb), (25, .int .i64 (nb : Int)), (26, .int .i64 (k : Int)), (27, .bool (decide ((k : Int) < (nb : Int))))] rfl (e_then (k_seq ?_)))
   refine k_cond rfl rfl (fun h1 => ?_) (fun h1 => ?_)
   ·try simp only [sqC] at h1
    refine k_skip (e_then (k_seq (k_block (k_seq (k_region ?_)))))
    obtain ⟨b, hbk⟩ : ∃ b, bs[k]? = some b := ⟨bs[k]'(by omega), by simp⟩
    have hat := bonds_at (l := l) hbk (bprev bs k)
    refine sqV (.int .i64 (k : Int)) rfl rfl rfl ?_
    refine sqV (.pointer (some ((adr Ab).add (k * 3)))) rfl rfl (x_indexAddrN (i := k) (sz := 3) hb.here (by omega) rfl rfl rfl rfl) ?_
    refine sqV (.agg (#[.int .i64 b.a, .int .i64 b.b, .bool b.must])) rfl rfl (x_loadElem (enc := bondE) (e := b) (hb.up hM4) hbk rfl rfl rfl) ?_
    refine r_alloc hM4 (z := Value.agg #[Value.int .i64 0, Value.int .i64 0, Value.bool false]) rfl rfl ?_
    intro b7 w5 hM6 hb7
    replace hM6 : Mem w No w5 [(b7, .cells #[Value.int .i64 0, Value.int .i64 0, Value.bool false] 35 (0, 0))] := hM6
    refine sqV (.int .i64 (k : Int)) rfl rfl rfl ?_
    refine r_storeRow (vs := (#[Value.int .i64 b.a, Value.int .i64 b.b, Value.bool b.must])) hM6 0 rfl (by rw [show (#[Value.int .i64 b.a, Value.int .i64 b.b, Value.bool b.must]).size = 3 from (by simp [ints_size, *])]; rfl) (by first | (simp [Value.oneCell']; done) | (simp only [List.mem_cons, List.not_mem_nil, or_false, forall_eq_or_imp, forall_eq]; (repeat' constructor) <;> first | assumption | rfl)) (by rw [show (#[Value.int .i64 b.a, Value.int .i64 b.b, Value.bool b.must]).size = 3 from (by simp [ints_size, *])]; rfl) rfl rfl rfl ?_
    intro w8 hM9
    replace hM9 : Mem w No w8 [(b7, .cells (#[Value.int .i64 b.a, Value.int .i64 b.b, Value.bool b.must]) 35 (0, 0))] := hM9
    refine r_nil (e_then (k_seq (k_region (sqV (.slice Al nl cl) rfl rfl rfl ?_))))
    refine sqV (.pointer (some ⟨b7, 0, none⟩)) rfl rfl rfl ?_
    refine sqV (.int .i64 b.a) rfl rfl (x_load (hM9.cell 0 rfl rfl) rfl rfl) ?_
    refine r_call (f := 27) (args := #[Value.slice Al nl cl, Value.int .i64 b.a]) (w' := w8) rfl rfl (x_call (vs := [Value.slice Al nl cl, Value.int .i64 b.a]) (enter27 _ _) rfl rfl) (at_s Al nl cl l b.a w8 (hl.up hM9) hgd.sorted hl3) ?_
    rintro v_ w10 ⟨rfl, hM11⟩
    replace hM11 := hM9.grow hM11.kept
    refine sqV (.tuple #[.int .i64 (atPos l b.a : Int), .bool (atOk l b.a)]) rfl rfl rfl ?_
    refine sqV (.int .i64 (atPos l b.a : Int)) rfl rfl rfl ?_
    refine sqV (.bool (atOk l b.a)) rfl rfl rfl ?_
    refine sqV (.int .i64 (atPos l b.a : Int)) rfl rfl rfl ?_
    refine sqV (.bool (atOk l b.a)) rfl rfl rfl ?_
    refine r_nil (e_then (k_seq (k_region (sqV (.slice Al nl cl) rfl rfl rfl ?_))))
    refine sqV (.pointer (some ⟨b7, 1, none⟩)) rfl rfl rfl ?_
    refine sqV (.int .i64 b.b) rfl rfl (x_load (hM11.cell 0 rfl rfl) rfl rfl) ?_
    refine r_call (f := 27) (args := #[Value.slice Al nl cl, Value.int .i64 b.b]) (w' := w10) rfl rfl (x_call (vs := [Value.slice Al nl cl, Value.int .i64 b.b]) (enter27 _ _) rfl rfl) (at_s Al nl cl l b.b w10 (hl.up hM11) hgd.sorted hl3) ?_
    rintro v_ w12 ⟨rfl, hM13⟩
    replace hM13 := hM11.grow hM13.kept
    refine sqV (.tuple #[.int .i64 (atPos l b.b : Int), .bool (atOk l b.b)]) rfl rfl rfl ?_
    refine sqV (.int .i64 (atPos l b.b : Int)) rfl rfl rfl ?_
    refine sqV (.bool (atOk l b.b)) rfl rfl rfl ?_
    refine sqV (.int .i64 (atPos l b.b : Int)) rfl rfl rfl ?_
    refine sqV (.bool (atOk l b.b)) rfl rfl rfl ?_
    refine r_nil (e_then (k_block (k_seq (k_region (sqV (.bool (atOk l b.a)) rfl rfl rfl ?_)))))
    refine sqV (.bool (!(atOk l b.a))) rfl rfl rfl ?_
    refine sqV (.bool (!(atOk l b.a))) rfl rfl rfl ?_
    rcases Bool.eq_false_or_eq_true (!(atOk l b.a)) with g0 | g0
    ·refine wpR_sub [(0, Value.slice Al nl cl), (1, Value.slice Ab nb cb), (6, Value.int .i64 (k : Int)), (7, Value.pointer (some ⟨b7, 0, none⟩)), (11, Value.bool (atOk l b.b)), (24, Value.slice Ab nb cb), (25, Value.int .i64 (nb : Int)), (26, Value.int .i64 (k : Int)), (48, Value.bool true)] ⟨rfl, rfl, rfl, rfl, rfl, rfl, rfl, rfl, congrArg (fun z => some (Value.bool z)) g0, trivial⟩ ?_
     have h2 : (!atOk l b.a || !atOk l b.b) = true := by rw [g0]; rfl
     refine r_no rfl rfl (by decide) rfl ?_
     refine r_no rfl rfl (by decide) rfl ?_
     refine sqV (.bool true) rfl rfl rfl ?_
     refine sqV (.bool true) rfl rfl rfl ?_
     refine r_nil (sqE [(0, .slice Al nl cl), (1, .slice Ab nb cb), (6, .int .i64 (k : Int)), (7, .pointer (some ⟨b7, 0, none⟩)), (24, .slice Ab nb cb), (25, .int .i64 (nb : Int)), (26, .int .i64 (k : Int)), (45, .bool true)] rfl (e_then (k_cond_true rfl rfl ?_)))
     refine k_seq (k_region (sqV (.int .i64 7) rfl rfl rfl ?_))
     refine r_nil (e_then (k_ret (e_blk_ret (e_blk_ret (e_then_ret (e_loop_ret (e_blk_ret (e_then_ret (e_ret1 rfl rfl ?_)))))))))
     exact ⟨_, rfl, by rw [hck, he, hat, bone_none h2]; rfl, hM13.drop⟩
    ·refine wpR_sub [(0, Value.slice Al nl cl), (1, Value.slice Ab nb cb), (6, Value.int .i64 (k : Int)), (7, Value.pointer (some ⟨b7, 0, none⟩)), (11, Value.bool (atOk l b.b)), (24, Value.slice Ab nb cb), (25, Value.int .i64 (nb : Int)), (26, Value.int .i64 (k : Int)), (48, Value.bool false)] ⟨rfl, rfl, rfl, rfl, rfl, rfl, rfl, rfl, congrArg (fun z => some (Value.bool z)) g0, trivial⟩ ?_
     refine r_yes rfl rfl ?_
     refine sqV (.bool (atOk l b.b)) rfl rfl rfl ?_
     refine r_yes rfl rfl ?_
     refine sqV (.bool (!(atOk l b.b))) rfl rfl rfl ?_
     refine sqV (.bool (!(atOk l b.b))) rfl rfl rfl ?_
     refine sqV (.bool (!(atOk l b.b))) rfl rfl rfl ?_
     refine r_nil (e_then ?_)
     refine k_cond rfl rfl (fun h2b => ?_) (fun h2b => ?_)
     ·try simp only [sqC] at h2b
      refine k_seq (k_region ?_)
      have h2 : (!atOk l b.a || !atOk l b.b) = true := by simp [h2b]
      refine sqV (.int .i64 7) rfl rfl rfl ?_
      refine r_nil (e_then (k_ret (e_blk_ret (e_blk_ret (e_then_ret (e_loop_ret (e_blk_ret (e_then_ret (e_ret1 rfl rfl ?_)))))))))
      exact ⟨_, rfl, by rw [hck, he, hat, bone_none h2]; rfl, hM13.drop⟩
     ·try simp only [sqC] at h2b
      refine k_seq (k_region ?_)
      have h2 : (!atOk l b.a || !atOk l b.b) = false := by simp at g0; simp [g0, h2b]
      refine sqV (.pointer (some ⟨b7, 0, none⟩)) rfl rfl rfl ?_
      refine sqV (.int .i64 b.a) rfl rfl (x_load (hM13.cell 0 rfl rfl) rfl rfl) ?_
      refine sqV (.pointer (some ⟨b7, 1, none⟩)) rfl rfl rfl ?_
      refine sqV (.int .i64 b.b) rfl rfl (x_load (hM13.cell 0 rfl rfl) rfl rfl) ?_
      refine sqV (.bool (decide (b.a ≥ b.b))) rfl rfl rfl ?_
      refine sqV (.bool (decide (b.a ≥ b.b))) rfl rfl rfl ?_
      refine r_nil (sqE [(0, .slice Al nl cl), (1, .slice Ab nb cb), (6, .int .i64 (k : Int)), (7, .pointer (some ⟨b7, 0, none⟩)), (24, .slice Ab nb cb), (25, .int .i64 (nb : Int)), (26, .int .i64 (k : Int)), (52, .bool (decide (b.a ≥ b.b)))] rfl (e_then ?_))
      refine k_cond rfl rfl (fun h3 => ?_) (fun h3 => ?_)
      ·try simp only [sqC] at h3
       refine k_seq (k_region (sqV (.int .i64 1) rfl rfl rfl ?_))
       refine r_nil (e_then (k_ret (e_blk_ret (e_blk_ret (e_then_ret (e_loop_ret (e_blk_ret (e_then_ret (e_ret1 rfl rfl ?_)))))))))
       exact ⟨_, rfl, by rw [hck, he, hat, bone_form h2 h3]; rfl, hM13.drop⟩
      ·try simp only [sqC] at h3
       refine k_seq ?_
       have h3 : ¬ b.b ≤ b.a := by omega
       rcases Bool.eq_false_or_eq_true (decide ((k : Int) > 0)) with g1 | g1
       ·skip
        have hk0 : 0 < k := by simpa using g1
        obtain ⟨q, hq⟩ : ∃ q, bs[k - 1]? = some q := ⟨bs[k - 1]'(by omega), by simp⟩
        have hp := bprev_at hq hk0
        rcases Bool.eq_false_or_eq_true (decide (b.a < q.a)) with g2 | g2
        ·skip
         refine k_draw mixed [0, 1, 3, 7, 15, 7, 7, 71, 231, 487, 999, 2047, 4095, 8191, 16383, 8191, 8191, 73727, 237567, 499711, 1023999, 2097151, 4194303, 8388607, 16777215, 8388607, 8388607, 75497471, 243269631, 511705087, 1048575999, 2147483647, 4294967295, 8589934591, 17179869183, 34359738367] [some (Value.int .i64 (k : Int)), some (Value.bool true), some (Value.bool true), some (Value.pointer (some ⟨b7, 0, none⟩)), some (Value.int .i64 b.a), some (Value.slice Ab nb cb), some (Value.int .i64 (k : Int)), some (Value.int .i64 ((k - 1 : Nat) : Int)), some (Value.pointer (some ((adr Ab).add ((k - 1 : Nat) * 3)))), some (Value.pointer (some ((adr Ab).add ((k - 1 : Nat) * 3)))), some (Value.int .i64 q.a), some (Value.bool true), some (Value.bool true), some (undef), some (undef), some (undef), some (undef), some (undef), some (undef), some (undef), some (undef), some (undef), some (undef), some (undef), some (undef), some (undef), some (undef), some (undef), some (undef), some (undef), some (undef), some (undef), some (undef), some (Value.bool true), some (Value.bool true), some (Value.bool true)] (by kernel_rfl) (fun D V w_ => Mem w No w_ [(b7, .cells (#[Value.int .i64 b.a, Value.int .i64 b.b, Value.bool b.must]) 35 (0, 0))]) (fun V => hM13.drew) ?_ ?_
         ·refine ⟨?_, ?_, ?_, ?_, ?_, ?_, ?_, ?_, ?_, ?_, ?_, ?_, ?_, ?_, ?_, ?_, ?_, ?_, ?_, ?_, ?_, ?_, ?_, ?_, ?_, ?_, ?_, ?_, ?_, ?_, ?_, ?_, ?_, ?_, ?_, ?_, trivial⟩
          ·intro D V w_ hd hi hM_
           refine sqG [(6, .int .i64 (k : Int))] rfl rfl rfl ?_
           exact run_val (.int .i64 (k : Int)) (rfl) ⟨sqT, hM_⟩
          ·intro D V w_ hd hi hM_
           refine sqG [(59, .int .i64 (k : Int))] rfl rfl rfl ?_
           exact run_val (.bool true) (Eq.trans (rfl) (congrArg (fun z => Result.ok (Next.value (Value.bool z)) w_) g1)) ⟨sqT, hM_⟩
          ·intro D V w_ hd hi hM_
           refine sqG [(60, .bool true)] rfl rfl rfl ?_
           exact run_val (.bool true) (rfl) ⟨sqT, hM_⟩
          ·intro D V w_ hd hi hM_
           refine goal_yes [(7, Value.pointer (some ⟨b7, 0, none⟩))] rfl rfl ⟨rfl, trivial⟩ rfl ?_
           exact run_val (.pointer (some ⟨b7, 0, none⟩)) (rfl) ⟨sqT, hM_⟩
          ·intro D V w_ hd hi hM_
           refine goal_yes [(62, Value.pointer (some ⟨b7, 0, none⟩))] rfl rfl ⟨rfl, trivial⟩ rfl ?_
           exact run_val (.int .i64 b.a) (x_load (hM_.cell 0 rfl rfl) rfl rfl) ⟨sqT, hM_⟩
          ·intro D V w_ hd hi hM_
           refine goal_yes [(1, Value.slice Ab nb cb)] rfl rfl ⟨rfl, trivial⟩ rfl ?_
           exact run_val (.slice Ab nb cb) (rfl) ⟨sqT, hM_⟩
          ·intro D V w_ hd hi hM_
           refine goal_yes [(6, Value.int .i64 (k : Int))] rfl rfl ⟨rfl, trivial⟩ rfl ?_
           exact run_val (.int .i64 (k : Int)) (rfl) ⟨sqT, hM_⟩
          ·intro D V w_ hd hi hM_
           refine goal_yes [(65, Value.int .i64 (k : Int))] rfl rfl ⟨rfl, trivial⟩ rfl ?_
           exact run_val (.int .i64 ((k - 1 : Nat) : Int)) (x_subE (by omega) (by omega) (by omega) rfl rfl) ⟨sqT, hM_⟩
          ·intro D V w_ hd hi hM_
           refine goal_yes [(64, Value.slice Ab nb cb), (66, Value.int .i64 ((k - 1 : Nat) : Int))] rfl rfl ⟨rfl, rfl, trivial⟩ rfl ?_
           exact run_val (.pointer (some ((adr Ab).add ((k - 1 : Nat) * 3)))) (x_indexAddrN (i := (k - 1 : Nat)) (sz := 3) hb.here (by omega) rfl rfl rfl rfl) ⟨sqT, hM_⟩
          ·intro D V w_ hd hi hM_
           refine goal_yes [(67, Value.pointer (some ((adr Ab).add ((k - 1 : Nat) * 3))))] rfl rfl ⟨rfl, trivial⟩ rfl ?_
           exact run_val (.pointer (some ((adr Ab).add ((k - 1 : Nat) * 3)))) (rfl) ⟨sqT, hM_⟩
          ·intro D V w_ hd hi hM_
           refine goal_yes [(68, Value.pointer (some ((adr Ab).add ((k - 1 : Nat) * 3))))] rfl rfl ⟨rfl, trivial⟩ rfl ?_
           exact run_val (.int .i64 q.a) (x_load ((hb.up hM_).first hq rfl) rfl rfl) ⟨sqT, hM_⟩
          ·intro D V w_ hd hi hM_
           refine goal_yes [(63, Value.int .i64 b.a), (69, Value.int .i64 q.a)] rfl rfl ⟨rfl, rfl, trivial⟩ rfl ?_
           exact run_val (.bool true) (Eq.trans (rfl) (congrArg (fun z => Result.ok (Next.value (Value.bool z)) w_) g2)) ⟨sqT, hM_⟩
          ·intro D V w_ hd hi hM_
           refine goal_yes [(70, Value.bool true)] rfl rfl ⟨rfl, trivial⟩ rfl ?_
           exact run_val (.bool true) (rfl) ⟨sqT, hM_⟩
          ·intro D V w_ hd hi hM_
           exact goal_no rfl rfl (by decide) ⟨sqT, hM_⟩
          ·intro D V w_ hd hi hM_
           exact goal_no rfl rfl (by decide) ⟨sqT, hM_⟩
          ·intro D V w_ hd hi hM_
           exact goal_no rfl rfl (by decide) ⟨sqT, hM_⟩
          ·intro D V w_ hd hi hM_
           exact goal_no rfl rfl (by decide) ⟨sqT, hM_⟩
          ·intro D V w_ hd hi hM_
           exact goal_no rfl rfl (by decide) ⟨sqT, hM_⟩
          ·intro D V w_ hd hi hM_
           exact goal_no rfl rfl (by decide) ⟨sqT, hM_⟩
          ·intro D V w_ hd hi hM_
           exact goal_no rfl rfl (by decide) ⟨sqT, hM_⟩
          ·intro D V w_ hd hi hM_
           exact goal_no rfl rfl (by decide) ⟨sqT, hM_⟩
          ·intro D V w_ hd hi hM_
           exact goal_no rfl rfl (by decide) ⟨sqT, hM_⟩
          ·intro D V w_ hd hi hM_
           exact goal_no rfl rfl (by decide) ⟨sqT, hM_⟩
          ·intro D V w_ hd hi hM_
           exact goal_no rfl rfl (by decide) ⟨sqT, hM_⟩
          ·intro D V w_ hd hi hM_
           exact goal_no rfl rfl (by decide) ⟨sqT, hM_⟩
          ·intro D V w_ hd hi hM_
           exact goal_no rfl rfl (by decide) ⟨sqT, hM_⟩
          ·intro D V w_ hd hi hM_
           exact goal_no rfl rfl (by decide) ⟨sqT, hM_⟩
          ·intro D V w_ hd hi hM_
           exact goal_no rfl rfl (by decide) ⟨sqT, hM_⟩
          ·intro D V w_ hd hi hM_
           exact goal_no rfl rfl (by decide) ⟨sqT, hM_⟩
          ·intro D V w_ hd hi hM_
           exact goal_no rfl rfl (by decide) ⟨sqT, hM_⟩
          ·intro D V w_ hd hi hM_
           exact goal_no rfl rfl (by decide) ⟨sqT, hM_⟩
          ·intro D V w_ hd hi hM_
           exact goal_no rfl rfl (by decide) ⟨sqT, hM_⟩
          ·intro D V w_ hd hi hM_
           exact goal_no rfl rfl (by decide) ⟨sqT, hM_⟩
          ·intro D V w_ hd hi hM_
           refine goal_yes [(71, Value.bool true), (91, undef)] rfl rfl ⟨rfl, rfl, trivial⟩ rfl ?_
           exact run_val (.bool true) (rfl) ⟨sqT, hM_⟩
          ·intro D V w_ hd hi hM_
           refine sqG [(61, .bool true), (92, .bool true)] rfl rfl rfl ?_
           exact run_val (.bool true) (rfl) ⟨sqT, hM_⟩
          ·intro D V w_ hd hi hM_
           refine sqG [(93, .bool true)] rfl rfl rfl ?_
           exact run_val (.bool true) (rfl) ⟨sqT, hM_⟩
         intro D V w17 hall hM18
         refine e_then (k_cond_true rfl rfl ?_)
         refine k_seq (k_region (sqV (.int .i64 5) rfl rfl rfl ?_))
         refine r_nil (e_then (k_ret (e_blk_ret (e_blk_ret (e_then_ret (e_loop_ret (e_blk_ret (e_then_ret (e_ret1 rfl rfl ?_)))))))))
         exact ⟨_, rfl, by rw [hck, he, hat, bone_order h2 h3 (by rw [hp]; simp at g2; simp [bAfter, g2])]; rfl, hM18.drop⟩
        ·skip
         rcases Bool.eq_false_or_eq_true (b.a == q.a) with g3 | g3
         ·skip
          refine k_draw mixed [0, 1, 3, 7, 15, 7, 7, 71, 231, 487, 999, 2047, 4095, 8191, 16383, 8191, 8191, 73727, 237567, 499711, 1023999, 2097151, 4194303, 8388607, 16777215, 8388607, 8388607, 75497471, 243269631, 511705087, 1048575999, 2147483647, 4294967295, 8589934591, 17179869183, 34359738367] [some (Value.int .i64 (k : Int)), some (Value.bool true), some (Value.bool true), some (Value.pointer (some ⟨b7, 0, none⟩)), some (Value.int .i64 b.a), some (Value.slice Ab nb cb), some (Value.int .i64 (k : Int)), some (Value.int .i64 ((k - 1 : Nat) : Int)), some (Value.pointer (some ((adr Ab).add ((k - 1 : Nat) * 3)))), some (Value.pointer (some ((adr Ab).add ((k - 1 : Nat) * 3)))), some (Value.int .i64 q.a), some (Value.bool false), some (Value.bool false), some (Value.pointer (some ⟨b7, 0, none⟩)), some (Value.int .i64 b.a), some (Value.slice Ab nb cb), some (Value.int .i64 (k : Int)), some (Value.int .i64 ((k - 1 : Nat) : Int)), some (Value.pointer (some ((adr Ab).add ((k - 1 : Nat) * 3)))), some (Value.pointer (some ((adr Ab).add ((k - 1 : Nat) * 3)))), some (Value.int .i64 q.a), some (Value.bool true), some (Value.bool true), some (Value.pointer (some ⟨b7, 1, none⟩)), some (Value.int .i64 b.b), some (Value.slice Ab nb cb), some (Value.int .i64 (k : Int)), some (Value.int .i64 ((k - 1 : Nat) : Int)), some (Value.pointer (some ((adr Ab).add ((k - 1 : Nat) * 3)))), some (Value.pointer (some (((adr Ab).add ((k - 1 : Nat) * 3)).add 1))), some (Value.int .i64 q.b), some (Value.bool (decide (b.b ≤ q.b))), some (Value.bool (decide (b.b ≤ q.b))), some (Value.bool (decide (b.b ≤ q.b))), some (Value.bool (decide (b.b ≤ q.b))), some (Value.bool (decide (b.b ≤ q.b)))] (by kernel_rfl) (fun D V w_ => Mem w No w_ [(b7, .cells (#[Value.int .i64 b.a, Value.int .i64 b.b, Value.bool b.must]) 35 (0, 0))]) (fun V => hM13.drew) ?_ ?_
          ·refine ⟨?_, ?_, ?_, ?_, ?_, ?_, ?_, ?_, ?_, ?_, ?_, ?_, ?_, ?_, ?_, ?_, ?_, ?_, ?_, ?_, ?_, ?_, ?_, ?_, ?_, ?_, ?_, ?_, ?_, ?_, ?_, ?_, ?_, ?_, ?_, ?_, trivial⟩
           ·intro D V w_ hd hi hM_
            refine sqG [(6, .int .i64 (k : Int))] rfl rfl rfl ?_
            exact run_val (.int .i64 (k : Int)) (rfl) ⟨sqT, hM_⟩
           ·intro D V w_ hd hi hM_
            refine sqG [(59, .int .i64 (k : Int))] rfl rfl rfl ?_
            exact run_val (.bool true) (Eq.trans (rfl) (congrArg (fun z => Result.ok (Next.value (Value.bool z)) w_) g1)) ⟨sqT, hM_⟩
           ·intro D V w_ hd hi hM_
            refine sqG [(60, .bool true)] rfl rfl rfl ?_
            exact run_val (.bool true) (rfl) ⟨sqT, hM_⟩
           ·intro D V w_ hd hi hM_
            refine goal_yes [(7, Value.pointer (some ⟨b7, 0, none⟩))] rfl rfl ⟨rfl, trivial⟩ rfl ?_
            exact run_val (.pointer (some ⟨b7, 0, none⟩)) (rfl) ⟨sqT, hM_⟩
           ·intro D V w_ hd hi hM_
            refine goal_yes [(62, Value.pointer (some ⟨b7, 0, none⟩))] rfl rfl ⟨rfl, trivial⟩ rfl ?_
            exact run_val (.int .i64 b.a) (x_load (hM_.cell 0 rfl rfl) rfl rfl) ⟨sqT, hM_⟩
           ·intro D V w_ hd hi hM_
            refine goal_yes [(1, Value.slice Ab nb cb)] rfl rfl ⟨rfl, trivial⟩ rfl ?_
            exact run_val (.slice Ab nb cb) (rfl) ⟨sqT, hM_⟩
           ·intro D V w_ hd hi hM_
            refine goal_yes [(6, Value.int .i64 (k : Int))] rfl rfl ⟨rfl, trivial⟩ rfl ?_
            exact run_val (.int .i64 (k : Int)) (rfl) ⟨sqT, hM_⟩
           ·intro D V w_ hd hi hM_
            refine goal_yes [(65, Value.int .i64 (k : Int))] rfl rfl ⟨rfl, trivial⟩ rfl ?_
            exact run_val (.int .i64 ((k - 1 : Nat) : Int)) (x_subE (by omega) (by omega) (by omega) rfl rfl) ⟨sqT, hM_⟩
           ·intro D V w_ hd hi hM_
            refine goal_yes [(64, Value.slice Ab nb cb), (66, Value.int .i64 ((k - 1 : Nat) : Int))] rfl rfl ⟨rfl, rfl, trivial⟩ rfl ?_
            exact run_val (.pointer (some ((adr Ab).add ((k - 1 : Nat) * 3)))) (x_indexAddrN (i := (k - 1 : Nat)) (sz := 3) hb.here (by omega) rfl rfl rfl rfl) ⟨sqT, hM_⟩
           ·intro D V w_ hd hi hM_
            refine goal_yes [(67, Value.pointer (some ((adr Ab).add ((k - 1 : Nat) * 3))))] rfl rfl ⟨rfl, trivial⟩ rfl ?_
            exact run_val (.pointer (some ((adr Ab).add ((k - 1 : Nat) * 3)))) (rfl) ⟨sqT, hM_⟩
           ·intro D V w_ hd hi hM_
            refine goal_yes [(68, Value.pointer (some ((adr Ab).add ((k - 1 : Nat) * 3))))] rfl rfl ⟨rfl, trivial⟩ rfl ?_
            exact run_val (.int .i64 q.a) (x_load ((hb.up hM_).first hq rfl) rfl rfl) ⟨sqT, hM_⟩
           ·intro D V w_ hd hi hM_
            refine goal_yes [(63, Value.int .i64 b.a), (69, Value.int .i64 q.a)] rfl rfl ⟨rfl, rfl, trivial⟩ rfl ?_
            exact run_val (.bool false) (Eq.trans (rfl) (congrArg (fun z => Result.ok (Next.value (Value.bool z)) w_) g2)) ⟨sqT, hM_⟩
           ·intro D V w_ hd hi hM_
            refine goal_yes [(70, Value.bool false)] rfl rfl ⟨rfl, trivial⟩ rfl ?_
            exact run_val (.bool false) (rfl) ⟨sqT, hM_⟩
           ·intro D V w_ hd hi hM_
            refine goal_yes [(7, Value.pointer (some ⟨b7, 0, none⟩))] rfl rfl ⟨rfl, trivial⟩ rfl ?_
            exact run_val (.pointer (some ⟨b7, 0, none⟩)) (rfl) ⟨sqT, hM_⟩
           ·intro D V w_ hd hi hM_
            refine goal_yes [(72, Value.pointer (some ⟨b7, 0, none⟩))] rfl rfl ⟨rfl, trivial⟩ rfl ?_
            exact run_val (.int .i64 b.a) (x_load (hM_.cell 0 rfl rfl) rfl rfl) ⟨sqT, hM_⟩
           ·intro D V w_ hd hi hM_
            refine goal_yes [(1, Value.slice Ab nb cb)] rfl rfl ⟨rfl, trivial⟩ rfl ?_
            exact run_val (.slice Ab nb cb) (rfl) ⟨sqT, hM_⟩
           ·intro D V w_ hd hi hM_
            refine goal_yes [(6, Value.int .i64 (k : Int))] rfl rfl ⟨rfl, trivial⟩ rfl ?_
            exact run_val (.int .i64 (k : Int)) (rfl) ⟨sqT, hM_⟩
           ·intro D V w_ hd hi hM_
            refine goal_yes [(75, Value.int .i64 (k : Int))] rfl rfl ⟨rfl, trivial⟩ rfl ?_
            exact run_val (.int .i64 ((k - 1 : Nat) : Int)) (x_subE (by omega) (by omega) (by omega) rfl rfl) ⟨sqT, hM_⟩
           ·intro D V w_ hd hi hM_
            refine goal_yes [(74, Value.slice Ab nb cb), (76, Value.int .i64 ((k - 1 : Nat) : Int))] rfl rfl ⟨rfl, rfl, trivial⟩ rfl ?_
            exact run_val (.pointer (some ((adr Ab).add ((k - 1 : Nat) * 3)))) (x_indexAddrN (i := (k - 1 : Nat)) (sz := 3) hb.here (by omega) rfl rfl rfl rfl) ⟨sqT, hM_⟩
           ·intro D V w_ hd hi hM_
            refine goal_yes [(77, Value.pointer (some ((adr Ab).add ((k - 1 : Nat) * 3))))] rfl rfl ⟨rfl, trivial⟩ rfl ?_
            exact run_val (.pointer (some ((adr Ab).add ((k - 1 : Nat) * 3)))) (rfl) ⟨sqT, hM_⟩
           ·intro D V w_ hd hi hM_
            refine goal_yes [(78, Value.pointer (some ((adr Ab).add ((k - 1 : Nat) * 3))))] rfl rfl ⟨rfl, trivial⟩ rfl ?_
            exact run_val (.int .i64 q.a) (x_load ((hb.up hM_).first hq rfl) rfl rfl) ⟨sqT, hM_⟩
           ·intro D V w_ hd hi hM_
            refine goal_yes [(73, Value.int .i64 b.a), (79, Value.int .i64 q.a)] rfl rfl ⟨rfl, rfl, trivial⟩ rfl ?_
            exact run_val (.bool true) (Eq.trans (rfl) (congrArg (fun z => Result.ok (Next.value (Value.bool z)) w_) g3)) ⟨sqT, hM_⟩
           ·intro D V w_ hd hi hM_
            refine goal_yes [(80, Value.bool true)] rfl rfl ⟨rfl, trivial⟩ rfl ?_
            exact run_val (.bool true) (rfl) ⟨sqT, hM_⟩
           ·intro D V w_ hd hi hM_
            refine goal_yes [(7, Value.pointer (some ⟨b7, 0, none⟩))] rfl rfl ⟨rfl, trivial⟩ rfl ?_
            exact run_val (.pointer (some ⟨b7, 1, none⟩)) (rfl) ⟨sqT, hM_⟩
           ·intro D V w_ hd hi hM_
            refine goal_yes [(82, Value.pointer (some ⟨b7, 1, none⟩))] rfl rfl ⟨rfl, trivial⟩ rfl ?_
            exact run_val (.int .i64 b.b) (x_load (hM_.cell 0 rfl rfl) rfl rfl) ⟨sqT, hM_⟩
           ·intro D V w_ hd hi hM_
            refine goal_yes [(1, Value.slice Ab nb cb)] rfl rfl ⟨rfl, trivial⟩ rfl ?_
            exact run_val (.slice Ab nb cb) (rfl) ⟨sqT, hM_⟩
           ·intro D V w_ hd hi hM_
            refine goal_yes [(6, Value.int .i64 (k : Int))] rfl rfl ⟨rfl, trivial⟩ rfl ?_
            exact run_val (.int .i64 (k : Int)) (rfl) ⟨sqT, hM_⟩
           ·intro D V w_ hd hi hM_
            refine goal_yes [(85, Value.int .i64 (k : Int))] rfl rfl ⟨rfl, trivial⟩ rfl ?_
            exact run_val (.int .i64 ((k - 1 : Nat) : Int)) (x_subE (by omega) (by omega) (by omega) rfl rfl) ⟨sqT, hM_⟩
           ·intro D V w_ hd hi hM_
            refine goal_yes [(84, Value.slice Ab nb cb), (86, Value.int .i64 ((k - 1 : Nat) : Int))] rfl rfl ⟨rfl, rfl, trivial⟩ rfl ?_
            exact run_val (.pointer (some ((adr Ab).add ((k - 1 : Nat) * 3)))) (x_indexAddrN (i := (k - 1 : Nat)) (sz := 3) hb.here (by omega) rfl rfl rfl rfl) ⟨sqT, hM_⟩
           ·intro D V w_ hd hi hM_
            refine goal_yes [(87, Value.pointer (some ((adr Ab).add ((k - 1 : Nat) * 3))))] rfl rfl ⟨rfl, trivial⟩ rfl ?_
            exact run_val (.pointer (some (((adr Ab).add ((k - 1 : Nat) * 3)).add 1))) (rfl) ⟨sqT, hM_⟩
           ·intro D V w_ hd hi hM_
            refine goal_yes [(88, Value.pointer (some (((adr Ab).add ((k - 1 : Nat) * 3)).add 1)))] rfl rfl ⟨rfl, trivial⟩ rfl ?_
            exact run_val (.int .i64 q.b) (x_load ((hb.up hM_).elem hq 1 _ rfl) rfl rfl) ⟨sqT, hM_⟩
           ·intro D V w_ hd hi hM_
            refine goal_yes [(83, Value.int .i64 b.b), (89, Value.int .i64 q.b)] rfl rfl ⟨rfl, rfl, trivial⟩ rfl ?_
            exact run_val (.bool (decide (b.b ≤ q.b))) (rfl) ⟨sqT, hM_⟩
           ·intro D V w_ hd hi hM_
            refine goal_yes [(81, Value.bool true), (90, Value.bool (decide (b.b ≤ q.b)))] rfl rfl ⟨rfl, rfl, trivial⟩ rfl ?_
            exact run_val (.bool (decide (b.b ≤ q.b))) (rfl) ⟨sqT, hM_⟩
           ·intro D V w_ hd hi hM_
            refine goal_yes [(71, Value.bool false), (91, Value.bool (decide (b.b ≤ q.b)))] rfl rfl ⟨rfl, rfl, trivial⟩ rfl ?_
            exact run_val (.bool (decide (b.b ≤ q.b))) (rfl) ⟨sqT, hM_⟩
           ·intro D V w_ hd hi hM_
            refine sqG [(61, .bool true), (92, .bool (decide (b.b ≤ q.b)))] rfl rfl rfl ?_
            exact run_val (.bool (decide (b.b ≤ q.b))) (rfl) ⟨sqT, hM_⟩
           ·intro D V w_ hd hi hM_
            refine sqG [(93, .bool (decide (b.b ≤ q.b)))] rfl rfl rfl ?_
            exact run_val (.bool (decide (b.b ≤ q.b))) (rfl) ⟨sqT, hM_⟩
          intro D V w20 hall hM21
          refine sqE [(0, .slice Al nl cl), (1, .slice Ab nb cb), (24, .slice Ab nb cb), (25, .int .i64 (nb : Int)), (26, .int .i64 (k : Int)), (58, .bool (decide (b.b ≤ q.b)))] rfl (e_then ?_)
          refine k_cond rfl rfl (fun h4 => ?_) (fun h4 => ?_)
          ·try simp only [sqC] at h4
           refine k_seq (k_region (sqV (.int .i64 5) rfl rfl rfl ?_))
           refine r_nil (e_then (k_ret (e_blk_ret (e_blk_ret (e_then_ret (e_loop_ret (e_blk_ret (e_then_ret (e_ret1 rfl rfl ?_)))))))))
           exact ⟨_, rfl, by rw [hck, he, hat, bone_order h2 h3 (by rw [hp]; simp at g2 g3; simp [bAfter, g3, h4])]; rfl, hM21.drop⟩
          ·try simp only [sqC] at h4
           refine k_skip (e_blk (e_blk (e_then (k_region (sqV (.int .i64 ((k : Int) + 1)) rfl rfl (x_addE rfl (by omega) (by omega) rfl rfl) ?_)))))
           refine sqV (.int .i64 ((k : Int) + 1)) rfl rfl rfl ?_
           refine r_nil ?_
           refine e_loop (k + 1) (sqS rfl) ?_ ?_
           ·exact ⟨hM21.drop, by omega, by rw [he, hat, bone_ok h2 h3 (by rw [hp]; simp at g2 g3; simp [bAfter, g3]; omega)]; rfl⟩
           ·(try dsimp only); omega
         ·skip
          refine k_draw mixed [0, 1, 3, 7, 15, 7, 7, 71, 231, 487, 999, 2047, 4095, 8191, 16383, 8191, 8191, 73727, 237567, 499711, 1023999, 2097151, 4194303, 8388607, 16777215, 8388607, 8388607, 75497471, 243269631, 511705087, 1048575999, 2147483647, 4294967295, 8589934591, 17179869183, 34359738367] [some (Value.int .i64 (k : Int)), some (Value.bool true), some (Value.bool true), some (Value.pointer (some ⟨b7, 0, none⟩)), some (Value.int .i64 b.a), some (Value.slice Ab nb cb), some (Value.int .i64 (k : Int)), some (Value.int .i64 ((k - 1 : Nat) : Int)), some (Value.pointer (some ((adr Ab).add ((k - 1 : Nat) * 3)))), some (Value.pointer (some ((adr Ab).add ((k - 1 : Nat) * 3)))), some (Value.int .i64 q.a), some (Value.bool false), some (Value.bool false), some (Value.pointer (some ⟨b7, 0, none⟩)), some (Value.int .i64 b.a), some (Value.slice Ab nb cb), some (Value.int .i64 (k : Int)), some (Value.int .i64 ((k - 1 : Nat) : Int)), some (Value.pointer (some ((adr Ab).add ((k - 1 : Nat) * 3)))), some (Value.pointer (some ((adr Ab).add ((k - 1 : Nat) * 3)))), some (Value.int .i64 q.a), some (Value.bool false), some (Value.bool false), some (undef), some (undef), some (undef), some (undef), some (undef), some (undef), some (undef), some (undef), some (undef), some (Value.bool false), some (Value.bool false), some (Value.bool false), some (Value.bool false)] (by kernel_rfl) (fun D V w_ => Mem w No w_ [(b7, .cells (#[Value.int .i64 b.a, Value.int .i64 b.b, Value.bool b.must]) 35 (0, 0))]) (fun V => hM13.drew) ?_ ?_
          ·refine ⟨?_, ?_, ?_, ?_, ?_, ?_, ?_, ?_, ?_, ?_, ?_, ?_, ?_, ?_, ?_, ?_, ?_, ?_, ?_, ?_, ?_, ?_, ?_, ?_, ?_, ?_, ?_, ?_, ?_, ?_, ?_, ?_, ?_, ?_, ?_, ?_, trivial⟩
           ·intro D V w_ hd hi hM_
            refine sqG [(6, .int .i64 (k : Int))] rfl rfl rfl ?_
            exact run_val (.int .i64 (k : Int)) (rfl) ⟨sqT, hM_⟩
           ·intro D V w_ hd hi hM_
            refine sqG [(59, .int .i64 (k : Int))] rfl rfl rfl ?_
            exact run_val (.bool true) (Eq.trans (rfl) (congrArg (fun z => Result.ok (Next.value (Value.bool z)) w_) g1)) ⟨sqT, hM_⟩
           ·intro D V w_ hd hi hM_
            refine sqG [(60, .bool true)] rfl rfl rfl ?_
            exact run_val (.bool true) (rfl) ⟨sqT, hM_⟩
           ·intro D V w_ hd hi hM_
            refine goal_yes [(7, Value.pointer (some ⟨b7, 0, none⟩))] rfl rfl ⟨rfl, trivial⟩ rfl ?_
            exact run_val (.pointer (some ⟨b7, 0, none⟩)) (rfl) ⟨sqT, hM_⟩
           ·intro D V w_ hd hi hM_
            refine goal_yes [(62, Value.pointer (some ⟨b7, 0, none⟩))] rfl rfl ⟨rfl, trivial⟩ rfl ?_
            exact run_val (.int .i64 b.a) (x_load (hM_.cell 0 rfl rfl) rfl rfl) ⟨sqT, hM_⟩
           ·intro D V w_ hd hi hM_
            refine goal_yes [(1, Value.slice Ab nb cb)] rfl rfl ⟨rfl, trivial⟩ rfl ?_
            exact run_val (.slice Ab nb cb) (rfl) ⟨sqT, hM_⟩
           ·intro D V w_ hd hi hM_
            refine goal_yes [(6, Value.int .i64 (k : Int))] rfl rfl ⟨rfl, trivial⟩ rfl ?_
            exact run_val (.int .i64 (k : Int)) (rfl) ⟨sqT, hM_⟩
           ·intro D V w_ hd hi hM_
            refine goal_yes [(65, Value.int .i64 (k : Int))] rfl rfl ⟨rfl, trivial⟩ rfl ?_
            exact run_val (.int .i64 ((k - 1 : Nat) : Int)) (x_subE (by omega) (by omega) (by omega) rfl rfl) ⟨sqT, hM_⟩
           ·intro D V w_ hd hi hM_
            refine goal_yes [(64, Value.slice Ab nb cb), (66, Value.int .i64 ((k - 1 : Nat) : Int))] rfl rfl ⟨rfl, rfl, trivial⟩ rfl ?_
            exact run_val (.pointer (some ((adr Ab).add ((k - 1 : Nat) * 3)))) (x_indexAddrN (i := (k - 1 : Nat)) (sz := 3) hb.here (by omega) rfl rfl rfl rfl) ⟨sqT, hM_⟩
           ·intro D V w_ hd hi hM_
            refine goal_yes [(67, Value.pointer (some ((adr Ab).add ((k - 1 : Nat) * 3))))] rfl rfl ⟨rfl, trivial⟩ rfl ?_
            exact run_val (.pointer (some ((adr Ab).add ((k - 1 : Nat) * 3)))) (rfl) ⟨sqT, hM_⟩
           ·intro D V w_ hd hi hM_
            refine goal_yes [(68, Value.pointer (some ((adr Ab).add ((k - 1 : Nat) * 3))))] rfl rfl ⟨rfl, trivial⟩ rfl ?_
            exact run_val (.int .i64 q.a) (x_load ((hb.up hM_).first hq rfl) rfl rfl) ⟨sqT, hM_⟩
           ·intro D V w_ hd hi hM_
            refine goal_yes [(63, Value.int .i64 b.a), (69, Value.int .i64 q.a)] rfl rfl ⟨rfl, rfl, trivial⟩ rfl ?_
            exact run_val (.bool false) (Eq.trans (rfl) (congrArg (fun z => Result.ok (Next.value (Value.bool z)) w_) g2)) ⟨sqT, hM_⟩
           ·intro D V w_ hd hi hM_
            refine goal_yes [(70, Value.bool false)] rfl rfl ⟨rfl, trivial⟩ rfl ?_
            exact run_val (.bool false) (rfl) ⟨sqT, hM_⟩
           ·intro D V w_ hd hi hM_
            refine goal_yes [(7, Value.pointer (some ⟨b7, 0, none⟩))] rfl rfl ⟨rfl, trivial⟩ rfl ?_
            exact run_val (.pointer (some ⟨b7, 0, none⟩)) (rfl) ⟨sqT, hM_⟩
           ·intro D V w_ hd hi hM_
            refine goal_yes [(72, Value.pointer (some ⟨b7, 0, none⟩))] rfl rfl ⟨rfl, trivial⟩ rfl ?_
            exact run_val (.int .i64 b.a) (x_load (hM_.cell 0 rfl rfl) rfl rfl) ⟨sqT, hM_⟩
           ·intro D V w_ hd hi hM_
            refine goal_yes [(1, Value.slice Ab nb cb)] rfl rfl ⟨rfl, trivial⟩ rfl ?_
            exact run_val (.slice Ab nb cb) (rfl) ⟨sqT, hM_⟩
           ·intro D V w_ hd hi hM_
            refine goal_yes [(6, Value.int .i64 (k : Int))] rfl rfl ⟨rfl, trivial⟩ rfl ?_
            exact run_val (.int .i64 (k : Int)) (rfl) ⟨sqT, hM_⟩
           ·intro D V w_ hd hi hM_
            refine goal_yes [(75, Value.int .i64 (k : Int))] rfl rfl ⟨rfl, trivial⟩ rfl ?_
            exact run_val (.int .i64 ((k - 1 : Nat) : Int)) (x_subE (by omega) (by omega) (by omega) rfl rfl) ⟨sqT, hM_⟩
           ·intro D V w_ hd hi hM_
            refine goal_yes [(74, Value.slice Ab nb cb), (76, Value.int .i64 ((k - 1 : Nat) : Int))] rfl rfl ⟨rfl, rfl, trivial⟩ rfl ?_
            exact run_val (.pointer (some ((adr Ab).add ((k - 1 : Nat) * 3)))) (x_indexAddrN (i := (k - 1 : Nat)) (sz := 3) hb.here (by omega) rfl rfl rfl rfl) ⟨sqT, hM_⟩
           ·intro D V w_ hd hi hM_
            refine goal_yes [(77, Value.pointer (some ((adr Ab).add ((k - 1 : Nat) * 3))))] rfl rfl ⟨rfl, trivial⟩ rfl ?_
            exact run_val (.pointer (some ((adr Ab).add ((k - 1 : Nat) * 3)))) (rfl) ⟨sqT, hM_⟩
           ·intro D V w_ hd hi hM_
            refine goal_yes [(78, Value.pointer (some ((adr Ab).add ((k - 1 : Nat) * 3))))] rfl rfl ⟨rfl, trivial⟩ rfl ?_
            exact run_val (.int .i64 q.a) (x_load ((hb.up hM_).first hq rfl) rfl rfl) ⟨sqT, hM_⟩
           ·intro D V w_ hd hi hM_
            refine goal_yes [(73, Value.int .i64 b.a), (79, Value.int .i64 q.a)] rfl rfl ⟨rfl, rfl, trivial⟩ rfl ?_
            exact run_val (.bool false) (Eq.trans (rfl) (congrArg (fun z => Result.ok (Next.value (Value.bool z)) w_) g3)) ⟨sqT, hM_⟩
           ·intro D V w_ hd hi hM_
            refine goal_yes [(80, Value.bool false)] rfl rfl ⟨rfl, trivial⟩ rfl ?_
            exact run_val (.bool false) (rfl) ⟨sqT, hM_⟩
           ·intro D V w_ hd hi hM_
            exact goal_no rfl rfl (by decide) ⟨sqT, hM_⟩
           ·intro D V w_ hd hi hM_
            exact goal_no rfl rfl (by decide) ⟨sqT, hM_⟩
           ·intro D V w_ hd hi hM_
            exact goal_no rfl rfl (by decide) ⟨sqT, hM_⟩
           ·intro D V w_ hd hi hM_
            exact goal_no rfl rfl (by decide) ⟨sqT, hM_⟩
           ·intro D V w_ hd hi hM_
            exact goal_no rfl rfl (by decide) ⟨sqT, hM_⟩
           ·intro D V w_ hd hi hM_
            exact goal_no rfl rfl (by decide) ⟨sqT, hM_⟩
           ·intro D V w_ hd hi hM_
            exact goal_no rfl rfl (by decide) ⟨sqT, hM_⟩
           ·intro D V w_ hd hi hM_
            exact goal_no rfl rfl (by decide) ⟨sqT, hM_⟩
           ·intro D V w_ hd hi hM_
            exact goal_no rfl rfl (by decide) ⟨sqT, hM_⟩
           ·intro D V w_ hd hi hM_
            refine goal_yes [(81, Value.bool false), (90, undef)] rfl rfl ⟨rfl, rfl, trivial⟩ rfl ?_
            exact run_val (.bool false) (rfl) ⟨sqT, hM_⟩
           ·intro D V w_ hd hi hM_
            refine goal_yes [(71, Value.bool false), (91, Value.bool false)] rfl rfl ⟨rfl, rfl, trivial⟩ rfl ?_
            exact run_val (.bool false) (rfl) ⟨sqT, hM_⟩
           ·intro D V w_ hd hi hM_
            refine sqG [(61, .bool true), (92, .bool false)] rfl rfl rfl ?_
            exact run_val (.bool false) (rfl) ⟨sqT, hM_⟩
           ·intro D V w_ hd hi hM_
            refine sqG [(93, .bool false)] rfl rfl rfl ?_
            exact run_val (.bool false) (rfl) ⟨sqT, hM_⟩
          intro D V w22 hall hM23
          refine e_then (k_cond_false rfl rfl ?_)
          refine k_skip (e_blk (e_blk (e_then (k_region (sqV (.int .i64 ((k : Int) + 1)) rfl rfl (x_addE rfl (by omega) (by omega) rfl rfl) ?_)))))
          refine sqV (.int .i64 ((k : Int) + 1)) rfl rfl rfl ?_
          refine r_nil (sqE [(0, .slice Al nl cl), (1, .slice Ab nb cb), (24, .slice Ab nb cb), (25, .int .i64 (nb : Int)), (26, .int .i64 ((k : Int) + 1))] rfl ?_)
          refine e_loop (k + 1) (sqS rfl) ?_ ?_
          ·exact ⟨hM23.drop, by omega, by rw [he, hat, bone_ok h2 h3 (by rw [hp]; simp at g2 g3; simp [bAfter, g3]; omega)]; rfl⟩
          ·(try dsimp only); omega
       ·skip
        have hk0 : k = 0 := by simp at g1; omega
        refine k_draw mixed [0, 1, 3, 7, 15, 7, 7, 71, 231, 487, 999, 2047, 4095, 8191, 16383, 8191, 8191, 73727, 237567, 499711, 1023999, 2097151, 4194303, 8388607, 16777215, 8388607, 8388607, 75497471, 243269631, 511705087, 1048575999, 2147483647, 4294967295, 8589934591, 17179869183, 34359738367] [some (Value.int .i64 (k : Int)), some (Value.bool false), some (Value.bool false), some (undef), some (undef), some (undef), some (undef), some (undef), some (undef), some (undef), some (undef), some (undef), some (undef), some (undef), some (undef), some (undef), some (undef), some (undef), some (undef), some (undef), some (undef), some (undef), some (undef), some (undef), some (undef), some (undef), some (undef), some (undef), some (undef), some (undef), some (undef), some (undef), some (undef), some (undef), some (Value.bool false), some (Value.bool false)] (by kernel_rfl) (fun D V w_ => Mem w No w_ [(b7, .cells (#[Value.int .i64 b.a, Value.int .i64 b.b, Value.bool b.must]) 35 (0, 0))]) (fun V => hM13.drew) ?_ ?_
        ·refine ⟨?_, ?_, ?_, ?_, ?_, ?_, ?_, ?_, ?_, ?_, ?_, ?_, ?_, ?_, ?_, ?_, ?_, ?_, ?_, ?_, ?_, ?_, ?_, ?_, ?_, ?_, ?_, ?_, ?_, ?_, ?_, ?_, ?_, ?_, ?_, ?_, trivial⟩
         ·intro D V w_ hd hi hM_
          refine sqG [(6, .int .i64 (k : Int))] rfl rfl rfl ?_
          exact run_val (.int .i64 (k : Int)) (rfl) ⟨sqT, hM_⟩
         ·intro D V w_ hd hi hM_
          refine sqG [(59, .int .i64 (k : Int))] rfl rfl rfl ?_
          exact run_val (.bool false) (Eq.trans (rfl) (congrArg (fun z => Result.ok (Next.value (Value.bool z)) w_) g1)) ⟨sqT, hM_⟩
         ·intro D V w_ hd hi hM_
          refine sqG [(60, .bool false)] rfl rfl rfl ?_
          exact run_val (.bool false) (rfl) ⟨sqT, hM_⟩
         ·intro D V w_ hd hi hM_
          exact goal_no rfl rfl (by decide) ⟨sqT, hM_⟩
         ·intro D V w_ hd hi hM_
          exact goal_no rfl rfl (by decide) ⟨sqT, hM_⟩
         ·intro D V w_ hd hi hM_
          exact goal_no rfl rfl (by decide) ⟨sqT, hM_⟩
         ·intro D V w_ hd hi hM_
          exact goal_no rfl rfl (by decide) ⟨sqT, hM_⟩
         ·intro D V w_ hd hi hM_
          exact goal_no rfl rfl (by decide) ⟨sqT, hM_⟩
         ·intro D V w_ hd hi hM_
          exact goal_no rfl rfl (by decide) ⟨sqT, hM_⟩
         ·intro D V w_ hd hi hM_
          exact goal_no rfl rfl (by decide) ⟨sqT, hM_⟩
         ·intro D V w_ hd hi hM_
          exact goal_no rfl rfl (by decide) ⟨sqT, hM_⟩
         ·intro D V w_ hd hi hM_
          exact goal_no rfl rfl (by decide) ⟨sqT, hM_⟩
         ·intro D V w_ hd hi hM_
          exact goal_no rfl rfl (by decide) ⟨sqT, hM_⟩
         ·intro D V w_ hd hi hM_
          exact goal_no rfl rfl (by decide) ⟨sqT, hM_⟩
         ·intro D V w_ hd hi hM_
          exact goal_no rfl rfl (by decide) ⟨sqT, hM_⟩
         ·intro D V w_ hd hi hM_
          exact goal_no rfl rfl (by decide) ⟨sqT, hM_⟩
         ·intro D V w_ hd hi hM_
          exact goal_no rfl rfl (by decide) ⟨sqT, hM_⟩
         ·intro D V w_ hd hi hM_
          exact goal_no rfl rfl (by decide) ⟨sqT, hM_⟩
         ·intro D V w_ hd hi hM_
          exact goal_no rfl rfl (by decide) ⟨sqT, hM_⟩
         ·intro D V w_ hd hi hM_
          exact goal_no rfl rfl (by decide) ⟨sqT, hM_⟩
         ·intro D V w_ hd hi hM_
          exact goal_no rfl rfl (by decide) ⟨sqT, hM_⟩
         ·intro D V w_ hd hi hM_
          exact goal_no rfl rfl (by decide) ⟨sqT, hM_⟩
         ·intro D V w_ hd hi hM_
          exact goal_no rfl rfl (by decide) ⟨sqT, hM_⟩
         ·intro D V w_ hd hi hM_
          exact goal_no rfl rfl (by decide) ⟨sqT, hM_⟩
         ·intro D V w_ hd hi hM_
          exact goal_no rfl rfl (by decide) ⟨sqT, hM_⟩
         ·intro D V w_ hd hi hM_
          exact goal_no rfl rfl (by decide) ⟨sqT, hM_⟩
         ·intro D V w_ hd hi hM_
          exact goal_no rfl rfl (by decide) ⟨sqT, hM_⟩
         ·intro D V w_ hd hi hM_
          exact goal_no rfl rfl (by decide) ⟨sqT, hM_⟩
         ·intro D V w_ hd hi hM_
          exact goal_no rfl rfl (by decide) ⟨sqT, hM_⟩
         ·intro D V w_ hd hi hM_
          exact goal_no rfl rfl (by decide) ⟨sqT, hM_⟩
         ·intro D V w_ hd hi hM_
          exact goal_no rfl rfl (by decide) ⟨sqT, hM_⟩
         ·intro D V w_ hd hi hM_
          exact goal_no rfl rfl (by decide) ⟨sqT, hM_⟩
         ·intro D V w_ hd hi hM_
          exact goal_no rfl rfl (by decide) ⟨sqT, hM_⟩
         ·intro D V w_ hd hi hM_
          exact goal_no rfl rfl (by decide) ⟨sqT, hM_⟩
         ·intro D V w_ hd hi hM_
          refine sqG [(61, .bool false), (92, undef)] rfl rfl rfl ?_
          exact run_val (.bool false) (rfl) ⟨sqT, hM_⟩
         ·intro D V w_ hd hi hM_
          refine sqG [(93, .bool false)] rfl rfl rfl ?_
          exact run_val (.bool false) (rfl) ⟨sqT, hM_⟩
        intro D V w24 hall hM25
        refine e_then (k_cond_false rfl rfl ?_)
        refine k_skip (e_blk (e_blk (e_then (k_region (sqV (.int .i64 ((k : Int) + 1)) rfl rfl (x_addE rfl (by omega) (by omega) rfl rfl) ?_)))))
        refine sqV (.int .i64 ((k : Int) + 1)) rfl rfl rfl ?_
        refine r_nil ?_
        refine e_loop (k + 1) (sqS rfl) ?_ ?_
        ·exact ⟨hM25.drop, by omega, by rw [he, hat, bone_ok h2 h3 (by subst hk0; rfl)]; rfl⟩
        ·(try dsimp only); omega
   ·try simp only [sqC] at h1
    refine k_exit (e_then_exit (e_loop_exit (e_blk_exit (e_then (k_seq (k_region ?_))))))
    have hdr : bs.drop k = [] := List.drop_eq_nil_of_le (by omega)
    have hb0 : bondsFrom l none bs = 0 := by rw [he, hdr]; rfl
    rw [hb0, eq_if rfl] at hck
    have hf := musts_lt hgd.sorted hb0
    have hf2 := nots_lt hgd.sorted hb0
    refine sqV (.slice Al nl cl) rfl rfl rfl ?_
    refine sqV (.slice Ab nb cb) rfl rfl rfl ?_
    refine r_call (f := 23) (args := #[Value.slice Al nl cl, Value.slice Ab nb cb]) (w' := w3) rfl rfl (x_call (vs := [Value.slice Al nl cl, Value.slice Ab nb cb]) (enter23 _ _) rfl rfl) (bondsOf_s Al Ab nl cl nb cb l bs w3 (hl.up hM4) (hb.up hM4) hgd.sorted hl3 (by omega)) ?_
    rintro v_ w26 ⟨v1, v2, L1, L2, rfl, ⟨hr1, hr2⟩, hM27⟩
    replace hM27 : Mem w No w26 (L1 ++ L2) := by simpa using Mem.call0 hM4.drop hM27
    obtain ⟨A1, c1, rfl, hnc1, hcx1, hA1⟩ := hr1.slice
    obtain ⟨A2, c2, rfl, hnc2, hcx2, hA2x⟩ := hr2.slice
    have hml := musts_len (l := l) (bs := bs) (k := nb)
    have hnl := nots_len (l := l) (bs := bs) (k := nb)
    rw [List.take_of_length_le (by omega)] at hml hnl
    refine r_alloc hM27 (z := Value.agg #[Value.slice none 0 0, Value.slice none 0 0]) rfl rfl ?_
    intro b30 w28 hM29 hb30
    replace hM29 : Mem w No w28 ((b30, .cells #[Value.slice none 0 0, Value.slice none 0 0] 57 (0, 0)) :: (L1 ++ L2)) := hM29
    refine r_storeRow (vs := (#[Value.slice A1 (mustsOf l bs).length c1, Value.slice A2 (notsOf l bs).length c2])) hM29 0 rfl (by rw [show (#[Value.slice A1 (mustsOf l bs).length c1, Value.slice A2 (notsOf l bs).length c2]).size = 2 from (by simp [ints_size, *])]; rfl) (by first | (simp [Value.oneCell']; done) | (simp only [List.mem_cons, List.not_mem_nil, or_false, forall_eq_or_imp, forall_eq]; (repeat' constructor) <;> first | assumption | rfl)) (by rw [show (#[Value.slice A1 (mustsOf l bs).length c1, Value.slice A2 (notsOf l bs).length c2]).size = 2 from (by simp [ints_size, *])]; rfl) rfl rfl rfl ?_
    intro w31 hM32
    replace hM32 : Mem w No w31 ((b30, .cells (#[Value.slice A1 (mustsOf l bs).length c1, Value.slice A2 (notsOf l bs).length c2]) 57 (0, 0)) :: (L1 ++ L2)) := hM32
    refine r_nil (e_then (k_seq (k_region (sqV (.agg (#[.slice A1 (mustsOf l bs).length c1, .slice A2 (notsOf l bs).length c2])) rfl rfl (x_loadPart hM32 0 rfl (o := 0) (l := [Value.slice A1 (mustsOf l bs).length c1, Value.slice A2 (notsOf l bs).length c2]) rfl rfl rfl rfl) ?_))))
    refine sqV (.slice Al nl cl) rfl rfl rfl ?_
    refine sqV (.int .i64 (nl : Int)) rfl rfl (x_len rfl rfl) ?_
    refine r_call (f := 44) (args := #[Value.agg (#[Value.slice A1 (mustsOf l bs).length c1, Value.slice A2 (notsOf l bs).length c2]), Value.int .i64 (nl : Int)]) (w' := w31) rfl rfl (x_call (vs := [Value.agg (#[Value.slice A1 (mustsOf l bs).length c1, Value.slice A2 (notsOf l bs).length c2]), Value.int .i64 (nl : Int)]) (enter44 _ _) rfl rfl) (joined_s A1 A2 (mustsOf l bs).length c1 (notsOf l bs).length c2 nl (mustsOf l bs) w31 (hr1.rd (Mem.left (L' := L2) hM32.tail).holds (by simp) (by decide)) (fun m hm => hll ▸ hf m hm) hl3 (by omega)) ?_
    rintro v_ w33 ⟨bm, gs, rfl, ⟨hG, hF⟩, hM34⟩
    replace hM34 : Mem w No w33 ((b30, .cells (#[Value.slice A1 (mustsOf l bs).length c1, Value.slice A2 (notsOf l bs).length c2]) 57 (0, 0)) :: (bm, mapO (gs.map Grp.ent) nl) :: (gs.flatMap Grp.L ++ (L1 ++ L2))) := (Mem.call0 hM32 hM34).perm (List.perm_append_comm_assoc (GL bm gs nl) ([(b30, .cells (#[Value.slice A1 (mustsOf l bs).length c1, Value.slice A2 (notsOf l bs).length c2]) 57 (0, 0))] : Hp) (L1 ++ L2))
    refine sqV (.map (some bm)) rfl rfl rfl ?_
    refine r_nil (sqE [(12, .pointer (some ⟨b30, 0, none⟩)), (13, .map (some bm))] rfl (e_then (k_seq (k_seq (k_region (sqV (.pointer (some ⟨b30, 1, none⟩)) rfl rfl rfl ?_))))))
    refine sqV (.slice A2 ((notsOf l bs).length) c2) rfl rfl (x_load (hM34.cell 0 rfl rfl) rfl rfl) ?_
    refine sqV (.int .i64 ((notsOf l bs).length : Int)) rfl rfl (x_len rfl rfl) ?_
    refine sqV (.int .i64 0) rfl rfl rfl ?_
    refine r_nil (e_then (k_block (k_loop (σ := Nat) (fun k => [(13, .map (some bm)), (103, .slice A2 ((notsOf l bs).length) c2), (104, .int .i64 ((notsOf l bs).length : Int)), (105, .int .i64 (k : Int))]) (fun k w_ => Mem w No w_ ((bm, mapO (gs.map Grp.ent) nl) :: (gs.flatMap Grp.L ++ (L1 ++ L2))) ∧ k ≤ (notsOf l bs).length ∧ apartBad (firstsOf l bs) ((notsOf l bs).take k) = false) (fun k => (notsOf l bs).length - k) 0 (sqS rfl) ⟨(hM34.pickT [(b30, .cells (#[.slice A1 (mustsOf l bs).length c1, .slice A2 (notsOf l bs).length c2]) 57 (0, 0)), (bm, mapO (gs.map Grp.ent) nl)] (gs.flatMap Grp.L ++ (L1 ++ L2)) rfl [1] _ (by decide) rfl), by omega, rfl⟩ ?_)))
    rintro k w35 ⟨hM36, hk, hno⟩
    refine sqK [(13, .map (some bm)), (103, .slice A2 ((notsOf l bs).length) c2), (104, .int .i64 ((notsOf l bs).length : Int)), (105, .int .i64 (k : Int))] rfl (k_seq (k_region (sqV (.bool (decide ((k : Int) < ((notsOf l bs).length : Int)))) rfl rfl rfl ?_)))
    refine r_nil (e_then (k_seq ?_))
    refine k_cond rfl rfl (fun h5 => ?_) (fun h5 => ?_)
    ·try simp only [sqC] at h5
     refine k_skip (e_then (k_seq (k_block (k_seq (k_region ?_)))))
     obtain ⟨m, hmk⟩ : ∃ m, (notsOf l bs)[k]? = some m := ⟨(notsOf l bs)[k]'(by omega), by simp⟩
     obtain ⟨hm1, hm2⟩ := hf2 m (List.mem_of_getElem? hmk)
     rw [hll] at hm1 hm2
     have hA2 := hr2.rd (enc := pairE) (w := w35) (Mem.right (L := GL bm gs nl) (L' := L1 ++ L2) hM36).right.holds (by simp) (by decide)
     refine sqV (.pointer (some ((adr A2).add (k * 2)))) rfl rfl (x_indexAddrN (i := k) (sz := 2) hA2.here (by omega) rfl rfl rfl rfl) ?_
     refine sqV (.agg (#[.int .i64 (m.1 : Int), .int .i64 (m.2 : Int)])) rfl rfl (x_loadElem (enc := pairE) (e := m) hA2 hmk rfl rfl rfl) ?_
     refine r_alloc hM36 (z := Value.agg #[Value.int .i64 0, Value.int .i64 0]) rfl rfl ?_
     intro b39 w37 hM38 hb39
     replace hM38 : Mem w No w37 ((b39, .cells #[Value.int .i64 0, Value.int .i64 0] 36 (0, 0)) :: (bm, mapO (gs.map Grp.ent) nl) :: (gs.flatMap Grp.L ++ (L1 ++ L2))) := hM38
     refine r_storeRow (vs := (#[Value.int .i64 (m.1 : Int), Value.int .i64 (m.2 : Int)])) hM38 0 rfl (by rw [show (#[Value.int .i64 (m.1 : Int), Value.int .i64 (m.2 : Int)]).size = 2 from (by simp [ints_size, *])]; rfl) (by first | (simp [Value.oneCell']; done) | (simp only [List.mem_cons, List.not_mem_nil, or_false, forall_eq_or_imp, forall_eq]; (repeat' constructor) <;> first | assumption | rfl)) (by rw [show (#[Value.int .i64 (m.1 : Int), Value.int .i64 (m.2 : Int)]).size = 2 from (by simp [ints_size, *])]; rfl) rfl rfl rfl ?_
     intro w40 hM41
     replace hM41 : Mem w No w40 ((b39, .cells (#[Value.int .i64 (m.1 : Int), Value.int .i64 (m.2 : Int)]) 36 (0, 0)) :: (bm, mapO (gs.map Grp.ent) nl) :: (gs.flatMap Grp.L ++ (L1 ++ L2))) := hM41
     refine r_nil (e_then (k_seq ?_))
     refine k_draw mixed [0, 0, 2, 7, 0, 0, 32, 127, 255] [some (Value.map (some bm)), some (Value.pointer (some ⟨b39, 0, none⟩)), some (Value.int .i64 (m.1 : Int)), some (Value.int .i64 (joinAll (mustsOf l bs) m.1 : Int)), some (Value.map (some bm)), some (Value.pointer (some ⟨b39, 1, none⟩)), some (Value.int .i64 (m.2 : Int)), some (Value.int .i64 (joinAll (mustsOf l bs) m.2 : Int)), some (Value.bool ((joinAll (mustsOf l bs) m.1 : Int) == (joinAll (mustsOf l bs) m.2 : Int)))] (by kernel_rfl) (fun D V w_ => Mem w No w_ ((b39, .cells (#[Value.int .i64 (m.1 : Int), Value.int .i64 (m.2 : Int)]) 36 (0, 0)) :: (bm, mapO (gs.map Grp.ent) nl) :: (gs.flatMap Grp.L ++ (L1 ++ L2)))) (fun V => hM41.drew) ?_ ?_
     ·refine ⟨?_, ?_, ?_, ?_, ?_, ?_, ?_, ?_, ?_, trivial⟩
      ·intro D V w_ hd hi hM_
       refine sqG [(13, .map (some bm))] rfl rfl rfl ?_
       exact run_val (.map (some bm)) (rfl) ⟨sqT, hM_⟩
      ·intro D V w_ hd hi hM_
       refine sqG [(15, .pointer (some ⟨b39, 0, none⟩))] rfl rfl rfl ?_
       exact run_val (.pointer (some ⟨b39, 0, none⟩)) (x_indexAddrB (i := 0) (sz := 1) (by omega) rfl rfl rfl rfl (by omega)) ⟨sqT, hM_⟩
      ·intro D V w_ hd hi hM_
       refine sqG [(110, .pointer (some ⟨b39, 0, none⟩))] rfl rfl rfl ?_
       exact run_val (.int .i64 (m.1 : Int)) (x_load (hM_.cell 0 rfl rfl) rfl rfl) ⟨sqT, hM_⟩
      ·intro D V w_ hd hi hM_
       refine sqG [(109, .map (some bm)), (111, .int .i64 (m.1 : Int))] rfl rfl rfl ?_
       refine run_call (f := 45) (args := #[Value.map (some bm), Value.int .i64 (m.1 : Int)]) (w' := w_) (x_call (vs := [Value.map (some bm), Value.int .i64 (m.1 : Int)]) (enter45 _ _) rfl rfl) (of_f bm gs nl hG nl _ hF hl3 m.1 hm1 w_ (Mem.left (L := GL bm gs nl) (L' := L1 ++ L2) hM_.tail).holds) ?_
       rintro v_ w2_ ⟨rfl, hM2_⟩
       exact ⟨sqT, hM_.grow hM2_.kept⟩
      ·intro D V w_ hd hi hM_
       refine sqG [(13, .map (some bm))] rfl rfl rfl ?_
       exact run_val (.map (some bm)) (rfl) ⟨sqT, hM_⟩
      ·intro D V w_ hd hi hM_
       refine sqG [(15, .pointer (some ⟨b39, 0, none⟩))] rfl rfl rfl ?_
       exact run_val (.pointer (some ⟨b39, 1, none⟩)) (x_indexAddrB (i := 1) (sz := 1) (by omega) rfl rfl rfl rfl (by omega)) ⟨sqT, hM_⟩
      ·intro D V w_ hd hi hM_
       refine sqG [(114, .pointer (some ⟨b39, 1, none⟩))] rfl rfl rfl ?_
       exact run_val (.int .i64 (m.2 : Int)) (x_load (hM_.cell 0 rfl rfl) rfl rfl) ⟨sqT, hM_⟩
      ·intro D V w_ hd hi hM_
       refine sqG [(113, .map (some bm)), (115, .int .i64 (m.2 : Int))] rfl rfl rfl ?_
       refine run_call (f := 45) (args := #[Value.map (some bm), Value.int .i64 (m.2 : Int)]) (w' := w_) (x_call (vs := [Value.map (some bm), Value.int .i64 (m.2 : Int)]) (enter45 _ _) rfl rfl) (of_f bm gs nl hG nl _ hF hl3 m.2 hm2 w_ (Mem.left (L := GL bm gs nl) (L' := L1 ++ L2) hM_.tail).holds) ?_
       rintro v_ w2_ ⟨rfl, hM2_⟩
       exact ⟨sqT, hM_.grow hM2_.kept⟩
      ·intro D V w_ hd hi hM_
       refine sqG [(112, .int .i64 (joinAll (mustsOf l bs) m.1 : Int)), (116, .int .i64 (joinAll (mustsOf l bs) m.2 : Int))] rfl rfl rfl ?_
       exact run_val (.bool ((joinAll (mustsOf l bs) m.1 : Int) == (joinAll (mustsOf l bs) m.2 : Int))) (rfl) ⟨sqT, hM_⟩
     intro D V w46 hall hM47
     refine sqE [(13, .map (some bm)), (103, .slice A2 ((notsOf l bs).length) c2), (104, .int .i64 ((notsOf l bs).length : Int)), (105, .int .i64 (k : Int)), (117, .bool ((joinAll (mustsOf l bs) m.1 : Int) == (joinAll (mustsOf l bs) m.2 : Int)))] rfl (e_then ?_)
     refine k_cond rfl rfl (fun h6 => ?_) (fun h6 => ?_)
     ·try simp only [sqC] at h6
      refine k_seq (k_region (sqV (.int .i64 11) rfl rfl rfl ?_))
      refine r_nil (e_then (k_ret (e_blk_ret (e_then_ret (e_loop_ret (e_blk_ret (e_then_ret (e_ret1 rfl rfl ?_))))))))
      exact ⟨_, rfl, by rw [hck, if_pos (apart_yes hmk (by exact Int.ofNat.inj h6))], hM47.drop⟩
     ·try simp only [sqC] at h6
      refine k_skip (e_blk (e_then (k_region (sqV (.int .i64 ((k : Int) + 1)) rfl rfl (x_addE rfl (by omega) (by omega) rfl rfl) ?_))))
      refine sqV (.int .i64 ((k : Int) + 1)) rfl rfl rfl ?_
      refine r_nil ?_
      refine e_loop (k + 1) (sqS rfl) ?_ ?_
      ·exact ⟨(hM47.pickT [(b39, .cells (#[Value.int .i64 (m.1 : Int), Value.int .i64 (m.2 : Int)]) 36 (0, 0)), (bm, mapO (gs.map Grp.ent) nl)] (gs.flatMap Grp.L ++ (L1 ++ L2)) rfl [1] _ (by decide) rfl), by omega, apart_snoc hmk hno (by intro e; exact h6 (congrArg Nat.cast e))⟩
      ·(try dsimp only); omega
    ·try simp only [sqC] at h5
     refine k_exit (e_then_exit (e_loop_exit (e_blk_exit (e_then (k_seq (k_region ?_))))))
     have hkn : (notsOf l bs).take k = notsOf l bs := List.take_of_length_le (by omega)
     rw [hkn] at hno
     refine sqV (.int .i64 0) rfl rfl rfl ?_
     refine r_nil (e_then (k_ret (e_ret1 rfl rfl ?_)))
     exact ⟨_, rfl, by rw [hck, if_neg (by simp [hno])], hM36.drop⟩


end Go.Proofs.Ytddacakmafdgdaa
end
section
/-
  DERIVED: THE SHELF's CONTRACTS AT THIS DUMP, IN PLAIN WORDS (tools/lay-plain.mjs out of 'TryShelfI.lean', which tools/lay-shelf.mjs wrote): THE SAME DECLARATIONS UNDER THE SAME NAMES: 'import', 'namespace', 'open', 'def', 'theorem' AND NOTHING ELSE: no command of the shelf's: FOR A HAND-IN. Each laying: the table of numbers ('.._ren') and one theorem, a field a fact of the dump's own or the kernel's comparison; each contract: ONE APPLICATION.
-/
namespace Go.Proofs
open Go.Shelf
def Try.keysA_ren : Go.Shelf.Ren := ⟨fun | 7 => 52 | 10 => 71 | n => n, fun | 23 => 87 | 26 => 3 | 3 => 30 | 28 => 100 | 0 => 0 | 27 => 99 | 33 => 65 | 4 => 4 | n => n, fun | n => n⟩
theorem Try.keysA : Go.Proofs.SlLaysZI.n7 Try.prog Try.keysA_ren := {
  mixed := by kernel_rfl
  f7 := ⟨Try.f52.name, by decide, Try.func52.trans (congrArg some (by kernel_rfl))⟩
  f10 := ⟨Try.f71.name, by decide, Try.func71.trans (congrArg some (by kernel_rfl))⟩
  t0 := Try.underlying0
  a0 := Try.isAgg0
  z0 := Try.sizeOf0
  v0 := Try.zeroValue0
  t4 := Try.underlying4
  a4 := Try.isAgg4
  z4 := Try.sizeOf4
  v4 := Try.zeroValue4
  t23 := Try.underlying87
  a23 := Try.isAgg87
  z23 := Try.sizeOf87
  v23 := Try.zeroValue87
  t26 := Try.underlying3
  a26 := Try.isAgg3
  z26 := Try.sizeOf3
  v26 := Try.zeroValue3
  t27 := Try.underlying99
  a27 := Try.isAgg99
  z27 := Try.sizeOf99
  v27 := Try.zeroValue99
  t28 := Try.underlying100
  a28 := Try.isAgg100
  z28 := Try.sizeOf100
  v28 := Try.zeroValue100
  t33 := Try.underlying65
  a33 := Try.isAgg65
  z33 := Try.sizeOf65
  v33 := Try.zeroValue65 }
def Try.sortedA_ren : Go.Shelf.Ren := ⟨fun | 6 => 51 | 8 => 70 | 9 => 40 | 11 => 91 | 13 => 66 | 12 => 67 | 23 => 80 | 24 => 81 | 14 => 82 | 15 => 83 | 16 => 84 | 17 => 85 | 18 => 86 | 19 => 87 | 20 => 24 | 21 => 88 | 22 => 89 | 25 => 97 | 26 => 93 | 27 => 94 | 28 => 98 | 29 => 99 | 30 => 57 | 31 => 101 | n => n, fun | 26 => 3 | 28 => 100 | 24 => 30 | 0 => 0 | 3 => 3 | 37 => 112 | 48 => 124 | 50 => 126 | 4 => 4 | 40 => 118 | 39 => 117 | 45 => 32 | 5 => 5 | 9 => 9 | 51 => 134 | 55 => 138 | 57 => 142 | 58 => 143 | 33 => 65 | n => n, fun | n => n⟩
theorem Try.sortedA : Go.Proofs.SlLaysZI.n6 Try.prog Try.sortedA_ren := {
  mixed := by kernel_rfl
  f6 := ⟨Try.f51.name, by decide, Try.func51.trans (congrArg some (by kernel_rfl))⟩
  f8 := ⟨Try.f70.name, by decide, Try.func70.trans (congrArg some (by kernel_rfl))⟩
  f11 := ⟨Try.f91.name, by decide, Try.func91.trans (congrArg some (by kernel_rfl))⟩
  t0 := Try.underlying0
  a0 := Try.isAgg0
  z0 := Try.sizeOf0
  v0 := Try.zeroValue0
  t24 := Try.underlying30
  a24 := Try.isAgg30
  z24 := Try.sizeOf30
  v24 := Try.zeroValue30
  t26 := Try.underlying3
  a26 := Try.isAgg3
  z26 := Try.sizeOf3
  v26 := Try.zeroValue3
  t28 := Try.underlying100
  a28 := Try.isAgg100
  z28 := Try.sizeOf100
  v28 := Try.zeroValue100
  i26 := by kernel_rfl }
def Try.growA_ren : Go.Shelf.Ren := ⟨fun | 4 => 59 | n => n, fun | 22 => 30 | 25 => 3 | 3 => 3 | 4 => 4 | 9 => 9 | 20 => 20 | 0 => 0 | n => n, fun | n => n⟩
theorem Try.growA : Go.Proofs.Lays8.n4 Try.prog Try.growA_ren := {
  mixed := by kernel_rfl
  f4 := ⟨Try.f59.name, by decide, Try.func59.trans (congrArg some (by kernel_rfl))⟩
  t0 := Try.underlying0
  a0 := Try.isAgg0
  z0 := Try.sizeOf0
  v0 := Try.zeroValue0
  t3 := Try.underlying3
  a3 := Try.isAgg3
  z3 := Try.sizeOf3
  v3 := Try.zeroValue3
  t4 := Try.underlying4
  a4 := Try.isAgg4
  z4 := Try.sizeOf4
  v4 := Try.zeroValue4
  t9 := Try.underlying9
  a9 := Try.isAgg9
  z9 := Try.sizeOf9
  v9 := Try.zeroValue9
  t20 := Try.underlying20
  a20 := Try.isAgg20
  z20 := Try.sizeOf20
  v20 := Try.zeroValue20
  t22 := Try.underlying30
  a22 := Try.isAgg30
  z22 := Try.sizeOf30
  v22 := Try.zeroValue30 }
end Go.Proofs
end
section
/- The keys of groups, sorted: slices.Sorted(maps.Keys(g)). -/
set_option linter.unusedVariables false
set_option linter.unusedSimpArgs false
namespace Go.Proofs.Ytddacakmafdgdaa
open Go.RowKit Go.Kn Go.Proofs Go.Maps Go.WideElems Go.MapKept
noncomputable def R0 : Value → Option (DataW Unit × List MemPlace) := fun _ => some (.nil, [])
theorem rd_ent (q : Ent) (h1 : -9223372036854775808 ≤ q.key) (h2 : q.key ≤ 9223372036854775807) : rd Try.prog tInt R0 q.obj = some (.int .i64 q.key, .nil) := by
  have hu : Try.prog.underlying tInt = some (.int .i64) := by kernel_rfl
  have hw : (Lit.int .i64 q.key).wf = true := by simp [Lit.wf, IntKind.min, IntKind.max, IntKind.signed, IntKind.bits]; omega
  simp [rd, keyOf, mapKey, hu, Ent.obj, hw, R0]
noncomputable def datum (es : List Ent) : DataW Unit := .map (((es.map Ent.obj).toArray.toList.map (rg Try.prog tInt R0)).foldr DataW.insert [])
theorem datum_size (es : List Ent) : Maps.size (datum es) = es.length := by
  unfold datum
  rw [Maps.size_eq, (WideShapes.sorted_perm _).length_eq]
  simp
theorem datum_keys (es : List Ent) (hb : ∀ e ∈ es, -9223372036854775808 ≤ e.key ∧ e.key ≤ 9223372036854775807) : (intKeys (datum es)).Perm (es.map Ent.key) := by
  unfold datum intKeys
  simp only []
  refine ((WideShapes.sorted_perm _).map _).trans ?_
  have e : ((es.map Ent.obj).toArray.toList.map (rg Try.prog tInt R0)).map (fun p => Go.intOf p.1) = es.map Ent.key := by
    rw [List.map_map, List.map_map]
    refine List.map_congr_left fun q hq => ?_
    simp only [Function.comp]
    rw [rg_of (rd_ent q (hb q hq).1 (hb q hq).2)]
    rfl
  rw [e]
theorem owns_datum {w : World} {bm ck : Nat} {es : List Ent} (hm : w.heap[bm]? = some (mapO es ck)) (hb : ∀ e ∈ es, -9223372036854775808 ≤ e.key ∧ e.key ≤ 9223372036854775807) (h1 : ∀ e ∈ es, e.born < ck) (h2 : (es.map Ent.born).Nodup) (h3 : (es.map Ent.key).Nodup) (h4 : es.length ≤ maxLen) : w.ownsMap Try.prog tInt R0 bm es.length (datum es) := by
  refine ⟨_, ck, hm, ⟨by simpa using h4, ⟨?_, ?_, ?_⟩, ?_⟩, by simp, rfl⟩
  · intro x hx
    simp at hx
    obtain ⟨e, he, rfl⟩ := hx
    exact h1 e he
  · simp only [List.map_map]
    exact h2
  · simp only [List.map_map]
    have : (es.map (MapEntry.key ∘ Ent.obj)) = (es.map Ent.key).map (Value.int .i64) := by rw [List.map_map]; rfl
    rw [this]
    exact List.Pairwise.map _ (fun a b hne e => hne (by injection e)) h3
  · intro x hx
    simp at hx
    obtain ⟨e, he, rfl⟩ := hx
    exact ⟨_, rd_ent e (hb e he).1 (hb e he).2⟩
theorem OwnR_of_owns {w0 w : World} {e : TypeId} {sz : Nat} {v : Value} {n : Nat} {xs : List Value} (h : w.ownsRow w0.heap.size e sz v n xs) (hb : Below w0.heap.size w0 w) : ∃ L, OwnR e sz v n xs L ∧ Mem w0 No w L := by
  obtain ⟨h1, h2⟩ := h
  rcases h2 with ⟨rfl, rfl⟩ | ⟨b, cap, cur, rfl, h3, h4, h5, h6, h7, h8⟩
  · exact ⟨[], ⟨h1, .inl ⟨rfl, rfl, rfl⟩⟩, ⟨Kept.of_below hb, Kn.Holds.nil _, by simp [keys]⟩⟩
  · exact ⟨[(b, .cells cur e (0, 0))], ⟨h1, .inr ⟨b, cap, cur, rfl, h5, h6, h7, h8, rfl⟩⟩, ⟨Kept.of_below hb, ⟨by simp, by simpa using h4⟩, by simp [keys]; exact h3⟩⟩
theorem keys_s (bm : Nat) (w : World) :
    Calls Try.prog 52 #[.map (some bm)] w fun e w' => ∃ r, e = .returned r ∧ ∃ b, r = .func (.func 71) #[] #[.pointer (some ⟨b, 0, none⟩)] ∧ Mem w No w' [(b, .cells #[.map (some bm)] 87 (0, 0))] := by
  refine ((callsIn_wide (n := 5)).1 (AnyZI.keys_in Try.keysA Fence.wide 5 trivial rfl (some bm) w)).mono ?_
  rintro e w' ⟨rfl, rfl⟩
  exact ⟨_, rfl, _, rfl, (Mem.nil w No).alloc _⟩
theorem sortsA (m : Nat) : AnyZI.SortsIn Try.prog Try.sortedA_ren Fence.wide m :=
  ⟨fun blk off cap ss W hH hblk hsz => callsIn_wide.2 (Try.slices_Sort_int blk off cap ss W hH hblk hsz),
   fun p cap W => callsIn_wide.2 (Try.slices_Sort_int_none p cap W)⟩
theorem sorted_s (bm bx : Nat) (es : List Ent) (ck : Nat) (w : World) (hm : w.heap[bm]? = some (mapO es ck)) (hx : w.heap[bx]? = some (.cells #[.map (some bm)] 87 (0, 0))) (hb : ∀ e ∈ es, -9223372036854775808 ≤ e.key ∧ e.key ≤ 9223372036854775807) (h1 : ∀ e ∈ es, e.born < ck) (h2 : (es.map Ent.born).Nodup) (h3 : (es.map Ent.key).Nodup) (h4 : es.length ≤ 1000000) :
    Calls Try.prog 51 #[.func (.func 71) #[] #[.pointer (some ⟨bx, 0, none⟩)]] w fun e w' => ∃ r, e = .returned r ∧ ∃ L, OwnR tInt 1 r es.length ((sortI (es.map Ent.key)).map (.int .i64)) L ∧ Mem w No w' L := by
  have hbl := lt_of_block hx
  have hown := owns_datum hm hb h1 h2 h3 (by simp only [maxLen]; omega)
  have hseq : SeqGives Fence.wide 2 Try.prog 71 #[.pointer (some ⟨bx, 0, none⟩)] encZ (fun ss => ss.Perm (intKeys (datum es))) (Maps.size (datum es)) w :=
    AnyZI.keys_gives (ρ := Try.keysA_ren) { Try.keysA with } Fence.wide _ trivial rfl (by omega) bx bm _ _ _ hbl (by rw [cell_of_row w bx 0 _ _ _ hx]; rfl) hown
  have cS := AnyZI.sorted_in Try.sortedA Fence.wide 5 trivial trivial trivial trivial rfl (by omega) (sortsA _) (enters_of Try.func40 (by kernel_rfl) rfl) 71 #[.pointer (some ⟨bx, 0, none⟩)] trivial (enters_of Try.func71 (by kernel_rfl) rfl) _ _ (by rw [datum_size]; simp only [maxLen]; omega) (by rw [datum_size]; omega) _ hseq
  refine ((callsIn_wide (n := 5)).1 cS).mono ?_
  rintro e w' ⟨v, ss, rfl, hS, hrow, _, hbw⟩
  have hp := hS.trans (datum_keys es hb)
  have hlen : ss.length = es.length := by rw [hp.length_eq]; simp
  have hsrt : ss.mergeSort leI = (es.map Ent.key).mergeSort leI := mergeSort_of_perm_i hp
  obtain ⟨L, h7, h8⟩ := OwnR_of_owns hrow hbw
  refine ⟨_, rfl, L, ?_, h8⟩
  have h9 : (ss.mergeSort fun x y => decide (x ≤ y)) = sortI (es.map Ent.key) := hsrt
  rw [h9, hlen] at h7
  exact h7
end Go.Proofs.Ytddacakmafdgdaa
end
section
/- The table of groups: what it says. -/
set_option linter.unusedVariables false
set_option linter.unusedSimpArgs false
namespace Go.Kn
open Go.RowKit Go.Proofs.Ytddacakmafdgdaa
abbrev tBool : TypeId := 4
abbrev tInts : TypeId := 30
abbrev tBools : TypeId := 78
def farAt (l : List (List Int)) (p q : Nat) : Int := farOf (vecOf (l.getD p [])) (vecOf (l.getD q []))
/-- g has the gaps of the groups of f, as far as the pairs in D go -/
def GapIs (l : List (List Int)) (f : Nat → Nat) (D : Nat → Nat → Prop) (g : Nat → Nat → Int) : Prop :=
  ∀ x y v, v ≤ g x y ↔ v ≤ 774193 ∧ ∀ p q, D p q → f p = x → f q = y → v ≤ farAt l p q
def ApartIs (f : Nat → Nat) (ns : List (Nat × Nat)) (a : Nat → Nat → Bool) : Prop :=
  ∀ x y, a x y = true ↔ ∃ m ∈ ns, (f m.1 = x ∧ f m.2 = y) ∨ (f m.2 = x ∧ f m.1 = y)
def upTo (n i k : Nat) (p q : Nat) : Prop := p < n ∧ q < n ∧ (p < i ∨ (p = i ∧ q < k))
theorem gap_none (l : List (List Int)) (f : Nat → Nat) (n : Nat) : GapIs l f (upTo n 0 0) (fun _ _ => 774193) := by
  intro x y v
  constructor
  · exact fun h => ⟨h, fun p q hd => by unfold upTo at hd; omega⟩
  · exact fun h => h.1
theorem gap_row {l : List (List Int)} {f : Nat → Nat} {n i : Nat} {g : Nat → Nat → Int} (h : GapIs l f (upTo n i n) g) : GapIs l f (upTo n (i + 1) 0) g := by
  intro x y v
  rw [h x y v]
  have : ∀ p q, upTo n i n p q ↔ upTo n (i + 1) 0 p q := by intro p q; unfold upTo; omega
  simp only [this]
theorem gap_step {l : List (List Int)} {f : Nat → Nat} {n i k : Nat} {g : Nat → Nat → Int} (hi : i < n) (hk : k < n) (h : GapIs l f (upTo n i k) g) : GapIs l f (upTo n i (k + 1)) (upd2 g (f i) (f k) (min (g (f i) (f k)) (farAt l i k))) := by
  intro x y v
  have hu : ∀ p q, upTo n i (k + 1) p q ↔ upTo n i k p q ∨ (p = i ∧ q = k) := by intro p q; unfold upTo; omega
  by_cases hxy : x = f i ∧ y = f k
  · obtain ⟨rfl, rfl⟩ := hxy
    have e : upd2 g (f i) (f k) (min (g (f i) (f k)) (farAt l i k)) (f i) (f k) = min (g (f i) (f k)) (farAt l i k) := by simp [upd2]
    rw [e, Int.le_min, h]
    constructor
    · rintro ⟨⟨h1, h2⟩, h3⟩
      refine ⟨h1, fun p q hd hp hq => ?_⟩
      rcases (hu p q).1 hd with h4 | ⟨rfl, rfl⟩
      · exact h2 p q h4 hp hq
      · exact h3
    · rintro ⟨h1, h2⟩
      exact ⟨⟨h1, fun p q hd hp hq => h2 p q ((hu p q).2 (.inl hd)) hp hq⟩, h2 i k ((hu i k).2 (.inr ⟨rfl, rfl⟩)) rfl rfl⟩
  · have e : upd2 g (f i) (f k) (min (g (f i) (f k)) (farAt l i k)) x y = g x y := by unfold upd2; rw [if_neg hxy]
    rw [e, h]
    constructor
    · rintro ⟨h1, h2⟩
      refine ⟨h1, fun p q hd hp hq => ?_⟩
      rcases (hu p q).1 hd with h4 | ⟨rfl, rfl⟩
      · exact h2 p q h4 hp hq
      · exact absurd ⟨hp.symm, hq.symm⟩ hxy
    · rintro ⟨h1, h2⟩
      exact ⟨h1, fun p q hd hp hq => h2 p q ((hu p q).2 (.inl hd)) hp hq⟩
def inN (n : Nat) (p q : Nat) : Prop := p < n ∧ q < n
theorem gap_all {l : List (List Int)} {f : Nat → Nat} {n : Nat} {g : Nat → Nat → Int} (h : GapIs l f (upTo n n 0) g) : GapIs l f (inN n) g := by
  intro x y v
  rw [h x y v]
  have : ∀ p q, upTo n n 0 p q ↔ inN n p q := by intro p q; unfold upTo inN; omega
  simp only [this]
theorem apart_none (f : Nat → Nat) : ApartIs f [] (fun _ _ => false) := by intro x y; simp
theorem apart_step {f : Nat → Nat} {ns : List (Nat × Nat)} {m : Nat × Nat} {k : Nat} {a : Nat → Nat → Bool} (hm : ns[k]? = some m) (h : ApartIs f (ns.take k) a) : ApartIs f (ns.take (k + 1)) (upd2 (upd2 a (f m.1) (f m.2) true) (f m.2) (f m.1) true) := by
  intro x y
  rw [take_snoc' hm]
  have h1 := h x y
  unfold upd2
  by_cases h2 : x = f m.2 ∧ y = f m.1
  · rw [if_pos h2]
    simp only [true_iff]
    exact ⟨m, by simp, .inr ⟨h2.1.symm, h2.2.symm⟩⟩
  · rw [if_neg h2]
    by_cases h3 : x = f m.1 ∧ y = f m.2
    · rw [if_pos h3]
      simp only [true_iff]
      exact ⟨m, by simp, .inl ⟨h3.1.symm, h3.2.symm⟩⟩
    · rw [if_neg h3, h1]
      constructor
      · rintro ⟨q, hq, h4⟩
        exact ⟨q, by simp [hq], h4⟩
      · rintro ⟨q, hq, h4⟩
        rcases List.mem_append.1 hq with hq | hq
        · exact ⟨q, hq, h4⟩
        · simp at hq; subst hq
          rcases h4 with h4 | h4
          · exact absurd ⟨h4.1.symm, h4.2.symm⟩ h3
          · exact absurd ⟨h4.1.symm, h4.2.symm⟩ h2
/-- which places know their first one -/
def ofIn (n : Nat) (gs : List Grp) (seen : Array Nat) (o : Nat → Int) : Prop := ∀ q ∈ gs, q.born ∈ seen.toList → ∀ p, p < n → (p : Int) ∈ q.xs → o p = q.key
theorem of_all {n : Nat} {f : Nat → Nat} {gs : List Grp} {seen : Array Nat} {o : Nat → Int} (hF : IsG n f (view gs)) (h : ofIn n gs seen o) (hall : ∀ g ∈ gs, g.born ∈ seen.toList) : ∀ p, p < n → o p = (f p : Int) := by
  intro p hp
  have h0 : ((f p : Int), membersI n f (f p)) ∈ view gs := (hF.mem _).2 ⟨f p, hF.lt hp, hF.idem p hp, rfl⟩
  obtain ⟨g, hg, he⟩ := List.mem_map.1 h0
  injection he with h1 h2
  rw [h g hg (hall g hg) p hp (by rw [h2]; exact mem_membersI.2 ⟨hp, rfl⟩), h1]
def setO (o : Nat → Int) (p : Nat) (v : Int) : Nat → Int := fun q => if q = p then v else o q
/-- inside a group's row -/
def ofRow (n : Nat) (gs : List Grp) (seen : Array Nat) (g : Grp) (k : Nat) (o : Nat → Int) : Prop := ofIn n gs seen o ∧ ∀ j y, j < k → g.xs[j]? = some y → ∀ p : Nat, (p : Int) = y → o p = g.key
theorem row_step {n : Nat} {f : Nat → Nat} {gs : List Grp} {seen : Array Nat} {g : Grp} {k : Nat} {o : Nat → Int} (hF : IsG n f (view gs)) (hG : ∀ q ∈ gs, q.born ∈ seen.toList → q.key ≠ g.key) (hg : g ∈ gs) {p : Nat} (hx : g.xs[k]? = some (p : Int)) (h : ofRow n gs seen g k o) : ofRow n gs seen g (k + 1) (setO o p g.key) := by
  refine ⟨fun q hq hs r hr hm => ?_, fun j y hj hy r hry => ?_⟩
  · have h1 := h.1 q hq hs r hr hm
    unfold setO
    by_cases e : r = p
    · subst e
      exfalso
      obtain ⟨a, _, _, ha, hax⟩ := hF.xs hg
      obtain ⟨b, _, _, hb, hbx⟩ := hF.xs hq
      have h2 : (r : Int) ∈ g.xs := List.mem_of_getElem? hx
      rw [hax] at h2
      rw [hbx] at hm
      have h3 := (mem_membersI.1 h2).2
      have h4 := (mem_membersI.1 hm).2
      exact hG q hq hs (by rw [ha, hb, ← h3, ← h4])
    · rw [if_neg e]; exact h1
  · unfold setO
    by_cases e : r = p
    · rw [if_pos e]
    · rw [if_neg e]
      have hjk : j ≠ k := by
        intro e2
        subst e2
        rw [hx] at hy
        injection hy with hy
        omega
      exact h.2 j y (by omega) hy r hry
theorem row_done {n : Nat} {gs : List Grp} {seen : Array Nat} {g : Grp} {k : Nat} {o : Nat → Int} (inj : ∀ {p q : Grp}, p ∈ gs → q ∈ gs → p.born = q.born → p = q) (hg : g ∈ gs) (hk : g.xs.length ≤ k) (h : ofRow n gs seen g k o) : ofIn n gs (seen.push g.born) o := by
  intro q hq hb p hp hm
  have h2 : q.born ∈ seen.toList ∨ q.born = g.born := by simpa using hb
  rcases h2 with h3 | h3
  · exact h.1 q hq h3 p hp hm
  · have := inj hq hg h3
    subst this
    obtain ⟨j, hj⟩ := List.mem_iff_getElem?.1 hm
    exact h.2 j p (Nat.lt_of_lt_of_le (List.getElem?_eq_some_iff.1 hj).1 hk) hj p rfl
theorem row_start {n : Nat} {gs : List Grp} {seen : Array Nat} {g : Grp} {o : Nat → Int} (h : ofIn n gs seen o) : ofRow n gs seen g 0 o := ⟨h, fun j y hj => absurd hj (by omega)⟩
theorem seen_ne {e : TypeId} {gs : List Grp} {ck : Nat} {seen : Array Nat} {g : Grp} (hG : GMp e gs ck) (hg : g ∈ gs) (hns : g.born ∉ seen.toList) : ∀ q ∈ gs, q.born ∈ seen.toList → q.key ≠ g.key := by
  intro q hq hb he
  have := key_inj hG.knd hq hg he
  subst this
  exact hns hb
theorem rowO_set {n p : Nat} {o : Nat → Int} {v : Int} (hp : p < n) : (rowC n (Value.int .i64) o).setIfInBounds p (.int .i64 v) = rowC n (Value.int .i64) (setO o p v) := rowC_set hp
theorem fill_step {k : Nat} : (fun q => if q = k then (774193 : Int) else if q < k then 774193 else 0) = fun q => if q < k + 1 then 774193 else 0 := by
  funext q
  by_cases h1 : q = k
  · rw [if_pos h1, if_pos (by omega)]
  · rw [if_neg h1]
    by_cases h2 : q < k
    · rw [if_pos h2, if_pos (by omega)]
    · rw [if_neg h2, if_neg (by omega)]
theorem fill_all {n : Nat} : rowC n (Value.int .i64) (fun q => if q < n then 774193 else 0) = rowC n (Value.int .i64) (fun _ => 774193) := by
  unfold rowC
  congr 1
  refine List.map_congr_left fun q hq => ?_
  simp [List.mem_range.1 hq]
theorem self_get {cs : Array Value} {i : Nat} {v : Value} (h : i < cs.size) : (cs.setIfInBounds i v)[i]? = some v := by simp [h]
end Go.Kn
end
