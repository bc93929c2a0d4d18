/- Tables: a row of rows of the call's own, by functions. -/
import Derived.Test.YtddacakmafdgdaaKnH
import Derived.Test.YtddacakmafdgdaaKnG
import Derived.Test.YtddacakmafdgdaaKnL
import Derived.Laws.MakeOwn
set_option linter.unusedVariables false
set_option linter.unusedSimpArgs false
namespace Go.Kn
open Go.RowKit
variable {α : Type}
def rowC (n : Nat) (enc : α → Value) (h : Nat → α) : Array Value := ((List.range n).map fun j => enc (h j)).toArray
def topC (k n : Nat) (rb : Nat → Nat) : Array Value := ((List.range n).map fun i => if i < k then Value.slice (some ⟨rb i, 0, none⟩) n n else Value.slice none 0 0).toArray
def tabL (ty : TypeId) (enc : α → Value) (k n : Nat) (rb : Nat → Nat) (g : Nat → Nat → α) : Hp := (List.range k).map fun i => (rb i, Obj.cells (rowC n enc (g i)) ty (0, 0))
def upd2 (g : Nat → Nat → α) (i j : Nat) (v : α) : Nat → Nat → α := fun p q => if p = i ∧ q = j then v else g p q
def condU (c : Bool) (i j : Nat) (v : α) (g : Nat → Nat → α) : Nat → Nat → α := if c then upd2 g i j v else g
theorem upd2_comm (g : Nat → Nat → α) (a b c d : Nat) (v : α) : upd2 (upd2 g a b v) c d v = upd2 (upd2 g c d v) a b v := by
  funext p q
  unfold upd2
  by_cases h1 : p = c ∧ q = d <;> by_cases h2 : p = a ∧ q = b <;> simp [h1, h2]
theorem condU_comm (x : Bool) (g : Nat → Nat → α) (a b c d : Nat) (v : α) : upd2 (condU x a b v g) c d v = condU x a b v (upd2 g c d v) := by
  cases x
  · rfl
  · exact upd2_comm g a b c d v
section
variable {n k i j : Nat} {enc : α → Value} {h : Nat → α} {rb : Nat → Nat} {g : Nat → Nat → α} {ty : TypeId} {v : α}
theorem rowC_size : (rowC n enc h).size = n := by simp [rowC]
theorem topC_size : (topC k n rb).size = n := by simp [topC]
theorem rowC_get (hj : j < n) : (rowC n enc h)[j]? = some (enc (h j)) := by simp [rowC, hj]
theorem topC_get (hi : i < k) (hk : k ≤ n) : (topC k n rb)[i]? = some (.slice (some ⟨rb i, 0, none⟩) n n) := by
  have : i < n := by omega
  simp [topC, hi, this]
theorem rowC_set (hj : j < n) : (rowC n enc h).setIfInBounds j (enc v) = rowC n enc (fun q => if q = j then v else h q) := by
  apply Array.ext_getElem?
  intro q
  rw [Array.getElem?_setIfInBounds]
  by_cases hq : q < n
  · rw [rowC_get hq]
    rw [rowC_get hq]
    by_cases hqj : j = q
    · subst hqj; simp [rowC_size, hj]
    · rw [if_neg hqj, if_neg (fun e => hqj e.symm)]
  · have h1 : (rowC n enc h)[q]? = none := Array.getElem?_eq_none (by rw [rowC_size]; omega)
    have h2 : (rowC n enc (fun q => if q = j then v else h q))[q]? = none := Array.getElem?_eq_none (by rw [rowC_size]; omega)
    rw [if_neg (by omega), h1, h2]
theorem topC_set (hk : k < n) {b : Nat} : (topC k n rb).setIfInBounds k (.slice (some ⟨b, 0, none⟩) n n) = topC (k + 1) n (fun q => if q = k then b else rb q) := by
  apply Array.ext_getElem?
  intro q
  rw [Array.getElem?_setIfInBounds]
  by_cases hq : q < n
  · by_cases hqj : k = q
    · subst hqj; simp [topC_size, topC, hk]
    · rw [if_neg hqj]
      have : ¬ q = k := fun e => hqj e.symm
      by_cases hlt : q < k
      · have : q < k + 1 := by omega
        simp [topC, hq, hlt, this]
        omega
      · have : ¬ q < k + 1 := by omega
        simp [topC, hq, hlt, this]
  · have h1 : (topC k n rb)[q]? = none := Array.getElem?_eq_none (by rw [topC_size]; omega)
    have h2 : (topC (k + 1) n (fun q => if q = k then b else rb q))[q]? = none := Array.getElem?_eq_none (by rw [topC_size]; omega)
    rw [if_neg (by omega), h1, h2]
theorem tabL_len : (tabL ty enc k n rb g).length = k := by simp [tabL]
theorem tabL_get (hi : i < k) : (tabL ty enc k n rb g)[i]? = some (rb i, .cells (rowC n enc (g i)) ty (0, 0)) := by simp [tabL, hi]
theorem tabL_mem (hi : i < k) : (rb i, Obj.cells (rowC n enc (g i)) ty (0, 0)) ∈ tabL ty enc k n rb g := List.mem_of_getElem? (tabL_get hi)
theorem tabL_set (hi : i < k) (hj : j < n) : (tabL ty enc k n rb g).set i (rb i, .cells ((rowC n enc (g i)).setIfInBounds j (enc v)) ty (0, 0)) = tabL ty enc k n rb (upd2 g i j v) := by
  apply List.ext_getElem?
  intro q
  rw [List.getElem?_set]
  by_cases hq : q < k
  · rw [tabL_get hq]
    by_cases hqi : i = q
    · subst hqi
      have e : upd2 g i j v i = fun q => if q = j then v else g i q := by funext x; simp [upd2]
      rw [if_pos rfl, if_pos (by rw [tabL_len]; exact hi), rowC_set hj, tabL_get hi, e]
    · have e : upd2 g i j v q = g q := by funext x; unfold upd2; rw [if_neg (fun e => hqi e.1.symm)]
      rw [if_neg hqi, tabL_get hq, e]
  · rw [if_neg (by omega), List.getElem?_eq_none (by rw [tabL_len]; omega), List.getElem?_eq_none (by rw [tabL_len]; omega)]
theorem tabL_snoc {b : Nat} {h : Nat → α} : tabL ty enc (k + 1) n (fun q => if q = k then b else rb q) (fun p => if p = k then h else g p) = tabL ty enc k n rb g ++ [(b, .cells (rowC n enc h) ty (0, 0))] := by
  unfold tabL
  rw [List.range_succ, List.map_append]
  congr 1
  · refine List.map_congr_left fun p hp => ?_
    have hp' := List.mem_range.1 hp
    have hne : ¬ p = k := by omega
    simp only [if_neg hne]
  · simp
end
section
variable {P : Program} {w w0 : World} {S : Nat → Prop} {L A R : Hp} {n k i j : Nat} {enc : α → Value} {rb : Nat → Nat} {g : Nat → Nat → α} {ty : TypeId}
theorem Mem.tcell (hM : Mem w0 S w L) (hm : (rb i, Obj.cells (rowC n enc (g i)) ty (0, 0)) ∈ L) (hj : j < n) : w.cell? ⟨rb i, j, none⟩ = some (enc (g i j)) := by
  rw [cell_of_row w (rb i) j _ ty (0, 0) (hM.holds.at_ _ hm)]
  exact rowC_get hj
variable {ρ : Operand → Value} {dst : Option Tmp} {type : TypeId} {pos : String} {after : Array Edge} {guard : Option (Nat × Bool)}
/-- the run of a store of one cell into a row -/
theorem run_storeT {t : TypeId} {x y : Operand} (hM : Mem w0 S w (A ++ (tabL ty enc k n rb g ++ R))) (hi : i < k) (hj : j < n) {v : α} (h1 : (enc v).oneCell' = true) (hs : (sizeOf t).run P w = .ok 1 w) (ha : ρ x = .pointer (some ⟨rb i, j, none⟩)) (hv : ρ y = enc v) :
    ∃ w', (execOp ρ ⟨dst, .store t x y, type, pos, after, guard⟩).run P w = .ok .skip w' ∧ Mem w0 S w' (A ++ (tabL ty enc k n rb (upd2 g i j v) ++ R)) := by
  have hidx : (A ++ (tabL ty enc k n rb g ++ R))[A.length + i]? = some (rb i, .cells (rowC n enc (g i)) ty (0, 0)) := by
    rw [List.getElem?_append_right (by omega), Nat.add_sub_cancel_left, List.getElem?_append_left (by rw [tabL_len]; exact hi), tabL_get hi]
  have hset : (A ++ (tabL ty enc k n rb g ++ R)).set (A.length + i) (rb i, .cells ((rowC n enc (g i)).setIfInBounds j (enc v)) ty (0, 0)) = A ++ (tabL ty enc k n rb (upd2 g i j v) ++ R) := by
    rw [List.set_append, if_neg (by omega), Nat.add_sub_cancel_left, List.set_append, if_pos (by rw [tabL_len]; exact hi), tabL_set hi hj]
  refine ⟨w.setCell ⟨rb i, j, none⟩ (enc v), ?_, hset ▸ hM.store (A.length + i) (enc v) hidx⟩
  have hc : w.cell? ⟨rb i, j, none⟩ = some (enc (g i j)) := hM.cell _ hidx (rowC_get hj)
  have hf : w.frozen? ⟨rb i, j, none⟩ = false := by simp [World.frozen?, hM.get _ hidx]
  have hcell : (enc v).cells = #[enc v] := by
    generalize enc v = u at h1
    cases u <;> first | rfl | (simp [Value.oneCell'] at h1)
  have hst : (storeCells ⟨rb i, j, none⟩ [enc v]).run P w = .ok () (w.setCell ⟨rb i, j, none⟩ (enc v)) := by
    simp only [storeCells, Sem.run_bind, Addr.add, if_true, Go.store]
    generalize enc v = u at h1
    cases u <;> first | (simp [Value.oneCell'] at h1; done) | simp [Sem.run, hc, hf]
  simp [execOp, ha, hv, Instr.storeAt, Instr.sureAddr, storeVar, hs, hcell, hst]
end
section
variable {P : Program} {N : Nat} {ops : Array Oper} {Q : Exit → Act → World → Prop} {K : St} {w w0 : World} {S : Nat → Prop} {A R : Hp} {n k i j : Nat} {enc : α → Value} {rb : Nat → Nat} {g : Nat → Nat → α} {ty : TypeId} {dst : Option Tmp} {type : TypeId} {pos : String} {after : Array Edge} {rest : List Oper}
theorem r_storeT {t : TypeId} {x y : Operand} (A : Hp) (hM : Mem w0 S w (A ++ (tabL ty enc k n rb g ++ R))) (hi : i < k) (hj : j < n) {v : α} (h1 : (enc v).oneCell' = true) (hs : (sizeOf t).run P w = .ok 1 w)
    (hx : okOp N K ⟨dst, .store t x y, type, pos, after, none⟩ = true) (ha : K.ev x = .pointer (some ⟨rb i, j, none⟩)) (hv : K.ev y = enc v)
    (h : ∀ w', Mem w0 S w' (A ++ (tabL ty enc k n rb (upd2 g i j v) ++ R)) → wpR P N ops Q rest (K.put dst undef) w') : wpR P N ops Q (⟨dst, .store t x y, type, pos, after, none⟩ :: rest) K w := by
  obtain ⟨w', h2, h3⟩ := run_storeT (P := P) (ρ := K.ev) (dst := dst) (type := type) (pos := pos) (after := after) (guard := none) hM hi hj h1 hs ha hv
  exact r_skip rfl hx h2 (h _ h3)
end
/-- an entry that is there if .. -/
def cnd (c : Bool) (p : Nat × Obj) : Hp := if c then [p] else []
section
variable {P : Program} {w w0 : World} {S : Nat → Prop} {L : Hp} {ρ : Operand → Value} {dst : Option Tmp} {type : TypeId} {pos : String} {after : Array Edge} {guard : Option (Nat × Bool)}
/-- make([]T, n) of one-cell elements -/
theorem x_makeSlice {t e : TypeId} {x y : Operand} {n bytes : Nat} {z : Value} (hx : ρ x = .int .i64 (n : Int)) (hy : ρ y = .int .i64 (n : Int)) (ht : P.underlying t = some (.slice e)) (hi : (P.info? e).map (fun i => (i.zero, i.size, i.bytes)) = some (some z, 1, bytes)) (hz : z.cells = #[z]) (hb : bytes * n ≤ 281474976710656) (hn : n ≤ 4611686018427387904) :
    (execOp ρ ⟨dst, .makeSlice t x y, type, pos, after, guard⟩).run P w = .ok (.value (.slice (some ⟨w.heap.size, 0, none⟩) n n)) (w.alloc (.cells ((List.range n).map fun _ => z).toArray e)) := by
  obtain ⟨i, h2, h3, h4, h5⟩ := info_parts hi
  have hb' : (i.bytes : Int) * (n : Int) ≤ 281474976710656 := by
    have h : ((i.bytes * n : Nat) : Int) ≤ 281474976710656 := by rw [h5]; omega
    rwa [Int.natCast_mul] at h
  have hr := run_make (P := P) w t e i z ht h2 h3 .i64 .i64 n n (Int.natCast_nonneg n) (Int.le_refl _) hb' (by omega)
  simp only [Int.toNat_natCast, h4, Nat.mul_one, hz] at hr
  have he : madeCells #[z] n = ((List.range n).map fun _ => z).toArray := by
    apply Array.ext_getElem?
    intro q
    by_cases hq : q < n
    · simp [madeCells, hq, Nat.mod_one]
    · simp [madeCells, hq]
  rw [he] at hr
  simp only [execOp, hx, hy, Sem.run_bind, hr, Result.andThen_ok, Sem.run_pure]
end
section
variable {P : Program} {w w0 : World} {S : Nat → Prop} {L A B R : Hp} {ρ : Operand → Value} {dst : Option Tmp} {type : TypeId} {pos : String} {after : Array Edge} {guard : Option (Nat × Bool)}
theorem Mem.ins1 {p : Nat × Obj} (h : Mem w0 S w (p :: (A ++ R))) : Mem w0 S w (A ++ (p :: R)) := h.perm List.perm_middle.symm
theorem Mem.ins2 {p : Nat × Obj} (h : Mem w0 S w (p :: (A ++ (B ++ R)))) : Mem w0 S w (A ++ (B ++ (p :: R))) := h.perm (List.perm_middle.symm.trans (List.Perm.append_left A List.perm_middle.symm))
theorem x_alloc {t : TypeId} {z : Value} (hz : (zeroValue t).run P w = .ok z w) : (execOp ρ ⟨dst, .alloc t, type, pos, after, guard⟩).run P w = .ok (.value (.pointer (some ⟨w.heap.size, 0, none⟩))) (w.alloc (.cells z.cells t)) := by
  simp only [execOp, Instr.alloc, Sem.run_bind, hz, Result.andThen_ok]
  rfl
theorem x_store1 {t : TypeId} {x y : Operand} (hM : Mem w0 S w L) (i : Nat) {b j : Nat} {cs : Array Value} {e : TypeId} {v : Value} (hi : L[i]? = some (b, .cells cs e (0, 0))) (hj : j < cs.size) (h1 : v.oneCell' = true) (hs : (sizeOf t).run P w = .ok 1 w) (ha : ρ x = .pointer (some ⟨b, j, none⟩)) (hv : ρ y = v) :
    ∃ w', (execOp ρ ⟨dst, .store t x y, type, pos, after, guard⟩).run P w = .ok .skip w' ∧ Mem w0 S w' (L.set i (b, .cells (cs.setIfInBounds j v) e (0, 0))) := by
  refine ⟨w.setCell ⟨b, j, none⟩ v, ?_, hM.store i v hi⟩
  have hc : w.cell? ⟨b, j, none⟩ = some cs[j] := hM.cell i hi (by simp [hj])
  have hf : w.frozen? ⟨b, j, none⟩ = false := by simp [World.frozen?, hM.get i hi]
  have hcell : v.cells = #[v] := by cases v <;> first | rfl | (simp [Value.oneCell'] at h1)
  have hst : (storeCells ⟨b, j, none⟩ [v]).run P w = .ok () (w.setCell ⟨b, j, none⟩ v) := by
    simp only [storeCells, Sem.run_bind, Addr.add, if_true, Go.store]
    cases v <;> first | (simp [Value.oneCell'] at h1; done) | simp [Sem.run, hc, hf]
  simp [execOp, ha, hv, Instr.storeAt, Instr.sureAddr, storeVar, hs, hcell, hst]
theorem x_storeRow {t : TypeId} {x y : Operand} (hM : Mem w0 S w L) (i : Nat) {b : Nat} {cs vs : Array Value} {e : TypeId} (hi : L[i]? = some (b, .cells cs e (0, 0))) (ho : vs.size = cs.size) (h1 : ∀ u ∈ vs.toList, u.oneCell' = true) (hs : (sizeOf t).run P w = .ok vs.size w) (ha : ρ x = .pointer (some ⟨b, 0, none⟩)) (hv : ρ y = .agg vs) :
    ∃ w', (execOp ρ ⟨dst, .store t x y, type, pos, after, guard⟩).run P w = .ok .skip w' ∧ Mem w0 S w' (L.set i (b, .cells vs e (0, 0))) := by
  obtain ⟨w', h2, h3, h4⟩ := run_storeCells (P := P) vs.toList w b 0 0 cs e (hM.get i hi) (by simp [ho]) h1
  rw [setMany_all ho] at h3
  refine ⟨w', ?_, hM.turn hi h4 h3⟩
  simp [execOp, ha, hv, Instr.storeAt, Instr.sureAddr, storeVar, hs, Value.cells, h2]
end
/-! a range over a map that lies where it lay -/
section
variable {P : Program} {n : Nat} {ops : Array Oper} {Q : Exit → Act → World → Prop} {K : St} {w w0 : World} {S : Nat → Prop} {L : Hp} {dst : Option Tmp} {type : TypeId} {pos : String} {after : Array Edge} {rest : List Oper}
theorem r_rangeH {x : Operand} {t kt et : TypeId} (hM : Mem w0 S w L) {bm : Nat} {es : List Ent} {clock : Nat} (hh : w.heap[bm]? = some (mapO es clock)) (ht : P.underlying t = some (.map kt et))
    (hok : okOp n K ⟨dst, .range t x, type, pos, after, none⟩ = true) (hx : K.ev x = .map (some bm))
    (h : ∀ b w', Mem w0 S w' ((b, .mapIter (some bm) clock #[] clock) :: L) → w0.heap.size ≤ b → wpR P n ops Q rest (K.put dst (.pointer (some ⟨b, 0, none⟩))) w') : wpR P n ops Q (⟨dst, .range t x, type, pos, after, none⟩ :: rest) K w := by
  have hg := run_getObj (P := P) hh (by simp [mapO])
  refine r_new (fun b => .pointer (some ⟨b, 0, none⟩)) (.mapIter (some bm) clock #[] clock) hM ?_ rfl hok h
  simp only [execOp, Instr.range, hx, Sem.run_bind, run_underlying ht, Result.andThen_ok, hg, mapO, Sem.run_pure]
  rfl
end
theorem x_indexAddrL {P : Program} {w : World} {ρ : Operand → Value} {dst : Option Tmp} {type : TypeId} {pos : String} {after : Array Edge} {guard : Option (Nat × Bool)} {t e : TypeId} {x y : Operand} {b o r : Nat} {n c : Nat} {k : IntKind} {i sz : Nat} (h1 : i < n) (hx : ρ x = .slice (some ⟨b, o, none⟩) n c) (hy : ρ y = .int k (i : Int)) (ht : (underlying t).run P w = .ok (.slice e) w) (hs : (sizeOf e).run P w = .ok sz w) (hr : o + i * sz = r) :
    (execOp ρ ⟨dst, .indexAddr t x y, type, pos, after, guard⟩).run P w = .ok (.value (.pointer (some ⟨b, r, none⟩))) w := by
  have h := x_indexAddrN (P := P) (dst := dst) (type := type) (pos := pos) (after := after) (guard := guard) (w := w) (k := k) (i := i) (n := n) (c := c) (sz := sz) (e := e) (t := t) (A := some ⟨b, o, none⟩) (fun _ => rfl) h1 hx hy ht hs
  rw [h]
  subst hr
  simp only [adr, Option.getD_some]
  rw [add_row]
theorem Mem.cellM {w0 w : World} {S : Nat → Prop} {L : Hp} (h : Mem w0 S w L) {b j : Nat} {cs : Array Value} {e : TypeId} {fr : Nat × Nat} {v : Value} (hm : (b, Obj.cells cs e fr) ∈ L) (hv : cs[j]? = some v) : w.cell? ⟨b, j, none⟩ = some v := by
  rw [cell_of_row w b j cs e fr (h.holds.at_ _ hm)]; exact hv
section
variable {P : Program} {w w0 : World} {S : Nat → Prop} {L A T R : Hp} {ρ : Operand → Value} {dst : Option Tmp} {type : TypeId} {pos : String} {after : Array Edge} {guard : Option (Nat × Bool)} {post : Value → World → Prop} {n k i j : Nat} {enc : α → Value} {rb : Nat → Nat} {g : Nat → Nat → α} {ty : TypeId}
theorem o_storeT {t : TypeId} {x y : Operand} (A : Hp) (hM : Mem w0 S w (A ++ (tabL ty enc k n rb g ++ R))) (hi : i < k) (hj : j < n) {v : α} (h1 : (enc v).oneCell' = true) (hs : (sizeOf t).run P w = .ok 1 w) (ha : ρ x = .pointer (some ⟨rb i, j, none⟩)) (hv : ρ y = enc v)
    (hp : ∀ w', Mem w0 S w' (A ++ (tabL ty enc k n rb (upd2 g i j v) ++ R)) → post undef w') : OpRun P ρ ⟨dst, .store t x y, type, pos, after, guard⟩ w post := by
  obtain ⟨w', h2, h3⟩ := run_storeT (P := P) (ρ := ρ) (dst := dst) (type := type) (pos := pos) (after := after) (guard := guard) hM hi hj h1 hs ha hv
  exact run_skip h2 (hp w' h3)
theorem o_storeT2 {t : TypeId} {x y : Operand} (A : Hp) (hM : Mem w0 S w (A ++ (T ++ tabL ty enc k n rb g))) (hi : i < k) (hj : j < n) {v : α} (h1 : (enc v).oneCell' = true) (hs : (sizeOf t).run P w = .ok 1 w) (ha : ρ x = .pointer (some ⟨rb i, j, none⟩)) (hv : ρ y = enc v)
    (hp : ∀ w', Mem w0 S w' (A ++ (T ++ tabL ty enc k n rb (upd2 g i j v))) → post undef w') : OpRun P ρ ⟨dst, .store t x y, type, pos, after, guard⟩ w post := by
  refine o_storeT (R := []) (A ++ T) (by rw [List.append_nil, List.append_assoc]; exact hM) hi hj h1 hs ha hv (fun w' h => hp w' ?_)
  rw [List.append_nil, List.append_assoc] at h
  exact h
theorem o_store1 {t : TypeId} {x y : Operand} (hM : Mem w0 S w L) (i : Nat) {b j : Nat} {cs : Array Value} {e : TypeId} {v : Value} (hi : L[i]? = some (b, .cells cs e (0, 0))) (hj : j < cs.size) (h1 : v.oneCell' = true) (hs : (sizeOf t).run P w = .ok 1 w) (ha : ρ x = .pointer (some ⟨b, j, none⟩)) (hv : ρ y = v)
    (hp : ∀ w', Mem w0 S w' (L.set i (b, .cells (cs.setIfInBounds j v) e (0, 0))) → post undef w') : OpRun P ρ ⟨dst, .store t x y, type, pos, after, guard⟩ w post := by
  obtain ⟨w', h2, h3⟩ := x_store1 (P := P) (ρ := ρ) (dst := dst) (type := type) (pos := pos) (after := after) (guard := guard) (t := t) (x := x) (y := y) hM i hi hj h1 hs ha hv
  exact run_skip h2 (hp w' h3)
theorem o_storeRow {t : TypeId} {x y : Operand} (hM : Mem w0 S w L) (i : Nat) {b : Nat} {cs vs : Array Value} {e : TypeId} (hi : L[i]? = some (b, .cells cs e (0, 0))) (ho : vs.size = cs.size) (h1 : ∀ u ∈ vs.toList, u.oneCell' = true) (hs : (sizeOf t).run P w = .ok vs.size w) (ha : ρ x = .pointer (some ⟨b, 0, none⟩)) (hv : ρ y = .agg vs)
    (hp : ∀ w', Mem w0 S w' (L.set i (b, .cells vs e (0, 0))) → post undef w') : OpRun P ρ ⟨dst, .store t x y, type, pos, after, guard⟩ w post := by
  obtain ⟨w', h2, h3⟩ := x_storeRow (P := P) (ρ := ρ) (dst := dst) (type := type) (pos := pos) (after := after) (guard := guard) (t := t) (x := x) (y := y) hM i hi ho h1 hs ha hv
  exact run_skip h2 (hp w' h3)
/-- a part of an element -/
theorem x_loadEPart {sz n m : Nat} {ad : Option Addr} {l : List (List Int)} {k o : Nat} {e : List Int} {t : TypeId} {x : Operand} (h : RdE intsE sz w ad n l) (hk : l[k]? = some e) (hm : e.length = o + m) (hx : ρ x = .pointer (some (((adr ad).add (k * sz)).add o))) (hg : (isAgg t).run P w = .ok true w) (hs : (sizeOf t).run P w = .ok m w) :
    (execOp ρ ⟨dst, .load t x, type, pos, after, guard⟩).run P w = .ok (.value (.agg (ints (e.drop o)))) w := by
  have := x_loadAgg (P := P) (ρ := ρ) (dst := dst) (type := type) (pos := pos) (after := after) (guard := guard) (t := t) (x := x) (a := ((adr ad).add (k * sz)).add o) (cs := (e.drop o).map (.int .i64)) (w := w) (fun j u hu => by
    rw [add_add]
    refine h.elem hk (o + j) u ?_
    rw [List.getElem?_map, List.getElem?_drop] at hu
    simpa using hu) hx hg (by rw [hs]; simp; omega)
  simpa [ints] using this
end
theorem dno {a b : Bool} (h : a = true → b = true) (hb : b = false) : a = false := by
  cases a with
  | false => rfl
  | true => rw [h rfl] at hb; cases hb
theorem tabL_snocC {ty : TypeId} {enc : α → Value} {k n b : Nat} {rb : Nat → Nat} {c : α} : tabL ty enc (k + 1) n (fun q => if q = k then b else rb q) (fun _ _ => c) = tabL ty enc k n rb (fun _ _ => c) ++ [(b, .cells (rowC n enc (fun _ => c)) ty (0, 0))] := by
  have h := tabL_snoc (ty := ty) (enc := enc) (k := k) (n := n) (rb := rb) (g := fun _ _ => c) (b := b) (h := fun _ => c)
  rw [← h]
  congr 1
  funext p
  split <;> rfl
theorem Mem.tabgrow {w w0 : World} {S : Nat → Prop} {p q : Nat × Obj} {E T1 T2 : Hp} (h : Mem w0 S w (p :: q :: (E ++ (T1 ++ T2)))) : Mem w0 S w (E ++ ((T1 ++ [p]) ++ (T2 ++ [q]))) := by
  refine h.perm ?_
  have h1 : (p :: q :: (E ++ (T1 ++ T2))).Perm (E ++ (p :: q :: (T1 ++ T2))) := (List.perm_append_comm_assoc [p, q] E (T1 ++ T2))
  refine h1.trans (List.Perm.append_left E ?_)
  rw [List.append_assoc]
  have h2 : (p :: q :: (T1 ++ T2)).Perm (T1 ++ (p :: q :: T2)) := List.perm_append_comm_assoc [p, q] T1 T2
  refine h2.trans (List.Perm.append_left T1 (List.Perm.cons p ?_))
  exact (List.perm_append_comm (l₁ := [q]))
theorem rowC_congr {n : Nat} {enc : α → Value} {h h' : Nat → α} (e : ∀ p, p < n → h p = h' p) : rowC n enc h = rowC n enc h' := by
  unfold rowC
  congr 1
  refine List.map_congr_left fun q hq => ?_
  rw [e q (List.mem_range.1 hq)]
theorem rowI_set {n p : Nat} {o : Nat → Int} {v : Int} (hp : p < n) : (rowC n (Value.int .i64) o).setIfInBounds p (.int .i64 v) = rowC n (Value.int .i64) (fun q => if q = p then v else o q) := rowC_set hp
end Go.Kn
