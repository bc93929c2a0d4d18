/- Maps whose keys are ints: their entries as a list. -/
import Derived.Test.YtddacakmafdgdaaKnF
set_option linter.unusedVariables false
set_option linter.unusedSimpArgs false
namespace Go.Kn
open Go.RowKit
structure Ent where
  key : Int
  v : Value
  born : Nat
def Ent.obj (e : Ent) : MapEntry := ⟨.int .i64 e.key, e.v, e.born⟩
abbrev mapO (es : List Ent) (clock : Nat) : Obj := .map (es.map Ent.obj).toArray clock
def mget (k : Int) : List Ent → Option Value
  | [] => none
  | e :: r => if e.key = k then some e.v else mget k r
def mfind (k : Int) : List Ent → Nat → Option (Nat × Value)
  | [], _ => none
  | e :: r, i => if e.key = k then some (i, e.v) else mfind k r (i + 1)
theorem mfind_get (k : Int) : ∀ (es : List Ent) (i : Nat), (mfind k es i).map (·.2) = mget k es
  | [], _ => rfl
  | e :: r, i => by unfold mfind mget; split <;> simp [mfind_get k r]
def mset (k : Int) (v : Value) (es : List Ent) : List Ent := es.map fun e => if e.key = k then { e with v := v } else e
def mdel (k : Int) (es : List Ent) : List Ent := es.filter fun e => decide (e.key ≠ k)
theorem run_getObj {P : Program} {w : World} {r : Nat} {o : Obj} (h : w.heap[r]? = some o) (hc : ∀ c e f, o ≠ .cells c e f) : (getObj r).run P w = .ok o w := by
  unfold getObj
  cases o <;> first | (simp only [Sem.run, h]; done) | exact absurd rfl (hc _ _ _)
theorem findNow_int (kk : IntKind) (k : Int) : ∀ (es : List Ent) (i : Nat), Instr.findNow (.int kk) (.int .i64 k) (es.map Ent.obj) i = some (mfind k es i)
  | [], _ => rfl
  | e :: r, i => by
    simp only [List.map_cons, Instr.findNow, Ent.obj, Instr.sameNow, if_true]
    unfold mfind
    by_cases h : e.key = k
    · subst h; simp [Ent.obj]
    · have h2 : (k == e.key) = false := by simpa using fun e' => h e'.symm
      simp only [h2, if_neg h]
      exact findNow_int kk k r (i + 1)
theorem run_checkKey {P : Program} {w : World} {kt : TypeId} {kk : IntKind} (b : Bool) (k : Int) (hk : P.underlying kt = some (.int kk)) : (Instr.checkKey b 10000 kt (.int .i64 k)).run P w = .ok () w := by
  unfold Instr.checkKey
  simp [run_underlying hk]
theorem run_findKey {P : Program} {w : World} {kt : TypeId} {kk : IntKind} (k : Int) (es : List Ent) (hk : P.underlying kt = some (.int kk)) : (Instr.findKey kt (.int .i64 k) (es.map Ent.obj)).run P w = .ok (mfind k es 0) w := by
  unfold Instr.findKey
  simp [run_underlying hk, findNow_int]
theorem find_born {es : List Ent} {e : Ent} (he : e ∈ es) (hn : (es.map Ent.born).Nodup) : (es.map Ent.obj).find? (fun q => q.born == e.born) = some e.obj := by
  induction es with
  | nil => cases he
  | cons q r ih =>
    simp only [List.map_cons, List.nodup_cons] at hn
    simp only [List.map_cons, List.find?_cons]
    rcases List.mem_cons.1 he with h | h
    · subst h; simp [Ent.obj]
    · have : (q.obj.born == e.born) = false := by
        simp only [Ent.obj, beq_eq_false_iff_ne]
        intro h2
        exact hn.1 (h2 ▸ List.mem_map.2 ⟨e, h, rfl⟩)
      rw [this]
      exact ih h hn.2
theorem map_erase {α β : Type} (f : α → β) : ∀ (l : List α) (q : Nat), (l.map f).eraseIdx q = (l.eraseIdx q).map f
  | [], _ => by simp
  | a :: r, 0 => by simp
  | a :: r, q + 1 => by simp [map_erase f r q]
theorem mdel_erase {k : Int} : ∀ {es : List Ent} {q : Nat} {e : Ent}, (es.map Ent.key).Nodup → es[q]? = some e → e.key = k → (∀ m a, es[m]? = some a → (a.key = k ↔ m = q)) → mdel k es = es.eraseIdx q
  | [], _, _, _, h2, _, _ => by simp at h2
  | a :: r, q, e, hn, h2, h3, h4 => by
    simp only [List.map_cons, List.nodup_cons] at hn
    unfold mdel
    cases q with
    | zero =>
      simp at h2
      subst h2
      rw [List.filter_cons, if_neg (by simp [h3])]
      simp only [List.eraseIdx_cons_zero]
      rw [List.filter_eq_self]
      intro b hb
      obtain ⟨m, hm⟩ := List.mem_iff_getElem?.1 hb
      have := h4 (m + 1) b (by simpa using hm)
      simp; intro hk'; have := this.1 hk'; omega
    | succ q =>
      have ha := h4 0 a (by simp)
      have hak : ¬ a.key = k := fun h => by have := ha.1 h; omega
      rw [List.filter_cons, if_pos (by simpa using hak)]
      simp only [List.eraseIdx_cons_succ]
      congr 1
      exact mdel_erase (es := r) hn.2 (by simpa using h2) h3 (fun m b hm => by have := h4 (m + 1) b (by simpa using hm); rw [this]; omega)
section
variable {P : Program} {w : World} {ρ : Operand → Value} {dst : Option Tmp} {type : TypeId} {pos : String} {after : Array Edge} {guard : Option (Nat × Bool)}
theorem x_lookup {t kt et : TypeId} {kk : IntKind} {x y : Operand} {b : Nat} {es : List Ent} {clock : Nat} {k : Int} {z : Value} (hb : w.heap[b]? = some (mapO es clock)) (hx : ρ x = .map (some b)) (hy : ρ y = .int .i64 k) (ht : P.underlying t = some (.map kt et)) (hk : P.underlying kt = some (.int kk)) (hz : (zeroValue et).run P w = .ok z w) :
    (execOp ρ ⟨dst, .lookup t x y false, type, pos, after, guard⟩).run P w = .ok (.value ((mget k es).getD z)) w := by
  have hg := run_getObj (P := P) hb (by simp [mapO])
  have hf := run_findKey (P := P) (w := w) k es hk
  simp only [execOp, Instr.lookup, hx, hy, Sem.run_bind, run_underlying ht, Result.andThen_ok, hg, Sem.run_pure, run_checkKey _ _ hk, hf, List.toList_toArray, mapO]
  rw [← mfind_get k es 0]
  cases h : mfind k es 0 with
  | none => simp [hz]
  | some p => obtain ⟨i, v⟩ := p; simp
theorem x_lookupOk {t kt et : TypeId} {kk : IntKind} {x y : Operand} {b : Nat} {es : List Ent} {clock : Nat} {k : Int} {z : Value} (hb : w.heap[b]? = some (mapO es clock)) (hx : ρ x = .map (some b)) (hy : ρ y = .int .i64 k) (ht : P.underlying t = some (.map kt et)) (hk : P.underlying kt = some (.int kk)) (hz : (zeroValue et).run P w = .ok z w) :
    (execOp ρ ⟨dst, .lookup t x y true, type, pos, after, guard⟩).run P w = .ok (.value (.tuple #[(mget k es).getD z, .bool (mget k es).isSome])) w := by
  have hg := run_getObj (P := P) hb (by simp [mapO])
  have hf := run_findKey (P := P) (w := w) k es hk
  simp only [execOp, Instr.lookup, hx, hy, Sem.run_bind, run_underlying ht, Result.andThen_ok, hg, Sem.run_pure, run_checkKey _ _ hk, hf, List.toList_toArray, mapO]
  rw [← mfind_get k es 0]
  cases h : mfind k es 0 with
  | none => simp [hz]
  | some p => obtain ⟨i, v⟩ := p; simp
theorem x_lenMap {x : Operand} {t kt et : TypeId} {b : Nat} {es : List Ent} {clock : Nat} (hb : w.heap[b]? = some (mapO es clock)) (hx : ρ x = .map (some b)) (ht : (underlying t).run P w = .ok (.map kt et) w) :
    (execOp ρ ⟨dst, .call { callee := .builtin .len, args := #[x], argTypes := #[t] }, type, pos, after, guard⟩).run P w = .ok (.value (.int .i64 (es.length : Int))) w := by
  have hg := run_getObj (P := P) hb (by simp [mapO])
  simp [execOp, resolve, invoke, builtin, Builtin.len_, hx, ht, goInt, hg]
theorem x_entry {x : Operand} {b bm : Nat} {es : List Ent} {since clock : Nat} {seen : Array Nat} {e : Ent} (hi : w.heap[b]? = some (.mapIter (some bm) since (seen.push e.born) clock)) (hb : w.heap[bm]? = some (mapO es clock)) (he : e ∈ es) (hn : (es.map Ent.born).Nodup) (hx : ρ x = .pointer (some ⟨b, 0, none⟩)) :
    (execOp ρ ⟨dst, .entry x, type, pos, after, guard⟩).run P w = .ok (.value (.tuple #[.int .i64 e.key, e.v])) w := by
  have hg := run_getObj (P := P) hi (by simp)
  have hg2 := run_getObj (P := P) hb (by simp [mapO])
  have hf := find_born he hn
  have hbk : (seen.push e.born).back? = some e.born := by simp
  simp only [execOp, Instr.entry, hx, Sem.run_bind, hg, Result.andThen_ok, hbk, Sem.run_pure, hg2, mapO, bne_self_eq_false, Bool.false_eq_true, if_false]
  simp [hf, Ent.obj]
end
section
variable {P : Program} {n : Nat} {ops : Array Oper} {Q : Exit → Act → World → Prop} {K : St} {w w0 : World} {S : Nat → Prop} {L : Hp} {dst : Option Tmp} {type : TypeId} {pos : String} {after : Array Edge} {rest : List Oper}
theorem kept_setObj {w : World} {r : Nat} {o : Obj} : Kept w { w with heap := w.heap.setIfInBounds r o } (fun k => k = r) :=
  ⟨rfl, rfl, rfl, by simp, fun k _ hk => by simp only []; rw [Array.getElem?_setIfInBounds_ne (fun e => hk e.symm)]⟩
theorem heap_setObj {w : World} {r : Nat} {o o' : Obj} (h : w.heap[r]? = some o') : ({ w with heap := w.heap.setIfInBounds r o } : World).heap[r]? = some o := by
  have := lt_of_block h
  simp [this]
theorem run_setObj {P : Program} {w : World} {r : Nat} {o o' : Obj} (h : w.heap[r]? = some o') (hc : ∀ c e f, o' ≠ .cells c e f) : (setObj r o).run P w = .ok () { w with heap := w.heap.setIfInBounds r o } := by
  unfold setObj
  cases o' <;> first | (simp only [Sem.run, h]; done) | exact absurd rfl (hc _ _ _)
theorem mfind_none {k : Int} {es : List Ent} (h : mget k es = none) (i : Nat) : mfind k es i = none := by
  have := mfind_get k es i
  rw [h] at this
  cases hm : mfind k es i with
  | none => rfl
  | some p => simp [hm] at this
/-- a new key -/
theorem r_mapNew {t kt et : TypeId} {kk : IntKind} {x y z : Operand} (hM : Mem w0 S w L) (i : Nat) {b : Nat} {es : List Ent} {clock : Nat} {k : Int} {v : Value} (hi : L[i]? = some (b, mapO es clock)) (hnew : mget k es = none) (ht : P.underlying t = some (.map kt et)) (hk : P.underlying kt = some (.int kk))
    (hok : okOp n K ⟨dst, .mapUpdate t x y z, type, pos, after, none⟩ = true) (hx : K.ev x = .map (some b)) (hy : K.ev y = .int .i64 k) (hz : K.ev z = v)
    (h : ∀ w', Mem w0 S w' (L.set i (b, mapO (es ++ [(⟨k, v, clock⟩ : Ent)]) (clock + 1))) → wpR P n ops Q rest (K.put dst undef) w') : wpR P n ops Q (⟨dst, .mapUpdate t x y z, type, pos, after, none⟩ :: rest) K w := by
  have hb := hM.get i hi
  refine r_skip (w' := { w with heap := w.heap.setIfInBounds b (mapO (es ++ [(⟨k, v, clock⟩ : Ent)]) (clock + 1)) }) rfl hok ?_ (h _ (hM.turn hi kept_setObj (heap_setObj hb)))
  have hg := run_getObj (P := P) hb (by simp [mapO])
  have hf := run_findKey (P := P) (w := w) k es hk
  have hs := run_setObj (P := P) (o := mapO (es ++ [(⟨k, v, clock⟩ : Ent)]) (clock + 1)) hb (by simp [mapO])
  have e : (es.map Ent.obj).toArray.push { key := .int .i64 k, val := v, born := clock } = ((es ++ [(⟨k, v, clock⟩ : Ent)]).map Ent.obj).toArray := by simp [Ent.obj]
  simp only [execOp, Instr.mapUpdate, hx, hy, hz, Sem.run_bind, run_underlying ht, Result.andThen_ok, hg, mapO, run_checkKey _ _ hk, List.toList_toArray, hf, mfind_none hnew]
  rw [e]
  simp only [mapO] at hs
  simp only [Sem.run_bind, hs, Result.andThen_ok, Sem.run_pure]
theorem mfind_some {k : Int} : ∀ {es : List Ent} {j : Nat} {v0 : Value}, mget k es = some v0 → (es.map Ent.key).Nodup → ∃ i e, mfind k es j = some (j + i, v0) ∧ es[i]? = some e ∧ e.key = k ∧ ∀ q a, es[q]? = some a → (a.key = k ↔ q = i)
  | [], _, _, h, _ => by cases h
  | e :: r, j, v0, h, hn => by
    simp only [List.map_cons, List.nodup_cons] at hn
    unfold mget at h
    unfold mfind
    by_cases he : e.key = k
    · rw [if_pos he] at h
      injection h with h
      rw [if_pos he]
      refine ⟨0, e, by simp [h], rfl, he, fun q a hq => ?_⟩
      cases q with
      | zero => simp at hq; subst hq; simp [he]
      | succ q =>
        simp at hq
        constructor
        · intro hk; exact absurd (List.mem_map.2 ⟨a, List.mem_of_getElem? hq, by rw [hk, he]⟩) hn.1
        · intro hk; cases hk
    · rw [if_neg he] at h
      rw [if_neg he]
      obtain ⟨i, e', h1, h2, h3, h4⟩ := mfind_some (j := j + 1) h hn.2
      refine ⟨i + 1, e', by rw [h1]; simp; omega, by simpa using h2, h3, fun q a hq => ?_⟩
      cases q with
      | zero => simp at hq; subst hq; simp [he]
      | succ q => simp at hq; rw [h4 q a hq]; omega
/-- a key that is there -/
theorem r_mapOld {t kt et : TypeId} {kk : IntKind} {x y z : Operand} (hM : Mem w0 S w L) (i : Nat) {b : Nat} {es : List Ent} {clock : Nat} {k : Int} {v v0 : Value} (hi : L[i]? = some (b, mapO es clock)) (hold : mget k es = some v0) (hn : (es.map Ent.key).Nodup) (ht : P.underlying t = some (.map kt et)) (hk : P.underlying kt = some (.int kk))
    (hok : okOp n K ⟨dst, .mapUpdate t x y z, type, pos, after, none⟩ = true) (hx : K.ev x = .map (some b)) (hy : K.ev y = .int .i64 k) (hz : K.ev z = v)
    (h : ∀ w', Mem w0 S w' (L.set i (b, mapO (mset k v es) clock)) → wpR P n ops Q rest (K.put dst undef) w') : wpR P n ops Q (⟨dst, .mapUpdate t x y z, type, pos, after, none⟩ :: rest) K w := by
  have hb := hM.get i hi
  refine r_skip (w' := { w with heap := w.heap.setIfInBounds b (mapO (mset k v es) clock) }) rfl hok ?_ (h _ (hM.turn hi kept_setObj (heap_setObj hb)))
  have hg := run_getObj (P := P) hb (by simp [mapO])
  have hf := run_findKey (P := P) (w := w) k es hk
  have hs := run_setObj (P := P) (o := mapO (mset k v es) clock) hb (by simp [mapO])
  obtain ⟨q, e, h1, h2, h3, h4⟩ := mfind_some (j := 0) hold hn
  rw [h1] at hf
  have hkey : ((((es.map Ent.obj).toArray[0 + q]?).map (·.key)).getD (Value.int .i64 k)) = .int .i64 k := by
    simp [h2, Ent.obj, h3]
  have hst : (Instr.keyThatStays (.int .i64 k) (.int .i64 k)).run P w = .ok (.int .i64 k) w := by
    simp [Instr.keyThatStays, Instr.sameBits]
  have e2 : (es.map Ent.obj).toArray.modify (0 + q) (fun a => { a with key := .int .i64 k, val := v }) = ((mset k v es).map Ent.obj).toArray := by
    apply Array.ext_getElem?
    intro j
    rw [Array.getElem?_modify]
    simp only [List.getElem?_toArray, List.getElem?_map, mset]
    cases hj : es[j]? with
    | none => simp
    | some a =>
      have := h4 j a hj
      by_cases hjq : j = q
      · subst hjq
        have hak := this.2 rfl
        simp [hak, Ent.obj]
      · have hak : ¬ a.key = k := fun h => hjq (this.1 h)
        have : ¬ q = j := fun h => hjq h.symm
        simp [hak, this]
  simp only [execOp, Instr.mapUpdate, hx, hy, hz, Sem.run_bind, run_underlying ht, Result.andThen_ok, hg, mapO, run_checkKey _ _ hk, List.toList_toArray, hf, hkey, hst]
  rw [e2]
  simp only [mapO] at hs
  simp [hs]
/-- delete -/
theorem r_delete {t kt et : TypeId} {kk : IntKind} {x y : Operand} {ts : TypeId} (hM : Mem w0 S w L) (i : Nat) {b : Nat} {es : List Ent} {clock : Nat} {k : Int} (hi : L[i]? = some (b, mapO es clock)) (hn : (es.map Ent.key).Nodup) (ht : P.underlying t = some (.map kt et)) (hk : P.underlying kt = some (.int kk))
    (hok : okOp n K ⟨dst, .call { callee := .builtin .delete, args := #[x, y], argTypes := #[t, ts] }, type, pos, after, none⟩ = true) (hx : K.ev x = .map (some b)) (hy : K.ev y = .int .i64 k)
    (h : ∀ w', Mem w0 S w' (L.set i (b, mapO (mdel k es) clock)) → wpR P n ops Q rest (K.put dst (.tuple #[])) w') : wpR P n ops Q (⟨dst, .call { callee := .builtin .delete, args := #[x, y], argTypes := #[t, ts] }, type, pos, after, none⟩ :: rest) K w := by
  have hb := hM.get i hi
  refine r_val (v := .tuple #[]) (w' := { w with heap := w.heap.setIfInBounds b (mapO (mdel k es) clock) }) rfl hok ?_ (h _ (hM.turn hi kept_setObj (heap_setObj hb)))
  have hg := run_getObj (P := P) hb (by simp [mapO])
  have hf := run_findKey (P := P) (w := w) k es hk
  have hs := run_setObj (P := P) (o := mapO (mdel k es) clock) hb (by simp [mapO])
  simp only [mapO] at hs
  cases hold : mget k es with
  | none =>
    have hall : mdel k es = es := by
      unfold mdel
      rw [List.filter_eq_self]
      intro a ha
      have : ∀ (es : List Ent), mget k es = none → ∀ a ∈ es, a.key ≠ k := by
        intro es
        induction es with
        | nil => intro _ a h; cases h
        | cons q r ih =>
          intro h a ha
          unfold mget at h
          split at h
          · cases h
          · rename_i hq
            rcases List.mem_cons.1 ha with rfl | ha
            · exact hq
            · exact ih h a ha
      simpa using this es hold a ha
    rw [hall] at hs ⊢
    simp only [execOp, resolve, invoke, builtin, Builtin.delete_, List.map_toArray, List.map_cons, List.map_nil, hx, hy, Sem.run_bind, Sem.run_pure, Result.andThen_ok]
    simp [run_underlying ht, hg, run_checkKey _ _ hk, hf, mfind_none hold, hs]
  | some v0 =>
    obtain ⟨q, e, h1, h2, h3, h4⟩ := mfind_some (j := 0) hold hn
    rw [h1] at hf
    have hdel := mdel_erase hn h2 h3 h4
    have hql : q < es.length := (List.getElem?_eq_some_iff.1 h2).1
    have e2 : (es.map Ent.obj).eraseIdx q = (mdel k es).map Ent.obj := by rw [map_erase, hdel]
    simp only [execOp, resolve, invoke, builtin, Builtin.delete_, List.map_toArray, List.map_cons, List.map_nil, hx, hy, Sem.run_bind, Sem.run_pure, Result.andThen_ok]
    simp only [mapO] at hg
    simp [run_underlying ht, hg, run_checkKey _ _ hk, hf]
    rw [e2]
    simp only [hs, Result.andThen_ok]
/-- the next entry of a range over a map that no one writes -/
theorem r_nextH {x : Operand} {ty : TypeId} (hM : Mem w0 S w L) (i : Nat) {b bm : Nat} {es : List Ent} {clock : Nat} {seen : Array Nat} (hi : L[i]? = some (b, .mapIter (some bm) clock seen clock)) (hbm : w.heap[bm]? = some (mapO es clock)) (hb : ∀ e ∈ es, e.born < clock)
    (hok : okOp n K ⟨dst, .next x false, ty, pos, after, none⟩ = true) (hx : K.ev x = .pointer (some ⟨b, 0, none⟩))
    (hfin : (∀ e ∈ es, e.born ∈ seen.toList) → ∀ w', Mem w0 S w' L → wpR P n ops Q rest (K.put dst (.tuple #[.bool false])) w')
    (hstep : ∀ e ∈ es, e.born ∉ seen.toList → ∀ w', Mem w0 S w' (L.set i (b, .mapIter (some bm) clock (seen.push e.born) clock)) → wpR P n ops Q rest (K.put dst (.tuple #[.bool true, .int .i64 e.key, e.v])) w') : wpR P n ops Q (⟨dst, .next x false, ty, pos, after, none⟩ :: rest) K w := by
  have hbi := hM.get i hi
  have hg := run_getObj (P := P) hbi (by simp)
  have hg2 := run_getObj (P := P) hbm (by simp [mapO])
  simp only [mapO] at hg2
  let left : List MapEntry := (es.map Ent.obj).filter (fun e => !seen.contains e.born)
  have hold : left.filter (fun e => decide (e.born < clock)) = left := by
    rw [List.filter_eq_self]
    intro a ha
    obtain ⟨q, hq, rfl⟩ := List.mem_map.1 (List.mem_filter.1 ha).1
    exact decide_eq_true (hb q hq)
  have hnew : left.filter (fun e => decide (clock ≤ e.born)) = [] := by
    rw [List.filter_eq_nil_iff]
    intro a ha
    obtain ⟨q, hq, rfl⟩ := List.mem_map.1 (List.mem_filter.1 ha).1
    have h5 : ¬ clock ≤ q.born := Nat.not_le.2 (hb q hq)
    intro h6
    exact h5 (of_decide_eq_true h6)
  have hodd : (!seen.isEmpty && !(es.map Ent.obj).toArray.isEmpty && (es.map Ent.obj).toArray.all (fun e => decide (clock ≤ e.born))) = false := by
    cases es with
    | nil => simp
    | cons e r =>
      have := hb e (by simp)
      have h2 : decide (clock ≤ e.born) = false := by simpa using this
      simp [Ent.obj, h2]
  have hrun : ∀ (cand : Array (Option MapEntry)), cand = (if left.isEmpty then #[none] else #[]) ++ (left.map some).toArray →
      (Instr.next (.pointer (some ⟨b, 0, none⟩)) false ty).run P w = (do
        match cand[← choose (.mapNext cand.size)]? with
        | some (some e) => setObj b (.mapIter (some bm) clock (seen.push e.born) clock); pure (.tuple #[.bool true, e.key, e.val])
        | some none => pure (.tuple #[.bool false])
        | none => stuck "Next: no such candidate" : Sem Value).run P w := by
    intro cand hc
    have hodd' := hodd
    simp only [Instr.next, Sem.run_bind, hg, Result.andThen_ok, hg2, ge_iff_le, hodd', Bool.false_eq_true, if_false]
    have e1 : (Array.filter (fun e => decide (e.born < clock)) (Array.filter (fun e => !seen.contains e.born) (es.map Ent.obj).toArray)) = left.toArray := by
      rw [List.filter_toArray', List.filter_toArray'] <;> first | (rw [hold]) | simp
    have e2 : (Array.filter (fun e => decide (clock ≤ e.born)) (Array.filter (fun e => !seen.contains e.born) (es.map Ent.obj).toArray)) = #[] := by
      rw [List.filter_toArray', List.filter_toArray'] <;> first | (rw [hnew]) | simp
    rw [e1, e2]
    have e3 : ((if left.toArray.isEmpty = true then #[none] else #[]) ++ (left.toArray ++ #[]).map some) = cand := by
      rw [hc]; simp
    simp only [e3]
    rfl
  by_cases hl : left = []
  · -- nothing is left
    have hall : ∀ e ∈ es, e.born ∈ seen.toList := by
      intro e he
      have : e.obj ∉ left := by rw [hl]; simp
      have h2 : ¬ ((!seen.contains e.obj.born) = true) := fun h => this (List.mem_filter.2 ⟨List.mem_map.2 ⟨e, he, rfl⟩, h⟩)
      simpa [Ent.obj] using h2
    refine r_val (v := .tuple #[.bool false]) (w' := w) rfl hok ?_ (hfin hall w hM)
    have := hrun #[none] (by rw [hl]; rfl)
    simp only [execOp, hx, Sem.run_bind, this]
    simp [choose, Sem.run, Question.forced]
  · -- some one of them
    have hcand := hrun (left.map some).toArray (by cases h : left with | nil => exact absurd h hl | cons a r => simp)
    have hpos : 0 < left.length := List.length_pos_iff.2 hl
    have hpick : ∃ idx w', (choose (.mapNext (left.map some).toArray.size)).run P w = .ok idx w' ∧ idx < left.length ∧ Kept w w' No ∧ w'.heap = w.heap := by
      unfold choose
      by_cases hf : (Question.mapNext (left.map some).toArray.size).forced = true
      · exact ⟨0, w, by simp only [Sem.run, hf, if_true], hpos, Kept.refl _ _, rfl⟩
      · refine ⟨_, { w with drawn := w.drawn + 1 }, by simp only [Sem.run, hf]; rfl, ?_, ⟨rfl, rfl, rfl, Nat.le_refl _, fun _ _ _ => rfl⟩, rfl⟩
        simp only [Question.cut]
        have : (left.map some).toArray.size = left.length := by simp
        rw [this]
        exact Nat.mod_lt _ hpos
    obtain ⟨idx, w', hch, hidx, hkept, hheap⟩ := hpick
    have hget : (left.map some).toArray[idx]? = some (some left[idx]) := by simp [hidx]
    have hmem : left[idx] ∈ left := List.getElem_mem hidx
    obtain ⟨hm1, hm2⟩ := List.mem_filter.1 hmem
    obtain ⟨e, he, heq⟩ := List.mem_map.1 hm1
    have hns : e.born ∉ seen.toList := by
      rw [← heq] at hm2
      simpa [Ent.obj] using hm2
    have hbi' : w'.heap[b]? = some (.mapIter (some bm) clock seen clock) := by rw [hheap]; exact hbi
    have hso := run_setObj (P := P) (o := .mapIter (some bm) clock (seen.push e.born) clock) hbi' (by simp)
    refine r_val (v := .tuple #[.bool true, .int .i64 e.key, e.v]) (w' := { w' with heap := w'.heap.setIfInBounds b (.mapIter (some bm) clock (seen.push e.born) clock) }) rfl hok ?_ (hstep e he hns _ ((hM.grow hkept).turn hi kept_setObj (heap_setObj hbi')))
    simp only [execOp, hx, Sem.run_bind, hcand, hch, Result.andThen_ok, hget, ← heq, Ent.obj, hso]
    simp
theorem r_next {x : Operand} {ty : TypeId} (hM : Mem w0 S w L) (i j : Nat) {b bm : Nat} {es : List Ent} {clock : Nat} {seen : Array Nat} (hi : L[i]? = some (b, .mapIter (some bm) clock seen clock)) (hj : L[j]? = some (bm, mapO es clock)) (hb : ∀ e ∈ es, e.born < clock)
    (hok : okOp n K ⟨dst, .next x false, ty, pos, after, none⟩ = true) (hx : K.ev x = .pointer (some ⟨b, 0, none⟩))
    (hfin : (∀ e ∈ es, e.born ∈ seen.toList) → ∀ w', Mem w0 S w' L → wpR P n ops Q rest (K.put dst (.tuple #[.bool false])) w')
    (hstep : ∀ e ∈ es, e.born ∉ seen.toList → ∀ w', Mem w0 S w' (L.set i (b, .mapIter (some bm) clock (seen.push e.born) clock)) → wpR P n ops Q rest (K.put dst (.tuple #[.bool true, .int .i64 e.key, e.v])) w') : wpR P n ops Q (⟨dst, .next x false, ty, pos, after, none⟩ :: rest) K w :=
  r_nextH hM i hi (hM.get j hj) hb hok hx hfin hstep
theorem r_range {x : Operand} {t kt et : TypeId} (hM : Mem w0 S w L) (i : Nat) {bm : Nat} {es : List Ent} {clock : Nat} (hi : L[i]? = some (bm, mapO es clock)) (ht : P.underlying t = some (.map kt et))
    (hok : okOp n K ⟨dst, .range t x, type, pos, after, none⟩ = true) (hx : K.ev x = .map (some bm))
    (h : ∀ b w', Mem w0 S w' ((b, .mapIter (some bm) clock #[] clock) :: L) → w0.heap.size ≤ b → wpR P n ops Q rest (K.put dst (.pointer (some ⟨b, 0, none⟩))) w') : wpR P n ops Q (⟨dst, .range t x, type, pos, after, none⟩ :: rest) K w := by
  have hg := run_getObj (P := P) (hM.get i hi) (by simp [mapO])
  refine r_new (fun b => .pointer (some ⟨b, 0, none⟩)) (.mapIter (some bm) clock #[] clock) hM ?_ rfl hok h
  simp only [execOp, Instr.range, hx, Sem.run_bind, run_underlying ht, Result.andThen_ok, hg, mapO, Sem.run_pure]
  rfl
end
end Go.Kn
