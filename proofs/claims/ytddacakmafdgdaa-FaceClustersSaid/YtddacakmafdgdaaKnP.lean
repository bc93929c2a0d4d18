/- Maps whose keys are of whatever kind, by three laws of the kind. -/
import Derived.Test.YtddacakmafdgdaaKnT
import Derived.ChangeKeysEq
set_option linter.unusedVariables false
set_option linter.unusedSimpArgs false
namespace Go.Kn
open Go.RowKit
variable {κ : Type} [DecidableEq κ]
structure PEnt (κ : Type) where
  key : κ
  v : Value
  born : Nat
def PEnt.obj (enc : κ → Value) (e : PEnt κ) : MapEntry := ⟨enc e.key, e.v, e.born⟩
abbrev pmapO (enc : κ → Value) (es : List (PEnt κ)) (clock : Nat) : Obj := .map (es.map (PEnt.obj enc)).toArray clock
def pget (k : κ) : List (PEnt κ) → Option Value
  | [] => none
  | e :: r => if e.key = k then some e.v else pget k r
def pfind (k : κ) : List (PEnt κ) → Nat → Option (Nat × Value)
  | [], _ => none
  | e :: r, i => if e.key = k then some (i, e.v) else pfind k r (i + 1)
theorem pfind_get (k : κ) : ∀ (es : List (PEnt κ)) (i : Nat), (pfind k es i).map (·.2) = pget k es
  | [], _ => rfl
  | e :: r, i => by unfold pfind pget; split <;> simp [pfind_get k r]
structure KeyLaw (P : Program) (kt : TypeId) (enc : κ → Value) : Prop where
  check : ∀ (b : Bool) (k : κ) (w : World), (Instr.checkKey b 10000 kt (enc k)).run P w = .ok () w
  find : ∀ (k : κ) (es : List (PEnt κ)) (w : World), (Instr.findKey kt (enc k) (es.map (PEnt.obj enc))).run P w = .ok (pfind k es 0) w
  stays : ∀ (k : κ) (w : World), (Instr.keyThatStays (enc k) (enc k)).run P w = .ok (enc k) w
section
variable {P : Program} {w : World} {ρ : Operand → Value} {dst : Option Tmp} {type : TypeId} {pos : String} {after : Array Edge} {guard : Option (Nat × Bool)} {enc : κ → Value}
theorem xp_lookup {t kt et : TypeId} {x y : Operand} {b : Nat} {es : List (PEnt κ)} {clock : Nat} {k : κ} {z : Value} (L : KeyLaw P kt enc) (hb : w.heap[b]? = some (pmapO enc es clock)) (hx : ρ x = .map (some b)) (hy : ρ y = enc k) (ht : P.underlying t = some (.map kt et)) (hz : (zeroValue et).run P w = .ok z w) :
    (execOp ρ ⟨dst, .lookup t x y false, type, pos, after, guard⟩).run P w = .ok (.value ((pget k es).getD z)) w := by
  have hg := run_getObj (P := P) hb (by simp [pmapO])
  have hf := L.find k es w
  have hc := L.check
  simp only [execOp, Instr.lookup, hx, hy, Sem.run_bind, run_underlying ht, Result.andThen_ok, hg, Sem.run_pure, hc, hf, List.toList_toArray, pmapO]
  rw [← pfind_get k es 0]
  cases h : pfind k es 0 with
  | none => simp [hz]
  | some p => obtain ⟨i, v⟩ := p; simp
theorem xp_lookupOk {t kt et : TypeId} {x y : Operand} {b : Nat} {es : List (PEnt κ)} {clock : Nat} {k : κ} {z : Value} (L : KeyLaw P kt enc) (hb : w.heap[b]? = some (pmapO enc es clock)) (hx : ρ x = .map (some b)) (hy : ρ y = enc k) (ht : P.underlying t = some (.map kt et)) (hz : (zeroValue et).run P w = .ok z w) :
    (execOp ρ ⟨dst, .lookup t x y true, type, pos, after, guard⟩).run P w = .ok (.value (.tuple #[(pget k es).getD z, .bool (pget k es).isSome])) w := by
  have hg := run_getObj (P := P) hb (by simp [pmapO])
  have hf := L.find k es w
  have hc := L.check
  simp only [execOp, Instr.lookup, hx, hy, Sem.run_bind, run_underlying ht, Result.andThen_ok, hg, Sem.run_pure, hc, hf, List.toList_toArray, pmapO]
  rw [← pfind_get k es 0]
  cases h : pfind k es 0 with
  | none => simp [hz]
  | some p => obtain ⟨i, v⟩ := p; simp
end
section
variable {P : Program} {n : Nat} {ops : Array Oper} {Q : Exit → Act → World → Prop} {K : St} {w w0 : World} {S : Nat → Prop} {L : Hp} {dst : Option Tmp} {type : TypeId} {pos : String} {after : Array Edge} {rest : List Oper} {enc : κ → Value}
theorem pfind_spec {k : κ} : ∀ {es : List (PEnt κ)} {j q : Nat} {v : Value}, pfind k es j = some (q, v) → ∃ i e, q = j + i ∧ es[i]? = some e ∧ e.key = k ∧ ∀ i', i' < i → ∀ e', es[i']? = some e' → e'.key ≠ k
  | [], _, _, _, h => by cases h
  | e :: r, j, q, v, h => by
    unfold pfind at h
    split at h
    · rename_i he
      injection h with h; injection h with h1 h2
      exact ⟨0, e, by omega, rfl, he, fun i' hi' => absurd hi' (by omega)⟩
    · rename_i he
      obtain ⟨i, e', h1, h2, h3, h4⟩ := pfind_spec h
      refine ⟨i + 1, e', by omega, by simpa using h2, h3, fun i' hi' e'' he'' => ?_⟩
      cases i' with
      | zero => simp at he''; subst he''; exact he
      | succ i' => exact h4 i' (by omega) e'' (by simpa using he'')
/-- set: in place where the key is there, behind all else -/
def pset (k : κ) (v : Value) (clock : Nat) (es : List (PEnt κ)) : List (PEnt κ) × Nat :=
  match pfind k es 0 with
  | some (i, _) => (es.modify i fun e => { e with v := v }, clock)
  | none => (es ++ [⟨k, v, clock⟩], clock + 1)
theorem rp_set {t kt et : TypeId} {x y z : Operand} (KL : KeyLaw P kt enc) (hM : Mem w0 S w L) (i : Nat) {b : Nat} {es : List (PEnt κ)} {clock : Nat} {k : κ} {v : Value} (hi : L[i]? = some (b, pmapO enc es clock)) (ht : P.underlying t = some (.map kt et))
    (hok : okOp n K ⟨dst, .mapUpdate t x y z, type, pos, after, none⟩ = true) (hx : K.ev x = .map (some b)) (hy : K.ev y = enc k) (hz : K.ev z = v)
    (h : ∀ w', Mem w0 S w' (L.set i (b, pmapO enc (pset k v clock es).1 (pset k v clock es).2)) → wpR P n ops Q rest (K.put dst undef) w') : wpR P n ops Q (⟨dst, .mapUpdate t x y z, type, pos, after, none⟩ :: rest) K w := by
  have hb := hM.get i hi
  have hg := run_getObj (P := P) hb (by simp [pmapO])
  have hf := KL.find k es w
  have hc := KL.check
  refine r_skip (w' := { w with heap := w.heap.setIfInBounds b (pmapO enc (pset k v clock es).1 (pset k v clock es).2) }) rfl hok ?_ (h _ (hM.turn hi kept_setObj (heap_setObj hb)))
  cases hp : pfind k es 0 with
  | none =>
    have hs := run_setObj (P := P) (o := pmapO enc (es ++ [(⟨k, v, clock⟩ : PEnt κ)]) (clock + 1)) hb (by simp [pmapO])
    have e1 : pset k v clock es = (es ++ [⟨k, v, clock⟩], clock + 1) := by unfold pset; rw [hp]
    have e2 : (es.map (PEnt.obj enc)).toArray.push { key := enc k, val := v, born := clock } = ((es ++ [(⟨k, v, clock⟩ : PEnt κ)]).map (PEnt.obj enc)).toArray := by simp [PEnt.obj]
    rw [hp] at hf
    rw [e1]
    simp only [execOp, Instr.mapUpdate, hx, hy, hz, Sem.run_bind, run_underlying ht, Result.andThen_ok, hg, pmapO, hc, List.toList_toArray, hf]
    rw [e2]
    simp only [pmapO] at hs
    simp only [Sem.run_bind, hs, Result.andThen_ok, Sem.run_pure]
  | some p =>
    obtain ⟨q, u⟩ := p
    obtain ⟨j, e, h1, h2, h3, _⟩ := pfind_spec hp
    have hqj : q = j := by omega
    subst hqj
    have e1 : pset k v clock es = (es.modify q fun e => { e with v := v }, clock) := by unfold pset; rw [hp]
    have hs := run_setObj (P := P) (o := pmapO enc (es.modify q fun e => { e with v := v }) clock) hb (by simp [pmapO])
    have hkey : ((((es.map (PEnt.obj enc)).toArray[q]?).map (·.key)).getD (enc k)) = enc k := by simp [h2, PEnt.obj, h3]
    have e2 : (es.map (PEnt.obj enc)).toArray.modify q (fun a => { a with key := enc k, val := v }) = ((es.modify q fun e => { e with v := v }).map (PEnt.obj enc)).toArray := by
      apply Array.ext_getElem?
      intro m
      rw [Array.getElem?_modify]
      simp only [List.getElem?_toArray, List.getElem?_map, List.getElem?_modify]
      by_cases hqm : q = m
      · subst hqm
        simp [h2, PEnt.obj, h3]
      · simp [hqm]
    rw [hp] at hf
    rw [e1]
    simp only [execOp, Instr.mapUpdate, hx, hy, hz, Sem.run_bind, run_underlying ht, Result.andThen_ok, hg, pmapO, hc, List.toList_toArray, hf, hkey, KL.stays]
    rw [e2]
    simp only [pmapO] at hs
    simp [hs]
theorem pget_set {k : κ} {v : Value} {clock : Nat} {es : List (PEnt κ)} (q : κ) : pget q (pset k v clock es).1 = if q = k then some v else pget q es := by
  have app : ∀ (l : List (PEnt κ)) (c : Nat), pget q (l ++ [⟨k, v, c⟩]) = match pget q l with | some u => some u | none => if k = q then some v else none := by
    intro l c
    induction l with
    | nil => simp [pget]
    | cons a r ih =>
      simp only [List.cons_append, pget]
      split
      · rfl
      · exact ih
  unfold pset
  cases hp : pfind k es 0 with
  | none =>
    have hn : pget k es = none := by rw [← pfind_get k es 0, hp]; rfl
    simp only [app]
    by_cases hq : q = k
    · subst hq; rw [hn]
    · rw [if_neg hq]
      have : ¬ k = q := fun e => hq e.symm
      cases pget q es <;> simp [this]
  | some p =>
    obtain ⟨m, u⟩ := p
    obtain ⟨j, e, h1, h2, h3, h4⟩ := pfind_spec hp
    have hmj : m = j := by omega
    subst hmj
    simp only
    clear hp h1
    induction es generalizing m with
    | nil => simp at h2
    | cons a r ih =>
      cases m with
      | zero =>
        simp at h2
        subst h2
        simp only [List.modify_zero_cons, pget, h3]
        by_cases hq : q = k
        · rw [if_pos hq.symm, if_pos hq]
        · rw [if_neg (fun e => hq e.symm), if_neg hq, if_neg (fun e => hq e.symm)]
      | succ m =>
        have ha : a.key ≠ k := h4 0 (by omega) a (by simp)
        simp only [List.modify_succ_cons, pget]
        have := ih m (by simpa using h2) (fun i' hi' e' he' => h4 (i' + 1) (by omega) e' (by simpa using he'))
        rw [this]
        by_cases hq : q = k
        · subst hq; simp [ha]
        · simp [hq]
end
/-! pairs of ints -/
abbrev encP2 (k : Int × Int) : Value := .agg #[.int .i64 k.1, .int .i64 k.2]
theorem pairLaw {P : Program} {kt e : TypeId} (hu : P.underlying kt = some (.array 2 e)) (he : P.underlying e = some (.int .i64)) (hi : (P.info? e).map (fun i => (i.zero, i.size, i.bytes)) = some (some (.int .i64 0), 1, 8)) (hg : ∀ w, (isAgg e).run P w = .ok false w) : KeyLaw P kt encP2 := by
  obtain ⟨i0, h1, h2, h3, h4⟩ := info_parts hi
  have hsz : ∀ w, (sizeOf e).run P w = .ok 1 w := fun w => by have := run_sizeOf (P := P) w h1; rw [this]; simp [Program.cellsOf, h1, h3]
  have hcl : P.cellsOf e = 1 := by simp [Program.cellsOf, h1, h3]
  have hp0 : ∀ (a b : Int) (w : World), (part e #[.int .i64 a, .int .i64 b] 0).run P w = .ok (.int .i64 a) w := by intro a b w; simp [part, hg]
  have hp1 : ∀ (a b : Int) (w : World), (part e #[.int .i64 a, .int .i64 b] 1).run P w = .ok (.int .i64 b) w := by intro a b w; simp [part, hg]
  have heq : ∀ (k q : Int × Int) (w : World), (Op.equal kt (encP2 k) (encP2 q)).run P w = .ok (decide (k = q)) w := by
    intro k q w
    have heqI : ∀ (d : Nat) (a b : Int) (w : World), (Op.equalIn (d + 1) e (.int .i64 a) (.int .i64 b)).run P w = .ok (a == b) w := by
      intro d a b w
      simp [Op.equalIn, run_underlying he]
    have h9 := run_equalIn_array (P := P) (w := w) 9999 #[.int .i64 k.1, .int .i64 k.2] #[.int .i64 q.1, .int .i64 q.2] hu h1
    show (Op.equalIn (9999 + 1) kt (encP2 k) (encP2 q)).run P w = _
    rw [h9, hcl]
    rw [show List.range 2 = [0, 1] from rfl]
    simp only [Op.eqItems, Nat.zero_mul, Nat.one_mul, Sem.run_bind, hp0, hp1, Result.andThen_ok]
    rw [show (9999 : Nat) = 9998 + 1 from rfl]
    simp only [heqI, Result.andThen_ok, if_true]
    obtain ⟨a, b⟩ := k
    obtain ⟨c, d⟩ := q
    by_cases h5 : a = c <;> by_cases h6 : b = d <;> simp [h5, h6, heqI, hp0, hp1]
  refine ⟨fun b k w => ?_, fun k es w => ?_, fun k w => ?_⟩
  · have hplain : ∀ (d : Nat) (a : Int) (w : World), (Instr.checkKey b (d + 1) e (.int .i64 a)).run P w = .ok () w := by
      intro d a w
      simp [Instr.checkKey, run_underlying he]
    have hall : ∀ d, (Instr.checkKey b (d + 1 + 1) kt (encP2 k)).run P w = .ok () w := by
      intro d
      unfold Instr.checkKey
      simp only [Sem.run_bind, run_underlying hu, Result.andThen_ok]
      simp only [Std.Legacy.Range.forIn_eq_forIn_range', Std.Legacy.Range.size, Nat.sub_zero, Nat.add_one_sub_one, Nat.div_one]
      rw [show List.range' 0 2 = [0, 1] from rfl]
      simp [hsz, hp0, hp1, hplain]
    exact hall 9998
  · have hask : ∀ (es : List (PEnt (Int × Int))) (i : Nat) (w : World), (Instr.findAsking kt (encP2 k) (es.map (PEnt.obj encP2)) i).run P w = .ok (pfind k es i) w := by
      intro es
      induction es with
      | nil => intro i w; rfl
      | cons a r ih =>
        intro i w
        simp only [List.map_cons, Instr.findAsking, PEnt.obj, Sem.run_bind, heq, Result.andThen_ok, pfind]
        by_cases h : k = a.key
        · simp [h]
        · have h' : ¬ a.key = k := fun e => h e.symm
          simp only [h, h', decide_false, Bool.false_eq_true, if_false]
          exact ih (i + 1) w
    cases es with
    | nil => simp [Instr.findKey, run_underlying hu, Instr.findNow, pfind]
    | cons a r =>
      have hnow : Instr.findNow (.array 2 e) (encP2 k) ((a :: r).map (PEnt.obj encP2)) 0 = none := by
        simp [Instr.findNow, Instr.sameNow]
      simp only [Instr.findKey, Sem.run_bind, run_underlying hu, Result.andThen_ok, hnow]
      exact hask (a :: r) 0 w
  · have hsb : ∀ n, Instr.sameBits (n + 1) (encP2 k) (encP2 k) = true := by intro n; simp [Instr.sameBits]
    have : Instr.sameBits 10000 (encP2 k) (encP2 k) = true := hsb 9999
    unfold Instr.keyThatStays
    rw [if_pos this]
    rfl
end Go.Kn
