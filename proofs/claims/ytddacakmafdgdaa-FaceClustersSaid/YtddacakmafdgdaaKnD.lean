/- A region that draws its order: what holds in every order, told operation by operation. -/
import Derived.Test.YtddacakmafdgdaaKnB
set_option linter.unusedVariables false
set_option linter.unusedSimpArgs false
namespace Go.Kn
open Go.RowKit

def upd {α : Type} (f : Nat → α) (i : Nat) (x : α) : Nat → α := fun j => if j = i then x else f j
theorem upd_same {α : Type} (f : Nat → α) (i : Nat) (x : α) : upd f i x i = x := by simp [upd]
theorem upd_ne {α : Type} (f : Nat → α) {i j : Nat} (x : α) (h : j ≠ i) : upd f i x j = f j := by simp [upd, h]
/-- the value of operation j: told (C) or not (V) -/
def val (C : List (Option Value)) (V : Nat → Value) (j : Nat) : Value :=
  match C[j]? with
  | some (some c) => c
  | _ => V j
/-- the slots behind the operations, in the text's order -/
def endK (C : List (Option Value)) (V : Nat → Value) : List Oper → Nat → St → St
  | [], _, K => K
  | o :: r, k, K => endK C V r (k + 1) (K.put o.dst (val C V k))
/-- a slot once the operations in D have been done -/
def slotD (C : List (Option Value)) (V : Nat → Value) (D : Nat → Bool) (t : Nat) : List Oper → Nat → Option Value → Option Value
  | [], _, acc => acc
  | o :: r, k, acc => slotD C V D t r (k + 1) (if D k = true ∧ o.dst = some t then some (val C V k) else acc)
theorem lookup_endK (C : List (Option Value)) (V : Nat → Value) (t : Nat) : ∀ (l : List Oper) (k : Nat) (K : St), (endK C V l k K).lookup t = slotD C V (fun _ => true) t l k (K.lookup t)
  | [], _, _ => rfl
  | o :: r, k, K => by
    unfold endK slotD
    rw [lookup_endK C V t r (k + 1)]
    congr 1
    cases hd : o.dst with
    | none => simp [St.put]
    | some d =>
      by_cases h : t = d
      · subst h; simp [St.put, List.lookup_cons]
      · have h2 : (t == d) = false := by simpa using h
        have h3 : ¬ d = t := fun e => h e.symm
        simp [St.put, List.lookup_cons, h2, h3]
theorem slotD_congr (C : List (Option Value)) (V V' : Nat → Value) (D D' : Nat → Bool) (t : Nat) : ∀ (l : List Oper) (k : Nat) (acc : Option Value),
    (∀ j o, l[j]? = some o → o.dst = some t → D (k + j) = D' (k + j) ∧ (D (k + j) = true → val C V (k + j) = val C V' (k + j))) → slotD C V D t l k acc = slotD C V' D' t l k acc
  | [], _, _, _ => rfl
  | o :: r, k, acc, h => by
    unfold slotD
    have h0 := h 0 o rfl
    have e : (if D k = true ∧ o.dst = some t then some (val C V k) else acc) = (if D' k = true ∧ o.dst = some t then some (val C V' k) else acc) := by
      by_cases hd : o.dst = some t
      · obtain ⟨h1, h2⟩ := h0 hd
        simp only [Nat.add_zero] at h1 h2
        by_cases hk : D k = true
        · rw [if_pos ⟨hk, hd⟩, if_pos ⟨by rw [← h1]; exact hk, hd⟩, h2 hk]
        · rw [if_neg (fun x => hk x.1), if_neg (fun x => hk (by rw [h1]; exact x.1))]
      · rw [if_neg (fun x => hd x.2), if_neg (fun x => hd x.2)]
    rw [e]
    exact slotD_congr C V V' D D' t r (k + 1) _ (fun j o' hj hd => by
      have := h (j + 1) o' (by simpa using hj) hd
      rwa [show k + (j + 1) = k + 1 + j by omega] at this)
theorem slotD_none (C : List (Option Value)) (V : Nat → Value) (D : Nat → Bool) (t : Nat) : ∀ (l : List Oper) (k : Nat) (acc : Option Value),
    (∀ j o, l[j]? = some o → o.dst = some t → D (k + j) = false) → slotD C V D t l k acc = acc
  | [], _, _, _ => rfl
  | o :: r, k, acc, h => by
    unfold slotD
    have e : (if D k = true ∧ o.dst = some t then some (val C V k) else acc) = acc := by
      rw [if_neg]
      rintro ⟨h1, h2⟩
      have := h 0 o rfl h2
      simp only [Nat.add_zero] at this
      rw [this] at h1
      cases h1
    rw [e]
    exact slotD_none C V D t r (k + 1) acc (fun j o' hj hd => by
      have := h (j + 1) o' (by simpa using hj) hd
      rwa [show k + (j + 1) = k + 1 + j by omega] at this)
theorem slotD_append (C : List (Option Value)) (V : Nat → Value) (D : Nat → Bool) (t : Nat) : ∀ (l r : List Oper) (k : Nat) (acc : Option Value), slotD C V D t (l ++ r) k acc = slotD C V D t r (k + l.length) (slotD C V D t l k acc)
  | [], _, _, _ => rfl
  | o :: l, r, k, acc => by
    simp only [List.cons_append, slotD, List.length_cons]
    rw [slotD_append C V D t l r (k + 1), show k + 1 + l.length = k + (l.length + 1) by omega]

/-! ### what is asked of the text -/
def slotsOf (ops : List Oper) (o : Oper) : List Nat :=
  ((opnds o.op).filterMap fun | .tmp t => some t | _ => none) ++ o.dst.toList ++ (match o.guard with | some (g, _) => ((ops[g]?).bind (·.dst)).toList | none => [])
def maskOf (M : List Nat) (o : Oper) : Nat := o.after.toList.foldr (fun e s => if Region.binds .any e then s ||| 2 ^ e.on ||| M.getD e.on 0 else s) 0
def opOk (n : Nat) (K : St) (l : List Oper) (M : List Nat) (i : Nat) (o : Oper) : Bool :=
  (o.after.toList.all fun e => !Region.binds .any e || Nat.blt e.on i) && (M.getD i 0 == maskOf M o) && noSel o.op && okDst n o.dst &&
  ((slotsOf l o).all fun t => l.zipIdx.all fun p => p.2 == i || p.1.dst != some t || (M.getD (max i p.2) 0).testBit (min i p.2)) &&
  ((opnds o.op).all fun | .tmp t => (K.lookup t).isSome || ((l.take i).any fun p => p.dst == some t) | _ => true) &&
  (match o.guard with | some (g, _) => Nat.blt g i && (M.getD i 0).testBit g && ((l[g]?).bind (·.dst)).isSome | none => true)
def drawOk (n : Nat) (K : St) (l : List Oper) (M : List Nat) : Bool := l.zipIdx.all fun p => opOk n K l M p.2 p.1

/-! ### one operation -/
def OpRun (P : Program) (ρ : Operand → Value) (o : Oper) (w : World) (post : Value → World → Prop) : Prop :=
  (∃ v w', (execOp ρ o).run P w = .ok (.value v) w' ∧ post v w') ∨ (∃ w', (execOp ρ o).run P w = .ok .skip w' ∧ post undef w') ∨
  (∃ f args w', (execOp ρ o).run P w = .ok (.enter f args) w' ∧ Calls P f args w' fun e w'' => ∃ v, e = .returned v ∧ post v w'')
theorem OpRun.mono {P : Program} {ρ : Operand → Value} {o : Oper} {w : World} {post post' : Value → World → Prop} (h : OpRun P ρ o w post) (hp : ∀ v w, post v w → post' v w) : OpRun P ρ o w post' := by
  rcases h with ⟨v, w', h1, h2⟩ | ⟨w', h1, h2⟩ | ⟨f, args, w', h1, h2⟩
  · exact .inl ⟨v, w', h1, hp _ _ h2⟩
  · exact .inr (.inl ⟨w', h1, hp _ _ h2⟩)
  · exact .inr (.inr ⟨f, args, w', h1, h2.mono fun e w'' ⟨v, he, hv⟩ => ⟨v, he, hp _ _ hv⟩⟩)
def OpGoal (P : Program) (l : List Oper) (K : St) (o : Oper) (w : World) (post : Value → World → Prop) : Prop :=
  match o.guard with
  | none => OpRun P K.ev o w post
  | some (g, b) => ∃ c : Option Bool, gval l.toArray K g = some c ∧ (c = some b → OpRun P K.ev o w post) ∧ (c ≠ some b → post undef w)
theorem ev_sub {K K' : St} (hs : Sub K' K) {x : Operand} (hx : K'.has x = true) : K.ev x = K'.ev x := by
  cases x with
  | tmp t =>
    simp only [St.has] at hx
    obtain ⟨v, hv⟩ := Option.isSome_iff_exists.1 hx
    simp [St.ev, hv, hs.get hv]
  | _ => rfl
theorem exec_sub {K K' : St} {o : Oper} (hs : Sub K' K) (hn : noSel o.op = true) (hx : (opnds o.op).all K'.has = true) : execOp K.ev o = execOp K'.ev o :=
  execOp_congr o (fun cs b e => by simp [noSel, e] at hn) fun x hm => ev_sub hs (List.all_eq_true.1 hx x (mem_opnds hn hm))
/-- with just the slots that it reads -/
theorem goal_of {P : Program} {l : List Oper} {K : St} {o : Oper} {w : World} {post : Value → World → Prop} (K' : St) (hg : o.guard = none) (hs : Sub K' K) (hx : (noSel o.op && (opnds o.op).all K'.has) = true) (h : OpRun P K'.ev o w post) : OpGoal P l K o w post := by
  simp only [Bool.and_eq_true] at hx
  unfold OpGoal
  rw [hg]
  simp only []
  unfold OpRun at *
  rw [exec_sub hs hx.1 hx.2]
  exact h
theorem goal_yes {P : Program} {l : List Oper} {K : St} {o : Oper} {w : World} {post : Value → World → Prop} {g : Nat} {b : Bool} (K' : St) (hg : o.guard = some (g, b)) (hc : gval l.toArray K g = some (some b)) (hs : Sub K' K) (hx : (noSel o.op && (opnds o.op).all K'.has) = true) (h : OpRun P K'.ev o w post) : OpGoal P l K o w post := by
  simp only [Bool.and_eq_true] at hx
  unfold OpGoal
  rw [hg]
  refine ⟨some b, hc, fun _ => ?_, fun hne => absurd rfl hne⟩
  unfold OpRun at *
  rw [exec_sub hs hx.1 hx.2]
  exact h
theorem goal_no {P : Program} {l : List Oper} {K : St} {o : Oper} {w : World} {post : Value → World → Prop} {g : Nat} {b : Bool} {c : Option Bool} (hg : o.guard = some (g, b)) (hc : gval l.toArray K g = some c) (hne : c ≠ some b) (h : post undef w) : OpGoal P l K o w post := by
  unfold OpGoal
  rw [hg]
  exact ⟨c, hc, fun e => absurd e hne, fun _ => h⟩
theorem run_val {P : Program} {ρ : Operand → Value} {o : Oper} {w : World} {post : Value → World → Prop} (v : Value) {w' : World} (h : (execOp ρ o).run P w = .ok (.value v) w') (hp : post v w') : OpRun P ρ o w post := .inl ⟨v, w', h, hp⟩
theorem run_skip {P : Program} {ρ : Operand → Value} {o : Oper} {w : World} {post : Value → World → Prop} {w' : World} (h : (execOp ρ o).run P w = .ok .skip w') (hp : post undef w') : OpRun P ρ o w post := .inr (.inl ⟨w', h, hp⟩)
theorem run_call {P : Program} {ρ : Operand → Value} {o : Oper} {w : World} {post : Value → World → Prop} {f : FuncId} {args : Array Value} {w' : World} {R : Value → World → Prop} (h : (execOp ρ o).run P w = .ok (.enter f args) w') (hc : Calls P f args w' fun e w'' => ∃ v, e = .returned v ∧ R v w'') (hp : ∀ v w'', R v w'' → post v w'') : OpRun P ρ o w post :=
  .inr (.inr ⟨f, args, w', h, hc.mono fun e w'' ⟨v, he, hv⟩ => ⟨v, he, hp _ _ hv⟩⟩)

theorem untold {C : List (Option Value)} {i : Nat} {v : Value} (h : C[i]? = some none) : ∀ c, C[i]? = some (some c) → v = c := by
  intro c hc
  rw [h] at hc
  cases hc
def Each (F : Nat → Oper → Prop) : Nat → List Oper → Prop
  | _, [] => True
  | k, o :: r => F k o ∧ Each F (k + 1) r
theorem Each.at_ {F : Nat → Oper → Prop} : ∀ {l : List Oper} {k i : Nat} {o : Oper}, Each F k l → l[i]? = some o → F (k + i) o
  | [], _, _, _, _, h => by simp at h
  | o' :: r, k, 0, o, h, hi => by simp at hi; subst hi; exact h.1
  | o' :: r, k, i + 1, o, h, hi => by
    have := Each.at_ (i := i) (o := o) h.2 (by simpa using hi)
    rwa [show k + 1 + i = k + (i + 1) by omega] at this

def asFn (a : Array Bool) : Nat → Bool := fun j => a.getD j false
structure Now (n : Nat) (K : St) (l : List Oper) (C : List (Option Value)) (D : Nat → Bool) (V : Nat → Value) (a : Act) : Prop where
  size : a.tmps.size = n
  defers : a.defers = []
  slot : ∀ t v, slotD C V D t l 0 (K.lookup t) = some v → a.tmps[t]? = some v

theorem testBit_or_pow {s m b j : Nat} (h : (s ||| 2 ^ b ||| m).testBit j = true) : s.testBit j = true ∨ j = b ∨ m.testBit j = true := by
  simp only [Nat.testBit_or, Bool.or_eq_true, Nat.testBit_two_pow, decide_eq_true_eq] at h
  rcases h with (h | h) | h
  · exact .inl h
  · exact .inr (.inl h.symm)
  · exact .inr (.inr h)
/-- what an operation waits for has been done -/
theorem mask_done {l : List Oper} {M : List Nat} {D : Nat → Bool} (hM : ∀ i o, l[i]? = some o → (∀ e ∈ o.after.toList, Region.binds .any e = true → e.on < i) ∧ M.getD i 0 = maskOf M o)
    (hcl : ∀ i o, l[i]? = some o → D i = true → ∀ e ∈ o.after.toList, Region.binds .any e = true → D e.on = true) : ∀ (i : Nat) (o : Oper), l[i]? = some o → (∀ e ∈ o.after.toList, Region.binds .any e = true → D e.on = true) → ∀ j, (M.getD i 0).testBit j = true → D j = true := by
  intro i
  induction i using Nat.strongRecOn with
  | _ i ih =>
    intro o ho hd j hj
    obtain ⟨hlt, hm⟩ := hM i o ho
    rw [hm] at hj
    unfold maskOf at hj
    have key : ∀ (es : List Edge), (∀ e ∈ es, Region.binds .any e = true → D e.on = true ∧ e.on < i) → (es.foldr (fun e s => if Region.binds .any e then s ||| 2 ^ e.on ||| M.getD e.on 0 else s) 0).testBit j = true → D j = true := by
      intro es
      induction es with
      | nil => intro _ h; simp at h
      | cons e es ih2 =>
        intro hes h
        simp only [List.foldr_cons] at h
        by_cases hb : Region.binds .any e = true
        · rw [if_pos hb] at h
          obtain ⟨h1, h2⟩ := hes e (by simp) hb
          rcases testBit_or_pow h with h | h | h
          · exact ih2 (fun e' he' => hes e' (by simp [he'])) h
          · subst h; exact h1
          · cases hon : l[e.on]? with
            | none =>
              exfalso
              have hil : i < l.length := (List.getElem?_eq_some_iff.1 ho).1
              have := List.getElem?_eq_none_iff.1 hon
              omega
            | some oe => exact ih e.on h2 oe hon (hcl e.on oe hon h1) j h
        · rw [if_neg hb] at h
          exact ih2 (fun e' he' => hes e' (by simp [he'])) h
    exact key _ (fun e he hb => ⟨hd e he hb, hlt e he hb⟩) hj

theorem k_draw {P : Program} {n : Nat} {Q : Exit → Act → World → Prop} {K : St} {w : World} {id : Nat} {l : List Oper} (hm : P.follows .mixedOrders = true) (M : List Nat) (C : List (Option Value)) (hck : drawOk n K l M = true)
    (W : (Nat → Bool) → (Nat → Value) → World → Prop) (h0 : ∀ V, W (fun _ => false) V w.drew)
    (hops : Each (fun i o => ∀ D V w, (∀ j, (M.getD i 0).testBit j = true → D j = true) → D i = false → W D V w → OpGoal P l (endK C V (l.take i) 0 K) o w (fun v w' => (∀ c, C[i]? = some (some c) → v = c) ∧ W (upd D i true) (upd V i v) w')) 0 l)
    (hend : ∀ D V w, (∀ i, i < l.length → D i = true) → W D V w → Ends n Q .normal (endK C V l 0 K) w) : wpK P n (.region id l.toArray true) Q K w := by
  intro a ha
  refine wp_region_any hm ?_
  have hall := List.all_eq_true.1 hck
  have hopk : ∀ i o, l[i]? = some o → opOk n K l M i o = true := fun i o h => hall (o, i) (List.mk_mem_zipIdx_iff_getElem?.2 h)
  have hMs : ∀ i o, l[i]? = some o → (∀ e ∈ o.after.toList, Region.binds .any e = true → e.on < i) ∧ M.getD i 0 = maskOf M o := by
    intro i o h
    have := hopk i o h
    simp only [opOk, Bool.and_eq_true, List.all_eq_true, beq_iff_eq, Bool.or_eq_true, Bool.not_eq_true'] at this
    exact ⟨fun e he hb => by
      rcases this.1.1.1.1.1.1 e he with h | h
      · rw [h] at hb; cases hb
      · simpa using h, this.1.1.1.1.1.2⟩
  have htemp : ∀ i o, l[i]? = some o → ∀ t ∈ slotsOf l o, ∀ j p, l[j]? = some p → j ≠ i → p.dst = some t → (M.getD (max i j) 0).testBit (min i j) = true := by
    intro i o h t ht j p hj hne hd
    have := hopk i o h
    simp only [opOk, Bool.and_eq_true, List.all_eq_true] at this
    have h2 := this.1.1.2 t ht (p, j) (List.mk_mem_zipIdx_iff_getElem?.2 hj)
    simp only [Bool.or_eq_true, beq_iff_eq, bne_iff_ne, ne_eq] at h2
    rcases h2 with (h2 | h2) | h2
    · exact absurd h2 hne
    · exact absurd hd h2
    · exact h2
  have main : ∀ (fuel : Nat) (listed : Array Bool) (V : Nat → Value) (a : Act) (w : World), listed.size = l.length → Now n K l C (asFn listed) V a →
      (∀ i o, l[i]? = some o → asFn listed i = true → ∀ e ∈ o.after.toList, Region.binds .any e = true → asFn listed e.on = true) → W (asFn listed) V w →
      ((List.range l.length).filter (fun i => !asFn listed i)).length ≤ fuel → wpAny P .any l.toArray Q fuel listed a w := by
    intro fuel
    have fin : ∀ (listed : Array Bool) (V : Nat → Value) (a : Act) (w : World), listed.size = l.length → Now n K l C (asFn listed) V a → W (asFn listed) V w → (∀ i, i < l.length → asFn listed i = true) → Q .normal a w := by
      intro listed V a w hsz hnow hW hdone
      refine hend (asFn listed) V w hdone hW a ⟨hnow.size, hnow.defers, fun t v hv => hnow.slot t v ?_⟩
      rw [lookup_endK] at hv
      rw [← hv]
      refine slotD_congr C V V _ _ t l 0 _ (fun j o hj _ => ⟨?_, fun _ => rfl⟩)
      rw [Nat.zero_add]
      exact hdone j (List.getElem?_eq_some_iff.1 hj).1
    have noready : ∀ (listed : Array Bool), listed.size = l.length → Region.ready .any l.toArray listed = [] → ∀ i, i < l.length → asFn listed i = true := by
      intro listed hsz hr i
      induction i using Nat.strongRecOn with
      | _ i ih =>
        intro hi
        cases hl : asFn listed i with
        | true => rfl
        | false =>
          exfalso
          have ho : l[i]? = some l[i] := List.getElem?_eq_getElem hi
          have : i ∈ Region.ready .any l.toArray listed := mem_ready.2 ⟨by
            have : i < listed.size := by omega
            simpa [asFn, this] using hl, l[i], by simp, fun e he hb => by
            have h1 := (hMs i _ ho).1 e (by simpa using he) hb
            exact ih e.on h1 (by omega)⟩
          rw [hr] at this
          cases this
    induction fuel with
    | zero =>
      intro listed V a w hsz hnow hcl hW hcnt
      have hdone : ∀ i, i < l.length → asFn listed i = true := by
        intro i hi
        cases hl : asFn listed i with
        | true => rfl
        | false =>
          have : i ∈ (List.range l.length).filter (fun i => !asFn listed i) := List.mem_filter.2 ⟨List.mem_range.2 hi, by simp [hl]⟩
          have := List.length_pos_of_mem this
          omega
      refine ⟨?_, fin listed V a w hsz hnow hW hdone⟩
      refine List.eq_nil_iff_forall_not_mem.2 (fun i hi => ?_)
      obtain ⟨h1, o, ho, _⟩ := mem_ready.1 hi
      have hil : i < l.length := by simpa using (Array.getElem?_eq_some_iff.1 ho).1
      have := hdone i hil
      have hsz' : i < listed.size := by omega
      simp [asFn, hsz'] at this
      simp [hsz', this] at h1
    | succ fuel ih =>
      intro listed V a w hsz hnow hcl hW hcnt
      refine ⟨fun hr => fin listed V a w hsz hnow hW (noready listed hsz hr), fun i hi => ?_⟩
      obtain ⟨h1, o, ho, hedge⟩ := mem_ready.1 hi
      have ho' : l[i]? = some o := by simpa using ho
      have hil : i < l.length := (List.getElem?_eq_some_iff.1 ho').1
      have hun : asFn listed i = false := by
        have hsz' : i < listed.size := by omega
        simpa [asFn, hsz'] using h1
      have hedge' : ∀ e ∈ o.after.toList, Region.binds .any e = true → asFn listed e.on = true := fun e he hb => hedge e (by simpa using he) hb
      have hmask := mask_done hMs hcl i o ho' hedge'
      have hgoal := Each.at_ hops ho' (asFn listed) V w (by rw [Nat.zero_add]; exact hmask) (by rw [Nat.zero_add]; exact hun) hW
      rw [Nat.zero_add] at hgoal
      -- a slot that the operation names
      have hslot : ∀ t ∈ slotsOf l o, (endK C V (l.take i) 0 K).lookup t = slotD C V (asFn listed) t l 0 (K.lookup t) := by
        intro t ht
        rw [lookup_endK]
        have hsplit : slotD C V (asFn listed) t l 0 (K.lookup t) = slotD C V (asFn listed) t (l.drop i) (0 + (l.take i).length) (slotD C V (asFn listed) t (l.take i) 0 (K.lookup t)) := by
          rw [← slotD_append, List.take_append_drop]
        rw [hsplit]
        have hlen : (l.take i).length = i := by rw [List.length_take]; omega
        have hlate : slotD C V (asFn listed) t (l.drop i) (0 + (l.take i).length) (slotD C V (asFn listed) t (l.take i) 0 (K.lookup t)) = slotD C V (asFn listed) t (l.take i) 0 (K.lookup t) := by
          refine slotD_none C V _ t _ _ _ (fun j p hj hd => ?_)
          rw [List.getElem?_drop] at hj
          rw [hlen, Nat.zero_add]
          rcases Nat.eq_zero_or_pos j with h0 | h0
          · subst h0; simpa using hun
          · cases hl : asFn listed (i + j) with
            | false => rfl
            | true =>
              have hb := htemp i o ho' t ht (i + j) p hj (by omega) hd
              rw [Nat.max_eq_right (by omega), Nat.min_eq_left (by omega)] at hb
              have := mask_done hMs hcl (i + j) p hj (hcl (i + j) p hj hl) i hb
              rw [hun] at this
              cases this
        rw [hlate]
        refine slotD_congr C V V _ _ t (l.take i) 0 _ (fun j p hj hd => ⟨?_, fun _ => rfl⟩)
        have hji : j < i := by have := (List.getElem?_eq_some_iff.1 hj).1; omega
        rw [List.getElem?_take_of_lt hji] at hj
        have hb := htemp i o ho' t ht j p hj (by omega) hd
        rw [Nat.max_eq_left (by omega), Nat.min_eq_right (by omega)] at hb
        rw [Nat.zero_add]
        exact (hmask j hb).symm
      have hok := hopk i o ho'
      simp only [opOk, Bool.and_eq_true] at hok
      obtain ⟨⟨⟨⟨⟨⟨_, _⟩, hsel⟩, hdst⟩, _⟩, hhas⟩, hguard⟩ := hok
      have hread : ∀ t ∈ slotsOf l o, ∀ v, (endK C V (l.take i) 0 K).lookup t = some v → a.tmps[t]? = some v := fun t ht v hv => hnow.slot t v (by rw [← hslot t ht]; exact hv)
      have hsomeK : ∀ t, Operand.tmp t ∈ opnds o.op → ((endK C V (l.take i) 0 K).lookup t).isSome = true := by
        intro t ht
        have h3 := List.all_eq_true.1 hhas (.tmp t) ht
        simp only [Bool.or_eq_true, List.any_eq_true, beq_iff_eq] at h3
        rw [lookup_endK]
        have gen : ∀ (r : List Oper) (k : Nat) (acc : Option Value), (acc.isSome = true ∨ ∃ p ∈ r, p.dst = some t) → (slotD C V (fun _ => true) t r k acc).isSome = true := by
          intro r
          induction r with
          | nil => intro k acc h; rcases h with h | ⟨p, hp, _⟩
                   · exact h
                   · cases hp
          | cons q r ihr =>
            intro k acc h
            unfold slotD
            refine ihr (k + 1) _ ?_
            by_cases hq : q.dst = some t
            · left; simp [hq]
            · rcases h with h | ⟨p, hp, hd⟩
              · left; simp [hq, h]
              · rcases List.mem_cons.1 hp with rfl | hp
                · exact absurd hd hq
                · exact .inr ⟨p, hp, hd⟩
        exact gen _ _ _ h3
      have hexec : execOp a.eval o = execOp (endK C V (l.take i) 0 K).ev o := by
        refine execOp_congr o (fun cs b e => by simp [noSel, e] at hsel) (fun x hx => ?_)
        have hx' := mem_opnds hsel hx
        cases x with
        | tmp t =>
          obtain ⟨v, hv⟩ := Option.isSome_iff_exists.1 (hsomeK t hx')
          have ht : t ∈ slotsOf l o := by
            unfold slotsOf
            refine List.mem_append_left _ (List.mem_append_left _ (List.mem_filterMap.2 ⟨.tmp t, hx', rfl⟩))
          have := hread t ht v hv
          simp [Act.eval, St.ev, hv, this]
        | _ => rfl
      -- behind it
      have hnext : ∀ v w', ((∀ c, C[i]? = some (some c) → v = c) ∧ W (upd (asFn listed) i true) (upd V i v) w') → wpAny P .any l.toArray Q fuel (listed.setIfInBounds i true) (a.put o.dst v) w' := by
        rintro v w' ⟨hv, hW'⟩
        have hfn : asFn (listed.setIfInBounds i true) = upd (asFn listed) i true := by
          funext j
          by_cases hji : j = i
          · subst hji
            have hsz' : j < listed.size := by omega
            simp [asFn, upd, hsz']
          · have hne : i ≠ j := fun e => hji e.symm
            simp [asFn, upd, hji, Array.getElem?_setIfInBounds_ne hne]
        have hval : val C (upd V i v) i = v := by
          unfold val
          split
          · rename_i c hc; exact (hv c hc).symm
          · exact upd_same _ _ _
        have hvalne : ∀ j, j ≠ i → val C (upd V i v) j = val C V j := by
          intro j hj
          unfold val
          split
          · rfl
          · exact upd_ne _ _ hj
        refine ih (listed.setIfInBounds i true) (upd V i v) (a.put o.dst v) w' (by simpa using hsz) ?_ ?_ (by rw [hfn]; exact hW') ?_
        · refine ⟨?_, ?_, fun t u hu => ?_⟩
          · cases hd : o.dst <;> simp [Act.put, hnow.size]
          · cases hd : o.dst <;> simp [Act.put, hnow.defers]
          · rw [hfn] at hu
            by_cases hdt : o.dst = some t
            · have hts : t ∈ slotsOf l o := by unfold slotsOf; refine List.mem_append_left _ (List.mem_append_right _ ?_); simp [hdt]
              have hnowu : slotD C (upd V i v) (upd (asFn listed) i true) t l 0 (K.lookup t) = some v := by
                have hsplit : l = l.take i ++ (o :: l.drop (i + 1)) := by
                  have h6 := List.take_append_drop i l
                  rw [List.drop_eq_getElem_cons hil, (List.getElem?_eq_some_iff.1 ho').2] at h6
                  exact h6.symm
                have hlen : (l.take i).length = i := by rw [List.length_take]; omega
                conv => lhs; rw [hsplit]
                rw [slotD_append]
                unfold slotD
                rw [hlen, Nat.zero_add, if_pos ⟨upd_same _ _ _, hdt⟩, hval]
                refine slotD_none C _ _ t _ _ _ (fun j p hj hd => ?_)
                rw [List.getElem?_drop] at hj
                rw [show i + 1 + j = i + (1 + j) by omega] at hj ⊢
                rw [upd_ne _ _ (by omega)]
                cases hl : asFn listed (i + (1 + j)) with
                | false => rfl
                | true =>
                  have hb := htemp i o ho' t hts (i + (1 + j)) p hj (by omega) hd
                  rw [Nat.max_eq_right (by omega), Nat.min_eq_left (by omega)] at hb
                  have := mask_done hMs hcl (i + (1 + j)) p hj (hcl _ p hj hl) i hb
                  rw [hun] at this
                  cases this
              rw [hnowu] at hu
              injection hu with hu
              subst hu
              have hsz2 : t < n := by have h4 := hdst; rw [hdt] at h4; simpa [okDst] using h4
              have hsz3 := hnow.size
              rw [hdt]
              simp [Act.put, Array.getElem?_setIfInBounds, hsz3, hsz2]
            · have hold : slotD C (upd V i v) (upd (asFn listed) i true) t l 0 (K.lookup t) = slotD C V (asFn listed) t l 0 (K.lookup t) := by
                refine slotD_congr C _ _ _ _ t l 0 _ (fun j p hj hd => ?_)
                rw [Nat.zero_add]
                have hji : j ≠ i := by
                  intro e
                  subst e
                  rw [ho'] at hj
                  injection hj with hj
                  subst hj
                  exact hdt hd
                exact ⟨upd_ne _ _ hji, fun _ => hvalne j hji⟩
              rw [hold] at hu
              have h5 := hnow.slot t u hu
              cases hd : o.dst with
              | none => exact h5
              | some d =>
                have hne : d ≠ t := fun e => hdt (by rw [hd, e])
                simp [Act.put, Array.getElem?_setIfInBounds_ne hne, h5]
        · intro j p hj hdone e he hb
          rw [hfn] at hdone ⊢
          have honew : asFn listed e.on = true → upd (asFn listed) i true e.on = true := by
            intro h
            by_cases hei : e.on = i
            · rw [hei, upd_same]
            · rw [upd_ne _ _ hei]; exact h
          by_cases hji : j = i
          · subst hji
            rw [ho'] at hj
            injection hj with hj
            subst hj
            exact honew (hedge' e he hb)
          · rw [upd_ne _ _ hji] at hdone
            exact honew (hcl j p hj hdone e he hb)
        · rw [hfn]
          have hlt : ((List.range l.length).filter (fun j => !upd (asFn listed) i true j)).length < ((List.range l.length).filter (fun j => !asFn listed j)).length := by
            have hsub : ((List.range l.length).filter (fun j => !upd (asFn listed) i true j)) = ((List.range l.length).filter (fun j => !asFn listed j)).filter (fun j => j != i) := by
              rw [List.filter_filter]
              congr 1
              funext j
              by_cases hji : j = i
              · subst hji; simp [upd_same]
              · simp [upd_ne _ _ hji, hji]
            rw [hsub]
            exact List.length_filter_lt_length_iff_exists.2 ⟨i, List.mem_filter.2 ⟨List.mem_range.2 hil, by simp [hun]⟩, by simp⟩
          omega
      -- the operation itself
      have hrun : OpRun P (endK C V (l.take i) 0 K).ev o w (fun v w' => (∀ c, C[i]? = some (some c) → v = c) ∧ W (upd (asFn listed) i true) (upd V i v) w') → o.wp P a w (wpAny P .any l.toArray Q fuel (listed.setIfInBounds i true)) Q := by
        intro h
        unfold Oper.wp
        rw [hexec]
        rcases h with ⟨v, w', h1, h2⟩ | ⟨w', h1, h2⟩ | ⟨f, args, w', h1, h2⟩
        · rw [h1]; exact hnext v w' h2
        · rw [h1]; exact hnext undef w' h2
        · rw [h1]; exact h2.mono fun e w'' ⟨v, he, hp⟩ => by subst he; exact hnext v w'' hp
      unfold wpOp
      simp only [ho]
      unfold OpGoal at hgoal
      cases hgd : o.guard with
      | none =>
        rw [hgd] at hgoal
        rw [if_pos (by simp [Region.wanted, hgd])]
        exact .inl (hrun hgoal)
      | some gb =>
        obtain ⟨g, b⟩ := gb
        rw [hgd] at hgoal hguard
        simp only [Bool.and_eq_true] at hguard
        obtain ⟨c, hc, hyes, hno⟩ := hgoal
        have hyield : Go.yielded l.toArray a.tmps g = c := yielded_of (fun t v ht hv => hread t (by
          unfold slotsOf
          refine List.mem_append_right _ ?_
          rw [hgd]
          have : (l[g]?).bind (·.dst) = some t := by simpa using ht
          simp [this]) v hv) hc
        by_cases hcb : c = some b
        · rw [if_pos (by simp [Region.wanted, hgd, hyield, hcb])]
          exact .inl (hrun (hyes hcb))
        · rw [if_neg (by simp [Region.wanted, hgd, hyield, hcb])]
          exact hnext undef w (hno hcb)
  have hstart : Now n K l C (asFn (Array.replicate l.length false)) (fun _ => undef) a := by
    refine ⟨ha.size, ha.defers, fun t v hv => ha.knows t v ?_⟩
    rw [← hv]
    symm
    exact slotD_none C _ _ t l 0 _ (fun j o _ _ => by simp [asFn, Array.getElem?_replicate]; split <;> rfl)
  have := main l.length (Array.replicate l.length false) (fun _ => undef) a w.drew (by simp) hstart (fun i o _ h => by
    exfalso
    simp [asFn, Array.getElem?_replicate] at h
    split at h <;> simp at h) (by
      have : asFn (Array.replicate l.length false) = fun _ => false := by
        funext j
        simp [asFn, Array.getElem?_replicate]
        split <;> rfl
      rw [this]; exact h0 _) (by
      refine Nat.le_trans (List.length_filter_le _ _) (by simp))
  rw [show l.toArray.size = l.length by simp]
  exact this
end Go.Kn
