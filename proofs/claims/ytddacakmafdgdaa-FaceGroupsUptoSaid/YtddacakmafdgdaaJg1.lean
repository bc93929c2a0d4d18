/- Parts of the proof, laid together: KnA, KnB, KnD, KnX, Fn, KnM, KnE, Ma, Fa, Fb, Fc, KnW. -/
import Derived.WalkKit
import Derived.KernelRfl
import Derived.Deep.LoopGhost
import Derived.Deep.Draws
import Derived.Test.YtddacakmafdgdaaProg
section
/- Slots as lists of what is known; the rules of the code over them. -/
set_option linter.unusedVariables false
set_option linter.unusedSimpArgs false
namespace Go.Kn
open Go.RowKit

abbrev St := List (Nat × Value)
def St.ev (K : St) : Operand → Value
  | .tmp t => (K.lookup t).getD undef
  | .const v => v
  | .global g => .pointer (some ⟨g, 0, none⟩)
  | .func f => .func (.func f) #[] #[]
def St.has (K : St) : Operand → Bool
  | .tmp t => (K.lookup t).isSome
  | _ => true
def St.put (K : St) : Option Tmp → Value → St
  | some d, v => (d, v) :: K
  | none, _ => K
def noSel : Op → Bool
  | .select .. => false
  | _ => true
/-- the operands, as a list -/
def opnds : Op → List Operand
  | .alloc _ | .ready _ | .waits _ => []
  | .move x | .assign x | .box _ x | .load _ x | .nilCheck x | .unOp _ _ x | .convert _ _ x | .sliceToArrayPointer _ x | .makeInterface _ x
  | .makeChan _ x | .fieldAddr _ x _ | .field _ x _ | .range _ x | .next x _ | .entry x | .typeAssert x _ _ _ | .extract x _ | .panic x | .recv _ x _ => [x]
  | .pick c a b => [c, a, b]
  | .build _ ps | .buildSlice _ _ ps => ps.toList.map (·.2)
  | .store _ a v | .binOp _ _ a v _ | .makeSlice _ a v | .indexAddr _ a v | .index _ a v | .lookup _ a v _ | .mapEntry _ a v | .send a v => [a, v]
  | .makeFunc _ first captured => first.toList ++ captured.toList
  | .makeMap _ r => r.toList
  | .slice _ x l h m => x :: (l.toList ++ h.toList ++ m.toList)
  | .mapUpdate _ m k v | .entryStore _ m k v | .insert _ m k v => [m, k, v]
  | .call c | .go c | .defer c => (match c.callee with | .value f => [f] | .invoke r _ => [r] | .builtin _ => []) ++ c.args.toList
  | .select .. => []
theorem mem_opnds {op : Op} (hs : noSel op = true) {x : Operand} (h : x ∈ op.operands) : x ∈ opnds op := by
  cases op <;> simp only [Op.operands, opnds, Call.operands] at h ⊢
  case select => simp [noSel] at hs
  case call c => cases hc : c.callee <;> simp_all
  case go c => cases hc : c.callee <;> simp_all
  case defer c => cases hc : c.callee <;> simp_all
  case makeMap t r => cases r <;> simp_all
  case slice t x lo hi mx => cases lo <;> cases hi <;> cases mx <;> simp_all
  all_goals simp_all
def okDst (n : Nat) : Option Tmp → Bool
  | some d => Nat.blt d n
  | none => true
def okOp (n : Nat) (K : St) (o : Oper) : Bool := noSel o.op && (opnds o.op).all K.has && okDst n o.dst

structure At (n : Nat) (K : St) (a : Act) : Prop where
  size : a.tmps.size = n
  defers : a.defers = []
  knows : ∀ i v, K.lookup i = some v → a.tmps[i]? = some v

theorem At.ev {n : Nat} {K : St} {a : Act} (h : At n K a) {x : Operand} (hx : K.has x = true) : a.eval x = K.ev x := by
  cases x with
  | tmp t =>
    simp only [St.has] at hx
    obtain ⟨v, hv⟩ := Option.isSome_iff_exists.1 hx
    have := h.knows t v hv
    simp [Act.eval, St.ev, hv, this]
  | _ => rfl
theorem At.exec {n : Nat} {K : St} {a : Act} {o : Oper} (h : At n K a) (hs : noSel o.op = true) (hx : (opnds o.op).all K.has = true) : execOp a.eval o = execOp K.ev o :=
  execOp_congr o (fun cs b e => by simp [noSel, e] at hs) fun x hm => h.ev (List.all_eq_true.1 hx x (mem_opnds hs hm))
theorem At.put {n : Nat} {K : St} {a : Act} (h : At n K a) (d : Option Tmp) (v : Value) (hd : okDst n d = true) : At n (K.put d v) (a.put d v) := by
  cases d with
  | none => exact h
  | some d =>
    have hlt : d < n := by simpa [okDst] using hd
    refine ⟨by simpa [Act.put] using h.size, h.defers, fun i u hi => ?_⟩
    have hsz := h.size
    simp only [St.put, List.lookup_cons] at hi
    by_cases hid : i = d
    · subst hid
      simp only [beq_self_eq_true] at hi
      injection hi with hi
      subst hi
      simp [Act.put, Array.getElem?_setIfInBounds, hsz, hlt]
    · have : (i == d) = false := by simpa using hid
      simp only [this] at hi
      have h2 := h.knows i u hi
      have hne : d ≠ i := fun e => hid e.symm
      simp [Act.put, Array.getElem?_setIfInBounds_ne hne, h2]
def Sub : St → St → Prop
  | [], _ => True
  | (i, v) :: r, K => K.lookup i = some v ∧ Sub r K
theorem Sub.get {K' K : St} (h : Sub K' K) {i : Nat} {v : Value} (hi : K'.lookup i = some v) : K.lookup i = some v := by
  induction K' with
  | nil => simp at hi
  | cons p r ih =>
    obtain ⟨j, u⟩ := p
    simp only [List.lookup_cons] at hi
    by_cases hij : i = j
    · subst hij
      simp only [beq_self_eq_true] at hi
      injection hi with hi
      subst hi
      exact h.1
    · have : (i == j) = false := by simpa using hij
      simp only [this] at hi
      exact ih h.2 hi
theorem At.sub {n : Nat} {K K' : St} {a : Act} (h : At n K a) (hs : Sub K' K) : At n K' a :=
  ⟨h.size, h.defers, fun i v hi => h.knows i v (hs.get hi)⟩

def wpK (P : Program) (n : Nat) (c : Code) (Q : Exit → Act → World → Prop) (K : St) (w : World) : Prop := ∀ a, At n K a → c.wp P Q a w
/-- a guard, decided: what the slot that it reads yields -/
def gval (ops : Array Oper) (K : St) (j : Nat) : Option (Option Bool) :=
  match ((ops[j]?).bind (·.dst)).bind (fun t => K.lookup t) with
  | some (.bool b) => some (some b)
  | some _ => some none
  | none => none
theorem yielded_of {ops : Array Oper} {K : St} {tmps : Array Value} {j : Nat} {c : Option Bool} (hk : ∀ t v, (ops[j]?).bind (·.dst) = some t → K.lookup t = some v → tmps[t]? = some v) (h : gval ops K j = some c) : Go.yielded ops tmps j = c := by
  unfold gval at h
  unfold Go.yielded
  cases ht : (ops[j]?).bind (·.dst) with
  | none => simp [ht] at h
  | some t =>
    simp only [ht, Option.bind_some] at h ⊢
    cases hv : K.lookup t with
    | none => simp [hv] at h
    | some v =>
      rw [hk t v ht hv]
      simp only [hv] at h ⊢
      cases v <;> simp_all
theorem At.yielded {n : Nat} {K : St} {ops : Array Oper} {a : Act} (ha : At n K a) {j : Nat} {c : Option Bool} (h : gval ops K j = some c) : Go.yielded ops a.tmps j = c :=
  yielded_of (fun t v _ hv => ha.knows t v hv) h
theorem gval_sub {ops : Array Oper} {K K' : St} (hs : Sub K' K) {j : Nat} {c : Option Bool} (h : gval ops K' j = some c) : gval ops K j = some c := by
  unfold gval at *
  cases ht : (ops[j]?).bind (·.dst) with
  | none => simp [ht] at h
  | some t =>
    simp only [ht, Option.bind_some] at h ⊢
    cases hv : K'.lookup t with
    | none => simp [hv] at h
    | some v => rw [hs.get hv]; simp only [hv] at h; exact h
/-- one operation's run -/
def OpRun (P : Program) (ρ : Operand → Value) (o : Oper) (w : World) (post : Value → World → Prop) : Prop :=
  (∃ v w', (execOp ρ o).run P w = .ok (.value v) w' ∧ post v w') ∨ (∃ w', (execOp ρ o).run P w = .ok .skip w' ∧ post undef w') ∨
  (∃ f args w', (execOp ρ o).run P w = .ok (.enter f args) w' ∧ Calls P f args w' fun e w'' => ∃ v, e = .returned v ∧ post v w'')
theorem OpRun.mono {P : Program} {ρ : Operand → Value} {o : Oper} {w : World} {post post' : Value → World → Prop} (h : OpRun P ρ o w post) (hp : ∀ v w, post v w → post' v w) : OpRun P ρ o w post' := by
  rcases h with ⟨v, w', h1, h2⟩ | ⟨w', h1, h2⟩ | ⟨f, args, w', h1, h2⟩
  · exact .inl ⟨v, w', h1, hp _ _ h2⟩
  · exact .inr (.inl ⟨w', h1, hp _ _ h2⟩)
  · exact .inr (.inr ⟨f, args, w', h1, h2.mono fun e w'' ⟨v, he, hv⟩ => ⟨v, he, hp _ _ hv⟩⟩)
theorem ev_sub {K K' : St} (hs : Sub K' K) {x : Operand} (hx : K'.has x = true) : K.ev x = K'.ev x := by
  cases x with
  | tmp t =>
    simp only [St.has] at hx
    obtain ⟨v, hv⟩ := Option.isSome_iff_exists.1 hx
    simp [St.ev, hv, hs.get hv]
  | _ => rfl
theorem has_sub {K K' : St} (hs : Sub K' K) {x : Operand} (hx : K'.has x = true) : K.has x = true := by
  cases x with
  | tmp t =>
    simp only [St.has] at hx ⊢
    obtain ⟨v, hv⟩ := Option.isSome_iff_exists.1 hx
    simp [hs.get hv]
  | _ => rfl
theorem exec_sub {K K' : St} {o : Oper} (hs : Sub K' K) (hn : noSel o.op = true) (hx : (opnds o.op).all K'.has = true) : execOp K.ev o = execOp K'.ev o :=
  execOp_congr o (fun cs b e => by simp [noSel, e] at hn) fun x hm => ev_sub hs (List.all_eq_true.1 hx x (mem_opnds hn hm))
theorem lookup_put {K : St} {d : Option Tmp} {v u : Value} {i : Nat} (h : (K.put d v).lookup i = some u) : (d = some i ∧ u = v) ∨ (d ≠ some i ∧ K.lookup i = some u) := by
  cases d with
  | none => exact .inr ⟨by simp, h⟩
  | some d =>
    simp only [St.put, List.lookup_cons] at h
    by_cases e : i = d
    · subst e
      simp only [beq_self_eq_true] at h
      injection h with h
      exact .inl ⟨rfl, h.symm⟩
    · have : (i == d) = false := by simpa using e
      simp only [this] at h
      exact .inr ⟨fun e2 => e (by injection e2 with e2; exact e2.symm), h⟩
/-- what is known, as a relation of lookups -/
def Le (K' K : St) : Prop := ∀ i v, K'.lookup i = some v → K.lookup i = some v
theorem Sub.le {K' K : St} (h : Sub K' K) : Le K' K := fun i v hv => h.get hv
theorem Le.put {K' K : St} (h : Le K' K) (d : Option Tmp) (v : Value) : Le (K'.put d v) (K.put d v) := by
  intro i u hu
  rcases lookup_put hu with ⟨rfl, rfl⟩ | ⟨hne, h2⟩
  · simp [St.put, List.lookup_cons]
  · cases d with
    | none => exact h i u h2
    | some d =>
      have : (i == d) = false := by simpa using fun e => hne (by rw [e])
      simp [St.put, List.lookup_cons, this, h i u h2]
theorem Le.ev {K K' : St} (hs : Le K' K) {x : Operand} (hx : K'.has x = true) : K.ev x = K'.ev x := by
  cases x with
  | tmp t =>
    simp only [St.has] at hx
    obtain ⟨v, hv⟩ := Option.isSome_iff_exists.1 hx
    simp [St.ev, hv, hs t v hv]
  | _ => rfl
theorem Le.has {K K' : St} (hs : Le K' K) {x : Operand} (hx : K'.has x = true) : K.has x = true := by
  cases x with
  | tmp t =>
    simp only [St.has] at hx ⊢
    obtain ⟨v, hv⟩ := Option.isSome_iff_exists.1 hx
    simp [hs t v hv]
  | _ => rfl
theorem Le.exec {K K' : St} {o : Oper} (hs : Le K' K) (hn : noSel o.op = true) (hx : (opnds o.op).all K'.has = true) : execOp K.ev o = execOp K'.ev o :=
  execOp_congr o (fun cs b e => by simp [noSel, e] at hn) fun x hm => hs.ev (List.all_eq_true.1 hx x (mem_opnds hn hm))
theorem Le.gval {ops : Array Oper} {K K' : St} (hs : Le K' K) {j : Nat} {c : Option Bool} (h : gval ops K' j = some c) : Kn.gval ops K j = some c := by
  unfold Kn.gval at *
  cases ht : (ops[j]?).bind (·.dst) with
  | none => simp [ht] at h
  | some t =>
    simp only [ht, Option.bind_some] at h ⊢
    cases hv : K'.lookup t with
    | none => simp [hv] at h
    | some v => rw [hs t v hv]; simp only [hv] at h; exact h
theorem At.le {n : Nat} {K K' : St} {a : Act} (h : At n K a) (hs : Le K' K) : At n K' a := ⟨h.size, h.defers, fun i v hi => h.knows i v (hs i v hi)⟩
/-- one operation with its guard -/
def OpGo (P : Program) (ops : Array Oper) (K : St) (o : Oper) (w : World) (post : Value → World → Prop) : Prop :=
  match o.guard with
  | none => (noSel o.op && (opnds o.op).all K.has) = true ∧ OpRun P K.ev o w post
  | some (g, b) => ∃ c : Option Bool, gval ops K g = some c ∧ (c = some b → (noSel o.op && (opnds o.op).all K.has) = true ∧ OpRun P K.ev o w post) ∧ (c ≠ some b → post undef w)
/-- operations in the text's order -/
def wpR (P : Program) (n : Nat) (ops : Array Oper) (Q : Exit → Act → World → Prop) : List Oper → St → World → Prop
  | [], K, w => ∀ a, At n K a → Q .normal a w
  | o :: r, K, w => okDst n o.dst = true ∧ OpGo P ops K o w (fun v w' => wpR P n ops Q r (K.put o.dst v) w')
theorem OpRun.wp {P : Program} {n : Nat} {K : St} {o : Oper} {w : World} {post : Value → World → Prop} {a : Act} (ha : At n K a) (hok : (noSel o.op && (opnds o.op).all K.has) = true) (h : OpRun P K.ev o w post) {N : Act → World → Prop} {Q : Exit → Act → World → Prop} (hN : ∀ v w', post v w' → N (a.put o.dst v) w') : o.wp P a w N Q := by
  simp only [Bool.and_eq_true] at hok
  unfold Oper.wp
  rw [ha.exec hok.1 hok.2]
  rcases h with ⟨v, w', h1, h2⟩ | ⟨w', h1, h2⟩ | ⟨f, args, w', h1, h2⟩
  · rw [h1]; exact hN _ _ h2
  · rw [h1]; exact hN _ _ h2
  · rw [h1]; exact h2.mono fun e w'' ⟨v, he, hp⟩ => by subst he; exact hN _ _ hp
theorem wpR_sound {P : Program} {n : Nat} {ops : Array Oper} {Q : Exit → Act → World → Prop} : ∀ {l : List Oper} {K : St} {w : World}, wpR P n ops Q l K w → ∀ a, At n K a → wpList P ops Q l a w
  | [], K, w, h, a, ha => h a ha
  | o :: r, K, w, h, a, ha => by
    obtain ⟨hd, h⟩ := h
    unfold OpGo at h
    unfold wpList
    cases hg : o.guard with
    | none =>
      rw [hg] at h
      obtain ⟨hok, h⟩ := h
      rw [if_pos (by simp [Region.wanted, hg])]
      exact .inl (h.wp ha hok (fun v w' hv => wpR_sound hv _ (ha.put _ _ hd)))
    | some gb =>
      obtain ⟨g, b⟩ := gb
      rw [hg] at h
      obtain ⟨c, hc, hyes, hno⟩ := h
      by_cases hcb : c = some b
      · rw [if_pos (by simp [Region.wanted, hg, ha.yielded hc, hcb])]
        obtain ⟨hok, h⟩ := hyes hcb
        exact .inl (h.wp ha hok (fun v w' hv => wpR_sound hv _ (ha.put _ _ hd)))
      · rw [if_neg (by simp [Region.wanted, hg, ha.yielded hc, hcb])]
        exact wpR_sound (hno hcb) _ (ha.put _ _ hd)
theorem OpGo.le {P : Program} {ops : Array Oper} {K K' : St} {o : Oper} {w : World} {post post' : Value → World → Prop} (hs : Le K' K) (h : OpGo P ops K' o w post) (hp : ∀ v w, post v w → post' v w) : OpGo P ops K o w post' := by
  unfold OpGo at *
  have hok : (noSel o.op && (opnds o.op).all K'.has) = true → (noSel o.op && (opnds o.op).all K.has) = true := by
    simp only [Bool.and_eq_true]
    exact fun ⟨h1, h2⟩ => ⟨h1, List.all_eq_true.2 fun x hx => hs.has (List.all_eq_true.1 h2 x hx)⟩
  have hrun : (noSel o.op && (opnds o.op).all K'.has) = true → OpRun P K'.ev o w post → OpRun P K.ev o w post' := by
    intro h1 h2
    simp only [Bool.and_eq_true] at h1
    have := h2.mono hp
    unfold OpRun at *
    rw [hs.exec h1.1 h1.2]
    exact this
  cases hg : o.guard with
  | none =>
    rw [hg] at h
    exact ⟨hok h.1, hrun h.1 h.2⟩
  | some gb =>
    obtain ⟨g, b⟩ := gb
    rw [hg] at h
    obtain ⟨c, hc, hyes, hno⟩ := h
    exact ⟨c, hs.gval hc, fun e => ⟨hok (hyes e).1, hrun (hyes e).1 (hyes e).2⟩, fun e => hp _ _ (hno e)⟩
theorem wpR_le {P : Program} {n : Nat} {ops : Array Oper} {Q : Exit → Act → World → Prop} : ∀ {l : List Oper} {K K' : St} {w : World}, Le K' K → wpR P n ops Q l K' w → wpR P n ops Q l K w
  | [], K, K', w, hs, h => fun a ha => h a (ha.le hs)
  | o :: r, K, K', w, hs, h => ⟨h.1, h.2.le hs (fun v w' hv => wpR_le (hs.put _ _) hv)⟩
def Ends (n : Nat) (Q : Exit → Act → World → Prop) (e : Exit) (K : St) (w : World) : Prop := ∀ a, At n K a → Q e a w
def cont (P : Program) (y : Code) (Q : Exit → Act → World → Prop) : Exit → Act → World → Prop := Exit.then (y.wp P Q) Q

section
variable {P : Program} {n : Nat} {ops : Array Oper} {Q : Exit → Act → World → Prop} {K : St} {w : World}

theorem wpK_sub {c : Code} (K' : St) (hs : Sub K' K) (h : wpK P n c Q K' w) : wpK P n c Q K w := fun a ha => h a (ha.sub hs)
theorem wpR_sub {l : List Oper} (K' : St) (hs : Sub K' K) (h : wpR P n ops Q l K' w) : wpR P n ops Q l K w := wpR_le hs.le h
theorem ends_sub {e : Exit} (K' : St) (hs : Sub K' K) (h : Ends n Q e K' w) : Ends n Q e K w := fun a ha => h a (ha.sub hs)

/-- the rules of the code -/
theorem k_seq {x y : Code} (h : wpK P n x (cont P y Q) K w) : wpK P n (.seq x y) Q K w := fun a ha => wp_seq (h a ha)
theorem k_region {id : Nat} {l : List Oper} (h : wpR P n l.toArray Q l K w) : wpK P n (.region id l.toArray false) Q K w := fun a ha => wp_region_lit (wpR_sound h a ha)
theorem k_skip (h : Ends n Q .normal K w) : wpK P n .skip Q K w := fun a ha => wp_skip (h a ha)
theorem k_exit {id : Nat} (h : Ends n Q (.exit id) K w) : wpK P n (.exit id) Q K w := fun a ha => wp_exit (h a ha)
theorem k_ret (h : Ends n Q .ret K w) : wpK P n .ret Q K w := fun a ha => wp_ret (h a ha)
theorem k_block {id : Nat} {c : Code} (h : wpK P n c (Exit.inBlock id Q) K w) : wpK P n (.block id c) Q K w := fun a ha => wp_block (h a ha)
theorem k_cond {c : Operand} {x y : Code} {p : Bool} (hx : K.has c = true) (hc : K.ev c = .bool p) (ht : p = true → wpK P n x Q K w) (hf : p = false → wpK P n y Q K w) : wpK P n (.cond c x y) Q K w :=
  fun a ha => wp_cond_split (by rw [ha.ev hx]; exact hc) (fun h => ht h a ha) (fun h => hf h a ha)
theorem k_cond_true {c : Operand} {x y : Code} (hx : K.has c = true) (hc : K.ev c = .bool true) (ht : wpK P n x Q K w) : wpK P n (.cond c x y) Q K w :=
  k_cond hx hc (fun _ => ht) (fun h => by cases h)
theorem k_cond_false {c : Operand} {x y : Code} (hx : K.has c = true) (hc : K.ev c = .bool false) (hf : wpK P n y Q K w) : wpK P n (.cond c x y) Q K w :=
  k_cond hx hc (fun h => by cases h) (fun _ => hf)
theorem r_nil (h : Ends n Q .normal K w) : wpR P n ops Q [] K w := h

/-- exits -/
theorem e_then {y : Code} (h : wpK P n y Q K w) : Ends n (cont P y Q) .normal K w := fun a ha => h a ha
theorem e_then_exit {y : Code} {i : Nat} (h : Ends n Q (.exit i) K w) : Ends n (cont P y Q) (.exit i) K w := fun a ha => h a ha
theorem e_then_ret {y : Code} (h : Ends n Q .ret K w) : Ends n (cont P y Q) .ret K w := fun a ha => h a ha
theorem e_blk {i : Nat} (h : Ends n Q .normal K w) : Ends n (Exit.inBlock i Q) .normal K w := fun a ha => h a ha
theorem e_blk_ret {i : Nat} (h : Ends n Q .ret K w) : Ends n (Exit.inBlock i Q) .ret K w := fun a ha => h a ha
theorem e_blk_exit {i : Nat} (h : Ends n Q .normal K w) : Ends n (Exit.inBlock i Q) (.exit i) K w := fun a ha => by
  show (if i = i then Q .normal a w else Q (.exit i) a w); rw [if_pos rfl]; exact h a ha
theorem e_blk_ne {i j : Nat} (hne : j ≠ i) (h : Ends n Q (.exit j) K w) : Ends n (Exit.inBlock i Q) (.exit j) K w := fun a ha => by
  show (if j = i then Q .normal a w else Q (.exit j) a w); rw [if_neg hne]; exact h a ha

/-- a loop with a ghost state -/
def loopQ {σ : Type} (n : Nat) (Kf : σ → St) (F : σ → World → Prop) (μ : σ → Nat) (s : σ) (Q : Exit → Act → World → Prop) : Exit → Act → World → Prop :=
  Exit.then (fun a' w' => ∃ s', At n (Kf s') a' ∧ F s' w' ∧ μ s' < μ s) Q
theorem k_loop {σ : Type} {c : Code} (Kf : σ → St) (F : σ → World → Prop) (μ : σ → Nat) (s0 : σ) (hs : Sub (Kf s0) K) (hF : F s0 w)
    (round : ∀ s w, F s w → wpK P n c (loopQ n Kf F μ s Q) (Kf s) w) : wpK P n (.loop c) Q K w := fun a ha => by
  refine wp_loop_ghost (fun m a w => ∃ s, μ s = m ∧ At n (Kf s) a ∧ F s w) (μ s0) ⟨s0, rfl, ha.sub hs, hF⟩ ?_
  rintro m a w ⟨s, rfl, hat, hf⟩
  refine wp_mono (round s w hf a hat) ?_
  intro e a' w' hq
  cases e with
  | normal =>
    obtain ⟨s', h1, h2, h3⟩ := hq
    exact ⟨μ s', h3, s', rfl, h1, h2⟩
  | exit id => exact hq
  | goto l => exact hq
  | ret => exact hq
  | panic ch => exact hq
  | outgrown => exact hq
theorem e_loop {σ : Type} {Kf : σ → St} {F : σ → World → Prop} {μ : σ → Nat} {s : σ} (s' : σ) (hs : Sub (Kf s') K) (hF : F s' w) (hμ : μ s' < μ s) : Ends n (loopQ n Kf F μ s Q) .normal K w :=
  fun a ha => ⟨s', ha.sub hs, hF, hμ⟩
theorem e_loop_exit {σ : Type} {Kf : σ → St} {F : σ → World → Prop} {μ : σ → Nat} {s : σ} {i : Nat} (h : Ends n Q (.exit i) K w) : Ends n (loopQ n Kf F μ s Q) (.exit i) K w := fun a ha => h a ha
theorem e_loop_ret {σ : Type} {Kf : σ → St} {F : σ → World → Prop} {μ : σ → Nat} {s : σ} (h : Ends n Q .ret K w) : Ends n (loopQ n Kf F μ s Q) .ret K w := fun a ha => h a ha

/-- ways that meet again: state J (slots and facts) at the end of a piece -/
theorem k_join {c y : Code} {σ : Type} (Kf : σ → St) (F : σ → World → Prop) (h : wpK P n c (Exit.then (fun a' w' => ∃ s, At n (Kf s) a' ∧ F s w') Q) K w)
    (h2 : ∀ s w, F s w → wpK P n y Q (Kf s) w) : wpK P n (.seq c y) Q K w := fun a ha => by
  refine wp_seq (wp_mono (h a ha) ?_)
  intro e a' w' hq
  cases e with
  | normal => obtain ⟨s, h1, hf⟩ := hq; exact h2 s w' hf a' h1
  | exit id => exact hq
  | goto l => exact hq
  | ret => exact hq
  | panic ch => exact hq
  | outgrown => exact hq
theorem e_join {σ : Type} {Kf : σ → St} {F : σ → World → Prop} (s : σ) (hs : Sub (Kf s) K) (hF : F s w) : Ends n (Exit.then (fun a' w' => ∃ s, At n (Kf s) a' ∧ F s w') Q) .normal K w :=
  fun a ha => ⟨s, ha.sub hs, hF⟩
theorem e_join_exit {J : Act → World → Prop} {i : Nat} (h : Ends n Q (.exit i) K w) : Ends n (Exit.then J Q) (.exit i) K w := fun a ha => h a ha
theorem e_join_ret {J : Act → World → Prop} (h : Ends n Q .ret K w) : Ends n (Exit.then J Q) .ret K w := fun a ha => h a ha

/-- one operation -/
theorem r_run {o : Oper} {rest : List Oper} (hg : o.guard = none) (hx : okOp n K o = true) (hr : OpRun P K.ev o w (fun v w' => wpR P n ops Q rest (K.put o.dst v) w')) : wpR P n ops Q (o :: rest) K w := by
  simp only [okOp, Bool.and_eq_true] at hx
  refine ⟨hx.2, ?_⟩
  unfold OpGo
  rw [hg]
  exact ⟨by simp only [Bool.and_eq_true]; exact hx.1, hr⟩
theorem r_val {o : Oper} {rest : List Oper} {v : Value} {w' : World} (hg : o.guard = none) (hx : okOp n K o = true) (hr : (execOp K.ev o).run P w = .ok (.value v) w') (h : wpR P n ops Q rest (K.put o.dst v) w') : wpR P n ops Q (o :: rest) K w :=
  r_run hg hx (.inl ⟨v, w', hr, h⟩)
theorem r_skip {o : Oper} {rest : List Oper} {w' : World} (hg : o.guard = none) (hx : okOp n K o = true) (hr : (execOp K.ev o).run P w = .ok .skip w') (h : wpR P n ops Q rest (K.put o.dst undef) w') : wpR P n ops Q (o :: rest) K w :=
  r_run hg hx (.inr (.inl ⟨w', hr, h⟩))
theorem r_call {o : Oper} {rest : List Oper} {f : FuncId} {args : Array Value} {w' : World} {R : Value → World → Prop} (hg : o.guard = none) (hx : okOp n K o = true) (hr : (execOp K.ev o).run P w = .ok (.enter f args) w')
    (hc : Calls P f args w' fun e w'' => ∃ v, e = .returned v ∧ R v w'') (h : ∀ v w'', R v w'' → wpR P n ops Q rest (K.put o.dst v) w'') : wpR P n ops Q (o :: rest) K w :=
  r_run hg hx (.inr (.inr ⟨f, args, w', hr, hc.mono fun e w'' ⟨v, he, hR⟩ => ⟨v, he, h v w'' hR⟩⟩))
theorem r_no {o : Oper} {rest : List Oper} {j : Nat} {b : Bool} {c : Option Bool} (hg : o.guard = some (j, b)) (hy : gval ops K j = some c) (hne : c ≠ some b) (hx : okDst n o.dst = true) (h : wpR P n ops Q rest (K.put o.dst undef) w) : wpR P n ops Q (o :: rest) K w := by
  refine ⟨hx, ?_⟩
  unfold OpGo
  rw [hg]
  exact ⟨c, hy, fun e => absurd e hne, fun _ => h⟩
theorem r_yes {o : Oper} {rest : List Oper} {j : Nat} {b : Bool} (hg : o.guard = some (j, b)) (hy : gval ops K j = some (some b)) (h : wpR P n ops Q ({ o with guard := none } :: rest) K w) : wpR P n ops Q (o :: rest) K w := by
  obtain ⟨hd, h⟩ := h
  refine ⟨hd, ?_⟩
  unfold OpGo at h ⊢
  rw [hg]
  simp only [] at h
  exact ⟨some b, hy, fun _ => h, fun hne => absurd rfl hne⟩
end

/-- the call -/
theorem calls_k {P : Program} {f : FuncId} {fn : Func} {c : Code} {args : List Value} {w : World} {R : Ending → World → Prop} (n : Nat) (K : St)
    (hf : P.funcs[f]? = some fn) (hb : fn.body = some c) (hn : Nat.max args.length fn.ntmps = n) (hK : Sub K (args.zipIdx.map fun p => (p.2, p.1)))
    (h : wpK P n c (bodyPost P fn R) K w) : Calls P f args.toArray w R := by
  refine calls_of_wp hf hb (h _ ?_)
  refine At.sub (K := args.zipIdx.map fun p => (p.2, p.1)) ⟨?_, rfl, ?_⟩ hK
  · simp only [Array.size_append, List.size_toArray, Array.size_replicate]
    rw [← hn]; simp only [Nat.max_def]; split <;> omega
  · intro i v hi
    have key : ∀ (l : List Value) (k : Nat), (l.zipIdx k |>.map fun p => (p.2, p.1)).lookup i = some v → k ≤ i ∧ l[i - k]? = some v := by
      intro l
      induction l with
      | nil => intro k h; simp at h
      | cons x l ih =>
        intro k h
        simp only [List.zipIdx_cons, List.map_cons, List.lookup_cons] at h
        by_cases hik : i = k
        · subst hik
          simp only [beq_self_eq_true] at h
          exact ⟨Nat.le_refl _, by simpa using h⟩
        · have : (i == k) = false := by simpa using hik
          simp only [this] at h
          obtain ⟨h1, h2⟩ := ih (k + 1) h
          refine ⟨by omega, ?_⟩
          rw [show i - k = (i - (k + 1)) + 1 by omega]
          simpa using h2
    obtain ⟨_, h2⟩ := key args 0 hi
    have h3 : args[i]? = some v := by simpa using h2
    have hlt : i < args.length := by
      rcases Nat.lt_or_ge i args.length with h | h
      · exact h
      · simp [List.getElem?_eq_none h] at h3
    rw [Array.getElem?_append_left (by simpa using hlt)]
    simpa using h3

/-- what a function hands back -/
def St.res (K : St) (P : Program) (w : World) : ResultVar → Option Value
  | .tmp t => K.lookup t
  | .cell p ty => match K.lookup p with
    | some (.pointer (some ad)) => match (loadVar ty ad).run P w with
      | .ok v _ => some v
      | _ => none
    | _ => none
section
variable {P : Program} {n : Nat} {K : St} {w : World} {fn : Func} {R : Ending → World → Prop}
theorem e_ret1 {t : Tmp} {v : Value} (hr : fn.results = #[.tmp t]) (hv : K.lookup t = some v) (h : R (.returned v) w) : Ends n (bodyPost P fn R) .ret K w :=
  fun a ha => bodyPost_ret (results_tmp hr _ _ _) ha.defers (by rw [Array.getD_eq_getD_getElem?, ha.knows t v hv]; exact h)
theorem e_ret2 {t u : Tmp} {v v' : Value} (hr : fn.results = #[.tmp t, .tmp u]) (hv : K.lookup t = some v) (hu : K.lookup u = some v') (h : R (.returned (.tuple #[v, v'])) w) : Ends n (bodyPost P fn R) .ret K w :=
  fun a ha => bodyPost_ret (results_tmp2 hr _ _ _) ha.defers (by simp only [Array.getD_eq_getD_getElem?, ha.knows t v hv, ha.knows u v' hu]; exact h)
theorem results_tmp3' {t u z : Tmp} (h : fn.results = #[.tmp t, .tmp u, .tmp z]) (tmps : Array Value) (P : Program) (w : World) :
    (results fn tmps).run P w = .ok (.tuple #[tmps.getD t undef, tmps.getD u undef, tmps.getD z undef]) w := by
  simp [results, h]
theorem e_ret3 {t u z : Tmp} {v v' v'' : Value} (hr : fn.results = #[.tmp t, .tmp u, .tmp z]) (hv : K.lookup t = some v) (hu : K.lookup u = some v') (hz : K.lookup z = some v'') (h : R (.returned (.tuple #[v, v', v''])) w) : Ends n (bodyPost P fn R) .ret K w :=
  fun a ha => bodyPost_ret (results_tmp3' hr _ _ _) ha.defers (by simp only [Array.getD_eq_getD_getElem?, ha.knows t v hv, ha.knows u v' hu, ha.knows z v'' hz]; exact h)
theorem e_end0 (hr : fn.results = #[]) (h : R (.returned (.tuple #[])) w) : Ends n (bodyPost P fn R) .normal K w :=
  fun a ha => bodyPost_end (results_none hr _ _ _) ha.defers h
theorem e_ret0 (hr : fn.results = #[]) (h : R (.returned (.tuple #[])) w) : Ends n (bodyPost P fn R) .ret K w :=
  fun a ha => bodyPost_ret (results_none hr _ _ _) ha.defers h
end
end Go.Kn
end
section
/- Memory as a list of blocks that are known whole; what is kept. -/
set_option linter.unusedVariables false
set_option linter.unusedSimpArgs false
namespace Go.Kn
open Go.RowKit

abbrev No : Nat → Prop := fun _ => False
/-- Of what was there only the blocks in S may have turned. -/
structure Kept (w w' : World) (S : Nat → Prop) : Prop where
  os : w'.os = w.os
  tape : w'.tape = w.tape
  output : w'.output = w.output
  size : w.heap.size ≤ w'.heap.size
  block : ∀ k, k < w.heap.size → ¬ S k → w'.heap[k]? = w.heap[k]?
theorem Kept.refl (w : World) (S : Nat → Prop) : Kept w w S := ⟨rfl, rfl, rfl, Nat.le_refl _, fun _ _ _ => rfl⟩
theorem Kept.trans {a b c : World} {S : Nat → Prop} (h : Kept a b S) {T : Nat → Prop} (k : Kept b c T) (hT : ∀ i, T i → S i ∨ a.heap.size ≤ i) : Kept a c S :=
  ⟨k.os.trans h.os, k.tape.trans h.tape, k.output.trans h.output, Nat.le_trans h.size k.size, fun i hi hS => (k.block i (Nat.lt_of_lt_of_le hi h.size) (fun ht => by
    rcases hT i ht with h1 | h1
    · exact hS h1
    · omega)).trans (h.block i hi hS)⟩
theorem Kept.mono {a b : World} {S T : Nat → Prop} (h : Kept a b S) (hT : ∀ i, S i → T i) : Kept a b T := ⟨h.os, h.tape, h.output, h.size, fun i hi hn => h.block i hi (fun hs => hn (hT i hs))⟩
theorem Kept.below {w w' : World} (h : Kept w w' No) : Below w.heap.size w w' := ⟨h.os, h.tape, h.output, h.size, fun k hk => h.block k hk (fun h => h)⟩
theorem Kept.of_below {w w' : World} (h : Below w.heap.size w w') : Kept w w' No := ⟨h.os, h.tape, h.output, h.size, fun k hk _ => h.block k hk⟩
theorem Kept.drew (w : World) (S : Nat → Prop) : Kept w w.drew S := ⟨rfl, rfl, rfl, Nat.le_refl _, fun _ _ _ => rfl⟩
theorem Kept.drewN (w : World) (S : Nat → Prop) (n : Nat) : Kept w (w.drewN n) S := ⟨rfl, rfl, rfl, Nat.le_refl _, fun _ _ _ => rfl⟩
theorem Kept.alloc (w : World) (S : Nat → Prop) (o : Obj) : Kept w (w.alloc o) S := ⟨rfl, rfl, rfl, by simp, fun k hk _ => Below.heap_alloc _ _ _ hk⟩

abbrev Hp := List (Nat × Obj)
def keys (L : Hp) : Nat → Prop := fun k => k ∈ L.map (·.1)
/-- The blocks of L hold what L says. -/
structure Holds (w : World) (L : Hp) : Prop where
  nodup : (L.map (·.1)).Nodup
  at_ : ∀ p ∈ L, w.heap[p.1]? = some p.2
theorem Holds.lt {w : World} {L : Hp} (h : Holds w L) {k : Nat} (hk : keys L k) : k < w.heap.size := by
  obtain ⟨p, hp, rfl⟩ := List.mem_map.1 hk
  exact lt_of_block (h.at_ p hp)
theorem Holds.nil (w : World) : Holds w [] := ⟨by simp, by simp⟩
/-- w has come of w0; of the old blocks only those in S may have turned; L's blocks are of S or new, and hold what L says. -/
structure Mem (w0 : World) (S : Nat → Prop) (w : World) (L : Hp) : Prop where
  kept : Kept w0 w S
  holds : Holds w L
  own : ∀ k, keys L k → S k ∨ w0.heap.size ≤ k
theorem Mem.nil (w : World) (S : Nat → Prop) : Mem w S w [] := ⟨Kept.refl _ _, Holds.nil _, by simp [keys]⟩
theorem Holds.mem {w : World} {L : Hp} (h : Holds w L) : Mem w (keys L) w L := ⟨Kept.refl _ _, h, fun _ hk => .inl hk⟩
theorem Mem.lt {w0 w : World} {S : Nat → Prop} {L : Hp} (h : Mem w0 S w L) {k : Nat} (hk : keys L k) : k < w.heap.size := h.holds.lt hk
/-- the list in another order, or a part of it -/
theorem Mem.sub {w0 w : World} {S : Nat → Prop} {L : Hp} (h : Mem w0 S w L) (L' : Hp) (hn : (L'.map (·.1)).Nodup) (hs : ∀ p ∈ L', p ∈ L) : Mem w0 S w L' :=
  ⟨h.kept, ⟨hn, fun p hp => h.holds.at_ p (hs p hp)⟩, fun k hk => h.own k (by
    obtain ⟨p, hp, rfl⟩ := List.mem_map.1 hk
    exact List.mem_map.2 ⟨p, hs p hp, rfl⟩)⟩
theorem Mem.perm {w0 w : World} {S : Nat → Prop} {L L' : Hp} (h : Mem w0 S w L) (hp : L.Perm L') : Mem w0 S w L' :=
  h.sub L' ((hp.map _).nodup_iff.1 h.holds.nodup) (fun p hm => hp.mem_iff.2 hm)
theorem Mem.tail {w0 w : World} {S : Nat → Prop} {p : Nat × Obj} {L : Hp} (h : Mem w0 S w (p :: L)) : Mem w0 S w L :=
  h.sub L (by have := h.holds.nodup; simp only [List.map_cons, List.nodup_cons] at this; exact this.2) (fun q hq => List.mem_cons_of_mem _ hq)
theorem Mem.drop {w0 w : World} {S : Nat → Prop} {L : Hp} (h : Mem w0 S w L) : Mem w0 S w [] := h.sub [] (by simp) (by simp)
theorem Mem.left {w0 w : World} {S : Nat → Prop} {L L' : Hp} (h : Mem w0 S w (L ++ L')) : Mem w0 S w L :=
  h.sub L (by have := h.holds.nodup; rw [List.map_append, List.nodup_append] at this; exact this.1) (fun q hq => List.mem_append_left _ hq)
theorem Mem.right {w0 w : World} {S : Nat → Prop} {L L' : Hp} (h : Mem w0 S w (L ++ L')) : Mem w0 S w L' :=
  h.sub L' (by have := h.holds.nodup; rw [List.map_append, List.nodup_append] at this; exact this.2.1) (fun q hq => List.mem_append_right _ hq)
/-- only entries idx of L, in that order -/
theorem Mem.pick {w0 w : World} {S : Nat → Prop} {L : Hp} (h : Mem w0 S w L) (idx : List Nat) (L' : Hp) (hn : idx.Nodup) (hl : L' = idx.filterMap (fun i => L[i]?)) : Mem w0 S w L' := by
  have hnd := h.holds.nodup
  have inj : ∀ (i j : Nat) (p q : Nat × Obj), L[i]? = some p → L[j]? = some q → p.1 = q.1 → i = j := by
    intro i j p q hi hj he
    refine (List.getElem?_inj (l := L.map (·.1)) ?_ hnd).1 ?_
    · rw [List.length_map]; exact (List.getElem?_eq_some_iff.1 hi).1
    · rw [List.getElem?_map, List.getElem?_map, hi, hj]; simp [he]
  subst hl
  refine h.sub _ ?_ ?_
  · induction idx with
    | nil => simp
    | cons i r ih =>
      simp only [List.nodup_cons] at hn
      simp only [List.filterMap_cons]
      cases hi : L[i]? with
      | none => exact ih hn.2
      | some p =>
        simp only [List.map_cons, List.nodup_cons]
        refine ⟨fun hm => ?_, ih hn.2⟩
        obtain ⟨q, hq, he⟩ := List.mem_map.1 hm
        obtain ⟨j, hj, hq'⟩ := List.mem_filterMap.1 hq
        exact hn.1 (inj i j p q hi hq' he.symm ▸ hj)
  · intro p hp
    obtain ⟨j, _, hq⟩ := List.mem_filterMap.1 hp
    exact List.mem_of_getElem? hq
theorem Mem.step {w0 w w' : World} {S T : Nat → Prop} {L : Hp} (h : Mem w0 S w L) (k : Kept w w' T) (hT : ∀ i, T i → ¬ keys L i ∧ (S i ∨ w0.heap.size ≤ i)) : Mem w0 S w' L :=
  ⟨h.kept.trans k (fun i hi => (hT i hi).2), ⟨h.holds.nodup, fun p hp => by
    have hk : keys L p.1 := List.mem_map.2 ⟨p, hp, rfl⟩
    rw [k.block p.1 (h.lt hk) (fun ht => (hT _ ht).1 hk)]
    exact h.holds.at_ p hp⟩, h.own⟩
theorem Mem.grow {w0 w w' : World} {S : Nat → Prop} {L : Hp} (h : Mem w0 S w L) (k : Kept w w' No) : Mem w0 S w' L := h.step k (fun _ hi => hi.elim)
theorem Mem.drew {w0 w : World} {S : Nat → Prop} {L : Hp} (h : Mem w0 S w L) : Mem w0 S w.drew L := h.grow (Kept.drew _ _)
/-- a call that has L1 for its own -/
theorem Mem.call {w0 w w' : World} {S : Nat → Prop} {L1 L2 L1' : Hp} (h : Mem w0 S w (L1 ++ L2)) (k : Mem w (keys L1) w' L1') : Mem w0 S w' (L1' ++ L2) := by
  have hnd := h.holds.nodup
  rw [List.map_append, List.nodup_append] at hnd
  obtain ⟨hn1, hn2, hdis⟩ := hnd
  have hr := h.right
  have h2 : Mem w0 S w' L2 := hr.step k.kept (fun i hi => ⟨fun hk => hdis i hi i hk rfl, h.own i (by simp only [keys, List.map_append, List.mem_append]; exact .inl hi)⟩)
  refine ⟨h2.kept, ⟨?_, fun p hp => ?_⟩, fun i hi => ?_⟩
  · rw [List.map_append, List.nodup_append]
    refine ⟨k.holds.nodup, hn2, fun a ha b hb e => ?_⟩
    subst e
    rcases k.own a ha with h3 | h3
    · exact hdis a h3 a hb rfl
    · have := hr.lt hb
      omega
  · rcases List.mem_append.1 hp with hp | hp
    · exact k.holds.at_ p hp
    · exact h2.holds.at_ p hp
  · simp only [keys, List.map_append, List.mem_append] at hi
    rcases hi with hi | hi
    · rcases k.own i hi with h3 | h3
      · exact h.own i (by simp only [keys, List.map_append, List.mem_append]; exact .inl h3)
      · exact .inr (Nat.le_trans h.kept.size h3)
    · exact h2.own i hi
/-- a call that has nothing of ours -/
theorem Mem.call0 {w0 w w' : World} {S : Nat → Prop} {L L' : Hp} (h : Mem w0 S w L) (k : Mem w No w' L') : Mem w0 S w' (L' ++ L) := by
  have := Mem.call (L1 := []) (L2 := L) (L1' := L') h ⟨k.kept.mono (fun _ hi => hi.elim), k.holds, fun i hi => (k.own i hi).imp (fun h => h.elim) id⟩
  simpa using this
theorem Mem.add {w0 w w' : World} {S : Nat → Prop} {L : Hp} (h : Mem w0 S w L) (k : Kept w w' No) {b : Nat} {o : Obj} (hb : w.heap.size ≤ b) (ho : w'.heap[b]? = some o) : Mem w0 S w' ((b, o) :: L) :=
  h.call0 (L' := [(b, o)]) ⟨k, ⟨by simp, by simp [ho]⟩, by simp [keys]; exact hb⟩
theorem Mem.alloc {w0 w : World} {S : Nat → Prop} {L : Hp} (h : Mem w0 S w L) (o : Obj) : Mem w0 S (w.alloc o) ((w.heap.size, o) :: L) :=
  h.add (Kept.alloc _ _ _) (Nat.le_refl _) (heap_alloc_new w o)
/-- the block of entry i turned -/
theorem Mem.turn {w0 w w' : World} {S : Nat → Prop} {L : Hp} (h : Mem w0 S w L) {i b : Nat} {o o' : Obj} (hi : L[i]? = some (b, o)) (k : Kept w w' (fun j => j = b)) (ho : w'.heap[b]? = some o') : Mem w0 S w' (L.set i (b, o')) := by
  obtain ⟨hlt, hii⟩ := List.getElem?_eq_some_iff.1 hi
  have hbk : keys L b := List.mem_map.2 ⟨(b, o), List.mem_of_getElem? hi, rfl⟩
  have hown := h.own b hbk
  have hmap : (L.set i (b, o')).map (·.1) = L.map (·.1) := by
    rw [List.map_set]
    apply List.ext_getElem
    · simp
    · intro j h1 h2
      by_cases hj : i = j
      · subst hj; simp [hii]
      · rw [List.getElem_set_ne hj]
  have hkeys : keys (L.set i (b, o')) = keys L := by unfold keys; rw [hmap]
  refine ⟨h.kept.trans k (fun j hj => by subst hj; exact hown), ⟨by rw [hmap]; exact h.holds.nodup, fun p hp => ?_⟩, fun j hj => h.own j (by rw [hkeys] at hj; exact hj)⟩
  obtain ⟨j, hj⟩ := List.mem_iff_getElem?.1 hp
  rw [List.getElem?_set] at hj
  by_cases hij : i = j
  · subst hij
    simp [hlt] at hj
    subst hj
    exact ho
  · rw [if_neg hij] at hj
    have hpm := List.mem_of_getElem? hj
    have hne : p.1 ≠ b := by
      intro e
      have hnd := h.holds.nodup
      refine hij ((List.getElem?_inj (l := L.map (·.1)) (by rw [List.length_map]; exact hlt) hnd).1 ?_)
      rw [List.getElem?_map, List.getElem?_map, hi, hj]; simp [e]
    rw [k.block p.1 (lt_of_block (h.holds.at_ p hpm)) hne]
    exact h.holds.at_ p hpm
theorem Mem.get {w0 w : World} {S : Nat → Prop} {L : Hp} (h : Mem w0 S w L) (i : Nat) {b : Nat} {o : Obj} (hi : L[i]? = some (b, o)) : w.heap[b]? = some o := h.holds.at_ _ (List.mem_of_getElem? hi)
theorem Mem.cell {w0 w : World} {S : Nat → Prop} {L : Hp} (h : Mem w0 S w L) (i : Nat) {b j : Nat} {cs : Array Value} {e : TypeId} {fr : Nat × Nat} {v : Value} (hi : L[i]? = some (b, .cells cs e fr)) (hv : cs[j]? = some v) : w.cell? ⟨b, j, none⟩ = some v := by
  rw [cell_of_row w b j cs e fr (h.get i hi)]; exact hv
/-- what was there and is not ours reads as it did -/
theorem Mem.old {w0 w : World} {S : Nat → Prop} {L : Hp} (h : Mem w0 S w L) {a : Addr} {v : Value} (hc : w0.cell? a = some v) (hS : ¬ S a.block) : w.cell? a = some v := by
  rw [World.cell?_of_block (w := w0) (h.kept.block a.block (World.block_lt_of_cell? w0 a hc) hS)]; exact hc
theorem Mem.oldBlock {w0 w : World} {S : Nat → Prop} {L : Hp} (h : Mem w0 S w L) {b : Nat} {o : Obj} (hc : w0.heap[b]? = some o) (hS : ¬ S b) : w.heap[b]? = some o := by
  rw [h.kept.block b (lt_of_block hc) hS]; exact hc
theorem kept_setCell {w : World} {b j : Nat} {v : Value} : Kept w (w.setCell ⟨b, j, none⟩ v) (fun k => k = b) :=
  ⟨rfl, rfl, rfl, by simp [World.setCell], fun k _ hk => Below.heap_setCell _ _ _ _ hk⟩
theorem heap_setCell_row {w : World} {b j : Nat} {cs : Array Value} {e : TypeId} {fr : Nat × Nat} {v : Value} (h : w.heap[b]? = some (.cells cs e fr)) : (w.setCell ⟨b, j, none⟩ v).heap[b]? = some (.cells (cs.setIfInBounds j v) e fr) := by
  simp only [World.setCell, Array.getElem?_modify, h]
  simp
theorem Mem.store {w0 w : World} {S : Nat → Prop} {L : Hp} (h : Mem w0 S w L) (i : Nat) {b j : Nat} {cs : Array Value} {e : TypeId} {fr : Nat × Nat} (v : Value) (hi : L[i]? = some (b, .cells cs e fr)) : Mem w0 S (w.setCell ⟨b, j, none⟩ v) (L.set i (b, .cells (cs.setIfInBounds j v) e fr)) :=
  h.turn hi kept_setCell (heap_setCell_row (h.get i hi))

/-! ### runs of operations -/
section
variable {P : Program} {w : World} {ρ : Operand → Value} {dst : Option Tmp} {type : TypeId} {pos : String} {after : Array Edge} {guard : Option (Nat × Bool)}
theorem x_load {t : TypeId} {x : Operand} {a : Addr} {v : Value} (hc : w.cell? a = some v) (hx : ρ x = .pointer (some a)) (hg : (isAgg t).run P w = .ok false w) :
    (execOp ρ ⟨dst, .load t x, type, pos, after, guard⟩).run P w = .ok (.value v) w := by
  simp only [execOp, hx, Instr.loadAt, Instr.sureAddr, loadVar, Sem.run_bind, Sem.run_pure, Result.andThen_ok, hg, Bool.false_eq_true, if_false, Go.load]
  simp [Sem.run, hc]
theorem x_loadAgg {t : TypeId} {x : Operand} {a : Addr} {cs : List Value} (hc : ∀ j v, cs[j]? = some v → w.cell? (a.add j) = some v) (hx : ρ x = .pointer (some a)) (hg : (isAgg t).run P w = .ok true w) (hs : (sizeOf t).run P w = .ok cs.length w) :
    (execOp ρ ⟨dst, .load t x, type, pos, after, guard⟩).run P w = .ok (.value (.agg cs.toArray)) w := by
  simp only [execOp, hx, Instr.loadAt, Instr.sureAddr, loadVar, Sem.run_bind, Sem.run_pure, Result.andThen_ok, hg, hs, if_true, run_loadCells_list (P := P) w a cs hc]
theorem x_add {t t' : TypeId} {x y : Operand} {k : IntKind} {a b : Int} (h : k.wrap (a + b) = a + b) (hx : ρ x = .int k a) (hy : ρ y = .int k b) :
    (execOp ρ ⟨dst, .binOp .add t x y t', type, pos, after, guard⟩).run P w = .ok (.value (.int k (a + b))) w := by
  simp [execOp, hx, hy, eqGuard, Go.binOp, Op.intArith, h]
theorem x_sub {t t' : TypeId} {x y : Operand} {k : IntKind} {a b : Int} (h : k.wrap (a - b) = a - b) (hx : ρ x = .int k a) (hy : ρ y = .int k b) :
    (execOp ρ ⟨dst, .binOp .sub t x y t', type, pos, after, guard⟩).run P w = .ok (.value (.int k (a - b))) w := by
  simp [execOp, hx, hy, eqGuard, Go.binOp, Op.intArith, h]
theorem x_mul {t t' : TypeId} {x y : Operand} {k : IntKind} {a b : Int} (h : k.wrap (a * b) = a * b) (hx : ρ x = .int k a) (hy : ρ y = .int k b) :
    (execOp ρ ⟨dst, .binOp .mul t x y t', type, pos, after, guard⟩).run P w = .ok (.value (.int k (a * b))) w := by
  simp [execOp, hx, hy, eqGuard, Go.binOp, Op.intArith, h]
theorem wrap_i64 {a : Int} (h1 : -9223372036854775808 ≤ a) (h2 : a ≤ 9223372036854775807) : IntKind.i64.wrap a = a := IntWalk.i64_in _ ⟨h1, by omega⟩
/-- the address of an element of a slice -/
theorem x_indexAddr {t e : TypeId} {x y : Operand} {ad : Addr} {n c : Nat} {k : IntKind} {i : Int} {sz : Nat} (h0 : 0 ≤ i) (h1 : i < n) (hx : ρ x = .slice (some ad) n c) (hy : ρ y = .int k i) (ht : (underlying t).run P w = .ok (.slice e) w) (hs : (sizeOf e).run P w = .ok sz w) :
    (execOp ρ ⟨dst, .indexAddr t x y, type, pos, after, guard⟩).run P w = .ok (.value (.pointer (some (ad.add (i.toNat * sz))))) w := by
  simp [execOp, hx, hy, Instr.indexAt, asIntOf, ht, hs, h0, h1]
/-- .. of an array -/
theorem x_indexAddrA {t e : TypeId} {x y : Operand} {ad : Addr} {n : Nat} {k : IntKind} {i : Int} {sz : Nat} (h0 : 0 ≤ i) (h1 : i < n) (hx : ρ x = .pointer (some ad)) (hy : ρ y = .int k i) (ht : (underlying t).run P w = .ok (.array n e) w) (hs : (sizeOf e).run P w = .ok sz w) :
    (execOp ρ ⟨dst, .indexAddr t x y, type, pos, after, guard⟩).run P w = .ok (.value (.pointer (some (ad.add (i.toNat * sz))))) w := by
  simp [execOp, hx, hy, Instr.indexAt, Instr.sureAddr, asIntOf, ht, hs, h0, h1]
/-- an element of an array value, of one cell -/
theorem x_index {t e : TypeId} {x y : Operand} {cs : Array Value} {n : Nat} {k : IntKind} {i : Int} {v : Value} (h0 : 0 ≤ i) (h1 : i < n) (hv : cs[i.toNat]? = some v) (hx : ρ x = .agg cs) (hy : ρ y = .int k i) (ht : (underlying t).run P w = .ok (.array n e) w) (hs : (sizeOf e).run P w = .ok 1 w) (hg : (isAgg e).run P w = .ok false w) :
    (execOp ρ ⟨dst, .index t x y, type, pos, after, guard⟩).run P w = .ok (.value v) w := by
  simp [execOp, hx, hy, Instr.index, asIntOf, ht, hs, h0, h1, part, hg, hv]
/-- a byte of a string -/
theorem x_indexS {t : TypeId} {x y : Operand} {s : ByteArray} {k : IntKind} {i : Int} (h0 : 0 ≤ i) (h1 : i.toNat < s.size) (hx : ρ x = .string s) (hy : ρ y = .int k i) (ht : (underlying t).run P w = .ok .string w) :
    (execOp ρ ⟨dst, .index t x y, type, pos, after, guard⟩).run P w = .ok (.value (.int .u8 (s[i.toNat]).toNat)) w := by
  simp [execOp, hx, hy, Instr.index, asIntOf, ht, h0, h1]
theorem x_pick {c x y : Operand} {b : Bool} {u v : Value} (hc : ρ c = .bool b) (hx : ρ x = u) (hy : ρ y = v) :
    (execOp ρ ⟨dst, .pick c x y, type, pos, after, guard⟩).run P w = .ok (.value (if b then u else v)) w := by
  simp [execOp, hc, hx, hy, asBool]
theorem x_call {x : Operand} {f : FuncId} {l : List Operand} {cap vs : List Value} {ts : Array TypeId} (hcf : (callFunc f vs.toArray).run P w = .ok (.enter f vs.toArray) w) (hx : ρ x = .func (.func f) #[] cap.toArray) (hl : l.map ρ ++ cap = vs) :
    (execOp ρ ⟨dst, .call { callee := .value x, args := l.toArray, argTypes := ts }, type, pos, after, guard⟩).run P w = .ok (.enter f vs.toArray) w := by
  subst hl
  have : l.toArray.map ρ ++ cap.toArray = (l.map ρ ++ cap).toArray := by simp
  simp only [execOp, resolve, Sem.run_bind, hx, Deferred.ofValue, Sem.run_pure, Result.andThen_ok, invoke]
  simpa [this] using hcf
theorem enter_of {f : FuncId} {fn : Func} (hf : P.funcs[f]? = some fn) (hb : fn.body.isNone = false) (hnm : (fn.name == "runtime.NumGoroutine") = false) (vs : Array Value) (w : World) : (callFunc f vs).run P w = .ok (.enter f vs) w := by
  have h1 : ¬ fn.name = "runtime.NumGoroutine" := by simpa using hnm
  have h2 : ¬ fn.body = none := by intro h; simp [h] at hb
  simp [callFunc, program, Sem.run, Sem.run_bind, hf, h1, h2]
theorem x_min {x y : Operand} {k : IntKind} {a b : Int} {ts : Array TypeId} (hx : ρ x = .int k a) (hy : ρ y = .int k b) :
    (execOp ρ ⟨dst, .call { callee := .builtin .min, args := #[x, y], argTypes := ts }, type, pos, after, guard⟩).run P w = .ok (.value (.int k (min a b))) w := by
  have : (if b < a then b else a) = min a b := by simp only [Int.min_def]; split <;> split <;> omega
  simp [execOp, resolve, invoke, builtin, Builtin.min_, Builtin.min2, hx, hy, this]
theorem x_max {x y : Operand} {k : IntKind} {a b : Int} {ts : Array TypeId} (hx : ρ x = .int k a) (hy : ρ y = .int k b) :
    (execOp ρ ⟨dst, .call { callee := .builtin .max, args := #[x, y], argTypes := ts }, type, pos, after, guard⟩).run P w = .ok (.value (.int k (max a b))) w := by
  have : (if a < b then b else a) = max a b := by simp only [Int.max_def]; split <;> split <;> omega
  simp [execOp, resolve, invoke, builtin, Builtin.max_, Builtin.max2, hx, hy, this]
end

/-! ### operations that turn the world -/
section
variable {P : Program} {n : Nat} {ops : Array Oper} {Q : Exit → Act → World → Prop} {K : St} {w w0 : World} {S : Nat → Prop} {L : Hp} {dst : Option Tmp} {type : TypeId} {pos : String} {after : Array Edge} {rest : List Oper}
theorem r_box {t : TypeId} {x : Operand} (hM : Mem w0 S w L) {v : Value} (hx : okOp n K ⟨dst, .box t x, type, pos, after, none⟩ = true) (hv : K.ev x = v)
    (h : ∀ b w', Mem w0 S w' ((b, .cells v.cells t (0, 0)) :: L) → w0.heap.size ≤ b → wpR P n ops Q rest (K.put dst (.pointer (some ⟨b, 0, none⟩))) w') : wpR P n ops Q (⟨dst, .box t x, type, pos, after, none⟩ :: rest) K w := by
  refine r_val (v := .pointer (some ⟨w.heap.size, 0, none⟩)) (w' := w.alloc (.cells v.cells t)) rfl hx ?_ (h _ _ (hM.alloc _) hM.kept.size)
  subst hv
  rfl
theorem r_alloc {t : TypeId} (hM : Mem w0 S w L) {z : Value} (hz : (zeroValue t).run P w = .ok z w) (hx : okOp n K ⟨dst, .alloc t, type, pos, after, none⟩ = true)
    (h : ∀ b w', Mem w0 S w' ((b, .cells z.cells t (0, 0)) :: L) → w0.heap.size ≤ b → wpR P n ops Q rest (K.put dst (.pointer (some ⟨b, 0, none⟩))) w') : wpR P n ops Q (⟨dst, .alloc t, type, pos, after, none⟩ :: rest) K w := by
  refine r_val (v := .pointer (some ⟨w.heap.size, 0, none⟩)) (w' := w.alloc (.cells z.cells t)) rfl hx ?_ (h _ _ (hM.alloc _) hM.kept.size)
  simp only [execOp, Instr.alloc, Sem.run_bind, hz, Result.andThen_ok]
  rfl
/-- a store of one cell into the block of entry i -/
theorem r_store {t : TypeId} {x y : Operand} (hM : Mem w0 S w L) (i : Nat) {b j : Nat} {cs : Array Value} {e : TypeId} {v : Value} (hi : L[i]? = some (b, .cells cs e (0, 0))) (hj : j < cs.size) (h1 : v.oneCell' = true) (hs : (sizeOf t).run P w = .ok 1 w)
    (hx : okOp n K ⟨dst, .store t x y, type, pos, after, none⟩ = true) (ha : K.ev x = .pointer (some ⟨b, j, none⟩)) (hv : K.ev y = v)
    (h : ∀ w', Mem w0 S w' (L.set i (b, .cells (cs.setIfInBounds j v) e (0, 0))) → wpR P n ops Q rest (K.put dst undef) w') : wpR P n ops Q (⟨dst, .store t x y, type, pos, after, none⟩ :: rest) K w := by
  refine r_skip (w' := w.setCell ⟨b, j, none⟩ v) rfl hx ?_ (h _ (hM.store i v hi))
  have hc : w.cell? ⟨b, j, none⟩ = some cs[j] := hM.cell i hi (by simp [hj])
  have hf : w.frozen? ⟨b, j, none⟩ = false := by simp [World.frozen?, hM.get i hi]
  have hcell : v.cells = #[v] := by cases v <;> first | rfl | (simp [Value.oneCell'] at h1)
  have hst : (storeCells ⟨b, j, none⟩ [v]).run P w = .ok () (w.setCell ⟨b, j, none⟩ v) := by
    simp only [storeCells, Sem.run_bind, Addr.add, if_true, Go.store]
    cases v <;> first | (simp [Value.oneCell'] at h1; done) | simp [Sem.run, hc, hf]
  simp [execOp, ha, hv, Instr.storeAt, Instr.sureAddr, storeVar, hs, hcell, hst]
end
end Go.Kn
end
section
/- A region that draws its order: what holds in every order, told operation by operation. -/
set_option linter.unusedVariables false
set_option linter.unusedSimpArgs false
namespace Go.Kn
open Go.RowKit

def upd {α : Type} (f : Nat → α) (i : Nat) (x : α) : Nat → α := fun j => if j = i then x else f j
theorem upd_same {α : Type} (f : Nat → α) (i : Nat) (x : α) : upd f i x i = x := by simp [upd]
theorem upd_ne {α : Type} (f : Nat → α) {i j : Nat} (x : α) (h : j ≠ i) : upd f i x j = f j := by simp [upd, h]
/-- the value of operation j: told (C) or not (V) -/
def val (C : List (Option Value)) (V : Nat → Value) (j : Nat) : Value :=
  match C[j]? with
  | some (some c) => c
  | _ => V j
/-- the slots behind the operations, in the text's order -/
def endK (C : List (Option Value)) (V : Nat → Value) : List Oper → Nat → St → St
  | [], _, K => K
  | o :: r, k, K => endK C V r (k + 1) (K.put o.dst (val C V k))
/-- a slot once the operations in D have been done -/
def slotD (C : List (Option Value)) (V : Nat → Value) (D : Nat → Bool) (t : Nat) : List Oper → Nat → Option Value → Option Value
  | [], _, acc => acc
  | o :: r, k, acc => slotD C V D t r (k + 1) (if D k = true ∧ o.dst = some t then some (val C V k) else acc)
theorem lookup_endK (C : List (Option Value)) (V : Nat → Value) (t : Nat) : ∀ (l : List Oper) (k : Nat) (K : St), (endK C V l k K).lookup t = slotD C V (fun _ => true) t l k (K.lookup t)
  | [], _, _ => rfl
  | o :: r, k, K => by
    unfold endK slotD
    rw [lookup_endK C V t r (k + 1)]
    congr 1
    cases hd : o.dst with
    | none => simp [St.put]
    | some d =>
      by_cases h : t = d
      · subst h; simp [St.put, List.lookup_cons]
      · have h2 : (t == d) = false := by simpa using h
        have h3 : ¬ d = t := fun e => h e.symm
        simp [St.put, List.lookup_cons, h2, h3]
theorem slotD_congr (C : List (Option Value)) (V V' : Nat → Value) (D D' : Nat → Bool) (t : Nat) : ∀ (l : List Oper) (k : Nat) (acc : Option Value),
    (∀ j o, l[j]? = some o → o.dst = some t → D (k + j) = D' (k + j) ∧ (D (k + j) = true → val C V (k + j) = val C V' (k + j))) → slotD C V D t l k acc = slotD C V' D' t l k acc
  | [], _, _, _ => rfl
  | o :: r, k, acc, h => by
    unfold slotD
    have h0 := h 0 o rfl
    have e : (if D k = true ∧ o.dst = some t then some (val C V k) else acc) = (if D' k = true ∧ o.dst = some t then some (val C V' k) else acc) := by
      by_cases hd : o.dst = some t
      · obtain ⟨h1, h2⟩ := h0 hd
        simp only [Nat.add_zero] at h1 h2
        by_cases hk : D k = true
        · rw [if_pos ⟨hk, hd⟩, if_pos ⟨by rw [← h1]; exact hk, hd⟩, h2 hk]
        · rw [if_neg (fun x => hk x.1), if_neg (fun x => hk (by rw [h1]; exact x.1))]
      · rw [if_neg (fun x => hd x.2), if_neg (fun x => hd x.2)]
    rw [e]
    exact slotD_congr C V V' D D' t r (k + 1) _ (fun j o' hj hd => by
      have := h (j + 1) o' (by simpa using hj) hd
      rwa [show k + (j + 1) = k + 1 + j by omega] at this)
theorem slotD_none (C : List (Option Value)) (V : Nat → Value) (D : Nat → Bool) (t : Nat) : ∀ (l : List Oper) (k : Nat) (acc : Option Value),
    (∀ j o, l[j]? = some o → o.dst = some t → D (k + j) = false) → slotD C V D t l k acc = acc
  | [], _, _, _ => rfl
  | o :: r, k, acc, h => by
    unfold slotD
    have e : (if D k = true ∧ o.dst = some t then some (val C V k) else acc) = acc := by
      rw [if_neg]
      rintro ⟨h1, h2⟩
      have := h 0 o rfl h2
      simp only [Nat.add_zero] at this
      rw [this] at h1
      cases h1
    rw [e]
    exact slotD_none C V D t r (k + 1) acc (fun j o' hj hd => by
      have := h (j + 1) o' (by simpa using hj) hd
      rwa [show k + (j + 1) = k + 1 + j by omega] at this)
theorem slotD_append (C : List (Option Value)) (V : Nat → Value) (D : Nat → Bool) (t : Nat) : ∀ (l r : List Oper) (k : Nat) (acc : Option Value), slotD C V D t (l ++ r) k acc = slotD C V D t r (k + l.length) (slotD C V D t l k acc)
  | [], _, _, _ => rfl
  | o :: l, r, k, acc => by
    simp only [List.cons_append, slotD, List.length_cons]
    rw [slotD_append C V D t l r (k + 1), show k + 1 + l.length = k + (l.length + 1) by omega]

/-! ### what is asked of the text -/
def slotsOf (ops : List Oper) (o : Oper) : List Nat :=
  ((opnds o.op).filterMap fun | .tmp t => some t | _ => none) ++ o.dst.toList ++ (match o.guard with | some (g, _) => ((ops[g]?).bind (·.dst)).toList | none => [])
def maskOf (M : List Nat) (o : Oper) : Nat := o.after.toList.foldr (fun e s => if Region.binds .any e then s ||| 2 ^ e.on ||| M.getD e.on 0 else s) 0
def opOk (n : Nat) (K : St) (l : List Oper) (M : List Nat) (i : Nat) (o : Oper) : Bool :=
  (o.after.toList.all fun e => !Region.binds .any e || Nat.blt e.on i) && (M.getD i 0 == maskOf M o) && noSel o.op && okDst n o.dst &&
  ((slotsOf l o).all fun t => l.zipIdx.all fun p => p.2 == i || p.1.dst != some t || (M.getD (max i p.2) 0).testBit (min i p.2)) &&
  ((opnds o.op).all fun | .tmp t => (K.lookup t).isSome || ((l.take i).any fun p => p.dst == some t) | _ => true) &&
  (match o.guard with | some (g, _) => Nat.blt g i && (M.getD i 0).testBit g && ((l[g]?).bind (·.dst)).isSome | none => true)
def drawOk (n : Nat) (K : St) (l : List Oper) (M : List Nat) : Bool := l.zipIdx.all fun p => opOk n K l M p.2 p.1

def OpGoal (P : Program) (l : List Oper) (K : St) (o : Oper) (w : World) (post : Value → World → Prop) : Prop :=
  match o.guard with
  | none => OpRun P K.ev o w post
  | some (g, b) => ∃ c : Option Bool, gval l.toArray K g = some c ∧ (c = some b → OpRun P K.ev o w post) ∧ (c ≠ some b → post undef w)
/-- with just the slots that it reads -/
theorem goal_of {P : Program} {l : List Oper} {K : St} {o : Oper} {w : World} {post : Value → World → Prop} (K' : St) (hg : o.guard = none) (hs : Sub K' K) (hx : (noSel o.op && (opnds o.op).all K'.has) = true) (h : OpRun P K'.ev o w post) : OpGoal P l K o w post := by
  simp only [Bool.and_eq_true] at hx
  unfold OpGoal
  rw [hg]
  simp only []
  unfold OpRun at *
  rw [exec_sub hs hx.1 hx.2]
  exact h
theorem goal_yes {P : Program} {l : List Oper} {K : St} {o : Oper} {w : World} {post : Value → World → Prop} {g : Nat} {b : Bool} (K' : St) (hg : o.guard = some (g, b)) (hc : gval l.toArray K g = some (some b)) (hs : Sub K' K) (hx : (noSel o.op && (opnds o.op).all K'.has) = true) (h : OpRun P K'.ev o w post) : OpGoal P l K o w post := by
  simp only [Bool.and_eq_true] at hx
  unfold OpGoal
  rw [hg]
  refine ⟨some b, hc, fun _ => ?_, fun hne => absurd rfl hne⟩
  unfold OpRun at *
  rw [exec_sub hs hx.1 hx.2]
  exact h
theorem goal_no {P : Program} {l : List Oper} {K : St} {o : Oper} {w : World} {post : Value → World → Prop} {g : Nat} {b : Bool} {c : Option Bool} (hg : o.guard = some (g, b)) (hc : gval l.toArray K g = some c) (hne : c ≠ some b) (h : post undef w) : OpGoal P l K o w post := by
  unfold OpGoal
  rw [hg]
  exact ⟨c, hc, fun e => absurd e hne, fun _ => h⟩
theorem run_val {P : Program} {ρ : Operand → Value} {o : Oper} {w : World} {post : Value → World → Prop} (v : Value) {w' : World} (h : (execOp ρ o).run P w = .ok (.value v) w') (hp : post v w') : OpRun P ρ o w post := .inl ⟨v, w', h, hp⟩
theorem run_skip {P : Program} {ρ : Operand → Value} {o : Oper} {w : World} {post : Value → World → Prop} {w' : World} (h : (execOp ρ o).run P w = .ok .skip w') (hp : post undef w') : OpRun P ρ o w post := .inr (.inl ⟨w', h, hp⟩)
theorem run_call {P : Program} {ρ : Operand → Value} {o : Oper} {w : World} {post : Value → World → Prop} {f : FuncId} {args : Array Value} {w' : World} {R : Value → World → Prop} (h : (execOp ρ o).run P w = .ok (.enter f args) w') (hc : Calls P f args w' fun e w'' => ∃ v, e = .returned v ∧ R v w'') (hp : ∀ v w'', R v w'' → post v w'') : OpRun P ρ o w post :=
  .inr (.inr ⟨f, args, w', h, hc.mono fun e w'' ⟨v, he, hv⟩ => ⟨v, he, hp _ _ hv⟩⟩)

theorem untold {C : List (Option Value)} {i : Nat} {v : Value} (h : C[i]? = some none) : ∀ c, C[i]? = some (some c) → v = c := by
  intro c hc
  rw [h] at hc
  cases hc
def Each (F : Nat → Oper → Prop) : Nat → List Oper → Prop
  | _, [] => True
  | k, o :: r => F k o ∧ Each F (k + 1) r
theorem Each.at_ {F : Nat → Oper → Prop} : ∀ {l : List Oper} {k i : Nat} {o : Oper}, Each F k l → l[i]? = some o → F (k + i) o
  | [], _, _, _, _, h => by simp at h
  | o' :: r, k, 0, o, h, hi => by simp at hi; subst hi; exact h.1
  | o' :: r, k, i + 1, o, h, hi => by
    have := Each.at_ (i := i) (o := o) h.2 (by simpa using hi)
    rwa [show k + 1 + i = k + (i + 1) by omega] at this

def asFn (a : Array Bool) : Nat → Bool := fun j => a.getD j false
structure Now (n : Nat) (K : St) (l : List Oper) (C : List (Option Value)) (D : Nat → Bool) (V : Nat → Value) (a : Act) : Prop where
  size : a.tmps.size = n
  defers : a.defers = []
  slot : ∀ t v, slotD C V D t l 0 (K.lookup t) = some v → a.tmps[t]? = some v

theorem testBit_or_pow {s m b j : Nat} (h : (s ||| 2 ^ b ||| m).testBit j = true) : s.testBit j = true ∨ j = b ∨ m.testBit j = true := by
  simp only [Nat.testBit_or, Bool.or_eq_true, Nat.testBit_two_pow, decide_eq_true_eq] at h
  rcases h with (h | h) | h
  · exact .inl h
  · exact .inr (.inl h.symm)
  · exact .inr (.inr h)
/-- what an operation waits for has been done -/
theorem mask_done {l : List Oper} {M : List Nat} {D : Nat → Bool} (hM : ∀ i o, l[i]? = some o → (∀ e ∈ o.after.toList, Region.binds .any e = true → e.on < i) ∧ M.getD i 0 = maskOf M o)
    (hcl : ∀ i o, l[i]? = some o → D i = true → ∀ e ∈ o.after.toList, Region.binds .any e = true → D e.on = true) : ∀ (i : Nat) (o : Oper), l[i]? = some o → (∀ e ∈ o.after.toList, Region.binds .any e = true → D e.on = true) → ∀ j, (M.getD i 0).testBit j = true → D j = true := by
  intro i
  induction i using Nat.strongRecOn with
  | _ i ih =>
    intro o ho hd j hj
    obtain ⟨hlt, hm⟩ := hM i o ho
    rw [hm] at hj
    unfold maskOf at hj
    have key : ∀ (es : List Edge), (∀ e ∈ es, Region.binds .any e = true → D e.on = true ∧ e.on < i) → (es.foldr (fun e s => if Region.binds .any e then s ||| 2 ^ e.on ||| M.getD e.on 0 else s) 0).testBit j = true → D j = true := by
      intro es
      induction es with
      | nil => intro _ h; simp at h
      | cons e es ih2 =>
        intro hes h
        simp only [List.foldr_cons] at h
        by_cases hb : Region.binds .any e = true
        · rw [if_pos hb] at h
          obtain ⟨h1, h2⟩ := hes e (by simp) hb
          rcases testBit_or_pow h with h | h | h
          · exact ih2 (fun e' he' => hes e' (by simp [he'])) h
          · subst h; exact h1
          · cases hon : l[e.on]? with
            | none =>
              exfalso
              have hil : i < l.length := (List.getElem?_eq_some_iff.1 ho).1
              have := List.getElem?_eq_none_iff.1 hon
              omega
            | some oe => exact ih e.on h2 oe hon (hcl e.on oe hon h1) j h
        · rw [if_neg hb] at h
          exact ih2 (fun e' he' => hes e' (by simp [he'])) h
    exact key _ (fun e he hb => ⟨hd e he hb, hlt e he hb⟩) hj

theorem k_draw {P : Program} {n : Nat} {Q : Exit → Act → World → Prop} {K : St} {w : World} {id : Nat} {l : List Oper} (hm : P.follows .mixedOrders = true) (M : List Nat) (C : List (Option Value)) (hck : drawOk n K l M = true)
    (W : (Nat → Bool) → (Nat → Value) → World → Prop) (h0 : ∀ V, W (fun _ => false) V w.drew)
    (hops : Each (fun i o => ∀ D V w, (∀ j, (M.getD i 0).testBit j = true → D j = true) → D i = false → W D V w → OpGoal P l (endK C V (l.take i) 0 K) o w (fun v w' => (∀ c, C[i]? = some (some c) → v = c) ∧ W (upd D i true) (upd V i v) w')) 0 l)
    (hend : ∀ D V w, (∀ i, i < l.length → D i = true) → W D V w → Ends n Q .normal (endK C V l 0 K) w) : wpK P n (.region id l.toArray true) Q K w := by
  intro a ha
  refine wp_region_any hm ?_
  have hall := List.all_eq_true.1 hck
  have hopk : ∀ i o, l[i]? = some o → opOk n K l M i o = true := fun i o h => hall (o, i) (List.mk_mem_zipIdx_iff_getElem?.2 h)
  have hMs : ∀ i o, l[i]? = some o → (∀ e ∈ o.after.toList, Region.binds .any e = true → e.on < i) ∧ M.getD i 0 = maskOf M o := by
    intro i o h
    have := hopk i o h
    simp only [opOk, Bool.and_eq_true, List.all_eq_true, beq_iff_eq, Bool.or_eq_true, Bool.not_eq_true'] at this
    exact ⟨fun e he hb => by
      rcases this.1.1.1.1.1.1 e he with h | h
      · rw [h] at hb; cases hb
      · simpa using h, this.1.1.1.1.1.2⟩
  have htemp : ∀ i o, l[i]? = some o → ∀ t ∈ slotsOf l o, ∀ j p, l[j]? = some p → j ≠ i → p.dst = some t → (M.getD (max i j) 0).testBit (min i j) = true := by
    intro i o h t ht j p hj hne hd
    have := hopk i o h
    simp only [opOk, Bool.and_eq_true, List.all_eq_true] at this
    have h2 := this.1.1.2 t ht (p, j) (List.mk_mem_zipIdx_iff_getElem?.2 hj)
    simp only [Bool.or_eq_true, beq_iff_eq, bne_iff_ne, ne_eq] at h2
    rcases h2 with (h2 | h2) | h2
    · exact absurd h2 hne
    · exact absurd hd h2
    · exact h2
  have main : ∀ (fuel : Nat) (listed : Array Bool) (V : Nat → Value) (a : Act) (w : World), listed.size = l.length → Now n K l C (asFn listed) V a →
      (∀ i o, l[i]? = some o → asFn listed i = true → ∀ e ∈ o.after.toList, Region.binds .any e = true → asFn listed e.on = true) → W (asFn listed) V w →
      ((List.range l.length).filter (fun i => !asFn listed i)).length ≤ fuel → wpAny P .any l.toArray Q fuel listed a w := by
    intro fuel
    have fin : ∀ (listed : Array Bool) (V : Nat → Value) (a : Act) (w : World), listed.size = l.length → Now n K l C (asFn listed) V a → W (asFn listed) V w → (∀ i, i < l.length → asFn listed i = true) → Q .normal a w := by
      intro listed V a w hsz hnow hW hdone
      refine hend (asFn listed) V w hdone hW a ⟨hnow.size, hnow.defers, fun t v hv => hnow.slot t v ?_⟩
      rw [lookup_endK] at hv
      rw [← hv]
      refine slotD_congr C V V _ _ t l 0 _ (fun j o hj _ => ⟨?_, fun _ => rfl⟩)
      rw [Nat.zero_add]
      exact hdone j (List.getElem?_eq_some_iff.1 hj).1
    have noready : ∀ (listed : Array Bool), listed.size = l.length → Region.ready .any l.toArray listed = [] → ∀ i, i < l.length → asFn listed i = true := by
      intro listed hsz hr i
      induction i using Nat.strongRecOn with
      | _ i ih =>
        intro hi
        cases hl : asFn listed i with
        | true => rfl
        | false =>
          exfalso
          have ho : l[i]? = some l[i] := List.getElem?_eq_getElem hi
          have : i ∈ Region.ready .any l.toArray listed := mem_ready.2 ⟨by
            have : i < listed.size := by omega
            simpa [asFn, this] using hl, l[i], by simp, fun e he hb => by
            have h1 := (hMs i _ ho).1 e (by simpa using he) hb
            exact ih e.on h1 (by omega)⟩
          rw [hr] at this
          cases this
    induction fuel with
    | zero =>
      intro listed V a w hsz hnow hcl hW hcnt
      have hdone : ∀ i, i < l.length → asFn listed i = true := by
        intro i hi
        cases hl : asFn listed i with
        | true => rfl
        | false =>
          have : i ∈ (List.range l.length).filter (fun i => !asFn listed i) := List.mem_filter.2 ⟨List.mem_range.2 hi, by simp [hl]⟩
          have := List.length_pos_of_mem this
          omega
      refine ⟨?_, fin listed V a w hsz hnow hW hdone⟩
      refine List.eq_nil_iff_forall_not_mem.2 (fun i hi => ?_)
      obtain ⟨h1, o, ho, _⟩ := mem_ready.1 hi
      have hil : i < l.length := by simpa using (Array.getElem?_eq_some_iff.1 ho).1
      have := hdone i hil
      have hsz' : i < listed.size := by omega
      simp [asFn, hsz'] at this
      simp [hsz', this] at h1
    | succ fuel ih =>
      intro listed V a w hsz hnow hcl hW hcnt
      refine ⟨fun hr => fin listed V a w hsz hnow hW (noready listed hsz hr), fun i hi => ?_⟩
      obtain ⟨h1, o, ho, hedge⟩ := mem_ready.1 hi
      have ho' : l[i]? = some o := by simpa using ho
      have hil : i < l.length := (List.getElem?_eq_some_iff.1 ho').1
      have hun : asFn listed i = false := by
        have hsz' : i < listed.size := by omega
        simpa [asFn, hsz'] using h1
      have hedge' : ∀ e ∈ o.after.toList, Region.binds .any e = true → asFn listed e.on = true := fun e he hb => hedge e (by simpa using he) hb
      have hmask := mask_done hMs hcl i o ho' hedge'
      have hgoal := Each.at_ hops ho' (asFn listed) V w (by rw [Nat.zero_add]; exact hmask) (by rw [Nat.zero_add]; exact hun) hW
      rw [Nat.zero_add] at hgoal
      -- a slot that the operation names
      have hslot : ∀ t ∈ slotsOf l o, (endK C V (l.take i) 0 K).lookup t = slotD C V (asFn listed) t l 0 (K.lookup t) := by
        intro t ht
        rw [lookup_endK]
        have hsplit : slotD C V (asFn listed) t l 0 (K.lookup t) = slotD C V (asFn listed) t (l.drop i) (0 + (l.take i).length) (slotD C V (asFn listed) t (l.take i) 0 (K.lookup t)) := by
          rw [← slotD_append, List.take_append_drop]
        rw [hsplit]
        have hlen : (l.take i).length = i := by rw [List.length_take]; omega
        have hlate : slotD C V (asFn listed) t (l.drop i) (0 + (l.take i).length) (slotD C V (asFn listed) t (l.take i) 0 (K.lookup t)) = slotD C V (asFn listed) t (l.take i) 0 (K.lookup t) := by
          refine slotD_none C V _ t _ _ _ (fun j p hj hd => ?_)
          rw [List.getElem?_drop] at hj
          rw [hlen, Nat.zero_add]
          rcases Nat.eq_zero_or_pos j with h0 | h0
          · subst h0; simpa using hun
          · cases hl : asFn listed (i + j) with
            | false => rfl
            | true =>
              have hb := htemp i o ho' t ht (i + j) p hj (by omega) hd
              rw [Nat.max_eq_right (by omega), Nat.min_eq_left (by omega)] at hb
              have := mask_done hMs hcl (i + j) p hj (hcl (i + j) p hj hl) i hb
              rw [hun] at this
              cases this
        rw [hlate]
        refine slotD_congr C V V _ _ t (l.take i) 0 _ (fun j p hj hd => ⟨?_, fun _ => rfl⟩)
        have hji : j < i := by have := (List.getElem?_eq_some_iff.1 hj).1; omega
        rw [List.getElem?_take_of_lt hji] at hj
        have hb := htemp i o ho' t ht j p hj (by omega) hd
        rw [Nat.max_eq_left (by omega), Nat.min_eq_right (by omega)] at hb
        rw [Nat.zero_add]
        exact (hmask j hb).symm
      have hok := hopk i o ho'
      simp only [opOk, Bool.and_eq_true] at hok
      obtain ⟨⟨⟨⟨⟨⟨_, _⟩, hsel⟩, hdst⟩, _⟩, hhas⟩, hguard⟩ := hok
      have hread : ∀ t ∈ slotsOf l o, ∀ v, (endK C V (l.take i) 0 K).lookup t = some v → a.tmps[t]? = some v := fun t ht v hv => hnow.slot t v (by rw [← hslot t ht]; exact hv)
      have hsomeK : ∀ t, Operand.tmp t ∈ opnds o.op → ((endK C V (l.take i) 0 K).lookup t).isSome = true := by
        intro t ht
        have h3 := List.all_eq_true.1 hhas (.tmp t) ht
        simp only [Bool.or_eq_true, List.any_eq_true, beq_iff_eq] at h3
        rw [lookup_endK]
        have gen : ∀ (r : List Oper) (k : Nat) (acc : Option Value), (acc.isSome = true ∨ ∃ p ∈ r, p.dst = some t) → (slotD C V (fun _ => true) t r k acc).isSome = true := by
          intro r
          induction r with
          | nil => intro k acc h; rcases h with h | ⟨p, hp, _⟩
                   · exact h
                   · cases hp
          | cons q r ihr =>
            intro k acc h
            unfold slotD
            refine ihr (k + 1) _ ?_
            by_cases hq : q.dst = some t
            · left; simp [hq]
            · rcases h with h | ⟨p, hp, hd⟩
              · left; simp [hq, h]
              · rcases List.mem_cons.1 hp with rfl | hp
                · exact absurd hd hq
                · exact .inr ⟨p, hp, hd⟩
        exact gen _ _ _ h3
      have hexec : execOp a.eval o = execOp (endK C V (l.take i) 0 K).ev o := by
        refine execOp_congr o (fun cs b e => by simp [noSel, e] at hsel) (fun x hx => ?_)
        have hx' := mem_opnds hsel hx
        cases x with
        | tmp t =>
          obtain ⟨v, hv⟩ := Option.isSome_iff_exists.1 (hsomeK t hx')
          have ht : t ∈ slotsOf l o := by
            unfold slotsOf
            refine List.mem_append_left _ (List.mem_append_left _ (List.mem_filterMap.2 ⟨.tmp t, hx', rfl⟩))
          have := hread t ht v hv
          simp [Act.eval, St.ev, hv, this]
        | _ => rfl
      -- behind it
      have hnext : ∀ v w', ((∀ c, C[i]? = some (some c) → v = c) ∧ W (upd (asFn listed) i true) (upd V i v) w') → wpAny P .any l.toArray Q fuel (listed.setIfInBounds i true) (a.put o.dst v) w' := by
        rintro v w' ⟨hv, hW'⟩
        have hfn : asFn (listed.setIfInBounds i true) = upd (asFn listed) i true := by
          funext j
          by_cases hji : j = i
          · subst hji
            have hsz' : j < listed.size := by omega
            simp [asFn, upd, hsz']
          · have hne : i ≠ j := fun e => hji e.symm
            simp [asFn, upd, hji, Array.getElem?_setIfInBounds_ne hne]
        have hval : val C (upd V i v) i = v := by
          unfold val
          split
          · rename_i c hc; exact (hv c hc).symm
          · exact upd_same _ _ _
        have hvalne : ∀ j, j ≠ i → val C (upd V i v) j = val C V j := by
          intro j hj
          unfold val
          split
          · rfl
          · exact upd_ne _ _ hj
        refine ih (listed.setIfInBounds i true) (upd V i v) (a.put o.dst v) w' (by simpa using hsz) ?_ ?_ (by rw [hfn]; exact hW') ?_
        · refine ⟨?_, ?_, fun t u hu => ?_⟩
          · cases hd : o.dst <;> simp [Act.put, hnow.size]
          · cases hd : o.dst <;> simp [Act.put, hnow.defers]
          · rw [hfn] at hu
            by_cases hdt : o.dst = some t
            · have hts : t ∈ slotsOf l o := by unfold slotsOf; refine List.mem_append_left _ (List.mem_append_right _ ?_); simp [hdt]
              have hnowu : slotD C (upd V i v) (upd (asFn listed) i true) t l 0 (K.lookup t) = some v := by
                have hsplit : l = l.take i ++ (o :: l.drop (i + 1)) := by
                  have h6 := List.take_append_drop i l
                  rw [List.drop_eq_getElem_cons hil, (List.getElem?_eq_some_iff.1 ho').2] at h6
                  exact h6.symm
                have hlen : (l.take i).length = i := by rw [List.length_take]; omega
                conv => lhs; rw [hsplit]
                rw [slotD_append]
                unfold slotD
                rw [hlen, Nat.zero_add, if_pos ⟨upd_same _ _ _, hdt⟩, hval]
                refine slotD_none C _ _ t _ _ _ (fun j p hj hd => ?_)
                rw [List.getElem?_drop] at hj
                rw [show i + 1 + j = i + (1 + j) by omega] at hj ⊢
                rw [upd_ne _ _ (by omega)]
                cases hl : asFn listed (i + (1 + j)) with
                | false => rfl
                | true =>
                  have hb := htemp i o ho' t hts (i + (1 + j)) p hj (by omega) hd
                  rw [Nat.max_eq_right (by omega), Nat.min_eq_left (by omega)] at hb
                  have := mask_done hMs hcl (i + (1 + j)) p hj (hcl _ p hj hl) i hb
                  rw [hun] at this
                  cases this
              rw [hnowu] at hu
              injection hu with hu
              subst hu
              have hsz2 : t < n := by have h4 := hdst; rw [hdt] at h4; simpa [okDst] using h4
              have hsz3 := hnow.size
              rw [hdt]
              simp [Act.put, Array.getElem?_setIfInBounds, hsz3, hsz2]
            · have hold : slotD C (upd V i v) (upd (asFn listed) i true) t l 0 (K.lookup t) = slotD C V (asFn listed) t l 0 (K.lookup t) := by
                refine slotD_congr C _ _ _ _ t l 0 _ (fun j p hj hd => ?_)
                rw [Nat.zero_add]
                have hji : j ≠ i := by
                  intro e
                  subst e
                  rw [ho'] at hj
                  injection hj with hj
                  subst hj
                  exact hdt hd
                exact ⟨upd_ne _ _ hji, fun _ => hvalne j hji⟩
              rw [hold] at hu
              have h5 := hnow.slot t u hu
              cases hd : o.dst with
              | none => exact h5
              | some d =>
                have hne : d ≠ t := fun e => hdt (by rw [hd, e])
                simp [Act.put, Array.getElem?_setIfInBounds_ne hne, h5]
        · intro j p hj hdone e he hb
          rw [hfn] at hdone ⊢
          have honew : asFn listed e.on = true → upd (asFn listed) i true e.on = true := by
            intro h
            by_cases hei : e.on = i
            · rw [hei, upd_same]
            · rw [upd_ne _ _ hei]; exact h
          by_cases hji : j = i
          · subst hji
            rw [ho'] at hj
            injection hj with hj
            subst hj
            exact honew (hedge' e he hb)
          · rw [upd_ne _ _ hji] at hdone
            exact honew (hcl j p hj hdone e he hb)
        · rw [hfn]
          have hlt : ((List.range l.length).filter (fun j => !upd (asFn listed) i true j)).length < ((List.range l.length).filter (fun j => !asFn listed j)).length := by
            have hsub : ((List.range l.length).filter (fun j => !upd (asFn listed) i true j)) = ((List.range l.length).filter (fun j => !asFn listed j)).filter (fun j => j != i) := by
              rw [List.filter_filter]
              congr 1
              funext j
              by_cases hji : j = i
              · subst hji; simp [upd_same]
              · simp [upd_ne _ _ hji, hji]
            rw [hsub]
            exact List.length_filter_lt_length_iff_exists.2 ⟨i, List.mem_filter.2 ⟨List.mem_range.2 hil, by simp [hun]⟩, by simp⟩
          omega
      -- the operation itself
      have hrun : OpRun P (endK C V (l.take i) 0 K).ev o w (fun v w' => (∀ c, C[i]? = some (some c) → v = c) ∧ W (upd (asFn listed) i true) (upd V i v) w') → o.wp P a w (wpAny P .any l.toArray Q fuel (listed.setIfInBounds i true)) Q := by
        intro h
        unfold Oper.wp
        rw [hexec]
        rcases h with ⟨v, w', h1, h2⟩ | ⟨w', h1, h2⟩ | ⟨f, args, w', h1, h2⟩
        · rw [h1]; exact hnext v w' h2
        · rw [h1]; exact hnext undef w' h2
        · rw [h1]; exact h2.mono fun e w'' ⟨v, he, hp⟩ => by subst he; exact hnext v w'' hp
      unfold wpOp
      simp only [ho]
      unfold OpGoal at hgoal
      cases hgd : o.guard with
      | none =>
        rw [hgd] at hgoal
        rw [if_pos (by simp [Region.wanted, hgd])]
        exact .inl (hrun hgoal)
      | some gb =>
        obtain ⟨g, b⟩ := gb
        rw [hgd] at hgoal hguard
        simp only [Bool.and_eq_true] at hguard
        obtain ⟨c, hc, hyes, hno⟩ := hgoal
        have hyield : Go.yielded l.toArray a.tmps g = c := yielded_of (fun t v ht hv => hread t (by
          unfold slotsOf
          refine List.mem_append_right _ ?_
          rw [hgd]
          have : (l[g]?).bind (·.dst) = some t := by simpa using ht
          simp [this]) v hv) hc
        by_cases hcb : c = some b
        · rw [if_pos (by simp [Region.wanted, hgd, hyield, hcb])]
          exact .inl (hrun (hyes hcb))
        · rw [if_neg (by simp [Region.wanted, hgd, hyield, hcb])]
          exact hnext undef w (hno hcb)
  have hstart : Now n K l C (asFn (Array.replicate l.length false)) (fun _ => undef) a := by
    refine ⟨ha.size, ha.defers, fun t v hv => ha.knows t v ?_⟩
    rw [← hv]
    symm
    exact slotD_none C _ _ t l 0 _ (fun j o _ _ => by simp [asFn, Array.getElem?_replicate]; split <;> rfl)
  have := main l.length (Array.replicate l.length false) (fun _ => undef) a w.drew (by simp) hstart (fun i o _ h => by
    exfalso
    simp [asFn, Array.getElem?_replicate] at h
    split at h <;> simp at h) (by
      have : asFn (Array.replicate l.length false) = fun _ => false := by
        funext j
        simp [asFn, Array.getElem?_replicate]
        split <;> rfl
      rw [this]; exact h0 _) (by
      refine Nat.le_trans (List.length_filter_le _ _) (by simp))
  rw [show l.toArray.size = l.length by simp]
  exact this
end Go.Kn
end
section
/- Short names for what the printed walks say often. -/
set_option linter.unusedVariables false
set_option linter.defProp false
namespace Go.Kn
open Go.RowKit
def sqC := And.intro @decide_eq_true_eq (And.intro @decide_eq_false_iff_not (And.intro @Bool.and_eq_true (And.intro @Bool.or_eq_true (And.intro @Bool.or_eq_false_iff (And.intro @Bool.not_eq_true' (And.intro @Bool.not_eq_false' (And.intro @beq_iff_eq.{0} (And.intro @bne_iff_ne.{0} (And.intro @beq_eq_false_iff_ne.{0} (And.intro @bne_eq_false_iff_eq.{0} (And.intro @Int.not_lt (And.intro @Int.not_le (And.intro @ne_eq.{1} (And.intro @Bool.not_eq_true @Bool.not_eq_false))))))))))))))
theorem sqT {v : Value} : ∀ c, some (some v) = some (some c) → v = c := fun c h => Option.some.inj (Option.some.inj h)
theorem sqS : ∀ {K' K : St}, K'.map (fun p => K.lookup p.1) = K'.map (fun p => some p.2) → Sub K' K
  | [], _, _ => trivial
  | (i, v) :: r, K, h => by
    simp only [List.map_cons, List.cons.injEq] at h
    exact ⟨h.1, sqS h.2⟩
section
variable {P : Program} {n : Nat} {ops : Array Oper} {Q : Exit → Act → World → Prop} {K : St} {w : World}
theorem sqK {c : Code} (K' : St) (hs : K'.map (fun p => K.lookup p.1) = K'.map (fun p => some p.2)) (h : wpK P n c Q K' w) : wpK P n c Q K w := wpK_sub K' (sqS hs) h
theorem sqR {l : List Oper} (K' : St) (hs : K'.map (fun p => K.lookup p.1) = K'.map (fun p => some p.2)) (h : wpR P n ops Q l K' w) : wpR P n ops Q l K w := wpR_sub K' (sqS hs) h
theorem sqE {e : Exit} (K' : St) (hs : K'.map (fun p => K.lookup p.1) = K'.map (fun p => some p.2)) (h : Ends n Q e K' w) : Ends n Q e K w := ends_sub K' (sqS hs) h
theorem sqV {o : Oper} {rest : List Oper} (v : Value) (hg : o.guard = none) (hx : okOp n K o = true) (hr : (execOp K.ev o).run P w = .ok (.value v) w) (h : wpR P n ops Q rest (K.put o.dst v) w) : wpR P n ops Q (o :: rest) K w := r_val hg hx hr h
theorem sqG {P : Program} {l : List Oper} {K : St} {o : Oper} {w : World} {post : Value → World → Prop} (K' : St) (hg : o.guard = none) (hs : K'.map (fun p => K.lookup p.1) = K'.map (fun p => some p.2)) (hx : (noSel o.op && (opnds o.op).all K'.has) = true) (h : OpRun P K'.ev o w post) : OpGoal P l K o w post := goal_of K' hg (sqS hs) hx h
end
end Go.Kn
end
section
/- Fn: what Go functions of this seat come to, printed by walk.py over the engine. -/
set_option linter.unusedVariables false
set_option linter.unusedSimpArgs false
set_option maxRecDepth 100000
namespace Go.Proofs.Ytddacakmafdgdaa
open Go.RowKit Go.Kn

abbrev tInt : TypeId := 3
theorem mixed : Try.prog.follows .mixedOrders = true := by kernel_rfl
theorem nm2 : (Try.f2.name == "runtime.NumGoroutine") = false := by kernel_rfl
theorem enter2 (vs : Array Value) (w : World) : (callFunc 2 vs).run Try.prog w = .ok (.enter 2 vs) w := enter_of Try.func2 rfl nm2 vs w
theorem nm3 : (Try.f3.name == "runtime.NumGoroutine") = false := by kernel_rfl
theorem enter3 (vs : Array Value) (w : World) : (callFunc 3 vs).run Try.prog w = .ok (.enter 3 vs) w := enter_of Try.func3 rfl nm3 vs w
theorem nm4 : (Try.f4.name == "runtime.NumGoroutine") = false := by kernel_rfl
theorem enter4 (vs : Array Value) (w : World) : (callFunc 4 vs).run Try.prog w = .ok (.enter 4 vs) w := enter_of Try.func4 rfl nm4 vs w
theorem nm5 : (Try.f5.name == "runtime.NumGoroutine") = false := by kernel_rfl
theorem enter5 (vs : Array Value) (w : World) : (callFunc 5 vs).run Try.prog w = .ok (.enter 5 vs) w := enter_of Try.func5 rfl nm5 vs w
theorem nm6 : (Try.f6.name == "runtime.NumGoroutine") = false := by kernel_rfl
theorem enter6 (vs : Array Value) (w : World) : (callFunc 6 vs).run Try.prog w = .ok (.enter 6 vs) w := enter_of Try.func6 rfl nm6 vs w
theorem nm7 : (Try.f7.name == "runtime.NumGoroutine") = false := by kernel_rfl
theorem enter7 (vs : Array Value) (w : World) : (callFunc 7 vs).run Try.prog w = .ok (.enter 7 vs) w := enter_of Try.func7 rfl nm7 vs w
theorem nm8 : (Try.f8.name == "runtime.NumGoroutine") = false := by kernel_rfl
theorem enter8 (vs : Array Value) (w : World) : (callFunc 8 vs).run Try.prog w = .ok (.enter 8 vs) w := enter_of Try.func8 rfl nm8 vs w
theorem nm9 : (Try.f9.name == "runtime.NumGoroutine") = false := by kernel_rfl
theorem enter9 (vs : Array Value) (w : World) : (callFunc 9 vs).run Try.prog w = .ok (.enter 9 vs) w := enter_of Try.func9 rfl nm9 vs w
theorem nm10 : (Try.f10.name == "runtime.NumGoroutine") = false := by kernel_rfl
theorem enter10 (vs : Array Value) (w : World) : (callFunc 10 vs).run Try.prog w = .ok (.enter 10 vs) w := enter_of Try.func10 rfl nm10 vs w
theorem nm11 : (Try.f11.name == "runtime.NumGoroutine") = false := by kernel_rfl
theorem enter11 (vs : Array Value) (w : World) : (callFunc 11 vs).run Try.prog w = .ok (.enter 11 vs) w := enter_of Try.func11 rfl nm11 vs w
theorem nm12 : (Try.f12.name == "runtime.NumGoroutine") = false := by kernel_rfl
theorem enter12 (vs : Array Value) (w : World) : (callFunc 12 vs).run Try.prog w = .ok (.enter 12 vs) w := enter_of Try.func12 rfl nm12 vs w
theorem nm13 : (Try.f13.name == "runtime.NumGoroutine") = false := by kernel_rfl
theorem enter13 (vs : Array Value) (w : World) : (callFunc 13 vs).run Try.prog w = .ok (.enter 13 vs) w := enter_of Try.func13 rfl nm13 vs w
theorem nm14 : (Try.f14.name == "runtime.NumGoroutine") = false := by kernel_rfl
theorem enter14 (vs : Array Value) (w : World) : (callFunc 14 vs).run Try.prog w = .ok (.enter 14 vs) w := enter_of Try.func14 rfl nm14 vs w
theorem nm15 : (Try.f15.name == "runtime.NumGoroutine") = false := by kernel_rfl
theorem enter15 (vs : Array Value) (w : World) : (callFunc 15 vs).run Try.prog w = .ok (.enter 15 vs) w := enter_of Try.func15 rfl nm15 vs w
theorem nm16 : (Try.f16.name == "runtime.NumGoroutine") = false := by kernel_rfl
theorem enter16 (vs : Array Value) (w : World) : (callFunc 16 vs).run Try.prog w = .ok (.enter 16 vs) w := enter_of Try.func16 rfl nm16 vs w
theorem nm17 : (Try.f17.name == "runtime.NumGoroutine") = false := by kernel_rfl
theorem enter17 (vs : Array Value) (w : World) : (callFunc 17 vs).run Try.prog w = .ok (.enter 17 vs) w := enter_of Try.func17 rfl nm17 vs w
theorem nm18 : (Try.f18.name == "runtime.NumGoroutine") = false := by kernel_rfl
theorem enter18 (vs : Array Value) (w : World) : (callFunc 18 vs).run Try.prog w = .ok (.enter 18 vs) w := enter_of Try.func18 rfl nm18 vs w
theorem nm19 : (Try.f19.name == "runtime.NumGoroutine") = false := by kernel_rfl
theorem enter19 (vs : Array Value) (w : World) : (callFunc 19 vs).run Try.prog w = .ok (.enter 19 vs) w := enter_of Try.func19 rfl nm19 vs w
theorem nm20 : (Try.f20.name == "runtime.NumGoroutine") = false := by kernel_rfl
theorem enter20 (vs : Array Value) (w : World) : (callFunc 20 vs).run Try.prog w = .ok (.enter 20 vs) w := enter_of Try.func20 rfl nm20 vs w
theorem nm21 : (Try.f21.name == "runtime.NumGoroutine") = false := by kernel_rfl
theorem enter21 (vs : Array Value) (w : World) : (callFunc 21 vs).run Try.prog w = .ok (.enter 21 vs) w := enter_of Try.func21 rfl nm21 vs w
theorem nm22 : (Try.f22.name == "runtime.NumGoroutine") = false := by kernel_rfl
theorem enter22 (vs : Array Value) (w : World) : (callFunc 22 vs).run Try.prog w = .ok (.enter 22 vs) w := enter_of Try.func22 rfl nm22 vs w
theorem nm23 : (Try.f23.name == "runtime.NumGoroutine") = false := by kernel_rfl
theorem enter23 (vs : Array Value) (w : World) : (callFunc 23 vs).run Try.prog w = .ok (.enter 23 vs) w := enter_of Try.func23 rfl nm23 vs w
theorem nm24 : (Try.f24.name == "runtime.NumGoroutine") = false := by kernel_rfl
theorem enter24 (vs : Array Value) (w : World) : (callFunc 24 vs).run Try.prog w = .ok (.enter 24 vs) w := enter_of Try.func24 rfl nm24 vs w
theorem nm25 : (Try.f25.name == "runtime.NumGoroutine") = false := by kernel_rfl
theorem enter25 (vs : Array Value) (w : World) : (callFunc 25 vs).run Try.prog w = .ok (.enter 25 vs) w := enter_of Try.func25 rfl nm25 vs w
theorem nm26 : (Try.f26.name == "runtime.NumGoroutine") = false := by kernel_rfl
theorem enter26 (vs : Array Value) (w : World) : (callFunc 26 vs).run Try.prog w = .ok (.enter 26 vs) w := enter_of Try.func26 rfl nm26 vs w
theorem nm27 : (Try.f27.name == "runtime.NumGoroutine") = false := by kernel_rfl
theorem enter27 (vs : Array Value) (w : World) : (callFunc 27 vs).run Try.prog w = .ok (.enter 27 vs) w := enter_of Try.func27 rfl nm27 vs w
theorem nm28 : (Try.f28.name == "runtime.NumGoroutine") = false := by kernel_rfl
theorem enter28 (vs : Array Value) (w : World) : (callFunc 28 vs).run Try.prog w = .ok (.enter 28 vs) w := enter_of Try.func28 rfl nm28 vs w
theorem nm29 : (Try.f29.name == "runtime.NumGoroutine") = false := by kernel_rfl
theorem enter29 (vs : Array Value) (w : World) : (callFunc 29 vs).run Try.prog w = .ok (.enter 29 vs) w := enter_of Try.func29 rfl nm29 vs w
theorem nm30 : (Try.f30.name == "runtime.NumGoroutine") = false := by kernel_rfl
theorem enter30 (vs : Array Value) (w : World) : (callFunc 30 vs).run Try.prog w = .ok (.enter 30 vs) w := enter_of Try.func30 rfl nm30 vs w
theorem nm31 : (Try.f31.name == "runtime.NumGoroutine") = false := by kernel_rfl
theorem enter31 (vs : Array Value) (w : World) : (callFunc 31 vs).run Try.prog w = .ok (.enter 31 vs) w := enter_of Try.func31 rfl nm31 vs w
theorem nm32 : (Try.f32.name == "runtime.NumGoroutine") = false := by kernel_rfl
theorem enter32 (vs : Array Value) (w : World) : (callFunc 32 vs).run Try.prog w = .ok (.enter 32 vs) w := enter_of Try.func32 rfl nm32 vs w
theorem nm33 : (Try.f33.name == "runtime.NumGoroutine") = false := by kernel_rfl
theorem enter33 (vs : Array Value) (w : World) : (callFunc 33 vs).run Try.prog w = .ok (.enter 33 vs) w := enter_of Try.func33 rfl nm33 vs w
theorem nm34 : (Try.f34.name == "runtime.NumGoroutine") = false := by kernel_rfl
theorem enter34 (vs : Array Value) (w : World) : (callFunc 34 vs).run Try.prog w = .ok (.enter 34 vs) w := enter_of Try.func34 rfl nm34 vs w
theorem nm35 : (Try.f35.name == "runtime.NumGoroutine") = false := by kernel_rfl
theorem enter35 (vs : Array Value) (w : World) : (callFunc 35 vs).run Try.prog w = .ok (.enter 35 vs) w := enter_of Try.func35 rfl nm35 vs w
theorem nm36 : (Try.f36.name == "runtime.NumGoroutine") = false := by kernel_rfl
theorem enter36 (vs : Array Value) (w : World) : (callFunc 36 vs).run Try.prog w = .ok (.enter 36 vs) w := enter_of Try.func36 rfl nm36 vs w
theorem nm37 : (Try.f37.name == "runtime.NumGoroutine") = false := by kernel_rfl
theorem enter37 (vs : Array Value) (w : World) : (callFunc 37 vs).run Try.prog w = .ok (.enter 37 vs) w := enter_of Try.func37 rfl nm37 vs w
theorem nm38 : (Try.f38.name == "runtime.NumGoroutine") = false := by kernel_rfl
theorem enter38 (vs : Array Value) (w : World) : (callFunc 38 vs).run Try.prog w = .ok (.enter 38 vs) w := enter_of Try.func38 rfl nm38 vs w
theorem nm39 : (Try.f39.name == "runtime.NumGoroutine") = false := by kernel_rfl
theorem enter39 (vs : Array Value) (w : World) : (callFunc 39 vs).run Try.prog w = .ok (.enter 39 vs) w := enter_of Try.func39 rfl nm39 vs w
theorem nm40 : (Try.f40.name == "runtime.NumGoroutine") = false := by kernel_rfl
theorem enter40 (vs : Array Value) (w : World) : (callFunc 40 vs).run Try.prog w = .ok (.enter 40 vs) w := enter_of Try.func40 rfl nm40 vs w
theorem nm41 : (Try.f41.name == "runtime.NumGoroutine") = false := by kernel_rfl
theorem enter41 (vs : Array Value) (w : World) : (callFunc 41 vs).run Try.prog w = .ok (.enter 41 vs) w := enter_of Try.func41 rfl nm41 vs w
theorem nm42 : (Try.f42.name == "runtime.NumGoroutine") = false := by kernel_rfl
theorem enter42 (vs : Array Value) (w : World) : (callFunc 42 vs).run Try.prog w = .ok (.enter 42 vs) w := enter_of Try.func42 rfl nm42 vs w
theorem nm43 : (Try.f43.name == "runtime.NumGoroutine") = false := by kernel_rfl
theorem enter43 (vs : Array Value) (w : World) : (callFunc 43 vs).run Try.prog w = .ok (.enter 43 vs) w := enter_of Try.func43 rfl nm43 vs w
theorem nm44 : (Try.f44.name == "runtime.NumGoroutine") = false := by kernel_rfl
theorem enter44 (vs : Array Value) (w : World) : (callFunc 44 vs).run Try.prog w = .ok (.enter 44 vs) w := enter_of Try.func44 rfl nm44 vs w
theorem nm45 : (Try.f45.name == "runtime.NumGoroutine") = false := by kernel_rfl
theorem enter45 (vs : Array Value) (w : World) : (callFunc 45 vs).run Try.prog w = .ok (.enter 45 vs) w := enter_of Try.func45 rfl nm45 vs w
theorem nm46 : (Try.f46.name == "runtime.NumGoroutine") = false := by kernel_rfl
theorem enter46 (vs : Array Value) (w : World) : (callFunc 46 vs).run Try.prog w = .ok (.enter 46 vs) w := enter_of Try.func46 rfl nm46 vs w
theorem nm47 : (Try.f47.name == "runtime.NumGoroutine") = false := by kernel_rfl
theorem enter47 (vs : Array Value) (w : World) : (callFunc 47 vs).run Try.prog w = .ok (.enter 47 vs) w := enter_of Try.func47 rfl nm47 vs w
theorem nm48 : (Try.f48.name == "runtime.NumGoroutine") = false := by kernel_rfl
theorem enter48 (vs : Array Value) (w : World) : (callFunc 48 vs).run Try.prog w = .ok (.enter 48 vs) w := enter_of Try.func48 rfl nm48 vs w
theorem nm49 : (Try.f49.name == "runtime.NumGoroutine") = false := by kernel_rfl
theorem enter49 (vs : Array Value) (w : World) : (callFunc 49 vs).run Try.prog w = .ok (.enter 49 vs) w := enter_of Try.func49 rfl nm49 vs w
theorem nm50 : (Try.f50.name == "runtime.NumGoroutine") = false := by kernel_rfl
theorem enter50 (vs : Array Value) (w : World) : (callFunc 50 vs).run Try.prog w = .ok (.enter 50 vs) w := enter_of Try.func50 rfl nm50 vs w
theorem nm51 : (Try.f51.name == "runtime.NumGoroutine") = false := by kernel_rfl
theorem enter51 (vs : Array Value) (w : World) : (callFunc 51 vs).run Try.prog w = .ok (.enter 51 vs) w := enter_of Try.func51 rfl nm51 vs w
theorem nm52 : (Try.f52.name == "runtime.NumGoroutine") = false := by kernel_rfl
theorem enter52 (vs : Array Value) (w : World) : (callFunc 52 vs).run Try.prog w = .ok (.enter 52 vs) w := enter_of Try.func52 rfl nm52 vs w
theorem nm53 : (Try.f53.name == "runtime.NumGoroutine") = false := by kernel_rfl
theorem enter53 (vs : Array Value) (w : World) : (callFunc 53 vs).run Try.prog w = .ok (.enter 53 vs) w := enter_of Try.func53 rfl nm53 vs w
theorem nm54 : (Try.f54.name == "runtime.NumGoroutine") = false := by kernel_rfl
theorem enter54 (vs : Array Value) (w : World) : (callFunc 54 vs).run Try.prog w = .ok (.enter 54 vs) w := enter_of Try.func54 rfl nm54 vs w
theorem nm55 : (Try.f55.name == "runtime.NumGoroutine") = false := by kernel_rfl
theorem enter55 (vs : Array Value) (w : World) : (callFunc 55 vs).run Try.prog w = .ok (.enter 55 vs) w := enter_of Try.func55 rfl nm55 vs w
theorem nm56 : (Try.f56.name == "runtime.NumGoroutine") = false := by kernel_rfl
theorem enter56 (vs : Array Value) (w : World) : (callFunc 56 vs).run Try.prog w = .ok (.enter 56 vs) w := enter_of Try.func56 rfl nm56 vs w
theorem nm57 : (Try.f57.name == "runtime.NumGoroutine") = false := by kernel_rfl
theorem enter57 (vs : Array Value) (w : World) : (callFunc 57 vs).run Try.prog w = .ok (.enter 57 vs) w := enter_of Try.func57 rfl nm57 vs w
theorem nm58 : (Try.f58.name == "runtime.NumGoroutine") = false := by kernel_rfl
theorem enter58 (vs : Array Value) (w : World) : (callFunc 58 vs).run Try.prog w = .ok (.enter 58 vs) w := enter_of Try.func58 rfl nm58 vs w
theorem nm59 : (Try.f59.name == "runtime.NumGoroutine") = false := by kernel_rfl
theorem enter59 (vs : Array Value) (w : World) : (callFunc 59 vs).run Try.prog w = .ok (.enter 59 vs) w := enter_of Try.func59 rfl nm59 vs w
theorem nm60 : (Try.f60.name == "runtime.NumGoroutine") = false := by kernel_rfl
theorem enter60 (vs : Array Value) (w : World) : (callFunc 60 vs).run Try.prog w = .ok (.enter 60 vs) w := enter_of Try.func60 rfl nm60 vs w
theorem nm61 : (Try.f61.name == "runtime.NumGoroutine") = false := by kernel_rfl
theorem enter61 (vs : Array Value) (w : World) : (callFunc 61 vs).run Try.prog w = .ok (.enter 61 vs) w := enter_of Try.func61 rfl nm61 vs w
theorem nm62 : (Try.f62.name == "runtime.NumGoroutine") = false := by kernel_rfl
theorem enter62 (vs : Array Value) (w : World) : (callFunc 62 vs).run Try.prog w = .ok (.enter 62 vs) w := enter_of Try.func62 rfl nm62 vs w
theorem nm63 : (Try.f63.name == "runtime.NumGoroutine") = false := by kernel_rfl
theorem enter63 (vs : Array Value) (w : World) : (callFunc 63 vs).run Try.prog w = .ok (.enter 63 vs) w := enter_of Try.func63 rfl nm63 vs w
theorem nm64 : (Try.f64.name == "runtime.NumGoroutine") = false := by kernel_rfl
theorem enter64 (vs : Array Value) (w : World) : (callFunc 64 vs).run Try.prog w = .ok (.enter 64 vs) w := enter_of Try.func64 rfl nm64 vs w
theorem nm65 : (Try.f65.name == "runtime.NumGoroutine") = false := by kernel_rfl
theorem enter65 (vs : Array Value) (w : World) : (callFunc 65 vs).run Try.prog w = .ok (.enter 65 vs) w := enter_of Try.func65 rfl nm65 vs w
theorem nm66 : (Try.f66.name == "runtime.NumGoroutine") = false := by kernel_rfl
theorem enter66 (vs : Array Value) (w : World) : (callFunc 66 vs).run Try.prog w = .ok (.enter 66 vs) w := enter_of Try.func66 rfl nm66 vs w
theorem nm67 : (Try.f67.name == "runtime.NumGoroutine") = false := by kernel_rfl
theorem enter67 (vs : Array Value) (w : World) : (callFunc 67 vs).run Try.prog w = .ok (.enter 67 vs) w := enter_of Try.func67 rfl nm67 vs w
theorem nm68 : (Try.f68.name == "runtime.NumGoroutine") = false := by kernel_rfl
theorem enter68 (vs : Array Value) (w : World) : (callFunc 68 vs).run Try.prog w = .ok (.enter 68 vs) w := enter_of Try.func68 rfl nm68 vs w
theorem nm69 : (Try.f69.name == "runtime.NumGoroutine") = false := by kernel_rfl
theorem enter69 (vs : Array Value) (w : World) : (callFunc 69 vs).run Try.prog w = .ok (.enter 69 vs) w := enter_of Try.func69 rfl nm69 vs w
theorem nm70 : (Try.f70.name == "runtime.NumGoroutine") = false := by kernel_rfl
theorem enter70 (vs : Array Value) (w : World) : (callFunc 70 vs).run Try.prog w = .ok (.enter 70 vs) w := enter_of Try.func70 rfl nm70 vs w
theorem nm71 : (Try.f71.name == "runtime.NumGoroutine") = false := by kernel_rfl
theorem enter71 (vs : Array Value) (w : World) : (callFunc 71 vs).run Try.prog w = .ok (.enter 71 vs) w := enter_of Try.func71 rfl nm71 vs w
theorem nm72 : (Try.f72.name == "runtime.NumGoroutine") = false := by kernel_rfl
theorem enter72 (vs : Array Value) (w : World) : (callFunc 72 vs).run Try.prog w = .ok (.enter 72 vs) w := enter_of Try.func72 rfl nm72 vs w
theorem nm73 : (Try.f73.name == "runtime.NumGoroutine") = false := by kernel_rfl
theorem enter73 (vs : Array Value) (w : World) : (callFunc 73 vs).run Try.prog w = .ok (.enter 73 vs) w := enter_of Try.func73 rfl nm73 vs w
theorem nm74 : (Try.f74.name == "runtime.NumGoroutine") = false := by kernel_rfl
theorem enter74 (vs : Array Value) (w : World) : (callFunc 74 vs).run Try.prog w = .ok (.enter 74 vs) w := enter_of Try.func74 rfl nm74 vs w
theorem nm75 : (Try.f75.name == "runtime.NumGoroutine") = false := by kernel_rfl
theorem enter75 (vs : Array Value) (w : World) : (callFunc 75 vs).run Try.prog w = .ok (.enter 75 vs) w := enter_of Try.func75 rfl nm75 vs w
theorem nm76 : (Try.f76.name == "runtime.NumGoroutine") = false := by kernel_rfl
theorem enter76 (vs : Array Value) (w : World) : (callFunc 76 vs).run Try.prog w = .ok (.enter 76 vs) w := enter_of Try.func76 rfl nm76 vs w
theorem nm77 : (Try.f77.name == "runtime.NumGoroutine") = false := by kernel_rfl
theorem enter77 (vs : Array Value) (w : World) : (callFunc 77 vs).run Try.prog w = .ok (.enter 77 vs) w := enter_of Try.func77 rfl nm77 vs w
theorem nm78 : (Try.f78.name == "runtime.NumGoroutine") = false := by kernel_rfl
theorem enter78 (vs : Array Value) (w : World) : (callFunc 78 vs).run Try.prog w = .ok (.enter 78 vs) w := enter_of Try.func78 rfl nm78 vs w
theorem nm79 : (Try.f79.name == "runtime.NumGoroutine") = false := by kernel_rfl
theorem enter79 (vs : Array Value) (w : World) : (callFunc 79 vs).run Try.prog w = .ok (.enter 79 vs) w := enter_of Try.func79 rfl nm79 vs w
theorem nm80 : (Try.f80.name == "runtime.NumGoroutine") = false := by kernel_rfl
theorem enter80 (vs : Array Value) (w : World) : (callFunc 80 vs).run Try.prog w = .ok (.enter 80 vs) w := enter_of Try.func80 rfl nm80 vs w
theorem nm81 : (Try.f81.name == "runtime.NumGoroutine") = false := by kernel_rfl
theorem enter81 (vs : Array Value) (w : World) : (callFunc 81 vs).run Try.prog w = .ok (.enter 81 vs) w := enter_of Try.func81 rfl nm81 vs w
theorem nm82 : (Try.f82.name == "runtime.NumGoroutine") = false := by kernel_rfl
theorem enter82 (vs : Array Value) (w : World) : (callFunc 82 vs).run Try.prog w = .ok (.enter 82 vs) w := enter_of Try.func82 rfl nm82 vs w
theorem nm83 : (Try.f83.name == "runtime.NumGoroutine") = false := by kernel_rfl
theorem enter83 (vs : Array Value) (w : World) : (callFunc 83 vs).run Try.prog w = .ok (.enter 83 vs) w := enter_of Try.func83 rfl nm83 vs w
theorem nm84 : (Try.f84.name == "runtime.NumGoroutine") = false := by kernel_rfl
theorem enter84 (vs : Array Value) (w : World) : (callFunc 84 vs).run Try.prog w = .ok (.enter 84 vs) w := enter_of Try.func84 rfl nm84 vs w
theorem nm85 : (Try.f85.name == "runtime.NumGoroutine") = false := by kernel_rfl
theorem enter85 (vs : Array Value) (w : World) : (callFunc 85 vs).run Try.prog w = .ok (.enter 85 vs) w := enter_of Try.func85 rfl nm85 vs w
theorem nm86 : (Try.f86.name == "runtime.NumGoroutine") = false := by kernel_rfl
theorem enter86 (vs : Array Value) (w : World) : (callFunc 86 vs).run Try.prog w = .ok (.enter 86 vs) w := enter_of Try.func86 rfl nm86 vs w
theorem nm87 : (Try.f87.name == "runtime.NumGoroutine") = false := by kernel_rfl
theorem enter87 (vs : Array Value) (w : World) : (callFunc 87 vs).run Try.prog w = .ok (.enter 87 vs) w := enter_of Try.func87 rfl nm87 vs w
theorem nm88 : (Try.f88.name == "runtime.NumGoroutine") = false := by kernel_rfl
theorem enter88 (vs : Array Value) (w : World) : (callFunc 88 vs).run Try.prog w = .ok (.enter 88 vs) w := enter_of Try.func88 rfl nm88 vs w
theorem nm89 : (Try.f89.name == "runtime.NumGoroutine") = false := by kernel_rfl
theorem enter89 (vs : Array Value) (w : World) : (callFunc 89 vs).run Try.prog w = .ok (.enter 89 vs) w := enter_of Try.func89 rfl nm89 vs w
theorem nm90 : (Try.f90.name == "runtime.NumGoroutine") = false := by kernel_rfl
theorem enter90 (vs : Array Value) (w : World) : (callFunc 90 vs).run Try.prog w = .ok (.enter 90 vs) w := enter_of Try.func90 rfl nm90 vs w
theorem nm91 : (Try.f91.name == "runtime.NumGoroutine") = false := by kernel_rfl
theorem enter91 (vs : Array Value) (w : World) : (callFunc 91 vs).run Try.prog w = .ok (.enter 91 vs) w := enter_of Try.func91 rfl nm91 vs w
theorem nm92 : (Try.f92.name == "runtime.NumGoroutine") = false := by kernel_rfl
theorem enter92 (vs : Array Value) (w : World) : (callFunc 92 vs).run Try.prog w = .ok (.enter 92 vs) w := enter_of Try.func92 rfl nm92 vs w
theorem nm93 : (Try.f93.name == "runtime.NumGoroutine") = false := by kernel_rfl
theorem enter93 (vs : Array Value) (w : World) : (callFunc 93 vs).run Try.prog w = .ok (.enter 93 vs) w := enter_of Try.func93 rfl nm93 vs w
theorem nm94 : (Try.f94.name == "runtime.NumGoroutine") = false := by kernel_rfl
theorem enter94 (vs : Array Value) (w : World) : (callFunc 94 vs).run Try.prog w = .ok (.enter 94 vs) w := enter_of Try.func94 rfl nm94 vs w
theorem nm95 : (Try.f95.name == "runtime.NumGoroutine") = false := by kernel_rfl
theorem enter95 (vs : Array Value) (w : World) : (callFunc 95 vs).run Try.prog w = .ok (.enter 95 vs) w := enter_of Try.func95 rfl nm95 vs w
theorem nm96 : (Try.f96.name == "runtime.NumGoroutine") = false := by kernel_rfl
theorem enter96 (vs : Array Value) (w : World) : (callFunc 96 vs).run Try.prog w = .ok (.enter 96 vs) w := enter_of Try.func96 rfl nm96 vs w
theorem nm97 : (Try.f97.name == "runtime.NumGoroutine") = false := by kernel_rfl
theorem enter97 (vs : Array Value) (w : World) : (callFunc 97 vs).run Try.prog w = .ok (.enter 97 vs) w := enter_of Try.func97 rfl nm97 vs w
theorem nm98 : (Try.f98.name == "runtime.NumGoroutine") = false := by kernel_rfl
theorem enter98 (vs : Array Value) (w : World) : (callFunc 98 vs).run Try.prog w = .ok (.enter 98 vs) w := enter_of Try.func98 rfl nm98 vs w
theorem nm99 : (Try.f99.name == "runtime.NumGoroutine") = false := by kernel_rfl
theorem enter99 (vs : Array Value) (w : World) : (callFunc 99 vs).run Try.prog w = .ok (.enter 99 vs) w := enter_of Try.func99 rfl nm99 vs w
theorem nm100 : (Try.f100.name == "runtime.NumGoroutine") = false := by kernel_rfl
theorem enter100 (vs : Array Value) (w : World) : (callFunc 100 vs).run Try.prog w = .ok (.enter 100 vs) w := enter_of Try.func100 rfl nm100 vs w
theorem nm101 : (Try.f101.name == "runtime.NumGoroutine") = false := by kernel_rfl
theorem enter101 (vs : Array Value) (w : World) : (callFunc 101 vs).run Try.prog w = .ok (.enter 101 vs) w := enter_of Try.func101 rfl nm101 vs w

end Go.Proofs.Ytddacakmafdgdaa
end
section
/- Lists of numbers as cells; slices that are read. -/
set_option linter.unusedVariables false
namespace Go.Kn
open Go.RowKit
def ints (v : List Int) : Array Value := (v.map (.int .i64)).toArray
theorem ints_size (v : List Int) : (ints v).size = v.length := by simp [ints]
theorem ints_get (v : List Int) (i : Nat) (h : i < v.length) : (ints v)[i]? = some (.int .i64 (v.getD i 0)) := by simp [ints, h]
def adr (A : Option Addr) : Addr := A.getD ⟨0, 0, none⟩
theorem add_add (a : Addr) (i j : Nat) : (a.add i).add j = a.add (i + j) := by
  unfold Addr.add
  by_cases h1 : i = 0 <;> by_cases h2 : j = 0 <;> simp [h1, h2, Nat.add_assoc]
/-- A slice that is read: n elements of sz cells each, the cells cs. -/
structure Rd (w : World) (A : Option Addr) (n : Nat) (sz : Nat) (cs : List Value) : Prop where
  len : cs.length = n * sz
  here : 0 < n → A.isSome = true
  cell : ∀ j v, cs[j]? = some v → w.cell? ((adr A).add j) = some v
theorem Rd.up {w0 w : World} {A : Option Addr} {n sz : Nat} {cs : List Value} {L : Hp} (h : Rd w0 A n sz cs) (hM : Mem w0 No w L) : Rd w A n sz cs :=
  ⟨h.len, h.here, fun j v hv => hM.old (h.cell j v hv) (fun h => h)⟩
theorem Rd.kept {w0 w : World} {A : Option Addr} {n sz : Nat} {cs : List Value} (h : Rd w0 A n sz cs) (hM : Kept w0 w No) : Rd w A n sz cs :=
  h.up (L := []) ⟨hM, Holds.nil _, by simp [keys]⟩
section
variable {P : Program} {w : World} {ρ : Operand → Value} {dst : Option Tmp} {type : TypeId} {pos : String} {after : Array Edge} {guard : Option (Nat × Bool)}
theorem x_indexAddrR {t e : TypeId} {x y : Operand} {A : Option Addr} {n c : Nat} {k : IntKind} {i : Int} {sz : Nat} (hA : 0 < n → A.isSome = true) (h0 : 0 ≤ i) (h1 : i < n) (hx : ρ x = .slice A n c) (hy : ρ y = .int k i) (ht : (underlying t).run P w = .ok (.slice e) w) (hs : (sizeOf e).run P w = .ok sz w) :
    (execOp ρ ⟨dst, .indexAddr t x y, type, pos, after, guard⟩).run P w = .ok (.value (.pointer (some ((adr A).add (i.toNat * sz))))) w := by
  obtain ⟨ad, rfl⟩ := Option.isSome_iff_exists.1 (hA (by omega))
  exact x_indexAddr h0 h1 hx hy ht hs
end
theorem x_indexAddrB {P : Program} {w : World} {ρ : Operand → Value} {dst : Option Tmp} {type : TypeId} {pos : String} {after : Array Edge} {guard : Option (Nat × Bool)} {t e : TypeId} {x y : Operand} {b o r : Nat} {n : Nat} {k : IntKind} {i sz : Nat} (h1 : i < n) (hx : ρ x = .pointer (some ⟨b, o, none⟩)) (hy : ρ y = .int k (i : Int)) (ht : (underlying t).run P w = .ok (.array n e) w) (hs : (sizeOf e).run P w = .ok sz w) (hr : o + i * sz = r) :
    (execOp ρ ⟨dst, .indexAddr t x y, type, pos, after, guard⟩).run P w = .ok (.value (.pointer (some ⟨b, r, none⟩))) w := by
  have h := x_indexAddrA (P := P) (dst := dst) (type := type) (pos := pos) (after := after) (guard := guard) (w := w) (k := k) (i := (i : Int)) (n := n) (sz := sz) (e := e) (t := t) (Int.natCast_nonneg i) (by omega) hx hy ht hs
  rw [h]
  have : (⟨b, o, none⟩ : Addr).add (i * sz) = ⟨b, r, none⟩ := by
    subst hr
    unfold Addr.add; split <;> simp_all
  simp [this]
theorem x_indexAddrN {P : Program} {w : World} {ρ : Operand → Value} {dst : Option Tmp} {type : TypeId} {pos : String} {after : Array Edge} {guard : Option (Nat × Bool)} {t e : TypeId} {x y : Operand} {A : Option Addr} {n c : Nat} {k : IntKind} {i : Nat} {sz : Nat} (hA : 0 < n → A.isSome = true) (h1 : i < n) (hx : ρ x = .slice A n c) (hy : ρ y = .int k (i : Int)) (ht : (underlying t).run P w = .ok (.slice e) w) (hs : (sizeOf e).run P w = .ok sz w) :
    (execOp ρ ⟨dst, .indexAddr t x y, type, pos, after, guard⟩).run P w = .ok (.value (.pointer (some ((adr A).add (i * sz))))) w := by
  have h := x_indexAddrR (P := P) (dst := dst) (type := type) (pos := pos) (after := after) (guard := guard) (w := w) (k := k) (i := (i : Int)) (n := n) (c := c) (sz := sz) (e := e) (t := t) hA (Int.natCast_nonneg i) (by omega) hx hy ht hs
  rw [h]
  simp
theorem x_loadRow {P : Program} {w w0 : World} {S : Nat → Prop} {L : Hp} {ρ : Operand → Value} {dst : Option Tmp} {type : TypeId} {pos : String} {after : Array Edge} {guard : Option (Nat × Bool)} {t e : TypeId} {x : Operand} {b : Nat} {cs : Array Value} (hM : Mem w0 S w L) (i : Nat) (hi : L[i]? = some (b, .cells cs e (0, 0))) (hx : ρ x = .pointer (some ⟨b, 0, none⟩)) (hg : (isAgg t).run P w = .ok true w) (hs : (sizeOf t).run P w = .ok cs.size w) :
    (execOp ρ ⟨dst, .load t x, type, pos, after, guard⟩).run P w = .ok (.value (.agg cs)) w := by
  have := x_loadAgg (P := P) (ρ := ρ) (dst := dst) (type := type) (pos := pos) (after := after) (guard := guard) (t := t) (x := x) (a := ⟨b, 0, none⟩) (cs := cs.toList) (w := w) (fun j v hv => by
    rw [show (⟨b, 0, none⟩ : Addr).add j = ⟨b, j, none⟩ by unfold Addr.add; split <;> simp_all]
    exact hM.cell i hi (by simpa using hv)) hx hg (by rw [hs]; simp)
  simpa using this
end Go.Kn
end
section
/- Slices of elements that are read; stores of many cells; arithmetic with a told result. -/
set_option linter.unusedVariables false
set_option linter.unusedSimpArgs false
namespace Go.Kn
open Go.RowKit
theorem add_row (b o j : Nat) : (⟨b, o, none⟩ : Addr).add j = ⟨b, o + j, none⟩ := by unfold Addr.add; split <;> simp_all
/-- A slice that is read: n elements of sz cells each; enc: an element's cells. -/
structure RdE {α : Type} (enc : α → List Value) (sz : Nat) (w : World) (A : Option Addr) (n : Nat) (l : List α) : Prop where
  len : l.length = n
  size : ∀ x ∈ l, (enc x).length = sz
  here : 0 < n → A.isSome = true
  cell : ∀ k x i v, l[k]? = some x → (enc x)[i]? = some v → w.cell? ((adr A).add (k * sz + i)) = some v
theorem RdE.upS {α : Type} {enc : α → List Value} {sz : Nat} {w0 w : World} {S : Nat → Prop} {A : Option Addr} {n : Nat} {l : List α} {L : Hp} (h : RdE enc sz w0 A n l) (hM : Mem w0 S w L) (hS : ¬ S (adr A).block) : RdE enc sz w A n l :=
  ⟨h.len, h.size, h.here, fun k x i v hk hi => hM.old (h.cell k x i v hk hi) (by
    have : ((adr A).add (k * sz + i)).block = (adr A).block := by unfold Addr.add; split <;> rfl
    rw [this]; exact hS)⟩
theorem RdE.up {α : Type} {enc : α → List Value} {sz : Nat} {w0 w : World} {A : Option Addr} {n : Nat} {l : List α} {L : Hp} (h : RdE enc sz w0 A n l) (hM : Mem w0 No w L) : RdE enc sz w A n l := h.upS hM (fun h => h)
theorem RdE.elem {α : Type} {enc : α → List Value} {sz : Nat} {w : World} {A : Option Addr} {n : Nat} {l : List α} (h : RdE enc sz w A n l) {k : Nat} {x : α} (hk : l[k]? = some x) : ∀ i v, (enc x)[i]? = some v → w.cell? (((adr A).add (k * sz)).add i) = some v :=
  fun i v hi => by rw [add_add]; exact h.cell k x i v hk hi
theorem RdE.first {α : Type} {enc : α → List Value} {sz : Nat} {w : World} {A : Option Addr} {n : Nat} {l : List α} (h : RdE enc sz w A n l) {k : Nat} {x : α} {v : Value} (hk : l[k]? = some x) (hv : (enc x)[0]? = some v) : w.cell? ((adr A).add (k * sz)) = some v := by
  have := h.cell k x 0 v hk hv
  simpa using this
theorem RdE.size' {α : Type} {enc : α → List Value} {sz : Nat} {w : World} {A : Option Addr} {n : Nat} {l : List α} (h : RdE enc sz w A n l) {k : Nat} {x : α} (hk : l[k]? = some x) : (enc x).length = sz := h.size x (List.mem_of_getElem? hk)
/-- a part of it -/
theorem RdE.dropN {α : Type} {enc : α → List Value} {sz : Nat} {w : World} {A : Option Addr} {n : Nat} {l : List α} (h : RdE enc sz w A n l) (k : Nat) (hk : k ≤ n) (A' : Option Addr) (hA : k < n → A' = A.map (·.add (k * sz))) : RdE enc sz w A' (n - k) (l.drop k) :=
  ⟨by rw [List.length_drop, h.len], fun x hx => h.size x (List.mem_of_mem_drop hx), fun hp => by rw [hA (by omega)]; have := h.here (by omega); simpa using this, fun j x i v hj hi => by
    rw [List.getElem?_drop] at hj
    have hlt : k + j < n := by have := (List.getElem?_eq_some_iff.1 hj).1; rw [h.len] at this; exact this
    have h2 := h.cell (k + j) x i v hj hi
    rw [hA (by omega)]
    obtain ⟨a, rfl⟩ := Option.isSome_iff_exists.1 (h.here (by omega))
    simp only [adr, Option.map_some, Option.getD_some] at h2 ⊢
    rw [add_add, show k * sz + (j * sz + i) = (k + j) * sz + i by rw [Nat.add_mul]; omega]
    exact h2⟩
abbrev intE (x : Int) : List Value := [.int .i64 x]
abbrev intsE (x : List Int) : List Value := x.map (.int .i64)
theorem intsE_at {y : List Int} (i : Nat) (h : i < y.length) : (intsE y)[i]? = some (.int .i64 (y.getD i 0)) := by simp [h]
theorem intsE_0 {y : List Int} (h : 0 < y.length) : (intsE y)[0]? = some (.int .i64 (y.getD 0 0)) := intsE_at 0 h

section
variable {P : Program} {w : World} {ρ : Operand → Value} {dst : Option Tmp} {type : TypeId} {pos : String} {after : Array Edge} {guard : Option (Nat × Bool)}
theorem x_loadElem {α : Type} {enc : α → List Value} {sz : Nat} {A : Option Addr} {n : Nat} {l : List α} {k : Nat} {e : α} {t : TypeId} {x : Operand} (h : RdE enc sz w A n l) (hk : l[k]? = some e) (hx : ρ x = .pointer (some ((adr A).add (k * sz)))) (hg : (isAgg t).run P w = .ok true w) (hs : (sizeOf t).run P w = .ok sz w) :
    (execOp ρ ⟨dst, .load t x, type, pos, after, guard⟩).run P w = .ok (.value (.agg (enc e).toArray)) w :=
  x_loadAgg (h.elem hk) hx hg (by rw [hs, h.size e (List.mem_of_getElem? hk)])
theorem x_loadEInt {A : Option Addr} {n : Nat} {l : List Int} {k : Nat} {e : Int} {t : TypeId} {x : Operand} (h : RdE intE 1 w A n l) (hk : l[k]? = some e) (hx : ρ x = .pointer (some ((adr A).add (k * 1)))) (hg : (isAgg t).run P w = .ok false w) :
    (execOp ρ ⟨dst, .load t x, type, pos, after, guard⟩).run P w = .ok (.value (.int .i64 e)) w := x_load (h.first hk rfl) hx hg
theorem x_addE {t t' : TypeId} {x y : Operand} {a b r : Int} (h : a + b = r) (h1 : -9223372036854775808 ≤ r) (h2 : r ≤ 9223372036854775807) (hx : ρ x = .int .i64 a) (hy : ρ y = .int .i64 b) :
    (execOp ρ ⟨dst, .binOp .add t x y t', type, pos, after, guard⟩).run P w = .ok (.value (.int .i64 r)) w := by subst h; exact x_add (wrap_i64 h1 h2) hx hy
theorem x_subE {t t' : TypeId} {x y : Operand} {a b r : Int} (h : a - b = r) (h1 : -9223372036854775808 ≤ r) (h2 : r ≤ 9223372036854775807) (hx : ρ x = .int .i64 a) (hy : ρ y = .int .i64 b) :
    (execOp ρ ⟨dst, .binOp .sub t x y t', type, pos, after, guard⟩).run P w = .ok (.value (.int .i64 r)) w := by subst h; exact x_sub (wrap_i64 h1 h2) hx hy
theorem x_mulE {t t' : TypeId} {x y : Operand} {a b r : Int} (h : a * b = r) (h1 : -9223372036854775808 ≤ r) (h2 : r ≤ 9223372036854775807) (hx : ρ x = .int .i64 a) (hy : ρ y = .int .i64 b) :
    (execOp ρ ⟨dst, .binOp .mul t x y t', type, pos, after, guard⟩).run P w = .ok (.value (.int .i64 r)) w := by subst h; exact x_mul (wrap_i64 h1 h2) hx hy
theorem x_convE {s d : TypeId} {x : Operand} {k k' : IntKind} {u : TypeDesc} {a r : Int} (h : k'.wrap a = r) (hx : ρ x = .int k a) (hs : (underlying s).run P w = .ok u w) (hd : (underlying d).run P w = .ok (.int k') w) :
    (execOp ρ ⟨dst, .convert s d x, type, pos, after, guard⟩).run P w = .ok (.value (.int k' r)) w := by
  subst h
  simp [execOp, hx, Go.convert, hs, hd, Conv.intToInt]
theorem wrap_u64 {a : Int} (h1 : 0 ≤ a) (h2 : a ≤ 18446744073709551615) : IntKind.u64.wrap a = a := by
  simp only [IntKind.wrap, IntKind.bits, IntKind.signed]
  simp
  omega
theorem x_shr1 {t t' : TypeId} {x y : Operand} {a : Int} {k : IntKind} (hx : ρ x = .int .u64 a) (hy : ρ y = .int k 1) :
    (execOp ρ ⟨dst, .binOp .shr t x y t', type, pos, after, guard⟩).run P w = .ok (.value (.int .u64 (a / 2))) w := by
  have h : a.fdiv 2 = a / 2 := Int.fdiv_eq_ediv_of_nonneg _ (by decide)
  simp [execOp, hx, hy, eqGuard, Go.binOp, Op.shift, IntKind.bits, h]
theorem x_len {x : Operand} {t e : TypeId} {A : Option Addr} {m c : Nat} (hx : ρ x = .slice A m c) (ht : (underlying t).run P w = .ok (.slice e) w) :
    (execOp ρ ⟨dst, .call { callee := .builtin .len, args := #[x], argTypes := #[t] }, type, pos, after, guard⟩).run P w = .ok (.value (.int .i64 (m : Int))) w := by
  simp [execOp, resolve, invoke, builtin, Builtin.len_, hx, ht, goInt]
theorem x_lenStr {x : Operand} {t : TypeId} {s : ByteArray} (hx : ρ x = .string s) (ht : (underlying t).run P w = .ok .string w) :
    (execOp ρ ⟨dst, .call { callee := .builtin .len, args := #[x], argTypes := #[t] }, type, pos, after, guard⟩).run P w = .ok (.value (.int .i64 (s.size : Int))) w := by
  simp [execOp, resolve, invoke, builtin, Builtin.len_, hx, ht, goInt]
theorem x_shrE {t t' : TypeId} {x y : Operand} {a r : Int} {k : IntKind} (h : a / 2 = r) (hx : ρ x = .int .u64 a) (hy : ρ y = .int k 1) :
    (execOp ρ ⟨dst, .binOp .shr t x y t', type, pos, after, guard⟩).run P w = .ok (.value (.int .u64 r)) w := by subst h; exact x_shr1 hx hy
/-- a part of a block of numbers -/
theorem x_loadInts {w0 : World} {S : Nat → Prop} {L : Hp} {b o m : Nat} {e t : TypeId} {v : List Int} {x : Operand} (hM : Mem w0 S w L) (i : Nat) (hi : L[i]? = some (b, .cells (ints v) e (0, 0))) (hl : v.length = o + m) (hx : ρ x = .pointer (some ⟨b, o, none⟩)) (hg : (isAgg t).run P w = .ok true w) (hs : (sizeOf t).run P w = .ok m w) :
    (execOp ρ ⟨dst, .load t x, type, pos, after, guard⟩).run P w = .ok (.value (.agg (ints (v.drop o)))) w := by
  have := x_loadAgg (P := P) (ρ := ρ) (dst := dst) (type := type) (pos := pos) (after := after) (guard := guard) (t := t) (x := x) (a := ⟨b, o, none⟩) (cs := (v.drop o).map (.int .i64)) (w := w) (fun j u hu => by
    rw [add_row]
    refine hM.cell i hi ?_
    rw [List.getElem?_map, List.getElem?_drop] at hu
    simpa [ints] using hu) hx hg (by rw [hs]; simp; omega)
  simpa [ints] using this
end

theorem x_loadPart {P : Program} {w w0 : World} {ρ : Operand → Value} {dst : Option Tmp} {type : TypeId} {pos : String} {after : Array Edge} {guard : Option (Nat × Bool)} {S : Nat → Prop} {L : Hp} {b : Nat} {e t : TypeId} {cs : Array Value} {x : Operand} (hM : Mem w0 S w L) (i : Nat) (hi : L[i]? = some (b, .cells cs e (0, 0))) {o : Nat} {l : List Value} (hl : (cs.toList.drop o).take l.length = l) (hx : ρ x = .pointer (some ⟨b, o, none⟩)) (hg : (isAgg t).run P w = .ok true w) (hs : (sizeOf t).run P w = .ok l.length w) :
    (execOp ρ ⟨dst, .load t x, type, pos, after, guard⟩).run P w = .ok (.value (.agg l.toArray)) w :=
  x_loadAgg (fun j u hu => by
    rw [add_row]
    refine hM.cell i hi ?_
    rw [← hl, List.getElem?_take] at hu
    split at hu
    · rw [List.getElem?_drop] at hu; simpa using hu
    · cases hu) hx hg hs
/-! ### stores of many cells -/
def setMany (cs : Array Value) : Nat → List Value → Array Value
  | _, [] => cs
  | i, v :: r => setMany (cs.setIfInBounds i v) (i + 1) r
theorem setMany_size : ∀ (vs : List Value) (cs : Array Value) (i : Nat), (setMany cs i vs).size = cs.size
  | [], _, _ => rfl
  | v :: r, cs, i => by unfold setMany; rw [setMany_size r]; simp
theorem setMany_get : ∀ (vs : List Value) (cs : Array Value) (i j : Nat), i + vs.length ≤ cs.size → (setMany cs i vs)[j]? = if i ≤ j ∧ j < i + vs.length then vs[j - i]? else cs[j]?
  | [], cs, i, j, _ => by unfold setMany; rw [if_neg (by simp)]
  | v :: r, cs, i, j, h => by
    simp only [List.length_cons] at h
    unfold setMany
    rw [setMany_get r _ (i + 1) j (by simp; omega)]
    by_cases hj : j = i
    · subst hj
      rw [if_neg (by omega), if_pos ⟨Nat.le_refl _, by simp⟩]
      simp [Array.getElem?_setIfInBounds]
      omega
    · by_cases h2 : i + 1 ≤ j ∧ j < i + 1 + r.length
      · rw [if_pos h2, if_pos ⟨by omega, by simp; omega⟩, show j - i = (j - (i + 1)) + 1 by omega]
        rfl
      · rw [if_neg h2, if_neg (by simp only [List.length_cons]; omega), Array.getElem?_setIfInBounds_ne (by omega)]
theorem setMany_all {cs cs' : Array Value} (h : cs'.size = cs.size) : setMany cs 0 cs'.toList = cs' := by
  apply Array.ext_getElem?
  intro j
  rw [setMany_get _ _ _ _ (by simp [h])]
  by_cases hj : j < cs'.size
  · rw [if_pos ⟨by omega, by simpa using hj⟩]; simp
  · rw [if_neg (by simp; omega)]
    rw [Array.getElem?_eq_none (by omega), Array.getElem?_eq_none (by omega)]
theorem run_storeCells {P : Program} : ∀ (vs : List Value) (w : World) (b o i : Nat) (cs : Array Value) (e : TypeId), w.heap[b]? = some (.cells cs e (0, 0)) → o + i + vs.length ≤ cs.size → (∀ u ∈ vs, u.oneCell' = true) →
    ∃ w', (storeCells ⟨b, o, none⟩ vs i).run P w = .ok () w' ∧ w'.heap[b]? = some (.cells (setMany cs (o + i) vs) e (0, 0)) ∧ Kept w w' (fun k => k = b)
  | [], w, b, o, i, cs, e, h, _, _ => ⟨w, by simp [storeCells], h, Kept.refl _ _⟩
  | v :: r, w, b, o, i, cs, e, h, hs, h1 => by
    simp only [List.length_cons] at hs
    have hc : w.cell? ⟨b, o + i, none⟩ = some cs[o + i] := by rw [cell_of_row w b (o + i) cs e (0, 0) h]; simp
    have hf : w.frozen? ⟨b, o + i, none⟩ = false := by simp [World.frozen?, h]
    have hv := h1 v (by simp)
    obtain ⟨w', h2, h3, h4⟩ := run_storeCells (P := P) r (w.setCell ⟨b, o + i, none⟩ v) b o (i + 1) (cs.setIfInBounds (o + i) v) e (heap_setCell_row h) (by simp; omega) (fun u hu => h1 u (by simp [hu]))
    refine ⟨w', ?_, by show w'.heap[b]? = some (.cells (setMany (cs.setIfInBounds (o + i) v) (o + i + 1) r) e (0, 0)); exact h3, (kept_setCell (w := w) (b := b) (j := o + i) (v := v)).trans h4 (fun k hk => .inl hk)⟩
    have hst : (Go.store ((⟨b, o, none⟩ : Addr).add i) v).run P w = .ok () (w.setCell ⟨b, o + i, none⟩ v) := by
      rw [add_row]
      unfold Go.store
      cases v <;> first | (simp [Value.oneCell'] at hv; done) | simp [Sem.run, hc, hf]
    simp only [storeCells, Sem.run_bind, hst, Result.andThen_ok]
    exact h2
section
variable {P : Program} {n : Nat} {ops : Array Oper} {Q : Exit → Act → World → Prop} {K : St} {w w0 : World} {S : Nat → Prop} {L : Hp} {dst : Option Tmp} {type : TypeId} {pos : String} {after : Array Edge} {rest : List Oper}
theorem r_storeAgg {t : TypeId} {x y : Operand} (hM : Mem w0 S w L) (i : Nat) {b o : Nat} {cs vs : Array Value} {e : TypeId} (hi : L[i]? = some (b, .cells cs e (0, 0))) (ho : o + vs.size ≤ cs.size) (h1 : ∀ u ∈ vs.toList, u.oneCell' = true) (hs : (sizeOf t).run P w = .ok vs.size w)
    (hx : okOp n K ⟨dst, .store t x y, type, pos, after, none⟩ = true) (ha : K.ev x = .pointer (some ⟨b, o, none⟩)) (hv : K.ev y = .agg vs)
    (h : ∀ w', Mem w0 S w' (L.set i (b, .cells (setMany cs o vs.toList) e (0, 0))) → wpR P n ops Q rest (K.put dst undef) w') : wpR P n ops Q (⟨dst, .store t x y, type, pos, after, none⟩ :: rest) K w := by
  obtain ⟨w', h2, h3, h4⟩ := run_storeCells (P := P) vs.toList w b o 0 cs e (hM.get i hi) (by simpa using ho) h1
  refine r_skip (w' := w') rfl hx ?_ (h _ (hM.turn hi h4 h3))
  simp [execOp, ha, hv, Instr.storeAt, Instr.sureAddr, storeVar, hs, Value.cells, h2]
/-- a whole block -/
theorem r_storeRow {t : TypeId} {x y : Operand} (hM : Mem w0 S w L) (i : Nat) {b : Nat} {cs vs : Array Value} {e : TypeId} (hi : L[i]? = some (b, .cells cs e (0, 0))) (ho : vs.size = cs.size) (h1 : ∀ u ∈ vs.toList, u.oneCell' = true) (hs : (sizeOf t).run P w = .ok vs.size w)
    (hx : okOp n K ⟨dst, .store t x y, type, pos, after, none⟩ = true) (ha : K.ev x = .pointer (some ⟨b, 0, none⟩)) (hv : K.ev y = .agg vs)
    (h : ∀ w', Mem w0 S w' (L.set i (b, .cells vs e (0, 0))) → wpR P n ops Q rest (K.put dst undef) w') : wpR P n ops Q (⟨dst, .store t x y, type, pos, after, none⟩ :: rest) K w :=
  r_storeAgg hM i hi (by omega) h1 hs hx ha hv (fun w' hM' => by rw [setMany_all ho] at hM'; exact h w' hM')
end
theorem ints_one (v : List Int) : ∀ u ∈ (ints v).toList, u.oneCell' = true := by
  intro u hu
  simp [ints] at hu
  obtain ⟨x, _, rfl⟩ := hu
  rfl
end Go.Kn
end
section
namespace Go.Kn
def inVec (n : Int) : Bool := decide (-127 ≤ n) && decide (n ≤ 127)
def vecOk (v : List Int) : Bool := v.all inVec
theorem vecOk_no {v : List Int} {k : Nat} (hv : v.length = 12) (hk : k < 12) (h : v.getD k 0 < -127 ∨ 127 < v.getD k 0) : ¬ vecOk v = true := by
  intro h2
  unfold vecOk at h2
  have hlt : k < v.length := by omega
  have := List.all_eq_true.1 h2 v[k] (List.getElem_mem hlt)
  simp only [inVec, Bool.and_eq_true, decide_eq_true_eq] at this
  simp only [List.getD_eq_getElem?_getD, List.getElem?_eq_getElem hlt, Option.getD_some] at h
  omega
theorem vecOk_snoc {v : List Int} {k : Nat} (hv : v.length = 12) (hk : k < 12) (h : vecOk (v.take k) = true) (h2 : -127 ≤ v.getD k 0 ∧ v.getD k 0 ≤ 127) : vecOk (v.take (k + 1)) = true := by
  have hlt : k < v.length := by omega
  simp only [List.getD_eq_getElem?_getD, List.getElem?_eq_getElem hlt, Option.getD_some] at h2
  unfold vecOk at *
  rw [List.take_succ_eq_append_getElem hlt, List.all_append, h]
  simp [inVec, h2.1, h2.2]
theorem vecOk_all {v : List Int} {k : Nat} (hv : v.length = 12) (hk : 12 ≤ k) (h : vecOk (v.take k) = true) : vecOk v = true := by
  rwa [List.take_of_length_le (by omega)] at h
theorem inVec_of {v : List Int} (h : vecOk v = true) (k : Nat) : -127 ≤ v.getD k 0 ∧ v.getD k 0 ≤ 127 := by
  rcases Nat.lt_or_ge k v.length with hlt | hge
  · have := List.all_eq_true.1 h v[k] (List.getElem_mem hlt)
    simp only [inVec, Bool.and_eq_true, decide_eq_true_eq] at this
    simp only [List.getD_eq_getElem?_getD, List.getElem?_eq_getElem hlt, Option.getD_some]
    exact this
  · simp [List.getD_eq_getElem?_getD, List.getElem?_eq_none hge]
def farTo (a b : List Int) : Nat → Int
  | 0 => 0
  | k + 1 => farTo a b k + (a.getD k 0 - b.getD k 0) * (a.getD k 0 - b.getD k 0)
def farOf (a b : List Int) : Int := farTo a b 12
theorem sq_bd {d : Int} (h1 : -254 ≤ d) (h2 : d ≤ 254) : 0 ≤ d * d ∧ d * d ≤ 64516 := by
  rw [← Int.natAbs_mul_self]
  have h : d.natAbs ≤ 254 := by omega
  have h3 : d.natAbs * d.natAbs ≤ 254 * 254 := Nat.mul_le_mul h h
  omega
theorem farTo_bd {a b : List Int} (ha : vecOk a = true) (hb : vecOk b = true) (k : Nat) : 0 ≤ farTo a b k ∧ farTo a b k ≤ 64516 * k := by
  induction k with
  | zero => simp [farTo]
  | succ k ih =>
    have h1 := inVec_of ha k
    have h2 := inVec_of hb k
    have h3 := sq_bd (d := a.getD k 0 - b.getD k 0) (by omega) (by omega)
    unfold farTo
    omega
theorem farOf_bd {a b : List Int} (ha : vecOk a = true) (hb : vecOk b = true) : 0 ≤ farOf a b ∧ farOf a b ≤ 774192 := farTo_bd ha hb 12
/-! ### likenesses: 14 numbers: Id, photo, twelve of the face -/
def outN (n lo hi : Int) : Bool := decide (n < lo) || decide (hi < n)
def vecErr (v : List Int) : Int := if vecOk v then 0 else 2
def idOf (x : List Int) : Int := x.getD 0 0
def photoOf (x : List Int) : Int := x.getD 1 0
def vecOf (x : List Int) : List Int := x.drop 2
def badId (x : List Int) : Bool := outN (idOf x) 1 1000000 || outN (photoOf x) 1 1000000
def notAfter (p : Option Int) (x : List Int) : Bool := match p with | some q => decide (idOf x ≤ q) | none => false
def checkOne (p : Option Int) (x : List Int) : Int := if badId x then 2 else if notAfter p x then 5 else vecErr (vecOf x)
def checkFrom (p : Option Int) : List (List Int) → Int
  | [] => 0
  | x :: r => if checkOne p x ≠ 0 then checkOne p x else checkFrom (some (idOf x)) r
def checkL (l : List (List Int)) : Int := if l.length > 300 then 4 else checkFrom none l
def lprev (l : List (List Int)) : Nat → Option Int
  | 0 => none
  | k + 1 => (l[k]?).map idOf
theorem checkFrom_at {l : List (List Int)} {k : Nat} {x : List Int} (hx : l[k]? = some x) (p : Option Int) : checkFrom p (l.drop k) = if checkOne p x ≠ 0 then checkOne p x else checkFrom (lprev l (k + 1)) (l.drop (k + 1)) := by
  obtain ⟨hlt, he⟩ := List.getElem?_eq_some_iff.1 hx
  rw [List.drop_eq_getElem_cons hlt, he]
  simp [checkFrom, lprev, hx]
theorem one_bad {p : Option Int} {x : List Int} (h : badId x = true) : checkOne p x = 2 := by simp [checkOne, h]
theorem one_order {p : Option Int} {x : List Int} (h : badId x = false) (h2 : notAfter p x = true) : checkOne p x = 5 := by simp [checkOne, h, h2]
theorem one_vec {p : Option Int} {x : List Int} (h : badId x = false) (h2 : notAfter p x = false) : checkOne p x = vecErr (vecOf x) := by simp [checkOne, h, h2]
theorem bad_1 {x : List Int} (h : outN (idOf x) 1 1000000 = true) : badId x = true := by simp [badId, h]
theorem bad_2 {x : List Int} (h : outN (photoOf x) 1 1000000 = true) : badId x = true := by simp [badId, h]
theorem bad_0 {x : List Int} (h : outN (idOf x) 1 1000000 = false) (h2 : outN (photoOf x) 1 1000000 = false) : badId x = false := by simp [badId, h, h2]
theorem lprev_at {l : List (List Int)} {k : Nat} {y : List Int} (hy : l[k - 1]? = some y) (hk : 0 < k) : lprev l k = some (idOf y) := by
  obtain ⟨j, rfl⟩ : ∃ j, k = j + 1 := ⟨k - 1, by omega⟩
  simp only [Nat.add_sub_cancel] at hy
  simp [lprev, hy]
theorem after_yes {p : Option Int} {x y : List Int} (hp : p = some (idOf y)) (h : idOf x ≤ idOf y) : notAfter p x = true := by simp [notAfter, hp, h]
theorem after_no {p : Option Int} {x y : List Int} (hp : p = some (idOf y)) (h : idOf y < idOf x) : notAfter p x = false := by simp [notAfter, hp]; omega
theorem ne_if {a b : Int} (h : a ≠ 0) : (if a ≠ 0 then a else b) = a := if_pos h
theorem eq_if {a b : Int} (h : a = 0) : (if a ≠ 0 then a else b) = b := if_neg (by simp [h])
theorem vecErr_ok {v : List Int} : vecErr v = 0 ↔ vecOk v = true := by unfold vecErr; split <;> simp_all
/-! ### where a likeness is -/
def cmp3 (a b : Int) : Int := if a < b then -1 else if b < a then 1 else 0
theorem cmp3_lt {a b : Int} : cmp3 a b < 0 ↔ a < b := by unfold cmp3; split <;> (try split) <;> omega
theorem cmp3_eq {a b : Int} : cmp3 a b = 0 ↔ a = b := by unfold cmp3; split <;> (try split) <;> omega
def sortedIds (l : List (List Int)) : Prop := l.Pairwise (fun x y => idOf x < idOf y)
def atPos (l : List (List Int)) (t : Int) : Nat := l.countP (fun x => decide (idOf x < t))
def atOk (l : List (List Int)) (t : Int) : Bool := l.any (fun x => idOf x == t)
theorem atPos_le (l : List (List Int)) (t : Int) : atPos l t ≤ l.length := List.countP_le_length
theorem sorted_lt {l : List (List Int)} (h : sortedIds l) {i j : Nat} {x y : List Int} (hi : l[i]? = some x) (hj : l[j]? = some y) (hij : i < j) : idOf x < idOf y := by
  obtain ⟨h1, rfl⟩ := List.getElem?_eq_some_iff.1 hi
  obtain ⟨h2, rfl⟩ := List.getElem?_eq_some_iff.1 hj
  exact List.pairwise_iff_getElem.1 h i j h1 h2 hij
theorem atPos_of {l : List (List Int)} {t : Int} {i : Nat} (hi : i ≤ l.length) (h1 : ∀ m x, l[m]? = some x → m < i → idOf x < t) (h2 : ∀ m x, l[m]? = some x → i ≤ m → t ≤ idOf x) : atPos l t = i := by
  unfold atPos
  rw [← List.take_append_drop i l, List.countP_append]
  have e1 : (l.take i).countP (fun x => decide (idOf x < t)) = i := by
    rw [List.countP_eq_length.2]
    · rw [List.length_take]; omega
    · intro x hx
      obtain ⟨m, hm⟩ := List.mem_iff_getElem?.1 hx
      rw [List.getElem?_take] at hm
      split at hm
      · simpa using h1 m x hm ‹_›
      · cases hm
  have e2 : (l.drop i).countP (fun x => decide (idOf x < t)) = 0 := by
    rw [List.countP_eq_zero]
    intro x hx
    obtain ⟨m, hm⟩ := List.mem_iff_getElem?.1 hx
    rw [List.getElem?_drop] at hm
    have := h2 (i + m) x hm (by omega)
    simp; omega
  omega
theorem atOk_of {l : List (List Int)} {t : Int} {i : Nat} (hs : sortedIds l) (h1 : ∀ m x, l[m]? = some x → m < i → idOf x < t) (h2 : ∀ m x, l[m]? = some x → i ≤ m → t ≤ idOf x) : atOk l t = true ↔ ∃ x, l[i]? = some x ∧ idOf x = t := by
  unfold atOk
  rw [List.any_eq_true]
  constructor
  · rintro ⟨x, hx, he⟩
    have he : idOf x = t := by simpa using he
    obtain ⟨m, hm⟩ := List.mem_iff_getElem?.1 hx
    rcases Nat.lt_trichotomy m i with h | h | h
    · have := h1 m x hm h; omega
    · subst h; exact ⟨x, hm, he⟩
    · obtain ⟨y, hy⟩ : ∃ y, l[i]? = some y := by
        have := (List.getElem?_eq_some_iff.1 hm).1
        exact ⟨l[i]'(by omega), by simp⟩
      have h3 := h2 i y hy (Nat.le_refl _)
      have h4 := sorted_lt hs hy hm h
      omega
  · rintro ⟨x, hx, he⟩
    exact ⟨x, List.mem_of_getElem? hx, by simpa using he⟩
theorem atOk_no {l : List (List Int)} {t : Int} {i : Nat} (hs : sortedIds l) (h1 : ∀ m x, l[m]? = some x → m < i → idOf x < t) (h2 : ∀ m x, l[m]? = some x → i ≤ m → t ≤ idOf x) (h : ∀ x, l[i]? = some x → idOf x ≠ t) : atOk l t = false := by
  cases hb : atOk l t with
  | false => rfl
  | true => obtain ⟨x, hx, he⟩ := (atOk_of hs h1 h2).1 hb; exact absurd he (h x hx)
theorem lo_step {l : List (List Int)} {t : Int} {m : Nat} {x : List Int} (hs : sortedIds l) (hx : l[m]? = some x) (h2 : idOf x < t) : ∀ q y, l[q]? = some y → q < m + 1 → idOf y < t := by
  intro q y hy hq
  rcases Nat.eq_or_lt_of_le (Nat.lt_succ_iff.1 hq) with e | e
  · subst e; rw [hx] at hy; injection hy with hy; subst hy; exact h2
  · have := sorted_lt hs hy hx e; omega
theorem hi_step {l : List (List Int)} {t : Int} {m : Nat} {x : List Int} (hs : sortedIds l) (hx : l[m]? = some x) (h2 : ¬ idOf x < t) : ∀ q y, l[q]? = some y → m ≤ q → t ≤ idOf y := by
  intro q y hy hq
  rcases Nat.eq_or_lt_of_le hq with e | e
  · subst e; rw [hx] at hy; injection hy with hy; subst hy; omega
  · have := sorted_lt hs hx hy e; omega
theorem ok_cmp {l : List (List Int)} {t : Int} {i : Nat} {x : List Int} (hs : sortedIds l) (h1 : ∀ m x, l[m]? = some x → m < i → idOf x < t) (h2 : ∀ m x, l[m]? = some x → i ≤ m → t ≤ idOf x) (hx : l[i]? = some x) : atOk l t = (cmp3 (idOf x) t == 0) := by
  rw [Bool.eq_iff_iff, atOk_of hs h1 h2, beq_iff_eq, cmp3_eq]
  exact ⟨fun ⟨y, hy, he⟩ => by rw [hx] at hy; injection hy with hy; subst hy; exact he, fun he => ⟨x, hx, he⟩⟩
/-- what is found -/
theorem at_found {l : List (List Int)} {t : Int} (hs : sortedIds l) (h : atOk l t = true) : ∃ x, l[atPos l t]? = some x ∧ idOf x = t := by
  obtain ⟨x, hx, he⟩ := List.any_eq_true.1 h
  have he : idOf x = t := by simpa using he
  obtain ⟨m, hm⟩ := List.mem_iff_getElem?.1 hx
  have hml := (List.getElem?_eq_some_iff.1 hm).1
  have : atPos l t = m := atPos_of (by omega) (fun j y hj hlt => by have := sorted_lt hs hj hm hlt; omega) (fun j y hj hle => by
    rcases Nat.eq_or_lt_of_le hle with h | h
    · subst h; rw [hm] at hj; injection hj with hj; subst hj; omega
    · have := sorted_lt hs hm hj h; omega)
  exact ⟨x, by rw [this]; exact hm, he⟩
theorem check_sorted {p : Option Int} {l : List (List Int)} (h : checkFrom p l = 0) : sortedIds l ∧ (∀ q, p = some q → ∀ x ∈ l, q < idOf x) ∧ ∀ x ∈ l, badId x = false ∧ vecOk (vecOf x) = true := by
  induction l generalizing p with
  | nil => exact ⟨List.Pairwise.nil, by simp, by simp⟩
  | cons x r ih =>
    unfold checkFrom at h
    by_cases h0 : checkOne p x = 0
    · rw [eq_if h0] at h
      obtain ⟨h1, h2, h3⟩ := ih h
      have hb : badId x = false := by
        cases hb : badId x with
        | false => rfl
        | true => rw [one_bad hb] at h0; cases h0
      have ha : notAfter p x = false := by
        cases ha : notAfter p x with
        | false => rfl
        | true => rw [one_order hb ha] at h0; cases h0
      rw [one_vec hb ha, vecErr_ok] at h0
      have h4 := h2 (idOf x) rfl
      refine ⟨List.pairwise_cons.2 ⟨h4, h1⟩, fun q hq y hy => ?_, fun y hy => ?_⟩
      · have h5 : q < idOf x := by subst hq; simp [notAfter] at ha; exact ha
        rcases List.mem_cons.1 hy with rfl | hy
        · exact h5
        · have := h4 y hy; omega
      · rcases List.mem_cons.1 hy with rfl | hy
        · exact ⟨hb, h0⟩
        · exact h3 y hy
    · rw [ne_if h0] at h; exact absurd h h0
/-- likenesses that Check lets by -/
structure Good (l : List (List Int)) : Prop where
  len : l.length ≤ 300
  sorted : sortedIds l
  size : ∀ x ∈ l, x.length = 14
  vec : ∀ x ∈ l, vecOk (vecOf x) = true
theorem good_of {l : List (List Int)} (h : checkL l = 0) (hs : ∀ x ∈ l, x.length = 14) : Good l := by
  unfold checkL at h
  split at h
  · cases h
  · obtain ⟨h1, _, h3⟩ := check_sorted h
    exact ⟨by omega, h1, hs, fun x hx => (h3 x hx).2⟩
end Go.Kn
end
section
/- Fa: what Go functions of this seat come to, printed by walk.py over the engine. -/
set_option linter.unusedVariables false
set_option linter.unusedSimpArgs false
set_option maxRecDepth 100000
namespace Go.Proofs.Ytddacakmafdgdaa
open Go.RowKit Go.Kn

theorem outside_s (a b c : Int) (w : World) :
  Calls Try.prog 21 #[Value.int .i64 a, Value.int .i64 b, Value.int .i64 c] w fun e w' => ∃ r, e = .returned r ∧ r = .bool (outN a b c) ∧ Mem w No w' [] := by
 refine calls_k (args := [Value.int .i64 a, Value.int .i64 b, Value.int .i64 c]) 15 [(0, Value.int .i64 a), (1, Value.int .i64 b), (2, Value.int .i64 c)] Try.func21 rfl rfl ⟨rfl, rfl, rfl, trivial⟩ ?_
 have hM := Mem.nil w No
 refine k_seq (k_region (sqV (.bool false) rfl rfl rfl ?_))
 refine r_nil (e_then (k_seq (k_region (sqV (.int .i64 a) rfl rfl rfl ?_))))
 refine sqV (.int .i64 b) rfl rfl rfl ?_
 refine sqV (.bool (decide (a < b))) rfl rfl rfl ?_
 refine sqV (.bool (decide (a < b))) rfl rfl rfl ?_
 rcases Bool.eq_false_or_eq_true (decide (a < b)) with hg1 | hg1
 ·refine wpR_sub [(0, Value.int .i64 a), (2, Value.int .i64 c), (10, Value.bool true)] ⟨rfl, rfl, congrArg (fun z => some (Value.bool z)) hg1, trivial⟩ ?_
  refine r_no rfl rfl (by decide) rfl ?_
  refine r_no rfl rfl (by decide) rfl ?_
  refine r_no rfl rfl (by decide) rfl ?_
  refine sqV (.bool true) rfl rfl rfl ?_
  refine sqV (.bool true) rfl rfl rfl ?_
  refine r_nil (e_then (k_ret (e_ret1 rfl rfl ?_)))
  exact ⟨_, rfl, by simp [outN, *], hM⟩
 ·refine wpR_sub [(0, Value.int .i64 a), (2, Value.int .i64 c), (10, Value.bool false)] ⟨rfl, rfl, congrArg (fun z => some (Value.bool z)) hg1, trivial⟩ ?_
  refine r_yes rfl rfl ?_
  refine sqV (.int .i64 a) rfl rfl rfl ?_
  refine r_yes rfl rfl ?_
  refine sqV (.int .i64 c) rfl rfl rfl ?_
  refine r_yes rfl rfl ?_
  refine sqV (.bool (decide (a > c))) rfl rfl rfl ?_
  refine sqV (.bool (decide (a > c))) rfl rfl rfl ?_
  refine sqV (.bool (decide (a > c))) rfl rfl rfl ?_
  refine r_nil (e_then (k_ret (e_ret1 rfl rfl ?_)))
  exact ⟨_, rfl, by simp [outN, *], hM⟩

theorem checkVec_s (v : List Int) (hv : v.length = 12) (w : World) :
  Calls Try.prog 58 #[Value.agg (ints v)] w fun e w' => ∃ r, e = .returned r ∧ r = .int .i64 (vecErr v) ∧ Mem w No w' [] := by
 refine calls_k (args := [Value.agg (ints v)]) 12 [(0, Value.agg (ints v))] Try.func58 rfl rfl ⟨rfl, trivial⟩ ?_
 have hM := Mem.nil w No
 refine k_seq (k_region (r_box hM rfl rfl ?_))
 intro b3 w1 hM2 hb3
 replace hM2 : Mem w No w1 [(b3, .cells (ints v) 52 (0, 0))] := hM2
 refine sqV (.int .i64 0) rfl rfl rfl ?_
 refine r_nil (sqE [(1, .pointer (some ⟨b3, 0, none⟩))] rfl (e_then (k_seq (k_seq (k_region (sqV (.agg (ints v)) rfl rfl (x_loadRow hM2 0 rfl rfl rfl (by rw [ints_size, show v.length = 12 by omega]; rfl)) ?_))))))
 refine sqV (.int .i64 0) rfl rfl rfl ?_
 refine r_nil (e_then (k_block (k_loop (σ := Nat) (fun k => [(5, .agg (ints v)), (6, .int .i64 (k : Int))]) (fun k w_ => Mem w No w_ [(b3, .cells (ints v) 52 (0, 0))] ∧ k ≤ 12 ∧ vecOk (v.take k) = true) (fun k => 12 - k) 0 ⟨rfl, rfl, trivial⟩ ⟨hM2, by decide, rfl⟩ ?_)))
 rintro k w4 ⟨hM5, hk, hok⟩
 refine sqK [(5, .agg (ints v)), (6, .int .i64 (k : Int))] rfl (k_seq (k_region (sqV (.bool (decide ((k : Int) < 12))) rfl rfl rfl ?_)))
 refine r_nil (e_then (k_seq ?_))
 refine k_cond rfl rfl (fun h => ?_) (fun h => ?_)
 ·try simp only [sqC] at h
  refine k_skip (e_then (k_seq (k_block (k_seq (k_region (sqV (.int .i64 (v.getD k 0)) rfl rfl (x_index (by omega) (by omega) (ints_get v k (by omega)) rfl rfl rfl rfl rfl) ?_))))))
  refine sqV (.int .i64 (v.getD k 0)) rfl rfl rfl ?_
  refine r_nil (e_then (k_seq (k_region (sqV (.int .i64 (v.getD k 0)) rfl rfl rfl ?_))))
  refine r_call (f := 21) (args := #[Value.int .i64 (v.getD k 0), Value.int .i64 (-127), Value.int .i64 127]) (w' := w4) rfl rfl (x_call (vs := [Value.int .i64 (v.getD k 0), Value.int .i64 (-127), Value.int .i64 127]) (enter21 _ _) rfl rfl) (outside_s (v.getD k 0) (-127) 127 w4) ?_
  rintro v_ w6 ⟨rfl, hM7⟩
  replace hM7 := hM5.grow hM7.kept
  refine r_nil (sqE [(5, .agg (ints v)), (6, .int .i64 (k : Int)), (10, .bool (outN (v.getD k 0) (-127) 127))] rfl (e_then ?_))
  refine k_cond rfl rfl (fun h2 => ?_) (fun h2 => ?_)
  ·try simp only [sqC] at h2
   refine k_seq (k_region ?_)
   simp [outN] at h2
   refine sqV (.int .i64 2) rfl rfl rfl ?_
   refine r_nil (e_then (k_ret (e_blk_ret (e_then_ret (e_loop_ret (e_blk_ret (e_then_ret (e_ret1 rfl rfl ?_))))))))
   exact ⟨_, rfl, by rw [vecErr, if_neg (vecOk_no hv (by omega) h2)], hM7.drop⟩
  ·try simp only [sqC] at h2
   refine k_skip (e_blk (e_then (k_region ?_)))
   simp [outN] at h2
   refine sqV (.int .i64 ((k : Int) + 1)) rfl rfl (x_addE rfl (by omega) (by omega) rfl rfl) ?_
   refine sqV (.int .i64 ((k : Int) + 1)) rfl rfl rfl ?_
   refine r_nil ?_
   refine e_loop (k + 1) ⟨rfl, rfl, trivial⟩ ?_ ?_
   ·exact ⟨hM7, by omega, vecOk_snoc hv (by omega) hok h2⟩
   ·(try dsimp only); omega
 ·try simp only [sqC] at h
  refine k_exit (e_then_exit (e_loop_exit (e_blk_exit (e_then (k_seq (k_region (sqV (.int .i64 0) rfl rfl rfl ?_)))))))
  refine r_nil (e_then (k_ret (e_ret1 rfl rfl ?_)))
  exact ⟨_, rfl, by rw [vecErr, if_pos (vecOk_all hv (by omega) hok)], hM5.drop⟩

theorem far_s (a b : List Int) (ha : a.length = 12) (hb : b.length = 12) (va : vecOk a = true) (vb : vecOk b = true) (w : World) :
  Calls Try.prog 28 #[Value.agg (ints a), Value.agg (ints b)] w fun e w' => ∃ r, e = .returned r ∧ r = .int .i64 (farOf a b) ∧ Mem w No w' [] := by
 refine calls_k (args := [Value.agg (ints a), Value.agg (ints b)]) 28 [(0, Value.agg (ints a)), (1, Value.agg (ints b))] Try.func28 rfl rfl ⟨rfl, rfl, trivial⟩ ?_
 have hM := Mem.nil w No
 refine k_seq (k_region (r_box hM rfl rfl ?_))
 intro b3 w1 hM2 hb3
 replace hM2 : Mem w No w1 [(b3, .cells (ints a) 52 (0, 0))] := hM2
 refine r_box hM2 rfl rfl ?_
 intro b6 w4 hM5 hb6
 replace hM5 : Mem w No w4 [(b6, .cells (ints b) 52 (0, 0)), (b3, .cells (ints a) 52 (0, 0))] := hM5
 refine sqV (.int .i64 0) rfl rfl rfl ?_
 refine r_nil (sqE [(2, .pointer (some ⟨b3, 0, none⟩)), (3, .pointer (some ⟨b6, 0, none⟩))] rfl (e_then (k_seq (k_region (sqV (.int .i64 0) rfl rfl rfl ?_)))))
 refine r_nil (e_then (k_seq (k_seq (k_region (sqV (.agg (ints a)) rfl rfl (x_loadRow hM5 1 rfl rfl rfl (by rw [ints_size, show a.length = 12 by omega]; rfl)) ?_)))))
 refine sqV (.int .i64 0) rfl rfl rfl ?_
 refine r_nil (e_then (k_block (k_loop (σ := Nat) (fun k => [(3, .pointer (some ⟨b6, 0, none⟩)), (5, .int .i64 (farTo a b k)), (8, .agg (ints a)), (9, .int .i64 (k : Int))]) (fun k w_ => Mem w No w_ [(b6, .cells (ints b) 52 (0, 0)), (b3, .cells (ints a) 52 (0, 0))] ∧ k ≤ 12) (fun k => 12 - k) 0 (sqS rfl) ⟨hM5, by decide⟩ ?_)))
 rintro k w7 ⟨hM8, hk⟩
 refine sqK [(3, .pointer (some ⟨b6, 0, none⟩)), (5, .int .i64 (farTo a b k)), (8, .agg (ints a)), (9, .int .i64 (k : Int))] rfl (k_seq (k_region (sqV (.bool (decide ((k : Int) < 12))) rfl rfl rfl ?_)))
 refine r_nil (e_then (k_seq ?_))
 refine k_cond rfl rfl (fun h => ?_) (fun h => ?_)
 ·try simp only [sqC] at h
  refine k_skip (e_then (k_seq (k_block (k_seq (k_region ?_)))))
  have h1 := inVec_of va k
  have h2 := inVec_of vb k
  have h3 := sq_bd (d := a.getD k 0 - b.getD k 0) (by omega) (by omega)
  have h4 := farTo_bd va vb k
  refine sqV (.int .i64 (k : Int)) rfl rfl rfl ?_
  refine sqV (.int .i64 (a.getD k 0)) rfl rfl (x_index (by omega) (by omega) (ints_get a k (by omega)) rfl rfl rfl rfl rfl) ?_
  refine sqV (.int .i64 (k : Int)) rfl rfl rfl ?_
  refine sqV (.int .i64 (a.getD k 0)) rfl rfl rfl ?_
  refine r_nil (sqE [(3, .pointer (some ⟨b6, 0, none⟩)), (5, .int .i64 (farTo a b k)), (6, .int .i64 (k : Int)), (7, .int .i64 (a.getD k 0)), (8, .agg (ints a)), (9, .int .i64 (k : Int))] rfl (e_then ?_))
  refine k_draw mixed [0, 0, 0, 4, 12, 30, 0, 0, 128, 384, 960, 2046, 4095, 8191] [some (Value.int .i64 (farTo a b k)), some (Value.int .i64 (a.getD k 0)), some (Value.int .i64 (k : Int)), some (Value.pointer (some ⟨b6, k, none⟩)), some (Value.int .i64 (b.getD k 0)), some (Value.int .i64 ((a.getD k 0) - (b.getD k 0))), some (Value.int .i64 (a.getD k 0)), some (Value.int .i64 (k : Int)), some (Value.pointer (some ⟨b6, k, none⟩)), some (Value.int .i64 (b.getD k 0)), some (Value.int .i64 ((a.getD k 0) - (b.getD k 0))), some (Value.int .i64 (((a.getD k 0) - (b.getD k 0)) * ((a.getD k 0) - (b.getD k 0)))), some (Value.int .i64 ((farTo a b k) + (((a.getD k 0) - (b.getD k 0)) * ((a.getD k 0) - (b.getD k 0))))), some (Value.int .i64 ((farTo a b k) + (((a.getD k 0) - (b.getD k 0)) * ((a.getD k 0) - (b.getD k 0)))))] (by kernel_rfl) (fun D V w_ => Mem w No w_ [(b6, .cells (ints b) 52 (0, 0)), (b3, .cells (ints a) 52 (0, 0))]) (fun V => hM8.drew) ?_ ?_
  ·refine ⟨?_, ?_, ?_, ?_, ?_, ?_, ?_, ?_, ?_, ?_, ?_, ?_, ?_, ?_, trivial⟩
   ·intro D V w_ hd hi hM_
    refine sqG [(5, .int .i64 (farTo a b k))] rfl rfl rfl ?_
    exact run_val (.int .i64 (farTo a b k)) (rfl) ⟨sqT, hM_⟩
   ·intro D V w_ hd hi hM_
    refine sqG [(7, .int .i64 (a.getD k 0))] rfl rfl rfl ?_
    exact run_val (.int .i64 (a.getD k 0)) (rfl) ⟨sqT, hM_⟩
   ·intro D V w_ hd hi hM_
    refine sqG [(6, .int .i64 (k : Int))] rfl rfl rfl ?_
    exact run_val (.int .i64 (k : Int)) (rfl) ⟨sqT, hM_⟩
   ·intro D V w_ hd hi hM_
    refine sqG [(3, .pointer (some ⟨b6, 0, none⟩)), (15, .int .i64 (k : Int))] rfl rfl rfl ?_
    exact run_val (.pointer (some ⟨b6, k, none⟩)) (x_indexAddrB (i := k) (sz := 1) (by omega) rfl rfl rfl rfl (by omega)) ⟨sqT, hM_⟩
   ·intro D V w_ hd hi hM_
    refine sqG [(16, .pointer (some ⟨b6, k, none⟩))] rfl rfl rfl ?_
    exact run_val (.int .i64 (b.getD k 0)) (x_load (hM_.cell 0 rfl (ints_get b k (by omega))) rfl rfl) ⟨sqT, hM_⟩
   ·intro D V w_ hd hi hM_
    refine sqG [(14, .int .i64 (a.getD k 0)), (17, .int .i64 (b.getD k 0))] rfl rfl rfl ?_
    exact run_val (.int .i64 ((a.getD k 0) - (b.getD k 0))) (x_subE rfl (by omega) (by omega) rfl rfl) ⟨sqT, hM_⟩
   ·intro D V w_ hd hi hM_
    refine sqG [(7, .int .i64 (a.getD k 0))] rfl rfl rfl ?_
    exact run_val (.int .i64 (a.getD k 0)) (rfl) ⟨sqT, hM_⟩
   ·intro D V w_ hd hi hM_
    refine sqG [(6, .int .i64 (k : Int))] rfl rfl rfl ?_
    exact run_val (.int .i64 (k : Int)) (rfl) ⟨sqT, hM_⟩
   ·intro D V w_ hd hi hM_
    refine sqG [(3, .pointer (some ⟨b6, 0, none⟩)), (20, .int .i64 (k : Int))] rfl rfl rfl ?_
    exact run_val (.pointer (some ⟨b6, k, none⟩)) (x_indexAddrB (i := k) (sz := 1) (by omega) rfl rfl rfl rfl (by omega)) ⟨sqT, hM_⟩
   ·intro D V w_ hd hi hM_
    refine sqG [(21, .pointer (some ⟨b6, k, none⟩))] rfl rfl rfl ?_
    exact run_val (.int .i64 (b.getD k 0)) (x_load (hM_.cell 0 rfl (ints_get b k (by omega))) rfl rfl) ⟨sqT, hM_⟩
   ·intro D V w_ hd hi hM_
    refine sqG [(19, .int .i64 (a.getD k 0)), (22, .int .i64 (b.getD k 0))] rfl rfl rfl ?_
    exact run_val (.int .i64 ((a.getD k 0) - (b.getD k 0))) (x_subE rfl (by omega) (by omega) rfl rfl) ⟨sqT, hM_⟩
   ·intro D V w_ hd hi hM_
    refine sqG [(18, .int .i64 ((a.getD k 0) - (b.getD k 0))), (23, .int .i64 ((a.getD k 0) - (b.getD k 0)))] rfl rfl rfl ?_
    exact run_val (.int .i64 (((a.getD k 0) - (b.getD k 0)) * ((a.getD k 0) - (b.getD k 0)))) (x_mulE rfl (by omega) (by omega) rfl rfl) ⟨sqT, hM_⟩
   ·intro D V w_ hd hi hM_
    refine sqG [(13, .int .i64 (farTo a b k)), (24, .int .i64 (((a.getD k 0) - (b.getD k 0)) * ((a.getD k 0) - (b.getD k 0))))] rfl rfl rfl ?_
    exact run_val (.int .i64 ((farTo a b k) + (((a.getD k 0) - (b.getD k 0)) * ((a.getD k 0) - (b.getD k 0))))) (x_addE rfl (by omega) (by omega) rfl rfl) ⟨sqT, hM_⟩
   ·intro D V w_ hd hi hM_
    refine sqG [(25, .int .i64 ((farTo a b k) + (((a.getD k 0) - (b.getD k 0)) * ((a.getD k 0) - (b.getD k 0)))))] rfl rfl rfl ?_
    exact run_val (.int .i64 ((farTo a b k) + (((a.getD k 0) - (b.getD k 0)) * ((a.getD k 0) - (b.getD k 0))))) (rfl) ⟨sqT, hM_⟩
  intro D V w9 hall hM10
  refine e_blk (e_then (k_region (sqV (.int .i64 ((k : Int) + 1)) rfl rfl (x_addE rfl (by omega) (by omega) rfl rfl) ?_)))
  refine sqV (.int .i64 ((k : Int) + 1)) rfl rfl rfl ?_
  refine r_nil ?_
  refine e_loop (k + 1) (sqS rfl) ?_ ?_
  ·exact ⟨hM10, by omega⟩
  ·(try dsimp only); omega
 ·try simp only [sqC] at h
  refine k_exit (e_then_exit (e_loop_exit (e_blk_exit (e_then (k_seq (k_region ?_))))))
  have hk12 : k = 12 := by omega
  refine sqV (.int .i64 (farTo a b k)) rfl rfl rfl ?_
  refine sqV (.int .i64 (farTo a b k)) rfl rfl rfl ?_
  refine r_nil (e_then (k_ret (e_ret1 rfl rfl ?_)))
  exact ⟨_, rfl, by rw [hk12]; rfl, hM8.drop⟩


end Go.Proofs.Ytddacakmafdgdaa
end
section
/- Fb: what Go functions of this seat come to, printed by walk.py over the engine. -/
set_option linter.unusedVariables false
set_option linter.unusedSimpArgs false
set_option maxRecDepth 100000
namespace Go.Proofs.Ytddacakmafdgdaa
open Go.RowKit Go.Kn

theorem check_s (A : Option Addr) (n c : Nat) (l : List (List Int)) (w : World) (hl : RdE intsE 14 w A n l) :
  Calls Try.prog 25 #[Value.slice A n c] w fun e w' => ∃ r, e = .returned r ∧ r = .int .i64 (checkL l) ∧ Mem w No w' [] := by
 refine calls_k (args := [Value.slice A n c]) 44 [(0, Value.slice A n c)] Try.func25 rfl rfl ⟨rfl, trivial⟩ ?_
 have hM := Mem.nil w No
 have hln := hl.len
 refine k_seq (k_region (sqV (.int .i64 0) rfl rfl rfl ?_))
 refine r_nil (e_then (k_seq (k_seq (k_region (sqV (.slice A n c) rfl rfl rfl ?_)))))
 refine sqV (.int .i64 (n : Int)) rfl rfl (x_len rfl rfl) ?_
 refine sqV (.bool (decide ((n : Int) > 300))) rfl rfl rfl ?_
 refine r_nil (e_then ?_)
 refine k_cond rfl rfl (fun h => ?_) (fun h => ?_)
 ·try simp only [sqC] at h
  refine k_seq (k_region (sqV (.int .i64 4) rfl rfl rfl ?_))
  refine r_nil (e_then (k_ret (e_then_ret (e_ret1 rfl rfl ?_))))
  exact ⟨_, rfl, by rw [checkL, if_pos (by omega)], hM.drop⟩
 ·try simp only [sqC] at h
  refine k_skip (e_then (k_seq (k_seq (k_region (sqV (.slice A n c) rfl rfl rfl ?_)))))
  refine sqV (.int .i64 (n : Int)) rfl rfl (x_len rfl rfl) ?_
  refine sqV (.int .i64 0) rfl rfl rfl ?_
  refine r_nil (sqE [(0, .slice A n c), (9, .slice A n c), (10, .int .i64 (n : Int)), (11, .int .i64 0)] rfl (e_then (k_block (k_loop (σ := Nat) (fun k => [(0, .slice A n c), (9, .slice A n c), (10, .int .i64 (n : Int)), (11, .int .i64 (k : Int))]) (fun k w_ => Mem w No w_ [] ∧ k ≤ n ∧ checkL l = checkFrom (lprev l k) (l.drop k)) (fun k => n - k) 0 (sqS rfl) ⟨hM, by omega, by rw [checkL, if_neg (by omega)]; rfl⟩ ?_))))
  rintro k w1 ⟨hM2, hk, he⟩
  refine sqK [(0, .slice A n c), (9, .slice A n c), (10, .int .i64 (n : Int)), (11, .int .i64 (k : Int))] rfl (k_seq (k_region (sqV (.bool (decide ((k : Int) < (n : Int)))) rfl rfl rfl ?_)))
  refine r_nil (e_then (k_seq ?_))
  refine k_cond rfl rfl (fun h2 => ?_) (fun h2 => ?_)
  ·try simp only [sqC] at h2
   refine k_skip (e_then (k_seq (k_block (k_seq (k_region ?_)))))
   obtain ⟨x, hx⟩ : ∃ x, l[k]? = some x := ⟨l[k]'(by rw [hl.len]; omega), by simp⟩
   have hx14 : x.length = 14 := by have := hl.size x (List.mem_of_getElem? hx); simpa using this
   have hat := checkFrom_at hx (lprev l k)
   refine sqV (.int .i64 (k : Int)) rfl rfl rfl ?_
   refine sqV (.pointer (some ((adr A).add (k * 14)))) rfl rfl (x_indexAddrN (i := k) (sz := 14) hl.here (by omega) rfl rfl rfl rfl) ?_
   refine sqV (.agg (ints x)) rfl rfl (x_loadElem (hl.up hM2) hx rfl rfl rfl) ?_
   refine r_alloc hM2 (z := Value.agg #[Value.int .i64 0, Value.int .i64 0, Value.int .i64 0, Value.int .i64 0, Value.int .i64 0, Value.int .i64 0, Value.int .i64 0, Value.int .i64 0, Value.int .i64 0, Value.int .i64 0, Value.int .i64 0, Value.int .i64 0, Value.int .i64 0, Value.int .i64 0]) rfl rfl ?_
   intro b5 w3 hM4 hb5
   replace hM4 : Mem w No w3 [(b5, .cells #[Value.int .i64 0, Value.int .i64 0, Value.int .i64 0, Value.int .i64 0, Value.int .i64 0, Value.int .i64 0, Value.int .i64 0, Value.int .i64 0, Value.int .i64 0, Value.int .i64 0, Value.int .i64 0, Value.int .i64 0, Value.int .i64 0, Value.int .i64 0] 64 (0, 0))] := hM4
   refine sqV (.int .i64 (k : Int)) rfl rfl rfl ?_
   refine r_storeRow (vs := (ints x)) hM4 0 rfl (by rw [show (ints x).size = 14 from (by rw [ints_size, hx14])]; rfl) (ints_one _) (by rw [show (ints x).size = 14 from (by rw [ints_size, hx14])]; rfl) rfl rfl rfl ?_
   intro w6 hM7
   replace hM7 : Mem w No w6 [(b5, .cells (ints x) 64 (0, 0))] := hM7
   refine r_nil (e_then (k_seq (k_seq (k_region (sqV (.pointer (some ⟨b5, 0, none⟩)) rfl rfl rfl ?_)))))
   refine sqV (.int .i64 (x.getD 0 0)) rfl rfl (x_load (hM7.cell 0 rfl (ints_get x 0 (by omega))) rfl rfl) ?_
   refine r_call (f := 21) (args := #[Value.int .i64 (x.getD 0 0), Value.int .i64 1, Value.int .i64 1000000]) (w' := w6) rfl rfl (x_call (vs := [Value.int .i64 (x.getD 0 0), Value.int .i64 1, Value.int .i64 1000000]) (enter21 _ _) rfl rfl) (outside_s (idOf x) 1 1000000 w6) ?_
   rintro v_ w8 ⟨rfl, hM9⟩
   replace hM9 := hM7.grow hM9.kept
   refine sqV (.bool (outN (idOf x) 1 1000000)) rfl rfl rfl ?_
   rcases Bool.eq_false_or_eq_true (outN (idOf x) 1 1000000) with h3 | h3
   ·refine wpR_sub [(0, Value.slice A n c), (3, Value.int .i64 (k : Int)), (4, Value.pointer (some ⟨b5, 0, none⟩)), (9, Value.slice A n c), (10, Value.int .i64 (n : Int)), (11, Value.int .i64 (k : Int)), (19, Value.bool true)] ⟨rfl, rfl, rfl, rfl, rfl, rfl, congrArg (fun z => some (Value.bool z)) h3, trivial⟩ ?_
    refine r_no rfl rfl (by decide) rfl ?_
    refine r_no rfl rfl (by decide) rfl ?_
    refine r_no rfl rfl (by decide) rfl ?_
    refine sqV (.bool true) rfl rfl rfl ?_
    refine r_nil (e_then (k_cond_true rfl rfl ?_))
    refine k_seq (k_region (sqV (.int .i64 2) rfl rfl rfl ?_))
    refine r_nil (sqE [(2, .int .i64 2)] rfl (e_then (k_ret (e_then_ret (e_blk_ret (e_then_ret (e_loop_ret (e_blk_ret (e_then_ret (e_ret1 rfl rfl ?_))))))))))
    exact ⟨_, rfl, by rw [he, hat, one_bad (bad_1 h3)]; rfl, hM9.drop⟩
   ·refine wpR_sub [(0, Value.slice A n c), (3, Value.int .i64 (k : Int)), (4, Value.pointer (some ⟨b5, 0, none⟩)), (9, Value.slice A n c), (10, Value.int .i64 (n : Int)), (11, Value.int .i64 (k : Int)), (19, Value.bool false)] ⟨rfl, rfl, rfl, rfl, rfl, rfl, congrArg (fun z => some (Value.bool z)) h3, trivial⟩ ?_
    refine r_yes rfl rfl ?_
    refine sqV (.pointer (some ⟨b5, 1, none⟩)) rfl rfl rfl ?_
    refine r_yes rfl rfl ?_
    refine sqV (.int .i64 (x.getD 1 0)) rfl rfl (x_load (hM9.cell 0 rfl (ints_get x 1 (by omega))) rfl rfl) ?_
    refine r_yes rfl rfl ?_
    refine r_call (f := 21) (args := #[Value.int .i64 (x.getD 1 0), Value.int .i64 1, Value.int .i64 1000000]) (w' := w8) rfl rfl (x_call (vs := [Value.int .i64 (x.getD 1 0), Value.int .i64 1, Value.int .i64 1000000]) (enter21 _ _) rfl rfl) (outside_s (photoOf x) 1 1000000 w8) ?_
    rintro v_ w11 ⟨rfl, hM12⟩
    replace hM12 := hM9.grow hM12.kept
    refine sqV (.bool (outN (photoOf x) 1 1000000)) rfl rfl rfl ?_
    refine r_nil (e_then ?_)
    refine k_cond rfl rfl (fun h4 => ?_) (fun h4 => ?_)
    ·try simp only [sqC] at h4
     refine k_seq (k_region (sqV (.int .i64 2) rfl rfl rfl ?_))
     refine r_nil (e_then (k_ret (e_then_ret (e_blk_ret (e_then_ret (e_loop_ret (e_blk_ret (e_then_ret (e_ret1 rfl rfl ?_)))))))))
     exact ⟨_, rfl, by rw [he, hat, one_bad (bad_2 h4)]; rfl, hM12.drop⟩
    ·try simp only [sqC] at h4
     refine k_skip (e_then (k_seq (k_seq ?_)))
     have hbad := bad_0 h3 h4
     rcases Bool.eq_false_or_eq_true (decide ((k : Int) > 0)) with h5 | h5
     ·skip
      obtain ⟨y, hy⟩ : ∃ y, l[k - 1]? = some y := ⟨l[k - 1]'(by rw [hl.len]; omega), by simp⟩
      have hk0 : 0 < k := by simpa using h5
      have hp := lprev_at hy hk0
      refine k_draw mixed [0, 1, 3, 7, 15, 7, 7, 71, 231, 487, 999, 2047, 4095] [some (Value.int .i64 (k : Int)), some (Value.bool true), some (Value.bool true), some (Value.pointer (some ⟨b5, 0, none⟩)), some (Value.int .i64 (x.getD 0 0)), some (Value.slice A n c), some (Value.int .i64 (k : Int)), some (Value.int .i64 ((k - 1 : Nat) : Int)), some (Value.pointer (some ((adr A).add ((k - 1 : Nat) * 14)))), some (Value.pointer (some ((adr A).add ((k - 1 : Nat) * 14)))), some (Value.int .i64 (idOf y)), some (Value.bool (decide ((x.getD 0 0) ≤ (idOf y)))), some (Value.bool (decide ((x.getD 0 0) ≤ (idOf y))))] (by kernel_rfl) (fun D V w_ => Mem w No w_ [(b5, .cells (ints x) 64 (0, 0))]) (fun V => hM12.drew) ?_ ?_
      ·refine ⟨?_, ?_, ?_, ?_, ?_, ?_, ?_, ?_, ?_, ?_, ?_, ?_, ?_, trivial⟩
       ·intro D V w_ hd hi hM_
        refine sqG [(3, .int .i64 (k : Int))] rfl rfl rfl ?_
        exact run_val (.int .i64 (k : Int)) (rfl) ⟨sqT, hM_⟩
       ·intro D V w_ hd hi hM_
        refine sqG [(24, .int .i64 (k : Int))] rfl rfl rfl ?_
        exact run_val (.bool true) (Eq.trans (rfl) (congrArg (fun z => Result.ok (Next.value (Value.bool z)) w_) h5)) ⟨sqT, hM_⟩
       ·intro D V w_ hd hi hM_
        refine sqG [(25, .bool true)] rfl rfl rfl ?_
        exact run_val (.bool true) (rfl) ⟨sqT, hM_⟩
       ·intro D V w_ hd hi hM_
        refine goal_yes [(4, Value.pointer (some ⟨b5, 0, none⟩))] rfl rfl ⟨rfl, trivial⟩ rfl ?_
        exact run_val (.pointer (some ⟨b5, 0, none⟩)) (rfl) ⟨sqT, hM_⟩
       ·intro D V w_ hd hi hM_
        refine goal_yes [(27, Value.pointer (some ⟨b5, 0, none⟩))] rfl rfl ⟨rfl, trivial⟩ rfl ?_
        exact run_val (.int .i64 (x.getD 0 0)) (x_load (hM_.cell 0 rfl (ints_get x 0 (by omega))) rfl rfl) ⟨sqT, hM_⟩
       ·intro D V w_ hd hi hM_
        refine goal_yes [(0, Value.slice A n c)] rfl rfl ⟨rfl, trivial⟩ rfl ?_
        exact run_val (.slice A n c) (rfl) ⟨sqT, hM_⟩
       ·intro D V w_ hd hi hM_
        refine goal_yes [(3, Value.int .i64 (k : Int))] rfl rfl ⟨rfl, trivial⟩ rfl ?_
        exact run_val (.int .i64 (k : Int)) (rfl) ⟨sqT, hM_⟩
       ·intro D V w_ hd hi hM_
        refine goal_yes [(30, Value.int .i64 (k : Int))] rfl rfl ⟨rfl, trivial⟩ rfl ?_
        exact run_val (.int .i64 ((k - 1 : Nat) : Int)) (x_subE (by omega) (by omega) (by omega) rfl rfl) ⟨sqT, hM_⟩
       ·intro D V w_ hd hi hM_
        refine goal_yes [(29, Value.slice A n c), (31, Value.int .i64 ((k - 1 : Nat) : Int))] rfl rfl ⟨rfl, rfl, trivial⟩ rfl ?_
        exact run_val (.pointer (some ((adr A).add ((k - 1 : Nat) * 14)))) (x_indexAddrN (i := (k - 1 : Nat)) (sz := 14) hl.here (by omega) rfl rfl rfl rfl) ⟨sqT, hM_⟩
       ·intro D V w_ hd hi hM_
        refine goal_yes [(32, Value.pointer (some ((adr A).add ((k - 1 : Nat) * 14))))] rfl rfl ⟨rfl, trivial⟩ rfl ?_
        exact run_val (.pointer (some ((adr A).add ((k - 1 : Nat) * 14)))) (rfl) ⟨sqT, hM_⟩
       ·intro D V w_ hd hi hM_
        refine goal_yes [(33, Value.pointer (some ((adr A).add ((k - 1 : Nat) * 14))))] rfl rfl ⟨rfl, trivial⟩ rfl ?_
        exact run_val (.int .i64 (idOf y)) (x_load ((hl.up hM_).first hy (intsE_0 (by have h9 := hl.size' hy; simp at h9; omega))) rfl rfl) ⟨sqT, hM_⟩
       ·intro D V w_ hd hi hM_
        refine goal_yes [(28, Value.int .i64 (x.getD 0 0)), (34, Value.int .i64 (idOf y))] rfl rfl ⟨rfl, rfl, trivial⟩ rfl ?_
        exact run_val (.bool (decide ((x.getD 0 0) ≤ (idOf y)))) (rfl) ⟨sqT, hM_⟩
       ·intro D V w_ hd hi hM_
        refine sqG [(26, .bool true), (35, .bool (decide ((x.getD 0 0) ≤ (idOf y))))] rfl rfl rfl ?_
        exact run_val (.bool (decide ((x.getD 0 0) ≤ (idOf y)))) (rfl) ⟨sqT, hM_⟩
      intro D V w14 hall hM15
      refine e_then ?_
      refine k_cond rfl rfl (fun h6 => ?_) (fun h6 => ?_)
      ·try simp only [sqC] at h6
       refine k_seq (k_region (sqV (.int .i64 5) rfl rfl rfl ?_))
       refine r_nil (sqE [(2, .int .i64 5)] rfl (e_then (k_ret (e_then_ret (e_blk_ret (e_then_ret (e_loop_ret (e_blk_ret (e_then_ret (e_ret1 rfl rfl ?_))))))))))
       exact ⟨_, rfl, by rw [he, hat, one_order hbad (after_yes hp h6)]; rfl, hM15.drop⟩
      ·try simp only [sqC] at h6
       refine k_skip (e_then (k_seq (k_region ?_)))
       have hna := after_no hp h6
       refine sqV (.pointer (some ⟨b5, 2, none⟩)) rfl rfl rfl ?_
       refine sqV (.agg (ints (x.drop 2))) rfl rfl (x_loadInts hM15 0 rfl (m := 12) (by omega) rfl rfl rfl) ?_
       refine r_call (f := 58) (args := #[Value.agg (ints (x.drop 2))]) (w' := w14) rfl rfl (x_call (vs := [Value.agg (ints (x.drop 2))]) (enter58 _ _) rfl rfl) (checkVec_s (vecOf x) (by simp [vecOf]; omega) w14) ?_
       rintro v_ w16 ⟨rfl, hM17⟩
       replace hM17 := hM15.grow hM17.kept
       refine sqV (.int .i64 (vecErr (vecOf x))) rfl rfl rfl ?_
       refine r_nil (e_then (k_seq (k_region (sqV (.int .i64 (vecErr (vecOf x))) rfl rfl rfl ?_))))
       refine sqV (.bool ((vecErr (vecOf x)) != 0)) rfl rfl rfl ?_
       refine r_nil (e_then ?_)
       refine k_cond rfl rfl (fun h7 => ?_) (fun h7 => ?_)
       ·try simp only [sqC] at h7
        refine k_seq (k_region (sqV (.int .i64 (vecErr (vecOf x))) rfl rfl rfl ?_))
        refine sqV (.int .i64 (vecErr (vecOf x))) rfl rfl rfl ?_
        refine r_nil (e_then (k_ret (e_blk_ret (e_then_ret (e_loop_ret (e_blk_ret (e_then_ret (e_ret1 rfl rfl ?_))))))))
        exact ⟨_, rfl, by rw [he, hat, one_vec hbad hna, ne_if h7], hM17.drop⟩
       ·try simp only [sqC] at h7
        refine k_skip (e_blk (e_then (k_region (sqV (.int .i64 ((k : Int) + 1)) rfl rfl (x_addE rfl (by omega) (by omega) rfl rfl) ?_))))
        refine sqV (.int .i64 ((k : Int) + 1)) rfl rfl rfl ?_
        refine r_nil (sqE [(0, .slice A n c), (9, .slice A n c), (10, .int .i64 (n : Int)), (11, .int .i64 ((k : Int) + 1))] rfl ?_)
        refine e_loop (k + 1) (sqS rfl) ?_ ?_
        ·exact ⟨hM17.drop, by omega, by rw [he, hat, one_vec hbad hna, eq_if h7]⟩
        ·(try dsimp only); omega
     ·skip
      have hk0 : k = 0 := by simp at h5; omega
      have hna : notAfter (lprev l k) x = false := by subst hk0; rfl
      refine k_draw mixed [0, 1, 3, 7, 15, 7, 7, 71, 231, 487, 999, 2047, 4095] [some (Value.int .i64 (k : Int)), some (Value.bool false), some (Value.bool false), some (undef), some (undef), some (undef), some (undef), some (undef), some (undef), some (undef), some (undef), some (undef), some (Value.bool false)] (by kernel_rfl) (fun D V w_ => Mem w No w_ [(b5, .cells (ints x) 64 (0, 0))]) (fun V => hM12.drew) ?_ ?_
      ·refine ⟨?_, ?_, ?_, ?_, ?_, ?_, ?_, ?_, ?_, ?_, ?_, ?_, ?_, trivial⟩
       ·intro D V w_ hd hi hM_
        refine sqG [(3, .int .i64 (k : Int))] rfl rfl rfl ?_
        exact run_val (.int .i64 (k : Int)) (rfl) ⟨sqT, hM_⟩
       ·intro D V w_ hd hi hM_
        refine sqG [(24, .int .i64 (k : Int))] rfl rfl rfl ?_
        exact run_val (.bool false) (Eq.trans (rfl) (congrArg (fun z => Result.ok (Next.value (Value.bool z)) w_) h5)) ⟨sqT, hM_⟩
       ·intro D V w_ hd hi hM_
        refine sqG [(25, .bool false)] rfl rfl rfl ?_
        exact run_val (.bool false) (rfl) ⟨sqT, hM_⟩
       ·intro D V w_ hd hi hM_
        exact goal_no rfl rfl (by decide) ⟨sqT, hM_⟩
       ·intro D V w_ hd hi hM_
        exact goal_no rfl rfl (by decide) ⟨sqT, hM_⟩
       ·intro D V w_ hd hi hM_
        exact goal_no rfl rfl (by decide) ⟨sqT, hM_⟩
       ·intro D V w_ hd hi hM_
        exact goal_no rfl rfl (by decide) ⟨sqT, hM_⟩
       ·intro D V w_ hd hi hM_
        exact goal_no rfl rfl (by decide) ⟨sqT, hM_⟩
       ·intro D V w_ hd hi hM_
        exact goal_no rfl rfl (by decide) ⟨sqT, hM_⟩
       ·intro D V w_ hd hi hM_
        exact goal_no rfl rfl (by decide) ⟨sqT, hM_⟩
       ·intro D V w_ hd hi hM_
        exact goal_no rfl rfl (by decide) ⟨sqT, hM_⟩
       ·intro D V w_ hd hi hM_
        exact goal_no rfl rfl (by decide) ⟨sqT, hM_⟩
       ·intro D V w_ hd hi hM_
        refine sqG [(26, .bool false), (35, undef)] rfl rfl rfl ?_
        exact run_val (.bool false) (rfl) ⟨sqT, hM_⟩
      intro D V w18 hall hM19
      refine e_then (k_cond_false rfl rfl ?_)
      refine k_skip (e_then (k_seq (k_region (sqV (.pointer (some ⟨b5, 2, none⟩)) rfl rfl rfl ?_))))
      refine sqV (.agg (ints (x.drop 2))) rfl rfl (x_loadInts hM19 0 rfl (m := 12) (by omega) rfl rfl rfl) ?_
      refine r_call (f := 58) (args := #[Value.agg (ints (x.drop 2))]) (w' := w18) rfl rfl (x_call (vs := [Value.agg (ints (x.drop 2))]) (enter58 _ _) rfl rfl) (checkVec_s (vecOf x) (by simp [vecOf]; omega) w18) ?_
      rintro v_ w20 ⟨rfl, hM21⟩
      replace hM21 := hM19.grow hM21.kept
      refine sqV (.int .i64 (vecErr (vecOf x))) rfl rfl rfl ?_
      refine r_nil (e_then (k_seq (k_region (sqV (.int .i64 (vecErr (vecOf x))) rfl rfl rfl ?_))))
      refine sqV (.bool ((vecErr (vecOf x)) != 0)) rfl rfl rfl ?_
      refine r_nil (e_then ?_)
      refine k_cond rfl rfl (fun h7 => ?_) (fun h7 => ?_)
      ·try simp only [sqC] at h7
       refine k_seq (k_region (sqV (.int .i64 (vecErr (vecOf x))) rfl rfl rfl ?_))
       refine sqV (.int .i64 (vecErr (vecOf x))) rfl rfl rfl ?_
       refine r_nil (sqE [(2, .int .i64 (vecErr (vecOf x)))] rfl (e_then (k_ret (e_blk_ret (e_then_ret (e_loop_ret (e_blk_ret (e_then_ret (e_ret1 rfl rfl ?_)))))))))
       exact ⟨_, rfl, by rw [he, hat, one_vec hbad hna, ne_if h7], hM21.drop⟩
      ·try simp only [sqC] at h7
       refine k_skip (e_blk (e_then (k_region (sqV (.int .i64 ((k : Int) + 1)) rfl rfl (x_addE rfl (by omega) (by omega) rfl rfl) ?_))))
       refine sqV (.int .i64 ((k : Int) + 1)) rfl rfl rfl ?_
       refine r_nil ?_
       refine e_loop (k + 1) (sqS rfl) ?_ ?_
       ·exact ⟨hM21.drop, by omega, by rw [he, hat, one_vec hbad hna, eq_if h7]⟩
       ·(try dsimp only); omega
  ·try simp only [sqC] at h2
   refine k_exit (e_then_exit (e_loop_exit (e_blk_exit (e_then (k_seq (k_region ?_))))))
   have hkn : k = n := by omega
   refine sqV (.int .i64 0) rfl rfl rfl ?_
   refine r_nil (e_then (k_ret (e_ret1 rfl rfl ?_)))
   exact ⟨_, rfl, by rw [he, List.drop_eq_nil_of_le (by omega)]; rfl, hM2.drop⟩


end Go.Proofs.Ytddacakmafdgdaa
end
section
/- Fc: what Go functions of this seat come to, printed by walk.py over the engine. -/
set_option linter.unusedVariables false
set_option linter.unusedSimpArgs false
set_option maxRecDepth 100000
namespace Go.Proofs.Ytddacakmafdgdaa
open Go.RowKit Go.Kn

theorem at1_s (x : List Int) (t : Int) (hx : x.length = 14) (w : World) :
  Calls Try.prog 61 #[Value.agg (ints x), Value.int .i64 t] w fun e w' => ∃ r, e = .returned r ∧ r = .int .i64 (cmp3 (idOf x) t) ∧ Mem w No w' [] := by
 refine calls_k (args := [Value.agg (ints x), Value.int .i64 t]) 15 [(0, Value.agg (ints x)), (1, Value.int .i64 t)] Try.func61 rfl rfl ⟨rfl, rfl, trivial⟩ ?_
 have hM := Mem.nil w No
 refine k_seq (k_region (r_box hM rfl rfl ?_))
 intro b3 w1 hM2 hb3
 replace hM2 : Mem w No w1 [(b3, .cells (ints x) 64 (0, 0))] := hM2
 refine sqV (.int .i64 0) rfl rfl rfl ?_
 refine r_nil (e_then (k_seq (k_block (k_seq (k_region (sqV (.pointer (some ⟨b3, 0, none⟩)) rfl rfl rfl ?_))))))
 refine sqV (.int .i64 (x.getD 0 0)) rfl rfl (x_load (hM2.cell 0 rfl (ints_get x 0 (by omega))) rfl rfl) ?_
 refine sqV (.int .i64 t) rfl rfl rfl ?_
 refine sqV (.bool (decide ((x.getD 0 0) < t))) rfl rfl rfl ?_
 refine sqV (.bool (decide ((x.getD 0 0) < t))) rfl rfl rfl ?_
 refine r_nil (e_then ?_)
 refine k_cond rfl rfl (fun h => ?_) (fun h => ?_)
 ·try simp only [sqC] at h
  refine k_seq (k_region (sqV (.int .i64 (-1)) rfl rfl rfl ?_))
  refine r_nil (e_then (k_ret (e_blk_ret (e_then_ret (e_ret1 rfl rfl ?_)))))
  exact ⟨_, rfl, by rw [cmp3, if_pos (by exact h)], hM2.drop⟩
 ·try simp only [sqC] at h
  refine k_seq (k_region (sqV (.pointer (some ⟨b3, 0, none⟩)) rfl rfl rfl ?_))
  refine sqV (.int .i64 (x.getD 0 0)) rfl rfl (x_load (hM2.cell 0 rfl (ints_get x 0 (by omega))) rfl rfl) ?_
  refine sqV (.int .i64 t) rfl rfl rfl ?_
  refine sqV (.bool (decide ((x.getD 0 0) > t))) rfl rfl rfl ?_
  refine sqV (.bool (decide ((x.getD 0 0) > t))) rfl rfl rfl ?_
  refine r_nil (sqE [(10, .bool (decide ((x.getD 0 0) > t)))] rfl (e_then ?_))
  refine k_cond rfl rfl (fun h2 => ?_) (fun h2 => ?_)
  ·try simp only [sqC] at h2
   refine k_seq (k_region (sqV (.int .i64 1) rfl rfl rfl ?_))
   refine r_nil (e_then (k_ret (e_blk_ret (e_then_ret (e_ret1 rfl rfl ?_)))))
   exact ⟨_, rfl, by rw [cmp3, if_neg (by exact Int.not_lt.2 h), if_pos (by exact h2)], hM2.drop⟩
  ·try simp only [sqC] at h2
   refine k_skip (e_blk (e_then (k_seq (k_region (sqV (.int .i64 0) rfl rfl rfl ?_)))))
   refine r_nil (e_then (k_ret (e_ret1 rfl rfl ?_)))
   exact ⟨_, rfl, by rw [cmp3, if_neg (by exact Int.not_lt.2 h), if_neg (by exact Int.not_lt.2 h2)], hM2.drop⟩

theorem bsearch_s (A : Option Addr) (n c : Nat) (l : List (List Int)) (t : Int) (w : World) (hl : RdE intsE 14 w A n l) (hs : sortedIds l) (hn : n ≤ 300) :
  Calls Try.prog 60 #[Value.slice A n c, Value.int .i64 t, Value.func (.func 61) #[] #[]] w fun e w' => ∃ r, e = .returned r ∧ r = .tuple #[.int .i64 (atPos l t), .bool (atOk l t)] ∧ Mem w No w' [] := by
 refine calls_k (args := [Value.slice A n c, Value.int .i64 t, Value.func (.func 61) #[] #[]]) 49 [(0, Value.slice A n c), (1, Value.int .i64 t), (2, Value.func (.func 61) #[] #[])] Try.func60 rfl rfl ⟨rfl, rfl, rfl, trivial⟩ ?_
 have hM := Mem.nil w No
 have hln := hl.len
 refine k_seq (k_region (sqV (.int .i64 0) rfl rfl rfl ?_))
 refine sqV (.bool false) rfl rfl rfl ?_
 refine r_nil (e_then (k_seq (k_region (sqV (.slice A n c) rfl rfl rfl ?_))))
 refine sqV (.int .i64 (n : Int)) rfl rfl (x_len rfl rfl) ?_
 refine sqV (.int .i64 (n : Int)) rfl rfl rfl ?_
 refine r_nil (sqE [(0, .slice A n c), (1, .int .i64 t), (2, .func (.func 61) #[] #[]), (8, .int .i64 (n : Int))] rfl (e_then (k_seq (k_region (sqV (.int .i64 (n : Int)) rfl rfl rfl ?_)))))
 refine sqV (.int .i64 0) rfl rfl rfl ?_
 refine sqV (.int .i64 (n : Int)) rfl rfl rfl ?_
 refine r_nil (e_then (k_seq (k_block ?_)))
 refine k_loop (σ := Nat × Nat) (fun ⟨i, j⟩ => [(0, .slice A n c), (1, .int .i64 t), (2, .func (.func 61) #[] #[]), (8, .int .i64 (n : Int)), (9, .int .i64 (i : Int)), (10, .int .i64 (j : Int))]) (fun ⟨i, j⟩ w_ => Mem w No w_ [] ∧ i ≤ j ∧ j ≤ n ∧ (∀ m x, l[m]? = some x → m < i → idOf x < t) ∧ (∀ m x, l[m]? = some x → j ≤ m → t ≤ idOf x)) (fun ⟨i, j⟩ => j - i) (0, n) (sqS rfl) ⟨hM, by omega, by omega, fun m x _ h => absurd h (by omega), fun m x hx h => absurd (List.getElem?_eq_some_iff.1 hx).1 (by omega)⟩ ?_
 rintro ⟨i, j⟩ w1 ⟨hM2, hij, hjn, hlo, hhi⟩
 refine sqK [(0, .slice A n c), (1, .int .i64 t), (2, .func (.func 61) #[] #[]), (8, .int .i64 (n : Int)), (9, .int .i64 (i : Int)), (10, .int .i64 (j : Int))] rfl (k_seq (k_seq (k_region (sqV (.int .i64 (i : Int)) rfl rfl rfl ?_))))
 refine sqV (.int .i64 (j : Int)) rfl rfl rfl ?_
 refine sqV (.bool (decide ((i : Int) < (j : Int)))) rfl rfl rfl ?_
 refine r_nil (e_then ?_)
 refine k_cond rfl rfl (fun h => ?_) (fun h => ?_)
 ·try simp only [sqC] at h
  refine k_skip (e_then (k_block (k_seq (k_region ?_))))
  obtain ⟨m, hm⟩ : ∃ m, m = (i + j) / 2 := ⟨_, rfl⟩
  obtain ⟨x, hx⟩ : ∃ x, l[m]? = some x := ⟨l[m]'(by rw [hl.len]; omega), by simp⟩
  have hx14 : x.length = 14 := by have := hl.size' hx; simpa using this
  refine sqV (.int .i64 (i : Int)) rfl rfl rfl ?_
  refine sqV (.int .i64 (j : Int)) rfl rfl rfl ?_
  refine sqV (.int .i64 ((i : Int) + (j : Int))) rfl rfl (x_addE rfl (by omega) (by omega) rfl rfl) ?_
  refine sqV (.int .u64 ((i : Int) + (j : Int))) rfl rfl (x_convE (wrap_u64 (by omega) (by omega)) rfl rfl rfl) ?_
  refine sqV (.int .u64 (m : Int)) rfl rfl (x_shrE (by omega) rfl rfl) ?_
  refine sqV (.int .i64 (m : Int)) rfl rfl (x_convE (wrap_i64 (by omega) (by omega)) rfl rfl rfl) ?_
  refine sqV (.int .i64 (m : Int)) rfl rfl rfl ?_
  refine r_nil (e_then (k_seq (k_region (sqV (.func (.func 61) #[] #[]) rfl rfl rfl ?_))))
  refine sqV (.slice A n c) rfl rfl rfl ?_
  refine sqV (.int .i64 (m : Int)) rfl rfl rfl ?_
  refine sqV (.pointer (some ((adr A).add (m * 14)))) rfl rfl (x_indexAddrN (i := m) (sz := 14) hl.here (by omega) rfl rfl rfl rfl) ?_
  refine sqV (.agg (ints x)) rfl rfl (x_loadElem (hl.up hM2) hx rfl rfl rfl) ?_
  refine sqV (.int .i64 t) rfl rfl rfl ?_
  refine r_call (f := 61) (args := #[Value.agg (ints x), Value.int .i64 t]) (w' := w1) rfl rfl (x_call (vs := [Value.agg (ints x), Value.int .i64 t]) (enter61 _ _) rfl rfl) (at1_s x t hx14 w1) ?_
  rintro v_ w3 ⟨rfl, hM4⟩
  replace hM4 := hM2.grow hM4.kept
  refine sqV (.bool (decide ((cmp3 (idOf x) t) < 0))) rfl rfl rfl ?_
  refine r_nil (sqE [(0, .slice A n c), (1, .int .i64 t), (2, .func (.func 61) #[] #[]), (8, .int .i64 (n : Int)), (9, .int .i64 (i : Int)), (10, .int .i64 (j : Int)), (11, .int .i64 (m : Int)), (31, .bool (decide ((cmp3 (idOf x) t) < 0)))] rfl (e_then ?_))
  refine k_cond rfl rfl (fun h2 => ?_) (fun h2 => ?_)
  ·try simp only [sqC] at h2
   refine k_region ?_
   rw [cmp3_lt] at h2
   refine sqV (.int .i64 (m : Int)) rfl rfl rfl ?_
   refine sqV (.int .i64 ((m : Int) + 1)) rfl rfl (x_addE rfl (by omega) (by omega) rfl rfl) ?_
   refine sqV (.int .i64 ((m : Int) + 1)) rfl rfl rfl ?_
   refine r_nil (e_blk ?_)
   refine e_loop (m + 1, j) (sqS rfl) ?_ ?_
   ·exact ⟨hM4.drop, by omega, hjn, lo_step hs hx h2, hhi⟩
   ·(try dsimp only); omega
  ·try simp only [sqC] at h2
   refine k_region ?_
   have h2' : ¬ idOf x < t := fun h => absurd (cmp3_lt.2 h) (by omega)
   refine sqV (.int .i64 (m : Int)) rfl rfl rfl ?_
   refine sqV (.int .i64 (m : Int)) rfl rfl rfl ?_
   refine r_nil (e_blk ?_)
   refine e_loop (i, m) (sqS rfl) ?_ ?_
   ·exact ⟨hM4.drop, by omega, by omega, hlo, hi_step hs hx h2'⟩
   ·(try dsimp only); omega
 ·try simp only [sqC] at h
  refine k_exit (e_then_exit (e_loop_exit (e_blk_exit (e_then (k_seq (k_region ?_))))))
  have hij2 : i = j := by omega
  subst hij2
  have hpos := atPos_of (by omega) hlo hhi
  refine sqV (.int .i64 (i : Int)) rfl rfl rfl ?_
  refine sqV (.int .i64 (i : Int)) rfl rfl rfl ?_
  refine sqV (.int .i64 (n : Int)) rfl rfl rfl ?_
  refine sqV (.bool (decide ((i : Int) < (n : Int)))) rfl rfl rfl ?_
  refine sqV (.bool (decide ((i : Int) < (n : Int)))) rfl rfl rfl ?_
  rcases Bool.eq_false_or_eq_true (decide ((i : Int) < (n : Int))) with hg | hg
  ·refine wpR_sub [(0, Value.slice A n c), (1, Value.int .i64 t), (2, Value.func (.func 61) #[] #[]), (9, Value.int .i64 (i : Int)), (35, Value.int .i64 (i : Int)), (39, Value.bool true)] ⟨rfl, rfl, rfl, rfl, rfl, congrArg (fun z => some (Value.bool z)) hg, trivial⟩ ?_
   have hin : i < n := by simpa using hg
   obtain ⟨x, hx⟩ : ∃ x, l[i]? = some x := ⟨l[i]'(by rw [hl.len]; omega), by simp⟩
   have hx14 : x.length = 14 := by have := hl.size' hx; simpa using this
   refine r_yes rfl rfl ?_
   refine sqV (.func (.func 61) #[] #[]) rfl rfl rfl ?_
   refine r_yes rfl rfl ?_
   refine sqV (.slice A n c) rfl rfl rfl ?_
   refine r_yes rfl rfl ?_
   refine sqV (.int .i64 (i : Int)) rfl rfl rfl ?_
   refine r_yes rfl rfl ?_
   refine sqV (.pointer (some ((adr A).add (i * 14)))) rfl rfl (x_indexAddrN (i := i) (sz := 14) hl.here (by omega) rfl rfl rfl rfl) ?_
   refine r_yes rfl rfl ?_
   refine sqV (.agg (ints x)) rfl rfl (x_loadElem (hl.up hM2) hx rfl rfl rfl) ?_
   refine r_yes rfl rfl ?_
   refine sqV (.int .i64 t) rfl rfl rfl ?_
   refine r_yes rfl rfl ?_
   refine r_call (f := 61) (args := #[Value.agg (ints x), Value.int .i64 t]) (w' := w1) rfl rfl (x_call (vs := [Value.agg (ints x), Value.int .i64 t]) (enter61 _ _) rfl rfl) (at1_s x t hx14 w1) ?_
   rintro v_ w6 ⟨rfl, hM7⟩
   replace hM7 := hM2.grow hM7.kept
   refine r_yes rfl rfl ?_
   refine sqV (.bool ((cmp3 (idOf x) t) == 0)) rfl rfl rfl ?_
   refine sqV (.bool ((cmp3 (idOf x) t) == 0)) rfl rfl rfl ?_
   refine sqV (.int .i64 (i : Int)) rfl rfl rfl ?_
   refine sqV (.bool ((cmp3 (idOf x) t) == 0)) rfl rfl rfl ?_
   refine r_nil (e_then (k_ret (e_ret2 rfl rfl rfl ?_)))
   exact ⟨_, rfl, by rw [hpos, ok_cmp hs hlo hhi hx], hM7.drop⟩
  ·refine wpR_sub [(0, Value.slice A n c), (1, Value.int .i64 t), (2, Value.func (.func 61) #[] #[]), (9, Value.int .i64 (i : Int)), (35, Value.int .i64 (i : Int)), (39, Value.bool false)] ⟨rfl, rfl, rfl, rfl, rfl, congrArg (fun z => some (Value.bool z)) hg, trivial⟩ ?_
   have hin : n ≤ i := by simpa using hg
   refine r_no rfl rfl (by decide) rfl ?_
   refine r_no rfl rfl (by decide) rfl ?_
   refine r_no rfl rfl (by decide) rfl ?_
   refine r_no rfl rfl (by decide) rfl ?_
   refine r_no rfl rfl (by decide) rfl ?_
   refine r_no rfl rfl (by decide) rfl ?_
   refine r_no rfl rfl (by decide) rfl ?_
   refine r_no rfl rfl (by decide) rfl ?_
   refine sqV (.bool false) rfl rfl rfl ?_
   refine sqV (.int .i64 (i : Int)) rfl rfl rfl ?_
   refine sqV (.bool false) rfl rfl rfl ?_
   refine r_nil (sqE [(6, .int .i64 (i : Int)), (7, .bool false)] rfl (e_then (k_ret (e_ret2 rfl rfl rfl ?_))))
   exact ⟨_, rfl, by rw [hpos, atOk_no hs hlo hhi (fun x hx => absurd (List.getElem?_eq_some_iff.1 hx).1 (by omega))], hM2.drop⟩

theorem at_s (A : Option Addr) (n c : Nat) (l : List (List Int)) (t : Int) (w : World) (hl : RdE intsE 14 w A n l) (hs : sortedIds l) (hn : n ≤ 300) :
  Calls Try.prog 27 #[Value.slice A n c, Value.int .i64 t] w fun e w' => ∃ r, e = .returned r ∧ r = .tuple #[.int .i64 (atPos l t), .bool (atOk l t)] ∧ Mem w No w' [] := by
 refine calls_k (args := [Value.slice A n c, Value.int .i64 t]) 11 [(0, Value.slice A n c), (1, Value.int .i64 t)] Try.func27 rfl rfl ⟨rfl, rfl, trivial⟩ ?_
 have hM := Mem.nil w No
 refine k_seq (k_region (sqV (.int .i64 0) rfl rfl rfl ?_))
 refine sqV (.bool false) rfl rfl rfl ?_
 refine r_nil (e_then (k_seq (k_region (sqV (.slice A n c) rfl rfl rfl ?_))))
 refine sqV (.int .i64 t) rfl rfl rfl ?_
 refine r_call (f := 60) (args := #[Value.slice A n c, Value.int .i64 t, Value.func (.func 61) #[] #[]]) (w' := w) rfl rfl (x_call (vs := [Value.slice A n c, Value.int .i64 t, Value.func (.func 61) #[] #[]]) (enter60 _ _) rfl rfl) (bsearch_s A n c l t w (hl.up hM) hs hn) ?_
 rintro v_ w1 ⟨rfl, hM2⟩
 replace hM2 := hM.grow hM2.kept
 refine sqV (.int .i64 (atPos l t : Int)) rfl rfl rfl ?_
 refine sqV (.bool (atOk l t)) rfl rfl rfl ?_
 refine sqV (.int .i64 (atPos l t : Int)) rfl rfl rfl ?_
 refine sqV (.bool (atOk l t)) rfl rfl rfl ?_
 refine r_nil (e_then (k_ret (e_ret2 rfl rfl rfl ?_)))
 exact ⟨_, rfl, rfl, hM2.drop⟩


end Go.Proofs.Ytddacakmafdgdaa
end
section
/- A region that draws its order: a first part in any order, then the rest in the text's order. -/
set_option linter.unusedVariables false
set_option linter.unusedSimpArgs false
namespace Go.Kn
open Go.RowKit
theorem endK_congr {C : List (Option Value)} {V V' : Nat → Value} : ∀ {l : List Oper} {k : Nat} {K : St}, (∀ j, j < l.length → val C V (k + j) = val C V' (k + j)) → endK C V l k K = endK C V' l k K
  | [], _, _, _ => rfl
  | o :: r, k, K, h => by
    unfold endK
    rw [show val C V k = val C V' k from h 0 (by simp)]
    exact endK_congr (fun j hj => by have := h (j + 1) (by simp; omega); rwa [show k + 1 + j = k + (j + 1) by omega])
theorem endK_snoc {C : List (Option Value)} {V : Nat → Value} {o : Oper} : ∀ {l : List Oper} {k : Nat} {K : St}, endK C V (l ++ [o]) k K = (endK C V l k K).put o.dst (val C V (k + l.length))
  | [], k, K => rfl
  | a :: r, k, K => by
    show endK C V (r ++ [o]) (k + 1) _ = _
    rw [endK_snoc]
    show _ = (endK C V r (k + 1) _).put _ _
    rw [show k + 1 + r.length = k + (a :: r).length by simp; omega]
theorem val_told {C : List (Option Value)} {V : Nat → Value} {i : Nat} {c v : Value} (h : C[i]? = some (some c)) (j : Nat) : val C (upd V i v) j = val C V j := by
  by_cases e : j = i
  · subst e; simp [val, h]
  · unfold val; split
    · rfl
    · exact upd_ne _ _ e
theorem endK_told {C : List (Option Value)} {V : Nat → Value} {i : Nat} {c v : Value} (h : C[i]? = some (some c)) {l : List Oper} {k : Nat} {K : St} : endK C (upd V i v) l k K = endK C V l k K := endK_congr (fun j _ => val_told h _)
theorem OpGo.goal {P : Program} {l : List Oper} {K : St} {o : Oper} {w : World} {post post' : Value → World → Prop} (h : OpGo P l.toArray K o w post) (hp : ∀ v w, post v w → post' v w) : OpGoal P l K o w post' := by
  unfold OpGo at h
  unfold OpGoal
  cases hg : o.guard with
  | none => rw [hg] at h; exact h.2.mono hp
  | some gb =>
    obtain ⟨g, b⟩ := gb
    rw [hg] at h
    obtain ⟨c, hc, hyes, hno⟩ := h
    exact ⟨c, hc, fun e => (hyes e).2.mono hp, fun e => hp _ _ (hno e)⟩
theorem OpGoal.mono {P : Program} {l : List Oper} {K : St} {o : Oper} {w : World} {post post' : Value → World → Prop} (h : OpGoal P l K o w post) (hp : ∀ v w, post v w → post' v w) : OpGoal P l K o w post' := by
  unfold OpGoal at *
  cases hg : o.guard with
  | none => rw [hg] at h; exact h.mono hp
  | some gb =>
    obtain ⟨g, b⟩ := gb
    rw [hg] at h
    obtain ⟨c, hc, hyes, hno⟩ := h
    exact ⟨c, hc, fun e => (hyes e).mono hp, fun e => hp _ _ (hno e)⟩
/-- an operation that can be done at any time: its value is told, and it leaves the world -/
structure Stat (P : Program) (l : List Oper) (K : St) (C : List (Option Value)) (W : (Nat → Bool) → (Nat → Value) → World → Prop) (j : Nat) (c : Value) : Prop where
  told : C[j]? = some (some c)
  run : ∀ o V w, l[j]? = some o → OpGoal P l (endK C V (l.take j) 0 K) o w (fun v w' => v = c ∧ w' = w)
  keep : ∀ D V w, W D V w → W (upd D j true) (upd V j c) w
def Stats (P : Program) (l : List Oper) (K : St) (C : List (Option Value)) (W : (Nat → Bool) → (Nat → Value) → World → Prop) : List (Nat × Value) → Prop
  | [] => True
  | q :: r => Stat P l K C W q.1 q.2 ∧ Stats P l K C W r
theorem Stats.get {P : Program} {l : List Oper} {K : St} {C : List (Option Value)} {W : (Nat → Bool) → (Nat → Value) → World → Prop} : ∀ {T : List (Nat × Value)}, Stats P l K C W T → ∀ q ∈ T, Stat P l K C W q.1 q.2
  | [], _, q, hq => by cases hq
  | a :: r, h, q, hq => by
    rcases List.mem_cons.1 hq with rfl | hq
    · exact h.1
    · exact h.2.get q hq
theorem Stats.fill {P : Program} {l : List Oper} {K : St} {C : List (Option Value)} {W : (Nat → Bool) → (Nat → Value) → World → Prop} : ∀ {T : List (Nat × Value)} {D : Nat → Bool} {V : Nat → Value} {w : World}, Stats P l K C W T → W D V w →
    ∃ D' V', W D' V' w ∧ (∀ j, D j = true → D' j = true) ∧ (∀ q ∈ T, D' q.1 = true) ∧ ∀ j, val C V' j = val C V j
  | [], D, V, w, _, h => ⟨D, V, h, fun _ h => h, fun q hq => absurd hq (by simp), fun _ => rfl⟩
  | a :: r, D, V, w, hs, h => by
    obtain ⟨D', V', h1, h2, h3, h4⟩ := hs.2.fill h
    refine ⟨upd D' a.1 true, upd V' a.1 a.2, hs.1.keep _ _ _ h1, fun j hj => ?_, fun q hq => ?_, fun j => ?_⟩
    · by_cases e : j = a.1
      · subst e; exact upd_same _ _ _
      · rw [upd_ne _ _ e]; exact h2 j hj
    · by_cases e : q.1 = a.1
      · rw [e]; exact upd_same _ _ _
      · rw [upd_ne _ _ e]
        rcases List.mem_cons.1 hq with rfl | hq
        · exact absurd rfl e
        · exact h3 q hq
    · rw [val_told hs.1.told, h4]
def chainOk (l : List Oper) (M : List Nat) (p : Nat) (T : List Nat) : Bool :=
  (List.range l.length).all fun i => Nat.blt i p || (List.range i).all fun j => (M.getD i 0).testBit j || T.contains j
theorem k_drawP {P : Program} {n : Nat} {Q : Exit → Act → World → Prop} {K : St} {w : World} {id : Nat} {l : List Oper} (hm : P.follows .mixedOrders = true) (M : List Nat) (C : List (Option Value)) (hck : drawOk n K l M = true) (p : Nat) (T : List (Nat × Value))
    (hp : Nat.ble p l.length = true) (hC : C.length = p) (hch : chainOk l M p (T.map (·.1)) = true) (hTp : (T.all fun q => Nat.blt q.1 p) = true)
    (W : (Nat → Bool) → (Nat → Value) → World → Prop) (h0 : ∀ V, W (fun _ => false) V w.drew) (hT : Stats P l K C W T)
    (hops : Each (fun i o => ∀ D V w, (∀ j, (M.getD i 0).testBit j = true → D j = true) → D i = false → W D V w → OpGoal P l (endK C V (l.take i) 0 K) o w (fun v w' => (∀ c, C[i]? = some (some c) → v = c) ∧ W (upd D i true) (upd V i v) w')) 0 (l.take p))
    (hend : ∀ D V w, (∀ i, i < p → D i = true) → W D V w → wpR P n l.toArray Q (l.drop p) (endK C V (l.take p) 0 K) w) : wpK P n (.region id l.toArray true) Q K w := by
  have hp' : p ≤ l.length := Nat.le_of_ble_eq_true hp
  have hTlt : ∀ q ∈ T, q.1 < p := fun q hq => by have := List.all_eq_true.1 hTp q hq; simpa using this
  have hbefore : ∀ i, p ≤ i → i < l.length → ∀ j, j < i → (M.getD i 0).testBit j = true ∨ ∃ q ∈ T, q.1 = j := by
    intro i hpi hil j hj
    have h1 := List.all_eq_true.1 hch i (List.mem_range.2 hil)
    rcases Bool.or_eq_true _ _ ▸ h1 with h2 | h2
    · have : i < p := by simpa using h2
      omega
    · have h3 := List.all_eq_true.1 h2 j (List.mem_range.2 hj)
      rcases Bool.or_eq_true _ _ ▸ h3 with h4 | h4
      · exact .inl h4
      · right
        have h5 : j ∈ T.map (·.1) := by simpa using h4
        obtain ⟨q, hq, he⟩ := List.mem_map.1 h5
        exact ⟨q, hq, he⟩
  refine k_draw hm M C hck (fun D V w => ∃ m, (∀ j, p ≤ j → (D j = true ↔ j < p + m)) ∧ (m = 0 → W D V w) ∧ (0 < m → (∀ j, j < p → (∀ q ∈ T, q.1 ≠ j) → D j = true) ∧ wpR P n l.toArray Q (l.drop (p + m)) (endK C V (l.take (p + m)) 0 K) w)) (fun V => ⟨0, fun j hj => by simp; omega, fun _ => h0 V, fun h => absurd h (by omega)⟩) ?_ ?_
  · -- one operation
    have main : ∀ i o, l[i]? = some o → ∀ D V w, (∀ j, (M.getD i 0).testBit j = true → D j = true) → D i = false →
        (∃ m, (∀ j, p ≤ j → (D j = true ↔ j < p + m)) ∧ (m = 0 → W D V w) ∧ (0 < m → (∀ j, j < p → (∀ q ∈ T, q.1 ≠ j) → D j = true) ∧ wpR P n l.toArray Q (l.drop (p + m)) (endK C V (l.take (p + m)) 0 K) w)) →
        OpGoal P l (endK C V (l.take i) 0 K) o w (fun v w' => (∀ c, C[i]? = some (some c) → v = c) ∧ ∃ m, (∀ j, p ≤ j → (upd D i true j = true ↔ j < p + m)) ∧ (m = 0 → W (upd D i true) (upd V i v) w') ∧ (0 < m → (∀ j, j < p → (∀ q ∈ T, q.1 ≠ j) → upd D i true j = true) ∧ wpR P n l.toArray Q (l.drop (p + m)) (endK C (upd V i v) (l.take (p + m)) 0 K) w')) := by
      rintro i o ho D V w hmask hDi ⟨m, hm1, hm2, hm3⟩
      have hil : i < l.length := (List.getElem?_eq_some_iff.1 ho).1
      by_cases hip : i < p
      · have hoth : ∀ j, p ≤ j → (upd D i true j = true ↔ j < p + m) := fun j hj => by rw [upd_ne _ _ (by omega)]; exact hm1 j hj
        rcases Nat.eq_zero_or_pos m with h0 | h0
        · subst h0
          have hF := Each.at_ hops (i := i) (o := o) (by rw [List.getElem?_take_of_lt hip]; exact ho) D V w (by rw [Nat.zero_add]; exact hmask) (by rw [Nat.zero_add]; exact hDi) (hm2 rfl)
          rw [Nat.zero_add] at hF
          exact hF.mono fun v w' ⟨h1, h2⟩ => ⟨h1, 0, hoth, fun _ => h2, fun h => absurd h (by omega)⟩
        · obtain ⟨hall, hwp⟩ := hm3 h0
          by_cases hin : ∃ q ∈ T, q.1 = i
          · obtain ⟨q, hq, rfl⟩ := hin
            have hs := hT.get q hq
            refine (hs.run o V w ho).mono ?_
            rintro v w' ⟨rfl, rfl⟩
            refine ⟨fun c hc => by rw [hs.told] at hc; injection hc with hc; injection hc, m, hoth, fun h => absurd h (by omega), fun _ => ⟨fun j hj hne => ?_, ?_⟩⟩
            · rw [upd_ne _ _ (fun e => hne q hq e.symm)]; exact hall j hj hne
            · rw [endK_told hs.told]; exact hwp
          · have := hall i hip (fun q hq e => hin ⟨q, hq, e⟩)
            rw [hDi] at this; cases this
      · have hpi : p ≤ i := by omega
        have hge : p + m ≤ i := by
          rcases Nat.lt_or_ge i (p + m) with h | h
          · have := (hm1 i hpi).2 h; rw [hDi] at this; cases this
          · exact h
        have hnT : ∀ j, p ≤ j → ∀ q ∈ T, q.1 ≠ j := fun j hj q hq e => by have := hTlt q hq; omega
        have him : i = p + m := by
          rcases Nat.eq_or_lt_of_le hge with h | h
          · exact h.symm
          · exfalso
            have hd : D (p + m) = true := by
              rcases hbefore i hpi hil (p + m) h with h2 | ⟨q, hq, e⟩
              · exact hmask _ h2
              · exact absurd e (hnT _ (by omega) q hq)
            have := (hm1 (p + m) (by omega)).1 hd
            omega
        have hdone : ∀ j, j < p → (∀ q ∈ T, q.1 ≠ j) → D j = true := by
          intro j hj hne
          rcases hbefore i hpi hil j (by omega) with h2 | ⟨q, hq, e⟩
          · exact hmask _ h2
          · exact absurd e (hne q hq)
        have hwp : wpR P n l.toArray Q (l.drop i) (endK C V (l.take i) 0 K) w := by
          rcases Nat.eq_zero_or_pos m with h0 | h0
          · subst h0
            rw [Nat.add_zero] at him
            subst him
            obtain ⟨D', V', h1, h2, h3, h4⟩ := hT.fill (hm2 rfl)
            have := hend D' V' w (fun j hj => by
              by_cases hin : ∃ q ∈ T, q.1 = j
              · obtain ⟨q, hq, rfl⟩ := hin; exact h3 q hq
              · exact h2 j (hdone j hj (fun q hq e => hin ⟨q, hq, e⟩))) h1
            rwa [endK_congr (fun j _ => h4 _)] at this
          · rw [him]; exact (hm3 h0).2
        have hcons : l.drop i = o :: l.drop (i + 1) := by
          rw [List.drop_eq_getElem_cons hil, (List.getElem?_eq_some_iff.1 ho).2]
        rw [hcons] at hwp
        refine hwp.2.goal fun v w' hv => ⟨fun c hc => ?_, m + 1, fun j hj => ?_, fun h => absurd h (by omega), fun _ => ⟨fun j hj hne => ?_, ?_⟩⟩
        · rw [List.getElem?_eq_none (by omega)] at hc; cases hc
        · by_cases e : j = i
          · subst e; rw [upd_same]; simp; omega
          · rw [upd_ne _ _ e, hm1 j hj]; omega
        · rw [upd_ne _ _ (by omega)]; exact hdone j hj hne
        · have htake : l.take (i + 1) = l.take i ++ [o] := by
            rw [List.take_succ_eq_append_getElem hil, (List.getElem?_eq_some_iff.1 ho).2]
          have hlen : (l.take i).length = i := by rw [List.length_take]; omega
          rw [show p + (m + 1) = i + 1 by omega, htake, endK_snoc, hlen, Nat.zero_add]
          have hval : val C (upd V i v) i = v := by
            unfold val
            rw [List.getElem?_eq_none (by omega)]
            exact upd_same _ _ _
          rw [hval, endK_congr (V := upd V i v) (V' := V) (fun j hj => by
            rw [hlen] at hj
            unfold val
            split
            · rfl
            · rw [Nat.zero_add]; exact upd_ne _ _ (by omega))]
          exact hv
    have each : ∀ (r : List Oper) (k : Nat), (∀ j, r[j]? = l[k + j]?) → Each (fun i o => ∀ D V w, (∀ j, (M.getD i 0).testBit j = true → D j = true) → D i = false →
        (∃ m, (∀ j, p ≤ j → (D j = true ↔ j < p + m)) ∧ (m = 0 → W D V w) ∧ (0 < m → (∀ j, j < p → (∀ q ∈ T, q.1 ≠ j) → D j = true) ∧ wpR P n l.toArray Q (l.drop (p + m)) (endK C V (l.take (p + m)) 0 K) w)) →
        OpGoal P l (endK C V (l.take i) 0 K) o w (fun v w' => (∀ c, C[i]? = some (some c) → v = c) ∧ ∃ m, (∀ j, p ≤ j → (upd D i true j = true ↔ j < p + m)) ∧ (m = 0 → W (upd D i true) (upd V i v) w') ∧ (0 < m → (∀ j, j < p → (∀ q ∈ T, q.1 ≠ j) → upd D i true j = true) ∧ wpR P n l.toArray Q (l.drop (p + m)) (endK C (upd V i v) (l.take (p + m)) 0 K) w'))) k r := by
      intro r
      induction r with
      | nil => intro k _; trivial
      | cons o r ih =>
        intro k hk
        refine ⟨main k o (by have := hk 0; simpa using this.symm), ih (k + 1) (fun j => ?_)⟩
        have := hk (j + 1)
        rw [show k + 1 + j = k + (j + 1) by omega]
        simpa using this
    exact each l 0 (fun j => by rw [Nat.zero_add])
  · rintro D V w hall ⟨m, hm1, hm2, hm3⟩
    rcases Nat.eq_zero_or_pos m with h0 | h0
    · subst h0
      have hlp : l.length = p := by
        rcases Nat.eq_or_lt_of_le hp' with h | h
        · exact h.symm
        · have := (hm1 p (Nat.le_refl _)).1 (hall p h)
          omega
      have := hend D V w (fun i hi => hall i (by omega)) (hm2 rfl)
      rw [List.drop_eq_nil_of_le (by omega), List.take_of_length_le (by omega)] at this
      exact this
    · have hlm : l.length ≤ p + m := by
        rcases Nat.lt_or_ge p l.length with h | h
        · have := (hm1 (l.length - 1) (by omega)).1 (hall (l.length - 1) (by omega))
          omega
        · omega
      have := (hm3 h0).2
      rw [List.drop_eq_nil_of_le hlm, List.take_of_length_le hlm] at this
      exact this
end Go.Kn
end
