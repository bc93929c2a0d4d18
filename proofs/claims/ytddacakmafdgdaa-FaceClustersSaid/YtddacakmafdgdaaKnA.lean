/- Slots as lists of what is known; the rules of the code over them. -/
import Derived.WalkKit
import Derived.KernelRfl
import Derived.Deep.LoopGhost
set_option linter.unusedVariables false
set_option linter.unusedSimpArgs false
namespace Go.Kn
open Go.RowKit

abbrev St := List (Nat × Value)
def St.ev (K : St) : Operand → Value
  | .tmp t => (K.lookup t).getD undef
  | .const v => v
  | .global g => .pointer (some ⟨g, 0, none⟩)
  | .func f => .func (.func f) #[] #[]
def St.has (K : St) : Operand → Bool
  | .tmp t => (K.lookup t).isSome
  | _ => true
def St.put (K : St) : Option Tmp → Value → St
  | some d, v => (d, v) :: K
  | none, _ => K
def noSel : Op → Bool
  | .select .. => false
  | _ => true
/-- the operands, as a list -/
def opnds : Op → List Operand
  | .alloc _ | .ready _ | .waits _ => []
  | .move x | .assign x | .box _ x | .load _ x | .nilCheck x | .unOp _ _ x | .convert _ _ x | .sliceToArrayPointer _ x | .makeInterface _ x
  | .makeChan _ x | .fieldAddr _ x _ | .field _ x _ | .range _ x | .next x _ | .entry x | .typeAssert x _ _ _ | .extract x _ | .panic x | .recv _ x _ => [x]
  | .pick c a b => [c, a, b]
  | .build _ ps | .buildSlice _ _ ps => ps.toList.map (·.2)
  | .store _ a v | .binOp _ _ a v _ | .makeSlice _ a v | .indexAddr _ a v | .index _ a v | .lookup _ a v _ | .mapEntry _ a v | .send a v => [a, v]
  | .makeFunc _ first captured => first.toList ++ captured.toList
  | .makeMap _ r => r.toList
  | .slice _ x l h m => x :: (l.toList ++ h.toList ++ m.toList)
  | .mapUpdate _ m k v | .entryStore _ m k v | .insert _ m k v => [m, k, v]
  | .call c | .go c | .defer c => (match c.callee with | .value f => [f] | .invoke r _ => [r] | .builtin _ => []) ++ c.args.toList
  | .select .. => []
theorem mem_opnds {op : Op} (hs : noSel op = true) {x : Operand} (h : x ∈ op.operands) : x ∈ opnds op := by
  cases op <;> simp only [Op.operands, opnds, Call.operands] at h ⊢
  case select => simp [noSel] at hs
  case call c => cases hc : c.callee <;> simp_all
  case go c => cases hc : c.callee <;> simp_all
  case defer c => cases hc : c.callee <;> simp_all
  case makeMap t r => cases r <;> simp_all
  case slice t x lo hi mx => cases lo <;> cases hi <;> cases mx <;> simp_all
  all_goals simp_all
def okDst (n : Nat) : Option Tmp → Bool
  | some d => Nat.blt d n
  | none => true
def okOp (n : Nat) (K : St) (o : Oper) : Bool := noSel o.op && (opnds o.op).all K.has && okDst n o.dst

structure At (n : Nat) (K : St) (a : Act) : Prop where
  size : a.tmps.size = n
  defers : a.defers = []
  knows : ∀ i v, K.lookup i = some v → a.tmps[i]? = some v

theorem At.ev {n : Nat} {K : St} {a : Act} (h : At n K a) {x : Operand} (hx : K.has x = true) : a.eval x = K.ev x := by
  cases x with
  | tmp t =>
    simp only [St.has] at hx
    obtain ⟨v, hv⟩ := Option.isSome_iff_exists.1 hx
    have := h.knows t v hv
    simp [Act.eval, St.ev, hv, this]
  | _ => rfl
theorem At.exec {n : Nat} {K : St} {a : Act} {o : Oper} (h : At n K a) (hs : noSel o.op = true) (hx : (opnds o.op).all K.has = true) : execOp a.eval o = execOp K.ev o :=
  execOp_congr o (fun cs b e => by simp [noSel, e] at hs) fun x hm => h.ev (List.all_eq_true.1 hx x (mem_opnds hs hm))
theorem At.put {n : Nat} {K : St} {a : Act} (h : At n K a) (d : Option Tmp) (v : Value) (hd : okDst n d = true) : At n (K.put d v) (a.put d v) := by
  cases d with
  | none => exact h
  | some d =>
    have hlt : d < n := by simpa [okDst] using hd
    refine ⟨by simpa [Act.put] using h.size, h.defers, fun i u hi => ?_⟩
    have hsz := h.size
    simp only [St.put, List.lookup_cons] at hi
    by_cases hid : i = d
    · subst hid
      simp only [beq_self_eq_true] at hi
      injection hi with hi
      subst hi
      simp [Act.put, Array.getElem?_setIfInBounds, hsz, hlt]
    · have : (i == d) = false := by simpa using hid
      simp only [this] at hi
      have h2 := h.knows i u hi
      have hne : d ≠ i := fun e => hid e.symm
      simp [Act.put, Array.getElem?_setIfInBounds_ne hne, h2]
def Sub : St → St → Prop
  | [], _ => True
  | (i, v) :: r, K => K.lookup i = some v ∧ Sub r K
theorem Sub.get {K' K : St} (h : Sub K' K) {i : Nat} {v : Value} (hi : K'.lookup i = some v) : K.lookup i = some v := by
  induction K' with
  | nil => simp at hi
  | cons p r ih =>
    obtain ⟨j, u⟩ := p
    simp only [List.lookup_cons] at hi
    by_cases hij : i = j
    · subst hij
      simp only [beq_self_eq_true] at hi
      injection hi with hi
      subst hi
      exact h.1
    · have : (i == j) = false := by simpa using hij
      simp only [this] at hi
      exact ih h.2 hi
theorem At.sub {n : Nat} {K K' : St} {a : Act} (h : At n K a) (hs : Sub K' K) : At n K' a :=
  ⟨h.size, h.defers, fun i v hi => h.knows i v (hs.get hi)⟩

def wpK (P : Program) (n : Nat) (c : Code) (Q : Exit → Act → World → Prop) (K : St) (w : World) : Prop := ∀ a, At n K a → c.wp P Q a w
def wpR (P : Program) (n : Nat) (ops : Array Oper) (Q : Exit → Act → World → Prop) (l : List Oper) (K : St) (w : World) : Prop := ∀ a, At n K a → wpList P ops Q l a w
def Ends (n : Nat) (Q : Exit → Act → World → Prop) (e : Exit) (K : St) (w : World) : Prop := ∀ a, At n K a → Q e a w
def cont (P : Program) (y : Code) (Q : Exit → Act → World → Prop) : Exit → Act → World → Prop := Exit.then (y.wp P Q) Q

section
variable {P : Program} {n : Nat} {ops : Array Oper} {Q : Exit → Act → World → Prop} {K : St} {w : World}

theorem wpK_sub {c : Code} (K' : St) (hs : Sub K' K) (h : wpK P n c Q K' w) : wpK P n c Q K w := fun a ha => h a (ha.sub hs)
theorem wpR_sub {l : List Oper} (K' : St) (hs : Sub K' K) (h : wpR P n ops Q l K' w) : wpR P n ops Q l K w := fun a ha => h a (ha.sub hs)
theorem ends_sub {e : Exit} (K' : St) (hs : Sub K' K) (h : Ends n Q e K' w) : Ends n Q e K w := fun a ha => h a (ha.sub hs)

/-- the rules of the code -/
theorem k_seq {x y : Code} (h : wpK P n x (cont P y Q) K w) : wpK P n (.seq x y) Q K w := fun a ha => wp_seq (h a ha)
theorem k_region {id : Nat} {l : List Oper} (h : wpR P n l.toArray Q l K w) : wpK P n (.region id l.toArray false) Q K w := fun a ha => wp_region_lit (h a ha)
theorem k_skip (h : Ends n Q .normal K w) : wpK P n .skip Q K w := fun a ha => wp_skip (h a ha)
theorem k_exit {id : Nat} (h : Ends n Q (.exit id) K w) : wpK P n (.exit id) Q K w := fun a ha => wp_exit (h a ha)
theorem k_ret (h : Ends n Q .ret K w) : wpK P n .ret Q K w := fun a ha => wp_ret (h a ha)
theorem k_block {id : Nat} {c : Code} (h : wpK P n c (Exit.inBlock id Q) K w) : wpK P n (.block id c) Q K w := fun a ha => wp_block (h a ha)
theorem k_cond {c : Operand} {x y : Code} {p : Bool} (hx : K.has c = true) (hc : K.ev c = .bool p) (ht : p = true → wpK P n x Q K w) (hf : p = false → wpK P n y Q K w) : wpK P n (.cond c x y) Q K w :=
  fun a ha => wp_cond_split (by rw [ha.ev hx]; exact hc) (fun h => ht h a ha) (fun h => hf h a ha)
theorem k_cond_true {c : Operand} {x y : Code} (hx : K.has c = true) (hc : K.ev c = .bool true) (ht : wpK P n x Q K w) : wpK P n (.cond c x y) Q K w :=
  k_cond hx hc (fun _ => ht) (fun h => by cases h)
theorem k_cond_false {c : Operand} {x y : Code} (hx : K.has c = true) (hc : K.ev c = .bool false) (hf : wpK P n y Q K w) : wpK P n (.cond c x y) Q K w :=
  k_cond hx hc (fun h => by cases h) (fun _ => hf)
theorem r_nil (h : Ends n Q .normal K w) : wpR P n ops Q [] K w := fun a ha => wpList_nil (h a ha)

/-- exits -/
theorem e_then {y : Code} (h : wpK P n y Q K w) : Ends n (cont P y Q) .normal K w := fun a ha => h a ha
theorem e_then_exit {y : Code} {i : Nat} (h : Ends n Q (.exit i) K w) : Ends n (cont P y Q) (.exit i) K w := fun a ha => h a ha
theorem e_then_ret {y : Code} (h : Ends n Q .ret K w) : Ends n (cont P y Q) .ret K w := fun a ha => h a ha
theorem e_blk {i : Nat} (h : Ends n Q .normal K w) : Ends n (Exit.inBlock i Q) .normal K w := fun a ha => h a ha
theorem e_blk_ret {i : Nat} (h : Ends n Q .ret K w) : Ends n (Exit.inBlock i Q) .ret K w := fun a ha => h a ha
theorem e_blk_exit {i : Nat} (h : Ends n Q .normal K w) : Ends n (Exit.inBlock i Q) (.exit i) K w := fun a ha => by
  show (if i = i then Q .normal a w else Q (.exit i) a w); rw [if_pos rfl]; exact h a ha
theorem e_blk_ne {i j : Nat} (hne : j ≠ i) (h : Ends n Q (.exit j) K w) : Ends n (Exit.inBlock i Q) (.exit j) K w := fun a ha => by
  show (if j = i then Q .normal a w else Q (.exit j) a w); rw [if_neg hne]; exact h a ha

/-- a loop with a ghost state -/
def loopQ {σ : Type} (n : Nat) (Kf : σ → St) (F : σ → World → Prop) (μ : σ → Nat) (s : σ) (Q : Exit → Act → World → Prop) : Exit → Act → World → Prop :=
  Exit.then (fun a' w' => ∃ s', At n (Kf s') a' ∧ F s' w' ∧ μ s' < μ s) Q
theorem k_loop {σ : Type} {c : Code} (Kf : σ → St) (F : σ → World → Prop) (μ : σ → Nat) (s0 : σ) (hs : Sub (Kf s0) K) (hF : F s0 w)
    (round : ∀ s w, F s w → wpK P n c (loopQ n Kf F μ s Q) (Kf s) w) : wpK P n (.loop c) Q K w := fun a ha => by
  refine wp_loop_ghost (fun m a w => ∃ s, μ s = m ∧ At n (Kf s) a ∧ F s w) (μ s0) ⟨s0, rfl, ha.sub hs, hF⟩ ?_
  rintro m a w ⟨s, rfl, hat, hf⟩
  refine wp_mono (round s w hf a hat) ?_
  intro e a' w' hq
  cases e with
  | normal =>
    obtain ⟨s', h1, h2, h3⟩ := hq
    exact ⟨μ s', h3, s', rfl, h1, h2⟩
  | exit id => exact hq
  | goto l => exact hq
  | ret => exact hq
  | panic ch => exact hq
  | outgrown => exact hq
theorem e_loop {σ : Type} {Kf : σ → St} {F : σ → World → Prop} {μ : σ → Nat} {s : σ} (s' : σ) (hs : Sub (Kf s') K) (hF : F s' w) (hμ : μ s' < μ s) : Ends n (loopQ n Kf F μ s Q) .normal K w :=
  fun a ha => ⟨s', ha.sub hs, hF, hμ⟩
theorem e_loop_exit {σ : Type} {Kf : σ → St} {F : σ → World → Prop} {μ : σ → Nat} {s : σ} {i : Nat} (h : Ends n Q (.exit i) K w) : Ends n (loopQ n Kf F μ s Q) (.exit i) K w := fun a ha => h a ha
theorem e_loop_ret {σ : Type} {Kf : σ → St} {F : σ → World → Prop} {μ : σ → Nat} {s : σ} (h : Ends n Q .ret K w) : Ends n (loopQ n Kf F μ s Q) .ret K w := fun a ha => h a ha

/-- ways that meet again: state J (slots and facts) at the end of a piece -/
theorem k_join {c y : Code} {σ : Type} (Kf : σ → St) (F : σ → World → Prop) (h : wpK P n c (Exit.then (fun a' w' => ∃ s, At n (Kf s) a' ∧ F s w') Q) K w)
    (h2 : ∀ s w, F s w → wpK P n y Q (Kf s) w) : wpK P n (.seq c y) Q K w := fun a ha => by
  refine wp_seq (wp_mono (h a ha) ?_)
  intro e a' w' hq
  cases e with
  | normal => obtain ⟨s, h1, hf⟩ := hq; exact h2 s w' hf a' h1
  | exit id => exact hq
  | goto l => exact hq
  | ret => exact hq
  | panic ch => exact hq
  | outgrown => exact hq
theorem e_join {σ : Type} {Kf : σ → St} {F : σ → World → Prop} (s : σ) (hs : Sub (Kf s) K) (hF : F s w) : Ends n (Exit.then (fun a' w' => ∃ s, At n (Kf s) a' ∧ F s w') Q) .normal K w :=
  fun a ha => ⟨s, ha.sub hs, hF⟩
theorem e_join_exit {J : Act → World → Prop} {i : Nat} (h : Ends n Q (.exit i) K w) : Ends n (Exit.then J Q) (.exit i) K w := fun a ha => h a ha
theorem e_join_ret {J : Act → World → Prop} (h : Ends n Q .ret K w) : Ends n (Exit.then J Q) .ret K w := fun a ha => h a ha

/-- one operation -/
theorem r_val {o : Oper} {rest : List Oper} {v : Value} {w' : World} (hg : o.guard = none) (hx : okOp n K o = true) (hr : (execOp K.ev o).run P w = .ok (.value v) w') (h : wpR P n ops Q rest (K.put o.dst v) w') : wpR P n ops Q (o :: rest) K w := by
  intro a ha
  simp only [okOp, Bool.and_eq_true] at hx
  refine wpList_plain hg fun K' hK => ?_
  unfold Oper.wp
  rw [ha.exec hx.1.1 hx.1.2, hr]
  exact hK _ _ (h _ (ha.put _ _ hx.2))
theorem r_skip {o : Oper} {rest : List Oper} {w' : World} (hg : o.guard = none) (hx : okOp n K o = true) (hr : (execOp K.ev o).run P w = .ok .skip w') (h : wpR P n ops Q rest (K.put o.dst undef) w') : wpR P n ops Q (o :: rest) K w := by
  intro a ha
  simp only [okOp, Bool.and_eq_true] at hx
  refine wpList_plain hg fun K' hK => ?_
  unfold Oper.wp
  rw [ha.exec hx.1.1 hx.1.2, hr]
  exact hK _ _ (h _ (ha.put _ _ hx.2))
theorem r_call {o : Oper} {rest : List Oper} {f : FuncId} {args : Array Value} {w' : World} {R : Value → World → Prop} (hg : o.guard = none) (hx : okOp n K o = true) (hr : (execOp K.ev o).run P w = .ok (.enter f args) w')
    (hc : Calls P f args w' fun e w'' => ∃ v, e = .returned v ∧ R v w'') (h : ∀ v w'', R v w'' → wpR P n ops Q rest (K.put o.dst v) w'') : wpR P n ops Q (o :: rest) K w := by
  intro a ha
  simp only [okOp, Bool.and_eq_true] at hx
  refine wpList_plain hg fun K' hK => ?_
  unfold Oper.wp
  rw [ha.exec hx.1.1 hx.1.2, hr]
  exact hc.mono fun e w'' ⟨v, he, hR⟩ => by subst he; exact hK _ _ (h v w'' hR _ (ha.put _ _ hx.2))
/-- a guard, decided: what the slot that it reads yields -/
def gval (ops : Array Oper) (K : St) (j : Nat) : Option (Option Bool) :=
  match ((ops[j]?).bind (·.dst)).bind (fun t => K.lookup t) with
  | some (.bool b) => some (some b)
  | some _ => some none
  | none => none
theorem yielded_of {ops : Array Oper} {K : St} {tmps : Array Value} {j : Nat} {c : Option Bool} (hk : ∀ t v, (ops[j]?).bind (·.dst) = some t → K.lookup t = some v → tmps[t]? = some v) (h : gval ops K j = some c) : Go.yielded ops tmps j = c := by
  unfold gval at h
  unfold Go.yielded
  cases ht : (ops[j]?).bind (·.dst) with
  | none => simp [ht] at h
  | some t =>
    simp only [ht, Option.bind_some] at h ⊢
    cases hv : K.lookup t with
    | none => simp [hv] at h
    | some v =>
      rw [hk t v ht hv]
      simp only [hv] at h ⊢
      cases v <;> simp_all
theorem At.yielded {a : Act} (ha : At n K a) {j : Nat} {c : Option Bool} (h : gval ops K j = some c) : Go.yielded ops a.tmps j = c :=
  yielded_of (fun t v _ hv => ha.knows t v hv) h
theorem r_no {o : Oper} {rest : List Oper} {j : Nat} {b : Bool} {c : Option Bool} (hg : o.guard = some (j, b)) (hy : gval ops K j = some c) (hne : c ≠ some b) (hx : okDst n o.dst = true) (h : wpR P n ops Q rest (K.put o.dst undef) w) : wpR P n ops Q (o :: rest) K w := by
  intro a ha
  unfold wpList
  rw [if_neg (by simp [Region.wanted, hg, ha.yielded hy, hne])]
  exact h _ (ha.put _ _ hx)
theorem r_yes {o : Oper} {rest : List Oper} {j : Nat} {b : Bool} (hg : o.guard = some (j, b)) (hy : gval ops K j = some (some b)) (h : wpR P n ops Q ({ o with guard := none } :: rest) K w) : wpR P n ops Q (o :: rest) K w := by
  intro a ha
  have h2 := h a ha
  unfold wpList at h2 ⊢
  rw [if_pos (by simp [Region.wanted, hg, ha.yielded hy])]
  rw [if_pos (by simp [Region.wanted])] at h2
  exact h2
end

/-- the call -/
theorem calls_k {P : Program} {f : FuncId} {fn : Func} {c : Code} {args : List Value} {w : World} {R : Ending → World → Prop} (n : Nat) (K : St)
    (hf : P.funcs[f]? = some fn) (hb : fn.body = some c) (hn : Nat.max args.length fn.ntmps = n) (hK : Sub K (args.zipIdx.map fun p => (p.2, p.1)))
    (h : wpK P n c (bodyPost P fn R) K w) : Calls P f args.toArray w R := by
  refine calls_of_wp hf hb (h _ ?_)
  refine At.sub (K := args.zipIdx.map fun p => (p.2, p.1)) ⟨?_, rfl, ?_⟩ hK
  · simp only [Array.size_append, List.size_toArray, Array.size_replicate]
    rw [← hn]; simp only [Nat.max_def]; split <;> omega
  · intro i v hi
    have key : ∀ (l : List Value) (k : Nat), (l.zipIdx k |>.map fun p => (p.2, p.1)).lookup i = some v → k ≤ i ∧ l[i - k]? = some v := by
      intro l
      induction l with
      | nil => intro k h; simp at h
      | cons x l ih =>
        intro k h
        simp only [List.zipIdx_cons, List.map_cons, List.lookup_cons] at h
        by_cases hik : i = k
        · subst hik
          simp only [beq_self_eq_true] at h
          exact ⟨Nat.le_refl _, by simpa using h⟩
        · have : (i == k) = false := by simpa using hik
          simp only [this] at h
          obtain ⟨h1, h2⟩ := ih (k + 1) h
          refine ⟨by omega, ?_⟩
          rw [show i - k = (i - (k + 1)) + 1 by omega]
          simpa using h2
    obtain ⟨_, h2⟩ := key args 0 hi
    have h3 : args[i]? = some v := by simpa using h2
    have hlt : i < args.length := by
      rcases Nat.lt_or_ge i args.length with h | h
      · exact h
      · simp [List.getElem?_eq_none h] at h3
    rw [Array.getElem?_append_left (by simpa using hlt)]
    simpa using h3

/-- what a function hands back -/
def St.res (K : St) (P : Program) (w : World) : ResultVar → Option Value
  | .tmp t => K.lookup t
  | .cell p ty => match K.lookup p with
    | some (.pointer (some ad)) => match (loadVar ty ad).run P w with
      | .ok v _ => some v
      | _ => none
    | _ => none
section
variable {P : Program} {n : Nat} {K : St} {w : World} {fn : Func} {R : Ending → World → Prop}
theorem e_ret1 {t : Tmp} {v : Value} (hr : fn.results = #[.tmp t]) (hv : K.lookup t = some v) (h : R (.returned v) w) : Ends n (bodyPost P fn R) .ret K w :=
  fun a ha => bodyPost_ret (results_tmp hr _ _ _) ha.defers (by rw [Array.getD_eq_getD_getElem?, ha.knows t v hv]; exact h)
theorem e_ret2 {t u : Tmp} {v v' : Value} (hr : fn.results = #[.tmp t, .tmp u]) (hv : K.lookup t = some v) (hu : K.lookup u = some v') (h : R (.returned (.tuple #[v, v'])) w) : Ends n (bodyPost P fn R) .ret K w :=
  fun a ha => bodyPost_ret (results_tmp2 hr _ _ _) ha.defers (by simp only [Array.getD_eq_getD_getElem?, ha.knows t v hv, ha.knows u v' hu]; exact h)
theorem results_tmp3' {t u z : Tmp} (h : fn.results = #[.tmp t, .tmp u, .tmp z]) (tmps : Array Value) (P : Program) (w : World) :
    (results fn tmps).run P w = .ok (.tuple #[tmps.getD t undef, tmps.getD u undef, tmps.getD z undef]) w := by
  simp [results, h]
theorem e_ret3 {t u z : Tmp} {v v' v'' : Value} (hr : fn.results = #[.tmp t, .tmp u, .tmp z]) (hv : K.lookup t = some v) (hu : K.lookup u = some v') (hz : K.lookup z = some v'') (h : R (.returned (.tuple #[v, v', v''])) w) : Ends n (bodyPost P fn R) .ret K w :=
  fun a ha => bodyPost_ret (results_tmp3' hr _ _ _) ha.defers (by simp only [Array.getD_eq_getD_getElem?, ha.knows t v hv, ha.knows u v' hu, ha.knows z v'' hz]; exact h)
theorem e_end0 (hr : fn.results = #[]) (h : R (.returned (.tuple #[])) w) : Ends n (bodyPost P fn R) .normal K w :=
  fun a ha => bodyPost_end (results_none hr _ _ _) ha.defers h
theorem e_ret0 (hr : fn.results = #[]) (h : R (.returned (.tuple #[])) w) : Ends n (bodyPost P fn R) .ret K w :=
  fun a ha => bodyPost_ret (results_none hr _ _ _) ha.defers h
end
end Go.Kn
