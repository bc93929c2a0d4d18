/- New blocks; rows of the call's own; append. -/
import Derived.Test.YtddacakmafdgdaaKnE
import Derived.Maps.AppendAt
set_option linter.unusedVariables false
set_option linter.unusedSimpArgs false
namespace Go.Kn
open Go.RowKit
section
variable {P : Program} {n : Nat} {ops : Array Oper} {Q : Exit → Act → World → Prop} {K : St} {w w0 : World} {S : Nat → Prop} {L : Hp} {rest : List Oper} {o : Oper}
/-- an operation that makes one block -/
theorem r_new (f : Nat → Value) (obj : Obj) (hM : Mem w0 S w L) (hr : (execOp K.ev o).run P w = .ok (.value (f w.heap.size)) (w.alloc obj)) (hg : o.guard = none) (hx : okOp n K o = true)
    (h : ∀ b w', Mem w0 S w' ((b, obj) :: L) → w0.heap.size ≤ b → wpR P n ops Q rest (K.put o.dst (f b)) w') : wpR P n ops Q (o :: rest) K w :=
  r_val hg hx hr (h _ _ (hM.alloc _) hM.kept.size)
end
/-- A row of the call's own: n elements of sz cells, the cells xs; behind them what room there is. -/
def OwnR (e : TypeId) (sz : Nat) (v : Value) (n : Nat) (xs : List Value) (L : Hp) : Prop :=
  xs.length = n * sz ∧ ((v = .slice none 0 0 ∧ n = 0 ∧ L = []) ∨ ∃ b cap cur, v = .slice (some ⟨b, 0, none⟩) n cap ∧ n ≤ cap ∧ cap ≤ maxLen ∧ cur.size = cap * sz ∧ cur.toList.take (n * sz) = xs ∧ L = [(b, .cells cur e (0, 0))])
theorem OwnR.nil (e : TypeId) (sz : Nat) : OwnR e sz (.slice none 0 0) 0 [] [] := ⟨by simp, .inl ⟨rfl, rfl, rfl⟩⟩
theorem OwnR.lit (e : TypeId) (sz : Nat) (b n : Nat) (cs : Array Value) (hn : n ≤ maxLen) (hs : cs.size = n * sz) : OwnR e sz (.slice (some ⟨b, 0, none⟩) n n) n cs.toList [(b, .cells cs e (0, 0))] :=
  ⟨by simpa using hs, .inr ⟨b, n, cs, rfl, Nat.le_refl _, hn, hs, by rw [List.take_of_length_le (by simp [hs])], rfl⟩⟩
theorem OwnR.one {e : TypeId} {sz : Nat} {v : Value} {n : Nat} {xs : List Value} {L : Hp} (h : OwnR e sz v n xs L) : v.oneCell' = true := by
  rcases h.2 with ⟨rfl, _, _⟩ | ⟨b, cap, cur, rfl, _⟩ <;> rfl
theorem OwnR.owns {e : TypeId} {sz : Nat} {v : Value} {n : Nat} {xs : List Value} {L : Hp} {w : World} (h : OwnR e sz v n xs L) (hL : Holds w L) : w.ownsRow 0 e sz v n xs := by
  obtain ⟨h1, h2⟩ := h
  refine ⟨h1, ?_⟩
  rcases h2 with ⟨rfl, rfl, rfl⟩ | ⟨b, cap, cur, rfl, h3, h4, h5, h6, rfl⟩
  · exact .inl ⟨rfl, rfl⟩
  · exact .inr ⟨b, cap, cur, rfl, Nat.zero_le _, hL.at_ (b, .cells cur e (0, 0)) (by simp), h3, h4, h5, h6⟩
theorem OwnR.len {e : TypeId} {sz : Nat} {v : Value} {n : Nat} {xs : List Value} {L : Hp} (h : OwnR e sz v n xs L) : xs.length = n * sz := h.1
theorem OwnR.slice {e : TypeId} {sz : Nat} {v : Value} {n : Nat} {xs : List Value} {L : Hp} (h : OwnR e sz v n xs L) : ∃ A c, v = .slice A n c ∧ n ≤ c ∧ c ≤ maxLen ∧ (0 < n → A.isSome = true) := by
  rcases h.2 with ⟨rfl, rfl, rfl⟩ | ⟨b, cap, cur, rfl, h3, h4, h5, h6, rfl⟩
  · exact ⟨none, 0, rfl, Nat.le_refl _, by simp, by omega⟩
  · exact ⟨_, cap, rfl, h3, h4, by simp⟩
/-- its cells, in a world that has it -/
theorem OwnR.cell {e : TypeId} {sz : Nat} {A : Option Addr} {n c : Nat} {xs : List Value} {L : Hp} {w : World} (h : OwnR e sz (.slice A n c) n xs L) (hL : Holds w L) : ∀ j u, xs[j]? = some u → w.cell? ((adr A).add j) = some u := by
  intro j u hu
  rcases h.2 with ⟨h1, h2, _⟩ | ⟨b, cap, cur, h2, h3, h4, h5, h6, rfl⟩
  · have := h.1; rw [h2] at this; simp at this; subst this; simp at hu
  · injection h2 with h2 _ _
    subst h2
    simp only [adr, Option.getD_some]
    rw [add_row, Nat.zero_add, cell_of_row w b j cur e (0, 0) (hL.at_ (b, .cells cur e (0, 0)) (by simp))]
    rw [← h6, List.getElem?_take] at hu
    split at hu
    · simpa using hu
    · cases hu
/-- as a slice that is read -/
theorem OwnR.rd {α : Type} {enc : α → List Value} {e : TypeId} {sz : Nat} {A : Option Addr} {n c : Nat} {l : List α} {L : Hp} {w : World} (h : OwnR e sz (.slice A n c) n (l.flatMap enc) L) (hL : Holds w L) (hs : ∀ x ∈ l, (enc x).length = sz) (hz : 0 < sz) : RdE enc sz w A n l := by
  have flat : ∀ (l : List α), (∀ x ∈ l, (enc x).length = sz) → (l.flatMap enc).length = l.length * sz ∧ ∀ k x i v, l[k]? = some x → (enc x)[i]? = some v → (l.flatMap enc)[k * sz + i]? = some v := by
    intro l
    induction l with
    | nil => intro _; exact ⟨by simp, by simp⟩
    | cons y r ih =>
      intro hs
      have hy := hs y (by simp)
      obtain ⟨h1, h2⟩ := ih (fun x hx => hs x (by simp [hx]))
      refine ⟨by rw [List.flatMap_cons, List.length_append, h1, hy, List.length_cons, Nat.add_mul]; omega, ?_⟩
      intro k x i v hk hi
      rw [List.flatMap_cons]
      cases k with
      | zero =>
        simp at hk; subst hk
        have hlt := (List.getElem?_eq_some_iff.1 hi).1
        rw [Nat.zero_mul, Nat.zero_add, List.getElem?_append_left hlt]; exact hi
      | succ k =>
        rw [List.getElem?_append_right (by rw [hy, Nat.add_mul]; omega), hy, show (k + 1) * sz + i - sz = k * sz + i by rw [Nat.add_mul]; omega]
        exact h2 k x i v (by simpa using hk) hi
  obtain ⟨h1, h2⟩ := flat l hs
  have hl : l.length = n := by
    have := h.len
    rw [h1] at this
    exact Nat.eq_of_mul_eq_mul_right hz this
  obtain ⟨A', c', he, _, _, hh⟩ := h.slice
  injection he with he _ _
  subst he
  exact ⟨hl, hs, hh, fun k x i v hk hi => h.cell hL _ _ (h2 k x i v hk hi)⟩
theorem flatMap_int (l : List Int) : l.flatMap intE = l.map (.int .i64) := by induction l <;> simp_all
theorem OwnR.rdI {e : TypeId} {A : Option Addr} {n c : Nat} {l : List Int} {L : Hp} {w : World} (h : OwnR e 1 (.slice A n c) n (l.map (.int .i64)) L) (hL : Holds w L) : RdE intE 1 w A n l :=
  OwnR.rd (enc := intE) (by rw [flatMap_int]; exact h) hL (by simp) (by decide)
/-- append: the run -/
theorem OwnR.append {P : Program} {w0 w : World} {S : Nat → Prop} {e t ty : TypeId} {sz bytes : Nat} {z : Value} {v : Value} {n : Nat} {xs : List Value} {L1 L2 : Hp} (h : OwnR e sz v n xs L1) (hM : Mem w0 S w (L1 ++ L2)) (ht : P.underlying t = some (.slice e)) (hi : (P.info? e).map (fun i => (i.zero, i.size, i.bytes)) = some (some z, sz, bytes)) (hz : z.cells.size = sz) (hsz : 0 < sz) (hby : 0 < bytes)
    {A : Option Addr} {m c : Nat} {news : List Value} (hA : 0 < m → A.isSome = true) (hl : news.length = m * sz) (hc : ∀ j u, news[j]? = some u → w.cell? ((adr A).add j) = some u) (h1 : ∀ u ∈ news, u.oneCell' = true) (hb : (n + m) * bytes ≤ 140737488355328) :
    ∃ v' w' L1', (Builtin.append_ #[t, t] ty #[v, .slice A m c]).run P w = .ok v' w' ∧ OwnR e sz v' (n + m) (xs ++ news) L1' ∧ Mem w0 S w' (L1' ++ L2) := by
  obtain ⟨i0, hi0, hzz⟩ := Option.map_eq_some_iff.1 hi
  simp only [Prod.mk.injEq] at hzz
  obtain ⟨hz0, hz1, hz2⟩ := hzz
  have hown := h.owns ⟨hM.left.holds.nodup, hM.left.holds.at_⟩
  rcases A with _ | ad
  · have h0 : m = 0 := by
      rcases Nat.eq_zero_or_pos m with h0 | h0
      · exact h0
      · have := hA h0; cases this
    subst h0
    have hn0 : news = [] := List.eq_nil_of_length_eq_zero (by simpa using hl)
    subst hn0
    refine ⟨v, w, L1, ?_, by simpa using h, hM⟩
    rcases h.2 with ⟨rfl, rfl, rfl⟩ | ⟨b, cap, cur, rfl, h3, h4, h5, h6, rfl⟩
    · simp [Builtin.append_, run_underlying ht, sizeOf, typeInfo, hi0, Builtin.lenOf, Builtin.firstCells]
    · simp [Builtin.append_, run_underlying ht, sizeOf, typeInfo, hi0, Builtin.lenOf, Builtin.firstCells, h3, storeCells]
  · have hlen : n + m ≤ 140737488355328 := Nat.le_trans (Nat.le_mul_of_pos_right _ hby) hb
    obtain ⟨v', w', hr, ho, hg, _, hat⟩ := run_append_own_at (P := P) (w := w) 0 t ty e i0 z sz bytes ht hi0 hz0 hz1 hz2 hz hsz v n xs hown ad m c news hl hc h1 (by simp only [maxLen]; omega) hb (Nat.zero_le _)
    have hkept : Kept w w' (fun k => some k = v.ownBlock) := ⟨hg.os, hg.tape, hg.output, hg.size, fun k hk hne => hg.block k hk hne⟩
    rcases ho.2 with ⟨rfl, hnm⟩ | ⟨g, cap, cur, rfl, _, hh, h3, h4, h5, h6⟩
    · -- nothing at all
      have hn0 : n = 0 := by omega
      have hm0 : m = 0 := by omega
      subst hn0; subst hm0
      have hx0 : xs = [] := List.eq_nil_of_length_eq_zero (by simpa using h.1)
      have hnw : news = [] := List.eq_nil_of_length_eq_zero (by simpa using hl)
      subst hx0; subst hnw
      rcases h.2 with ⟨rfl, _, rfl⟩ | ⟨b, cap, cur, rfl, _, _, _, _, rfl⟩
      · refine ⟨_, w', [], hr, OwnR.nil e sz, ?_⟩
        exact hM.grow (hkept.mono (fun k hk => by simp [Value.ownBlock] at hk))
      · exfalso
        rcases hat with hat | hat <;> simp [Value.ownBlock] at hat
    · refine ⟨_, w', [(g, .cells cur e (0, 0))], hr, ⟨ho.1, .inr ⟨g, cap, cur, rfl, h3, h4, h5, h6, rfl⟩⟩, ?_⟩
      have hcall : Mem w (keys L1) w' [(g, .cells cur e (0, 0))] := by
        refine ⟨hkept.mono (fun k hk => ?_), ⟨by simp, by simpa using hh⟩, fun k hk => ?_⟩
        · rcases h.2 with ⟨rfl, _, rfl⟩ | ⟨b, _, _, rfl, _, _, _, _, rfl⟩
          · simp [Value.ownBlock] at hk
          · simp [Value.ownBlock] at hk; simp [keys, hk]
        · have hkg : k = g := by simpa [keys] using hk
          subst hkg
          rcases hat with hat | hat
          · rcases h.2 with ⟨rfl, _, rfl⟩ | ⟨b, _, _, rfl, _, _, _, _, rfl⟩
            · simp [Value.ownBlock] at hat
            · simp [Value.ownBlock] at hat; left; simp [keys, hat]
          · simp [Value.ownBlock] at hat; right; omega
      exact hM.call hcall
section
variable {P : Program} {n : Nat} {ops : Array Oper} {Q : Exit → Act → World → Prop} {K : St} {w w0 : World} {S : Nat → Prop} {dst : Option Tmp} {type : TypeId} {pos : String} {after : Array Edge} {rest : List Oper}
theorem r_append {e t : TypeId} {sz bytes : Nat} {z : Value} {v : Value} {k : Nat} {xs : List Value} {L1 L2 : Hp} {x y : Operand} (h : OwnR e sz v k xs L1) (hM : Mem w0 S w (L1 ++ L2)) {A : Option Addr} {m c : Nat} {news : List Value} (hA : 0 < m → A.isSome = true) (hl : news.length = m * sz) (hc : ∀ j u, news[j]? = some u → w.cell? ((adr A).add j) = some u) (h1 : ∀ u ∈ news, u.oneCell' = true) (hb : (k + m) * bytes ≤ 140737488355328)
    (ht : P.underlying t = some (.slice e)) (hi : (P.info? e).map (fun i => (i.zero, i.size, i.bytes)) = some (some z, sz, bytes)) (hz : z.cells.size = sz) (hsz : 0 < sz) (hby : 0 < bytes)
    (hok : okOp n K ⟨dst, .call { callee := .builtin .append, args := #[x, y], argTypes := #[t, t] }, type, pos, after, none⟩ = true) (hx : K.ev x = v) (hy : K.ev y = .slice A m c)
    (hnext : ∀ v' L1' w', OwnR e sz v' (k + m) (xs ++ news) L1' → Mem w0 S w' (L1' ++ L2) → wpR P n ops Q rest (K.put dst v') w') : wpR P n ops Q (⟨dst, .call { callee := .builtin .append, args := #[x, y], argTypes := #[t, t] }, type, pos, after, none⟩ :: rest) K w := by
  obtain ⟨v', w', L1', hr, ho, hM'⟩ := h.append (P := P) (ty := type) hM ht hi hz hsz hby (A := A) (m := m) (c := c) hA hl hc h1 hb
  refine r_val (v := v') (w' := w') rfl hok ?_ (hnext v' L1' w' ho hM')
  simp [execOp, resolve, invoke, builtin, hx, hy, hr]
end
end Go.Kn
