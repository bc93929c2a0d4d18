/- The law on clusters: what a clustering keeps. -/
import Derived.Test.YtddacakmafdgdaaLw
import Derived.Test.YtddacakmafdgdaaCe
set_option linter.unusedVariables false
set_option linter.unusedSimpArgs false
namespace Go.Kn
open Go.RowKit Go.Proofs.Ytddacakmafdgdaa
theorem joinF_same {a b p q : Nat} {f : Nat → Nat} (h : f p = f q) : joinF a b f p = joinF a b f q := by unfold joinF; rw [h]
theorem joinAll_must : ∀ {ms : List (Nat × Nat)} {m : Nat × Nat}, m ∈ ms → joinAll ms m.1 = joinAll ms m.2 := by
  have gen : ∀ (ms : List (Nat × Nat)) (f : Nat → Nat) (p q : Nat), (f p = f q ∨ (p, q) ∈ ms) → (ms.foldl (fun f m => joinF (f m.1) (f m.2) f) f) p = (ms.foldl (fun f m => joinF (f m.1) (f m.2) f) f) q := by
    intro ms
    induction ms with
    | nil => intro f p q h; rcases h with h | h
             · exact h
             · cases h
    | cons a r ih =>
      intro f p q h
      rw [List.foldl_cons]
      refine ih _ p q ?_
      rcases h with h | h
      · exact .inl (joinF_same h)
      · rcases List.mem_cons.1 h with h | h
        · left
          subst h
          show (if f p = max (f p) (f q) then min (f p) (f q) else f p) = if f q = max (f p) (f q) then min (f p) (f q) else f q
          by_cases h1 : f p = f q
          · rw [h1]
          · rcases Nat.lt_or_ge (f p) (f q) with h2 | h2
            · rw [Nat.max_eq_right (by omega), Nat.min_eq_left (by omega), if_neg (by omega), if_pos rfl]
            · rw [Nat.max_eq_left h2, Nat.min_eq_right h2, if_pos rfl, if_neg (by omega)]
        · exact .inr h
  intro ms m hm
  exact gen ms id m.1 m.2 (.inr hm)
section
variable {l : List (List Int)} {n : Nat} {ns : List (Nat × Nat)} {limit : Int} {f f' : Nat → Nat}
theorem runs_same (h : Runs l n ns limit f f') {p q : Nat} (he : f p = f q) : f' p = f' q := by
  induction h with
  | refl => exact he
  | snoc _ hs ih =>
    obtain ⟨g, a, x, y, least, _, _, _, rfl⟩ := hs
    exact joinF_same ih
theorem runs_apart (h : Runs l n ns limit f f') {m : Nat × Nat} (hm : m ∈ ns) (he : f m.1 ≠ f m.2) : f' m.1 ≠ f' m.2 := by
  induction h with
  | refl => exact he
  | @snoc f1 f2 _ hs ih =>
    obtain ⟨g, a, x, y, least, hT, hB, hl, rfl⟩ := hs
    obtain ⟨hxy, hx, hy⟩ := best_keys hB hl
    have ha : a x y = false := by
      rcases hB with ⟨h1, _⟩ | ⟨_, _, _, ⟨_, _, h3, _⟩, _⟩
      · omega
      · exact h3
    intro e
    rw [joinF_eq hxy, joinF_eq hxy] at e
    have hap := (hT.apart x y hx hy (by omega)).2
    have : a x y = true := by
      apply hap
      refine ⟨m, hm, ?_⟩
      by_cases h1 : f1 m.1 = y <;> by_cases h2 : f1 m.2 = y
      · exact absurd (h1.trans h2.symm) ih
      · rw [if_pos h1, if_neg h2] at e; exact .inr ⟨e.symm, h1⟩
      · rw [if_neg h1, if_pos h2] at e; exact .inl ⟨e, h2⟩
      · rw [if_neg h1, if_neg h2] at e; exact absurd e ih
    rw [ha] at this; cases this
theorem farAt_le (hg : Good l) {p q : Nat} (hp : p < l.length) (hq : q < l.length) : farAt l p q ≤ 774192 := by
  have h1 := hg.vec l[p] (List.getElem_mem hp)
  have h2 := hg.vec l[q] (List.getElem_mem hq)
  have := (farOf_bd h1 h2).2
  simpa [farAt, hp, hq] using this
/-- two groups are far apart, or have a Not between them -/
theorem law_gap (hg : Good l) (hn : l.length = n) (hS : Stop l n ns limit f) (hf : FOk n f) (hl0 : 0 ≤ limit) {k i x y : Nat} (hk : (keysOf n f)[k]? = some x) (hi : (keysOf n f)[i]? = some y) (hki : k < i) {gap : Int} (hgap : GapAll l (idsAt l n f x) (idsAt l n f y) gap) (hle : gap ≤ limit) :
    ∃ m ∈ ns, (f m.1 = x ∧ f m.2 = y) ∨ (f m.2 = x ∧ f m.1 = y) := by
  obtain ⟨g, a, u, v, least, hT, hB, hno⟩ := hS
  have hxk := mem_keysOf.1 (List.mem_of_getElem? hk)
  have hyk := mem_keysOf.1 (List.mem_of_getElem? hi)
  have hil := (List.getElem?_eq_some_iff.1 hi).1
  have hxy : x ≠ y := by
    intro e; subst e
    have := keys_idx_inj hk hi; omega
  have hnc : ∀ i j u v, upP (keysOf n f).length (keysOf n f).length 0 i j → ¬ Cand g a limit (keysOf n f) i j u v := by
    rcases hB with ⟨_, h2⟩ | ⟨_, _, _, ⟨_, _, _, h4⟩, h5, _⟩
    · exact h2
    · omega
  have hc := hnc k i x y (by unfold upP; omega)
  rw [← hT.apart x y hxk hyk hxy]
  cases ha : a x y with
  | true => rfl
  | false =>
    exfalso
    have hgl : limit + 1 ≤ g x y := by
      by_cases h : g x y ≤ limit
      · exact absurd ⟨hk, hi, ha, h⟩ hc
      · omega
    obtain ⟨h1, h2⟩ := (hT.gap x y hxk hyk hxy (limit + 1)).1 hgl
    have hpair := h2 x y hxk.1 hyk.1 hxk.2 hyk.2
    have hb := farAt_le hg (p := x) (q := y) (by rw [hn]; exact hxk.1) (by rw [hn]; exact hyk.1)
    have h3 : limit + 1 ≤ gap := by
      refine (hgap (limit + 1)).2 ⟨by omega, fun s hs t ht => ?_⟩
      obtain ⟨p, hp, hfp, rfl⟩ := mem_idsAt.1 hs
      obtain ⟨q, hq, hfq, rfl⟩ := mem_idsAt.1 ht
      rw [(atPos_id hg.sorted (by rw [hn]; exact hp)).1, (atPos_id hg.sorted (by rw [hn]; exact hq)).1]
      exact h2 p q hp hq hfp hfq
    omega
end
end Go.Kn
