/- A region that draws its order and whose last operation waits for all others. -/
import Derived.Test.YtddacakmafdgdaaKnD
set_option linter.unusedVariables false
namespace Go.Kn
open Go.RowKit
theorem Each.imp {F G : Nat → Oper → Prop} : ∀ {l : List Oper} {k : Nat}, (∀ i o, i < k + l.length → F i o → G i o) → Each F k l → Each G k l
  | [], _, _, _ => trivial
  | o :: r, k, h, ⟨h1, h2⟩ => ⟨h k o (by simp) h1, Each.imp (fun i o' hi hf => h i o' (by simp only [List.length_cons]; omega) hf) h2⟩
def atLast (i z : Nat) (A B : Prop) : Prop := match Nat.beq i z with | true => A | false => B
theorem k_drawL {P : Program} {n : Nat} {Q : Exit → Act → World → Prop} {K : St} {w : World} {id : Nat} {l : List Oper} (hm : P.follows .mixedOrders = true) (M : List Nat) (C : List (Option Value)) (hck : drawOk n K l M = true) (z : Nat) (hzl : l.length = z + 1) (hz : (List.range z).all (fun j => (M.getD z 0).testBit j) = true)
    (W : (Nat → Bool) → (Nat → Value) → World → Prop) (W2 : (Nat → Value) → World → Prop) (h0 : ∀ V, W (fun _ => false) V w.drew)
    (hops : Each (fun i o => ∀ D V w, (∀ j, (M.getD i 0).testBit j = true → D j = true) → D i = false → W D V w → OpGoal P l (endK C V (l.take i) 0 K) o w (fun v w' => (∀ c, C[i]? = some (some c) → v = c) ∧ atLast i z (W2 (upd V i v) w') (W (upd D i true) (upd V i v) w'))) 0 l)
    (hend : ∀ V w, W2 V w → Ends n Q .normal (endK C V l 0 K) w) : wpK P n (.region id l.toArray true) Q K w := by
  have hz' : ∀ j, j < z → (M.getD z 0).testBit j = true := fun j hj => List.all_eq_true.1 hz j (List.mem_range.2 hj)
  refine k_draw hm M C hck (fun D V w => (D z = true → (∀ j, j < z → D j = true) ∧ W2 V w) ∧ (D z = false → W D V w)) (fun V => And.intro (fun h => Bool.noConfusion h) (fun _ => h0 V)) (Each.imp ?_ hops) ?_
  · intro i o hi h D V w hd hDi hW
    simp only [Nat.zero_add] at hi
    have hDz : D z = false := by
      cases hDz : D z with
      | false => rfl
      | true =>
        by_cases e : i = z
        · subst e; rw [hDi] at hDz; cases hDz
        · have := (hW.1 hDz).1 i (by omega)
          rw [hDi] at this; cases this
    have hg := h D V w hd hDi (hW.2 hDz)
    have key : ∀ v w', ((∀ c, C[i]? = some (some c) → v = c) ∧ atLast i z (W2 (upd V i v) w') (W (upd D i true) (upd V i v) w')) → ((∀ c, C[i]? = some (some c) → v = c) ∧ ((upd D i true z = true → (∀ j, j < z → upd D i true j = true) ∧ W2 (upd V i v) w') ∧ (upd D i true z = false → W (upd D i true) (upd V i v) w'))) := by
      rintro v w' ⟨h1, h2⟩
      refine ⟨h1, ?_⟩
      by_cases e : i = z
      · subst e
        have hb : Nat.beq i i = true := Nat.beq_refl i
        rw [atLast, hb] at h2
        refine ⟨fun _ => ⟨fun j hj => by rw [upd_ne _ _ (by omega)]; exact hd j (hz' j hj), h2⟩, fun hf => by rw [upd_same] at hf; cases hf⟩
      · have hb : Nat.beq i z = false := by
          cases hb : Nat.beq i z with
          | false => rfl
          | true => exact absurd (Nat.eq_of_beq_eq_true hb) e
        rw [atLast, hb] at h2
        refine ⟨fun hf => ?_, fun _ => h2⟩
        rw [upd_ne _ _ (fun h => e h.symm), hDz] at hf; cases hf
    unfold OpGoal at hg ⊢
    split
    · rename_i hgd
      rw [hgd] at hg
      exact OpRun.mono hg (fun v w h => key v w h)
    · rename_i g b hgd
      rw [hgd] at hg
      obtain ⟨c, hc1, hc2, hc3⟩ := hg
      exact ⟨c, hc1, fun e => OpRun.mono (hc2 e) (fun v w h => key v w h), fun e => key _ _ (hc3 e)⟩
  · intro D V w hall hW
    exact hend V w (hW.1 (hall z (by omega))).2
end Go.Kn
