/- Two rows of the table made one. -/
import Derived.Test.YtddacakmafdgdaaGt
set_option linter.unusedVariables false
set_option linter.unusedSimpArgs false
namespace Go.Kn
open Go.RowKit Go.Proofs.Ytddacakmafdgdaa
def mgG (x y : Nat) (g : Nat → Nat → Int) : Nat → Nat → Nat → Int
  | 0 => g
  | k + 1 => upd2 (upd2 (mgG x y g k) x k (min (mgG x y g k x k) (mgG x y g k y k))) k x (min (mgG x y g k x k) (mgG x y g k y k))
def mgA (x y : Nat) (a : Nat → Nat → Bool) : Nat → Nat → Nat → Bool
  | 0 => a
  | k + 1 => upd2 (upd2 (mgA x y a k) x k (mgA x y a k x k || mgA x y a k y k)) k x (mgA x y a k x k || mgA x y a k y k)
theorem mgA_true {x y k : Nat} {a : Nat → Nat → Bool} (h : mgA x y a k x k = true) : mgA x y a (k + 1) = upd2 (upd2 (mgA x y a k) x k true) k x true := by
  show upd2 (upd2 (mgA x y a k) x k (mgA x y a k x k || mgA x y a k y k)) k x (mgA x y a k x k || mgA x y a k y k) = _
  rw [h]; rfl
theorem mgA_false {x y k : Nat} {a : Nat → Nat → Bool} (h : mgA x y a k x k = false) : mgA x y a (k + 1) = upd2 (upd2 (mgA x y a k) x k (mgA x y a k y k)) k x (mgA x y a k y k) := by
  show upd2 (upd2 (mgA x y a k) x k (mgA x y a k x k || mgA x y a k y k)) k x (mgA x y a k x k || mgA x y a k y k) = _
  rw [h]; rfl
/-- off x's row and column nothing turns -/
theorem mgG_off {x y : Nat} {g : Nat → Nat → Int} {p q : Nat} (hp : p ≠ x) (hq : q ≠ x) : ∀ k, mgG x y g k p q = g p q
  | 0 => rfl
  | k + 1 => by
    show upd2 (upd2 (mgG x y g k) x k _) k x _ p q = _
    unfold upd2
    rw [if_neg (by omega), if_neg (by omega)]
    exact mgG_off hp hq k
theorem mgA_off {x y : Nat} {a : Nat → Nat → Bool} {p q : Nat} (hp : p ≠ x) (hq : q ≠ x) : ∀ k, mgA x y a k p q = a p q
  | 0 => rfl
  | k + 1 => by
    show upd2 (upd2 (mgA x y a k) x k _) k x _ p q = _
    unfold upd2
    rw [if_neg (by omega), if_neg (by omega)]
    exact mgA_off hp hq k
theorem upd2_eq {α : Type} {g : Nat → Nat → α} {i j : Nat} {v : α} : upd2 g i j v i j = v := by simp [upd2]
theorem upd2_ne {α : Type} {g : Nat → Nat → α} {i j p q : Nat} {v : α} (h : ¬ (p = i ∧ q = j)) : upd2 g i j v p q = g p q := by unfold upd2; rw [if_neg h]
theorem mgG_row {x y : Nat} {g : Nat → Nat → Int} (hxy : x ≠ y) {q : Nat} (hq : q ≠ x) : ∀ k, mgG x y g k x q = (if q < k then min (g x q) (g y q) else g x q) ∧ (mgG x y g k q x = if q < k then min (g x q) (g y q) else g q x)
  | 0 => ⟨by rw [if_neg (by omega)]; rfl, by rw [if_neg (by omega)]; rfl⟩
  | k + 1 => by
    obtain ⟨h1, h2⟩ := mgG_row (g := g) hxy hq k
    have h3 : mgG x y g k y q = g y q := mgG_off (fun e => hxy e.symm) hq k
    by_cases hk : q = k
    · subst hk
      have e1 : mgG x y g (q + 1) x q = min (mgG x y g q x q) (mgG x y g q y q) := by
        show upd2 (upd2 _ _ _ _) _ _ _ x q = _
        rw [upd2_ne (by omega), upd2_eq]
      have e2 : mgG x y g (q + 1) q x = min (mgG x y g q x q) (mgG x y g q y q) := by
        show upd2 (upd2 _ _ _ _) _ _ _ q x = _
        rw [upd2_eq]
      rw [if_neg (Nat.lt_irrefl q)] at h1
      have hlt : q < q + 1 := Nat.lt_succ_self q
      rw [e1, e2, h1, h3, if_pos hlt, if_pos hlt]
      exact ⟨rfl, rfl⟩
    · have e1 : mgG x y g (k + 1) x q = mgG x y g k x q := by
        show upd2 (upd2 _ _ _ _) _ _ _ x q = _
        rw [upd2_ne (by omega), upd2_ne (by omega)]
      have e2 : mgG x y g (k + 1) q x = mgG x y g k q x := by
        show upd2 (upd2 _ _ _ _) _ _ _ q x = _
        rw [upd2_ne (by omega), upd2_ne (by omega)]
      have hiff : (q < k + 1) = (q < k) := by apply propext; omega
      rw [e1, e2, h1, h2]
      simp only [hiff, and_self]
theorem mgA_row {x y : Nat} {a : Nat → Nat → Bool} (hxy : x ≠ y) {q : Nat} (hq : q ≠ x) : ∀ k, mgA x y a k x q = (if q < k then (a x q || a y q) else a x q) ∧ (mgA x y a k q x = if q < k then (a x q || a y q) else a q x)
  | 0 => ⟨by rw [if_neg (by omega)]; rfl, by rw [if_neg (by omega)]; rfl⟩
  | k + 1 => by
    obtain ⟨h1, h2⟩ := mgA_row (a := a) hxy hq k
    have h3 : mgA x y a k y q = a y q := mgA_off (fun e => hxy e.symm) hq k
    by_cases hk : q = k
    · subst hk
      have e1 : mgA x y a (q + 1) x q = (mgA x y a q x q || mgA x y a q y q) := by
        show upd2 (upd2 _ _ _ _) _ _ _ x q = _
        rw [upd2_ne (by omega), upd2_eq]
      have e2 : mgA x y a (q + 1) q x = (mgA x y a q x q || mgA x y a q y q) := by
        show upd2 (upd2 _ _ _ _) _ _ _ q x = _
        rw [upd2_eq]
      rw [if_neg (Nat.lt_irrefl q)] at h1
      have hlt : q < q + 1 := Nat.lt_succ_self q
      rw [e1, e2, h1, h3, if_pos hlt, if_pos hlt]
      exact ⟨rfl, rfl⟩
    · have e1 : mgA x y a (k + 1) x q = mgA x y a k x q := by
        show upd2 (upd2 _ _ _ _) _ _ _ x q = _
        rw [upd2_ne (by omega), upd2_ne (by omega)]
      have e2 : mgA x y a (k + 1) q x = mgA x y a k q x := by
        show upd2 (upd2 _ _ _ _) _ _ _ q x = _
        rw [upd2_ne (by omega), upd2_ne (by omega)]
      have hiff : (q < k + 1) = (q < k) := by apply propext; omega
      rw [e1, e2, h1, h2]
      simp only [hiff, and_self]
def isKey (n : Nat) (f : Nat → Nat) (x : Nat) : Prop := x < n ∧ f x = x
/-- the table at the keys of f -/
structure TabK (l : List (List Int)) (n : Nat) (f : Nat → Nat) (ns : List (Nat × Nat)) (g : Nat → Nat → Int) (a : Nat → Nat → Bool) : Prop where
  gap : ∀ x y, isKey n f x → isKey n f y → x ≠ y → ∀ v, v ≤ g x y ↔ v ≤ 774193 ∧ ∀ p q, p < n → q < n → f p = x → f q = y → v ≤ farAt l p q
  apart : ∀ x y, isKey n f x → isKey n f y → x ≠ y → (a x y = true ↔ ∃ m ∈ ns, (f m.1 = x ∧ f m.2 = y) ∨ (f m.2 = x ∧ f m.1 = y))
theorem tabK_of {l : List (List Int)} {n : Nat} {f : Nat → Nat} {ns : List (Nat × Nat)} {g : Nat → Nat → Int} {a : Nat → Nat → Bool} (hg : GapIs l f (inN n) g) (ha : ApartIs f ns a) : TabK l n f ns g a :=
  ⟨fun x y _ _ _ v => by
    rw [hg x y v]
    exact ⟨fun h => ⟨h.1, fun p q hp hq => h.2 p q ⟨hp, hq⟩⟩, fun h => ⟨h.1, fun p q hd => h.2 p q hd.1 hd.2⟩⟩, fun x y _ _ _ => ha x y⟩
theorem farTo_symm (a b : List Int) : ∀ k, farTo a b k = farTo b a k
  | 0 => rfl
  | k + 1 => by
    unfold farTo
    rw [farTo_symm a b k]
    congr 1
    rw [show a.getD k 0 - b.getD k 0 = -(b.getD k 0 - a.getD k 0) by omega, Int.neg_mul_neg]
theorem farAt_symm (l : List (List Int)) (p q : Nat) : farAt l p q = farAt l q p := farTo_symm _ _ 12
section
variable {l : List (List Int)} {n : Nat} {f : Nat → Nat} {ns : List (Nat × Nat)} {g : Nat → Nat → Int} {a : Nat → Nat → Bool} {x y : Nat}
theorem joinF_eq (hxy : x < y) (p : Nat) : joinF x y f p = if f p = y then x else f p := by
  unfold joinF
  rw [Nat.max_eq_right (by omega), Nat.min_eq_left (by omega)]
theorem key_join (hxy : x < y) (hx : isKey n f x) (hy : isKey n f y) {p : Nat} (h : isKey n (joinF x y f) p) : isKey n f p ∧ p ≠ y := by
  obtain ⟨h1, h2⟩ := h
  rw [joinF_eq hxy] at h2
  split at h2
  · rename_i h3
    subst h2
    rw [hx.2] at h3
    omega
  · rename_i h3
    exact ⟨⟨h1, h2⟩, fun e => h3 (by rw [e]; exact hy.2)⟩
theorem first_x (hxy : x < y) (p : Nat) : joinF x y f p = x ↔ f p = x ∨ f p = y := by
  rw [joinF_eq hxy]
  split
  · rename_i h; simp [h]
  · rename_i h; constructor
    · exact .inl
    · rintro (h1 | h1)
      · exact h1
      · exact absurd h1 h
theorem first_other (hxy : x < y) {q : Nat} (hqx : q ≠ x) (hqy : q ≠ y) (p : Nat) : joinF x y f p = q ↔ f p = q := by
  rw [joinF_eq hxy]
  split
  · rename_i h
    rw [h]
    exact ⟨fun e => absurd e.symm hqx, fun e => absurd e.symm hqy⟩
  · exact Iff.rfl
theorem tabK_merge (h : TabK l n f ns g a) (hxy : x < y) (hx : isKey n f x) (hy : isKey n f y) : TabK l n (joinF x y f) ns (mgG x y g n) (mgA x y a n) := by
  have hne : x ≠ y := by omega
  refine ⟨fun p q hp hq hpq v => ?_, fun p q hp hq hpq => ?_⟩
  · obtain ⟨hp1, hpy⟩ := key_join hxy hx hy hp
    obtain ⟨hq1, hqy⟩ := key_join hxy hx hy hq
    by_cases e1 : p = x
    · subst e1
      have hr := (mgG_row (g := g) hne (fun e => hpq e.symm : q ≠ p) n).1
      rw [if_pos hq1.1] at hr
      rw [hr, Int.le_min, h.gap p q hp1 hq1 hpq v, h.gap y q hy hq1 (fun e => hqy e.symm) v]
      constructor
      · rintro ⟨⟨h1, h2⟩, _, h4⟩
        refine ⟨h1, fun i k hi hk hfi hfk => ?_⟩
        rw [first_other hxy (fun e => hpq e.symm) hqy] at hfk
        rcases (first_x hxy i).1 hfi with h5 | h5
        · exact h2 i k hi hk h5 hfk
        · exact h4 i k hi hk h5 hfk
      · rintro ⟨h1, h2⟩
        exact ⟨⟨h1, fun i k hi hk hfi hfk => h2 i k hi hk ((first_x hxy i).2 (.inl hfi)) ((first_other hxy (fun e => hpq e.symm) hqy k).2 hfk)⟩, h1,
          fun i k hi hk hfi hfk => h2 i k hi hk ((first_x hxy i).2 (.inr hfi)) ((first_other hxy (fun e => hpq e.symm) hqy k).2 hfk)⟩
    · by_cases e2 : q = x
      · subst e2
        have hr := (mgG_row (g := g) hne hpq n).2
        rw [if_pos hp1.1] at hr
        rw [hr, Int.le_min, h.gap q p hq1 hp1 (fun e => hpq e.symm) v, h.gap y p hy hp1 (fun e => hpy e.symm) v]
        constructor
        · rintro ⟨⟨h1, h2⟩, _, h4⟩
          refine ⟨h1, fun i k hi hk hfi hfk => ?_⟩
          rw [first_other hxy hpq hpy] at hfi
          rw [farAt_symm]
          rcases (first_x hxy k).1 hfk with h5 | h5
          · exact h2 k i hk hi h5 hfi
          · exact h4 k i hk hi h5 hfi
        · rintro ⟨h1, h2⟩
          exact ⟨⟨h1, fun i k hi hk hfi hfk => by rw [farAt_symm]; exact h2 k i hk hi ((first_other hxy hpq hpy k).2 hfk) ((first_x hxy i).2 (.inl hfi))⟩, h1,
            fun i k hi hk hfi hfk => by rw [farAt_symm]; exact h2 k i hk hi ((first_other hxy hpq hpy k).2 hfk) ((first_x hxy i).2 (.inr hfi))⟩
      · rw [mgG_off e1 e2, h.gap p q hp1 hq1 hpq v]
        simp only [first_other hxy e1 hpy, first_other hxy e2 hqy]
  · obtain ⟨hp1, hpy⟩ := key_join hxy hx hy hp
    obtain ⟨hq1, hqy⟩ := key_join hxy hx hy hq
    by_cases e1 : p = x
    · subst e1
      have hr := (mgA_row (a := a) hne (fun e => hpq e.symm : q ≠ p) n).1
      rw [if_pos hq1.1] at hr
      rw [hr, Bool.or_eq_true, h.apart p q hp1 hq1 hpq, h.apart y q hy hq1 (fun e => hqy e.symm)]
      simp only [first_x hxy, first_other hxy (fun e => hpq e.symm : q ≠ p) hqy]
      constructor
      · rintro (⟨m, hm, h1⟩ | ⟨m, hm, h1⟩)
        · exact ⟨m, hm, by rcases h1 with h1 | h1 <;> simp [h1]⟩
        · exact ⟨m, hm, by rcases h1 with h1 | h1 <;> simp [h1]⟩
      · rintro ⟨m, hm, ⟨h1 | h1, h2⟩ | ⟨h1 | h1, h2⟩⟩
        · exact .inl ⟨m, hm, .inl ⟨h1, h2⟩⟩
        · exact .inr ⟨m, hm, .inl ⟨h1, h2⟩⟩
        · exact .inl ⟨m, hm, .inr ⟨h1, h2⟩⟩
        · exact .inr ⟨m, hm, .inr ⟨h1, h2⟩⟩
    · by_cases e2 : q = x
      · subst e2
        have hr := (mgA_row (a := a) hne hpq n).2
        rw [if_pos hp1.1] at hr
        rw [hr, Bool.or_eq_true, h.apart q p hq1 hp1 (fun e => hpq e.symm), h.apart y p hy hp1 (fun e => hpy e.symm)]
        simp only [first_x hxy, first_other hxy hpq hpy]
        constructor
        · rintro (⟨m, hm, h1⟩ | ⟨m, hm, h1⟩)
          · exact ⟨m, hm, by rcases h1 with h1 | h1 <;> simp [h1]⟩
          · exact ⟨m, hm, by rcases h1 with h1 | h1 <;> simp [h1]⟩
        · rintro ⟨m, hm, ⟨h2, h1 | h1⟩ | ⟨h2, h1 | h1⟩⟩
          · exact .inl ⟨m, hm, .inr ⟨h1, h2⟩⟩
          · exact .inr ⟨m, hm, .inr ⟨h1, h2⟩⟩
          · exact .inl ⟨m, hm, .inl ⟨h1, h2⟩⟩
          · exact .inr ⟨m, hm, .inl ⟨h1, h2⟩⟩
      · rw [mgA_off e1 e2, h.apart p q hp1 hq1 hpq]
        simp only [first_other hxy e1 hpy, first_other hxy e2 hqy]
end
abbrev TabH (n tg ta : Nat) (rg ra : Nat → Nat) (g : Nat → Nat → Int) (a : Nat → Nat → Bool) : Hp :=
  (tg, .cells (topC n n rg) tInts (0, 0)) :: (ta, .cells (topC n n ra) tBools (0, 0)) :: (tabL tInt (.int .i64) n n rg g ++ tabL tBool .bool n n ra a)
end Go.Kn
