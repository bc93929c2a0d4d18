import Derived.Test.YtddacakmafdgdaaKnM
namespace Go.Kn
def inVec (n : Int) : Bool := decide (-127 ≤ n) && decide (n ≤ 127)
def vecOk (v : List Int) : Bool := v.all inVec
theorem vecOk_no {v : List Int} {k : Nat} (hv : v.length = 12) (hk : k < 12) (h : v.getD k 0 < -127 ∨ 127 < v.getD k 0) : ¬ vecOk v = true := by
  intro h2
  unfold vecOk at h2
  have hlt : k < v.length := by omega
  have := List.all_eq_true.1 h2 v[k] (List.getElem_mem hlt)
  simp only [inVec, Bool.and_eq_true, decide_eq_true_eq] at this
  simp only [List.getD_eq_getElem?_getD, List.getElem?_eq_getElem hlt, Option.getD_some] at h
  omega
theorem vecOk_snoc {v : List Int} {k : Nat} (hv : v.length = 12) (hk : k < 12) (h : vecOk (v.take k) = true) (h2 : -127 ≤ v.getD k 0 ∧ v.getD k 0 ≤ 127) : vecOk (v.take (k + 1)) = true := by
  have hlt : k < v.length := by omega
  simp only [List.getD_eq_getElem?_getD, List.getElem?_eq_getElem hlt, Option.getD_some] at h2
  unfold vecOk at *
  rw [List.take_succ_eq_append_getElem hlt, List.all_append, h]
  simp [inVec, h2.1, h2.2]
theorem vecOk_all {v : List Int} {k : Nat} (hv : v.length = 12) (hk : 12 ≤ k) (h : vecOk (v.take k) = true) : vecOk v = true := by
  rwa [List.take_of_length_le (by omega)] at h
theorem inVec_of {v : List Int} (h : vecOk v = true) (k : Nat) : -127 ≤ v.getD k 0 ∧ v.getD k 0 ≤ 127 := by
  rcases Nat.lt_or_ge k v.length with hlt | hge
  · have := List.all_eq_true.1 h v[k] (List.getElem_mem hlt)
    simp only [inVec, Bool.and_eq_true, decide_eq_true_eq] at this
    simp only [List.getD_eq_getElem?_getD, List.getElem?_eq_getElem hlt, Option.getD_some]
    exact this
  · simp [List.getD_eq_getElem?_getD, List.getElem?_eq_none hge]
def farTo (a b : List Int) : Nat → Int
  | 0 => 0
  | k + 1 => farTo a b k + (a.getD k 0 - b.getD k 0) * (a.getD k 0 - b.getD k 0)
def farOf (a b : List Int) : Int := farTo a b 12
theorem sq_bd {d : Int} (h1 : -254 ≤ d) (h2 : d ≤ 254) : 0 ≤ d * d ∧ d * d ≤ 64516 := by
  rw [← Int.natAbs_mul_self]
  have h : d.natAbs ≤ 254 := by omega
  have h3 : d.natAbs * d.natAbs ≤ 254 * 254 := Nat.mul_le_mul h h
  omega
theorem farTo_bd {a b : List Int} (ha : vecOk a = true) (hb : vecOk b = true) (k : Nat) : 0 ≤ farTo a b k ∧ farTo a b k ≤ 64516 * k := by
  induction k with
  | zero => simp [farTo]
  | succ k ih =>
    have h1 := inVec_of ha k
    have h2 := inVec_of hb k
    have h3 := sq_bd (d := a.getD k 0 - b.getD k 0) (by omega) (by omega)
    unfold farTo
    omega
theorem farOf_bd {a b : List Int} (ha : vecOk a = true) (hb : vecOk b = true) : 0 ≤ farOf a b ∧ farOf a b ≤ 774192 := farTo_bd ha hb 12
/-! ### likenesses: 14 numbers: Id, photo, twelve of the face -/
def outN (n lo hi : Int) : Bool := decide (n < lo) || decide (hi < n)
def vecErr (v : List Int) : Int := if vecOk v then 0 else 2
def idOf (x : List Int) : Int := x.getD 0 0
def photoOf (x : List Int) : Int := x.getD 1 0
def vecOf (x : List Int) : List Int := x.drop 2
def badId (x : List Int) : Bool := outN (idOf x) 1 1000000 || outN (photoOf x) 1 1000000
def notAfter (p : Option Int) (x : List Int) : Bool := match p with | some q => decide (idOf x ≤ q) | none => false
def checkOne (p : Option Int) (x : List Int) : Int := if badId x then 2 else if notAfter p x then 5 else vecErr (vecOf x)
def checkFrom (p : Option Int) : List (List Int) → Int
  | [] => 0
  | x :: r => if checkOne p x ≠ 0 then checkOne p x else checkFrom (some (idOf x)) r
def checkL (l : List (List Int)) : Int := if l.length > 300 then 4 else checkFrom none l
def lprev (l : List (List Int)) : Nat → Option Int
  | 0 => none
  | k + 1 => (l[k]?).map idOf
theorem checkFrom_at {l : List (List Int)} {k : Nat} {x : List Int} (hx : l[k]? = some x) (p : Option Int) : checkFrom p (l.drop k) = if checkOne p x ≠ 0 then checkOne p x else checkFrom (lprev l (k + 1)) (l.drop (k + 1)) := by
  obtain ⟨hlt, he⟩ := List.getElem?_eq_some_iff.1 hx
  rw [List.drop_eq_getElem_cons hlt, he]
  simp [checkFrom, lprev, hx]
theorem one_bad {p : Option Int} {x : List Int} (h : badId x = true) : checkOne p x = 2 := by simp [checkOne, h]
theorem one_order {p : Option Int} {x : List Int} (h : badId x = false) (h2 : notAfter p x = true) : checkOne p x = 5 := by simp [checkOne, h, h2]
theorem one_vec {p : Option Int} {x : List Int} (h : badId x = false) (h2 : notAfter p x = false) : checkOne p x = vecErr (vecOf x) := by simp [checkOne, h, h2]
theorem bad_1 {x : List Int} (h : outN (idOf x) 1 1000000 = true) : badId x = true := by simp [badId, h]
theorem bad_2 {x : List Int} (h : outN (photoOf x) 1 1000000 = true) : badId x = true := by simp [badId, h]
theorem bad_0 {x : List Int} (h : outN (idOf x) 1 1000000 = false) (h2 : outN (photoOf x) 1 1000000 = false) : badId x = false := by simp [badId, h, h2]
theorem lprev_at {l : List (List Int)} {k : Nat} {y : List Int} (hy : l[k - 1]? = some y) (hk : 0 < k) : lprev l k = some (idOf y) := by
  obtain ⟨j, rfl⟩ : ∃ j, k = j + 1 := ⟨k - 1, by omega⟩
  simp only [Nat.add_sub_cancel] at hy
  simp [lprev, hy]
theorem after_yes {p : Option Int} {x y : List Int} (hp : p = some (idOf y)) (h : idOf x ≤ idOf y) : notAfter p x = true := by simp [notAfter, hp, h]
theorem after_no {p : Option Int} {x y : List Int} (hp : p = some (idOf y)) (h : idOf y < idOf x) : notAfter p x = false := by simp [notAfter, hp]; omega
theorem ne_if {a b : Int} (h : a ≠ 0) : (if a ≠ 0 then a else b) = a := if_pos h
theorem eq_if {a b : Int} (h : a = 0) : (if a ≠ 0 then a else b) = b := if_neg (by simp [h])
theorem vecErr_ok {v : List Int} : vecErr v = 0 ↔ vecOk v = true := by unfold vecErr; split <;> simp_all
/-! ### where a likeness is -/
def cmp3 (a b : Int) : Int := if a < b then -1 else if b < a then 1 else 0
theorem cmp3_lt {a b : Int} : cmp3 a b < 0 ↔ a < b := by unfold cmp3; split <;> (try split) <;> omega
theorem cmp3_eq {a b : Int} : cmp3 a b = 0 ↔ a = b := by unfold cmp3; split <;> (try split) <;> omega
def sortedIds (l : List (List Int)) : Prop := l.Pairwise (fun x y => idOf x < idOf y)
def atPos (l : List (List Int)) (t : Int) : Nat := l.countP (fun x => decide (idOf x < t))
def atOk (l : List (List Int)) (t : Int) : Bool := l.any (fun x => idOf x == t)
theorem atPos_le (l : List (List Int)) (t : Int) : atPos l t ≤ l.length := List.countP_le_length
theorem sorted_lt {l : List (List Int)} (h : sortedIds l) {i j : Nat} {x y : List Int} (hi : l[i]? = some x) (hj : l[j]? = some y) (hij : i < j) : idOf x < idOf y := by
  obtain ⟨h1, rfl⟩ := List.getElem?_eq_some_iff.1 hi
  obtain ⟨h2, rfl⟩ := List.getElem?_eq_some_iff.1 hj
  exact List.pairwise_iff_getElem.1 h i j h1 h2 hij
theorem atPos_of {l : List (List Int)} {t : Int} {i : Nat} (hi : i ≤ l.length) (h1 : ∀ m x, l[m]? = some x → m < i → idOf x < t) (h2 : ∀ m x, l[m]? = some x → i ≤ m → t ≤ idOf x) : atPos l t = i := by
  unfold atPos
  rw [← List.take_append_drop i l, List.countP_append]
  have e1 : (l.take i).countP (fun x => decide (idOf x < t)) = i := by
    rw [List.countP_eq_length.2]
    · rw [List.length_take]; omega
    · intro x hx
      obtain ⟨m, hm⟩ := List.mem_iff_getElem?.1 hx
      rw [List.getElem?_take] at hm
      split at hm
      · simpa using h1 m x hm ‹_›
      · cases hm
  have e2 : (l.drop i).countP (fun x => decide (idOf x < t)) = 0 := by
    rw [List.countP_eq_zero]
    intro x hx
    obtain ⟨m, hm⟩ := List.mem_iff_getElem?.1 hx
    rw [List.getElem?_drop] at hm
    have := h2 (i + m) x hm (by omega)
    simp; omega
  omega
theorem atOk_of {l : List (List Int)} {t : Int} {i : Nat} (hs : sortedIds l) (h1 : ∀ m x, l[m]? = some x → m < i → idOf x < t) (h2 : ∀ m x, l[m]? = some x → i ≤ m → t ≤ idOf x) : atOk l t = true ↔ ∃ x, l[i]? = some x ∧ idOf x = t := by
  unfold atOk
  rw [List.any_eq_true]
  constructor
  · rintro ⟨x, hx, he⟩
    have he : idOf x = t := by simpa using he
    obtain ⟨m, hm⟩ := List.mem_iff_getElem?.1 hx
    rcases Nat.lt_trichotomy m i with h | h | h
    · have := h1 m x hm h; omega
    · subst h; exact ⟨x, hm, he⟩
    · obtain ⟨y, hy⟩ : ∃ y, l[i]? = some y := by
        have := (List.getElem?_eq_some_iff.1 hm).1
        exact ⟨l[i]'(by omega), by simp⟩
      have h3 := h2 i y hy (Nat.le_refl _)
      have h4 := sorted_lt hs hy hm h
      omega
  · rintro ⟨x, hx, he⟩
    exact ⟨x, List.mem_of_getElem? hx, by simpa using he⟩
theorem atOk_no {l : List (List Int)} {t : Int} {i : Nat} (hs : sortedIds l) (h1 : ∀ m x, l[m]? = some x → m < i → idOf x < t) (h2 : ∀ m x, l[m]? = some x → i ≤ m → t ≤ idOf x) (h : ∀ x, l[i]? = some x → idOf x ≠ t) : atOk l t = false := by
  cases hb : atOk l t with
  | false => rfl
  | true => obtain ⟨x, hx, he⟩ := (atOk_of hs h1 h2).1 hb; exact absurd he (h x hx)
theorem lo_step {l : List (List Int)} {t : Int} {m : Nat} {x : List Int} (hs : sortedIds l) (hx : l[m]? = some x) (h2 : idOf x < t) : ∀ q y, l[q]? = some y → q < m + 1 → idOf y < t := by
  intro q y hy hq
  rcases Nat.eq_or_lt_of_le (Nat.lt_succ_iff.1 hq) with e | e
  · subst e; rw [hx] at hy; injection hy with hy; subst hy; exact h2
  · have := sorted_lt hs hy hx e; omega
theorem hi_step {l : List (List Int)} {t : Int} {m : Nat} {x : List Int} (hs : sortedIds l) (hx : l[m]? = some x) (h2 : ¬ idOf x < t) : ∀ q y, l[q]? = some y → m ≤ q → t ≤ idOf y := by
  intro q y hy hq
  rcases Nat.eq_or_lt_of_le hq with e | e
  · subst e; rw [hx] at hy; injection hy with hy; subst hy; omega
  · have := sorted_lt hs hx hy e; omega
theorem ok_cmp {l : List (List Int)} {t : Int} {i : Nat} {x : List Int} (hs : sortedIds l) (h1 : ∀ m x, l[m]? = some x → m < i → idOf x < t) (h2 : ∀ m x, l[m]? = some x → i ≤ m → t ≤ idOf x) (hx : l[i]? = some x) : atOk l t = (cmp3 (idOf x) t == 0) := by
  rw [Bool.eq_iff_iff, atOk_of hs h1 h2, beq_iff_eq, cmp3_eq]
  exact ⟨fun ⟨y, hy, he⟩ => by rw [hx] at hy; injection hy with hy; subst hy; exact he, fun he => ⟨x, hx, he⟩⟩
/-- what is found -/
theorem at_found {l : List (List Int)} {t : Int} (hs : sortedIds l) (h : atOk l t = true) : ∃ x, l[atPos l t]? = some x ∧ idOf x = t := by
  obtain ⟨x, hx, he⟩ := List.any_eq_true.1 h
  have he : idOf x = t := by simpa using he
  obtain ⟨m, hm⟩ := List.mem_iff_getElem?.1 hx
  have hml := (List.getElem?_eq_some_iff.1 hm).1
  have : atPos l t = m := atPos_of (by omega) (fun j y hj hlt => by have := sorted_lt hs hj hm hlt; omega) (fun j y hj hle => by
    rcases Nat.eq_or_lt_of_le hle with h | h
    · subst h; rw [hm] at hj; injection hj with hj; subst hj; omega
    · have := sorted_lt hs hm hj h; omega)
  exact ⟨x, by rw [this]; exact hm, he⟩
theorem check_sorted {p : Option Int} {l : List (List Int)} (h : checkFrom p l = 0) : sortedIds l ∧ (∀ q, p = some q → ∀ x ∈ l, q < idOf x) ∧ ∀ x ∈ l, badId x = false ∧ vecOk (vecOf x) = true := by
  induction l generalizing p with
  | nil => exact ⟨List.Pairwise.nil, by simp, by simp⟩
  | cons x r ih =>
    unfold checkFrom at h
    by_cases h0 : checkOne p x = 0
    · rw [eq_if h0] at h
      obtain ⟨h1, h2, h3⟩ := ih h
      have hb : badId x = false := by
        cases hb : badId x with
        | false => rfl
        | true => rw [one_bad hb] at h0; cases h0
      have ha : notAfter p x = false := by
        cases ha : notAfter p x with
        | false => rfl
        | true => rw [one_order hb ha] at h0; cases h0
      rw [one_vec hb ha, vecErr_ok] at h0
      have h4 := h2 (idOf x) rfl
      refine ⟨List.pairwise_cons.2 ⟨h4, h1⟩, fun q hq y hy => ?_, fun y hy => ?_⟩
      · have h5 : q < idOf x := by subst hq; simp [notAfter] at ha; exact ha
        rcases List.mem_cons.1 hy with rfl | hy
        · exact h5
        · have := h4 y hy; omega
      · rcases List.mem_cons.1 hy with rfl | hy
        · exact ⟨hb, h0⟩
        · exact h3 y hy
    · rw [ne_if h0] at h; exact absurd h h0
/-- likenesses that Check lets by -/
structure Good (l : List (List Int)) : Prop where
  len : l.length ≤ 300
  sorted : sortedIds l
  size : ∀ x ∈ l, x.length = 14
  vec : ∀ x ∈ l, vecOk (vecOf x) = true
theorem good_of {l : List (List Int)} (h : checkL l = 0) (hs : ∀ x ∈ l, x.length = 14) : Good l := by
  unfold checkL at h
  split at h
  · cases h
  · obtain ⟨h1, _, h3⟩ := check_sorted h
    exact ⟨by omega, h1, hs, fun x hx => (h3 x hx).2⟩
end Go.Kn
