/- Groups as a function: each place's first one. -/
import Derived.Test.YtddacakmafdgdaaGj
set_option linter.unusedVariables false
set_option linter.unusedSimpArgs false
namespace Go.Kn
open Go.RowKit
theorem sortI_eq {l m : List Int} (hp : l.Perm m) (hs : m.Pairwise (· ≤ ·)) : sortI l = m := by
  unfold sortI
  refine List.Perm.eq_of_pairwise (le := fun a b : Int => a ≤ b) (fun a b _ _ h1 h2 => Int.le_antisymm h1 h2) ?_ hs ((List.mergeSort_perm _ _).trans hp)
  have := List.pairwise_mergeSort (le := fun x y : Int => decide (x ≤ y)) (fun a b c h1 h2 => by simp at *; omega) (fun a b => by simp; omega) l
  exact this.imp (fun h => by simpa using h)
theorem filter_or_perm {α : Type} {p q : α → Bool} (h : ∀ x, p x = true → q x = true → False) : ∀ l : List α, (l.filter p ++ l.filter q).Perm (l.filter fun x => p x || q x)
  | [] => by simp
  | a :: r => by
    have ih := filter_or_perm h r
    cases hp : p a <;> cases hq : q a
    · simp [hp, hq, ih]
    · simp only [List.filter_cons, hp, hq, Bool.or_true, if_true]
      exact (List.perm_middle).trans (List.Perm.cons a ih)
    · simp only [List.filter_cons, hp, hq, Bool.or_false, if_true]
      exact List.Perm.cons a ih
    · exact absurd hq (by intro hq; exact h a hp hq)
def members (n : Nat) (f : Nat → Nat) (k : Nat) : List Nat := (List.range n).filter fun p => decide (f p = k)
def membersI (n : Nat) (f : Nat → Nat) (k : Nat) : List Int := (members n f k).map fun (p : Nat) => (p : Int)
theorem mem_members {n k p : Nat} {f : Nat → Nat} : p ∈ members n f k ↔ p < n ∧ f p = k := by simp [members]
theorem mem_membersI {n k p : Nat} {f : Nat → Nat} : (p : Int) ∈ membersI n f k ↔ p < n ∧ f p = k := by
  unfold membersI
  rw [List.mem_map]
  constructor
  · rintro ⟨q, hq, he⟩
    have : q = p := by omega
    subst this
    exact mem_members.1 hq
  · exact fun h => ⟨p, mem_members.2 h, rfl⟩
theorem members_sorted (n : Nat) (f : Nat → Nat) (k : Nat) : (members n f k).Pairwise (· < ·) := List.Pairwise.filter _ List.pairwise_lt_range
theorem membersI_sorted (n : Nat) (f : Nat → Nat) (k : Nat) : (membersI n f k).Pairwise (· < ·) := by
  unfold membersI
  rw [List.pairwise_map]
  exact (members_sorted n f k).imp (fun h => by omega)
theorem members_len (n : Nat) (f : Nat → Nat) (k : Nat) : (members n f k).length ≤ n := by
  have := List.length_filter_le (fun p => decide (f p = k)) (List.range n)
  simpa [members] using this
theorem membersI_len (n : Nat) (f : Nat → Nat) (k : Nat) : (membersI n f k).length ≤ n := by simpa [membersI] using members_len n f k
/-- the groups V are those of f -/
structure IsG (n : Nat) (f : Nat → Nat) (V : List (Int × List Int)) : Prop where
  le : ∀ p, p < n → f p ≤ p
  idem : ∀ p, p < n → f (f p) = f p
  mem : ∀ q, q ∈ V ↔ ∃ p, p < n ∧ f p = p ∧ q = ((p : Int), membersI n f p)
theorem IsG.lt {n : Nat} {f : Nat → Nat} {V : List (Int × List Int)} (h : IsG n f V) {p : Nat} (hp : p < n) : f p < n := Nat.lt_of_le_of_lt (h.le p hp) hp
theorem IsG.of {n : Nat} {f : Nat → Nat} {V : List (Int × List Int)} (h : IsG n f V) {p : Nat} (hp : p < n) {r : Int} (hr : ofIs V p r) : r = (f p : Int) := by
  have h0 : ((f p : Int), membersI n f (f p)) ∈ V := (h.mem _).2 ⟨f p, h.lt hp, h.idem p hp, rfl⟩
  have h1 : (p : Int) ∈ membersI n f (f p) := mem_membersI.2 ⟨hp, rfl⟩
  rcases hr with ⟨q, hq, hm, rfl⟩ | ⟨_, hno⟩
  · obtain ⟨k, hk, hkk, rfl⟩ := (h.mem q).1 hq
    have := (mem_membersI.1 hm).2
    simp [this]
  · exact absurd h1 (hno _ h0)
def joinF (a b : Nat) (f : Nat → Nat) : Nat → Nat := fun p => if f p = max a b then min a b else f p
theorem members_join {n a b : Nat} {f : Nat → Nat} (hab : a ≠ b) : (members n f (min a b) ++ members n f (max a b)).Perm (members n (joinF a b f) (min a b)) := by
  have e : members n (joinF a b f) (min a b) = (List.range n).filter fun p => decide (f p = min a b) || decide (f p = max a b) := by
    unfold members
    refine List.filter_congr fun p _ => ?_
    unfold joinF
    by_cases h : f p = max a b
    · simp [h]
    · simp [h]
  rw [e]
  exact filter_or_perm (fun x h1 h2 => by simp at h1 h2; omega) _
theorem members_other {n a b k : Nat} {f : Nat → Nat} (h1 : k ≠ min a b) (h2 : k ≠ max a b) : members n (joinF a b f) k = members n f k := by
  unfold members
  refine List.filter_congr fun p _ => ?_
  unfold joinF
  by_cases h : f p = max a b
  · simp only [h, if_true]
    have h3 : ¬ min a b = k := fun e => h1 e.symm
    have h4 : ¬ max a b = k := fun e => h2 e.symm
    simp [h3, h4]
  · simp [h]
theorem flat_key {V : List (Int × List Int)} (hn : (V.map (·.1)).Nodup) {q : Int × List Int} (hq : q ∈ V) : (V.filter fun p => decide (p.1 = q.1)).flatMap (·.2) = q.2 := by
  induction V with
  | nil => cases hq
  | cons a r ih =>
    simp only [List.map_cons, List.nodup_cons] at hn
    rcases List.mem_cons.1 hq with h | h
    · subst h
      have h2 : (r.filter fun p => decide (p.1 = q.1)) = [] := List.filter_eq_nil_iff.2 (fun p hp => by simpa using fun (e : p.1 = q.1) => hn.1 (e ▸ List.mem_map.2 ⟨p, hp, rfl⟩))
      rw [List.filter_cons, if_pos (by simp), h2]
      simp
    · have hne : a.1 ≠ q.1 := fun e => hn.1 (e ▸ List.mem_map.2 ⟨q, h, rfl⟩)
      rw [List.filter_cons, if_neg (by simpa using hne)]
      exact ih hn.2 h
theorem IsG.join {n : Nat} {f : Nat → Nat} {V : List (Int × List Int)} (h : IsG n f V) (hn : (V.map (·.1)).Nodup) {i k : Nat} (hi : i < n) (hk : k < n) : IsG n (joinF (f i) (f k) f) (joinV (f i) (f k) V) := by
  by_cases hab : f i = f k
  · have e1 : joinF (f i) (f k) f = f := by
      funext p
      unfold joinF
      rw [hab]
      split
      · rename_i h1; rw [h1]; simp
      · rfl
    rw [e1, joinV, if_pos (by omega)]
    exact h
  · obtain ⟨a, ha⟩ : ∃ a, a = f i := ⟨_, rfl⟩
    obtain ⟨b, hb⟩ : ∃ b, b = f k := ⟨_, rfl⟩
    have faa : f a = a := by rw [ha]; exact h.idem i hi
    have fbb : f b = b := by rw [hb]; exact h.idem k hk
    have han : a < n := by rw [ha]; exact h.lt hi
    have hbn : b < n := by rw [hb]; exact h.lt hk
    rw [← ha, ← hb] at hab ⊢
    have flo : f (min a b) = min a b := by rcases Nat.le_total a b with h1 | h1 <;> simp [h1, faa, fbb]
    have fhi : f (max a b) = max a b := by rcases Nat.le_total a b with h1 | h1 <;> simp [h1, faa, fbb]
    have hlt : min a b < max a b := by omega
    have elo : min (a : Int) (b : Int) = ((min a b : Nat) : Int) := by omega
    have ehi : max (a : Int) (b : Int) = ((max a b : Nat) : Int) := by omega
    have hfix : ∀ p, p < n → (joinF a b f p = p ↔ f p = p ∧ p ≠ max a b) := by
      intro p hp
      have hle := h.le p hp
      unfold joinF
      split
      · rename_i h1
        constructor
        · intro h2; omega
        · rintro ⟨h2, h3⟩; omega
      · rename_i h1
        constructor
        · intro h2; exact ⟨h2, fun e => h1 (by rw [e]; exact fhi)⟩
        · exact fun h2 => h2.1
    refine ⟨fun p hp => ?_, fun p hp => ?_, fun q => ?_⟩
    · have hle := h.le p hp
      unfold joinF
      split <;> omega
    · have hid := h.idem p hp
      by_cases h1 : f p = max a b
      · have e : joinF a b f p = min a b := by unfold joinF; rw [if_pos h1]
        rw [e]
        unfold joinF
        rw [if_neg (by omega), flo]
      · have e : joinF a b f p = f p := by unfold joinF; rw [if_neg h1]
        rw [e]
        unfold joinF
        rw [hid, if_neg h1]
    · have hhi : ((max a b : Nat) : Int) = (((max a b : Nat) : Int), membersI n f (max a b)).1 := rfl
      have hmemhi : (((max a b : Nat) : Int), membersI n f (max a b)) ∈ V := (h.mem _).2 ⟨max a b, by omega, fhi, rfl⟩
      have hfl : (V.filter fun p => decide (p.1 = ((max a b : Nat) : Int))).flatMap (·.2) = membersI n f (max a b) := flat_key hn hmemhi
      have hsort : sortI (membersI n f (min a b) ++ membersI n f (max a b)) = membersI n (joinF a b f) (min a b) := by
        refine sortI_eq ?_ ((membersI_sorted _ _ _).imp (fun h => Int.le_of_lt h))
        unfold membersI
        rw [← List.map_append]
        exact (members_join hab).map _
      unfold joinV
      rw [if_neg (by omega), elo, ehi, hfl, List.mem_map]
      constructor
      · rintro ⟨q0, hq0, rfl⟩
        obtain ⟨hq1, hq2⟩ := List.mem_filter.1 hq0
        obtain ⟨p, hp, hpp, rfl⟩ := (h.mem _).1 hq1
        have hne : p ≠ max a b := by intro e; subst e; simp at hq2
        refine ⟨p, hp, (hfix p hp).2 ⟨hpp, hne⟩, ?_⟩
        by_cases hlo : p = min a b
        · subst hlo
          rw [if_pos rfl, hsort]
        · rw [if_neg (by simp only []; omega)]
          unfold membersI
          rw [members_other hlo hne]
      · rintro ⟨p, hp, hpp, rfl⟩
        obtain ⟨h1, hne⟩ := (hfix p hp).1 hpp
        refine ⟨((p : Int), membersI n f p), List.mem_filter.2 ⟨(h.mem _).2 ⟨p, hp, h1, rfl⟩, by simp; omega⟩, ?_⟩
        by_cases hlo : p = min a b
        · subst hlo
          rw [if_pos rfl, hsort]
        · rw [if_neg (by simp only []; omega)]
          unfold membersI
          rw [members_other hlo hne]
theorem isG_each (n : Nat) : IsG n id (eachG n) := by
  refine ⟨fun p _ => Nat.le_refl p, fun p _ => rfl, fun q => ?_⟩
  have hm : ∀ p, p < n → membersI n id p = [(p : Int)] := by
    intro p hp
    unfold membersI members
    have : (List.range n).filter (fun q => decide (id q = p)) = [p] := by
      refine List.Perm.eq_of_pairwise (le := fun a b => a < b) (fun a b _ _ h1 h2 => absurd h1 (by omega)) (List.Pairwise.filter _ List.pairwise_lt_range) (by simp) ?_
      rw [List.perm_ext_iff_of_nodup (List.nodup_range.filter _) (by simp)]
      intro a
      simp
      omega
    rw [this]; rfl
  unfold eachG
  rw [List.mem_map]
  constructor
  · rintro ⟨p, hp, rfl⟩
    have hp' := List.mem_range.1 hp
    exact ⟨p, hp', rfl, by rw [hm p hp']⟩
  · rintro ⟨p, hp, _, rfl⟩
    exact ⟨p, List.mem_range.2 hp, by rw [hm p hp]⟩
/-- those that musts put together -/
def joinAll (ms : List (Nat × Nat)) : Nat → Nat := ms.foldl (fun f m => joinF (f m.1) (f m.2) f) id
theorem joinAll_snoc {ms : List (Nat × Nat)} {m : Nat × Nat} : joinAll (ms ++ [m]) = joinF (joinAll ms m.1) (joinAll ms m.2) (joinAll ms) := by simp [joinAll]
end Go.Kn
