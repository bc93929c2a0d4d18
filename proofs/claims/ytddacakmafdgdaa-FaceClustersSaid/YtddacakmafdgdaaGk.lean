/- The first ones of groups, rising; the steps of the clustering. -/
import Derived.Test.YtddacakmafdgdaaGn
set_option linter.unusedVariables false
set_option linter.unusedSimpArgs false
namespace Go.Kn
open Go.RowKit Go.Proofs.Ytddacakmafdgdaa
def keysOf (n : Nat) (f : Nat → Nat) : List Nat := (List.range n).filter fun p => decide (f p = p)
theorem mem_keysOf {n p : Nat} {f : Nat → Nat} : p ∈ keysOf n f ↔ isKey n f p := by simp [keysOf, isKey]
theorem keysOf_sorted (n : Nat) (f : Nat → Nat) : (keysOf n f).Pairwise (· < ·) := List.Pairwise.filter _ List.pairwise_lt_range
theorem keysOf_len (n : Nat) (f : Nat → Nat) : (keysOf n f).length ≤ n := by
  have := List.length_filter_le (fun p => decide (f p = p)) (List.range n)
  simpa [keysOf] using this
theorem sorted_keys {n : Nat} {f : Nat → Nat} {gs : List Grp} (hF : IsG n f (view gs)) (hk : (gs.map Grp.key).Nodup) : sortI (gs.map Grp.key) = natsI (keysOf n f) := by
  refine sortI_eq ?_ (by rw [natsI, List.pairwise_map]; exact (keysOf_sorted n f).imp (fun h => by omega))
  rw [List.perm_ext_iff_of_nodup hk (by
    unfold natsI
    rw [List.Nodup, List.pairwise_map]
    exact (keysOf_sorted n f).imp (fun h e => by omega))]
  intro z
  constructor
  · intro hz
    obtain ⟨g, hg, rfl⟩ := List.mem_map.1 hz
    obtain ⟨p, h1, h2, h3, _⟩ := hF.xs hg
    rw [h3]
    exact List.mem_map.2 ⟨p, mem_keysOf.2 ⟨h1, h2⟩, rfl⟩
  · intro hz
    obtain ⟨p, hp, rfl⟩ := List.mem_map.1 hz
    obtain ⟨h1, h2⟩ := mem_keysOf.1 hp
    obtain ⟨g, hg, hgk⟩ := hF.has h1
    rw [h2] at hgk
    exact List.mem_map.2 ⟨g, hg, hgk⟩
theorem keys_gs_len {n : Nat} {f : Nat → Nat} {gs : List Grp} (hF : IsG n f (view gs)) (hk : (gs.map Grp.key).Nodup) : gs.length = (keysOf n f).length := by
  have h := congrArg List.length (sorted_keys hF hk)
  rw [sortI_len] at h
  simpa [natsI] using h
theorem keys_less {n x y : Nat} {f : Nat → Nat} (hxy : x < y) (hx : isKey n f x) (hy : isKey n f y) : (keysOf n (joinF x y f)).length < (keysOf n f).length := by
  have e : keysOf n (joinF x y f) = (keysOf n f).filter fun p => decide (p ≠ y) := by
    unfold keysOf
    rw [List.filter_filter]
    refine List.filter_congr fun p hp => ?_
    have hpn := List.mem_range.1 hp
    by_cases h : isKey n (joinF x y f) p
    · obtain ⟨h1, h2⟩ := key_join hxy hx hy h
      simp [h.2, h1.2, h2]
    · have h3 : ¬ joinF x y f p = p := fun e => h ⟨hpn, e⟩
      by_cases h4 : f p = p
      · by_cases h5 : p = y
        · subst h5; simp [h3]
        · exfalso
          apply h3
          rw [joinF_eq hxy, if_neg (by rw [h4]; exact h5), h4]
      · simp [h3, h4]
  rw [e]
  exact List.length_filter_lt_length_iff_exists.2 ⟨y, mem_keysOf.2 hy, by simp⟩
def all2 (p q : Nat) : Prop := p < q
/-- one joining; the end -/
def Step (l : List (List Int)) (n : Nat) (ns : List (Nat × Nat)) (limit : Int) (f f' : Nat → Nat) : Prop :=
  ∃ g a x y least, TabK l n f ns g a ∧ Best g a limit (keysOf n f) (upP (keysOf n f).length (keysOf n f).length 0) x y least ∧ least ≤ limit ∧ f' = joinF x y f
def Stop (l : List (List Int)) (n : Nat) (ns : List (Nat × Nat)) (limit : Int) (f : Nat → Nat) : Prop :=
  ∃ g a x y least, TabK l n f ns g a ∧ Best g a limit (keysOf n f) (upP (keysOf n f).length (keysOf n f).length 0) x y least ∧ ¬ least ≤ limit
inductive Runs (l : List (List Int)) (n : Nat) (ns : List (Nat × Nat)) (limit : Int) : (Nat → Nat) → (Nat → Nat) → Prop
  | refl (f : Nat → Nat) : Runs l n ns limit f f
  | snoc {f f' f'' : Nat → Nat} : Runs l n ns limit f f' → Step l n ns limit f' f'' → Runs l n ns limit f f''
theorem best_keys {g : Nat → Nat → Int} {a : Nat → Nat → Bool} {limit : Int} {n : Nat} {f : Nat → Nat} {x y : Nat} {least : Int} (h : Best g a limit (keysOf n f) (upP (keysOf n f).length (keysOf n f).length 0) x y least) (hl : least ≤ limit) : x < y ∧ isKey n f x ∧ isKey n f y := by
  rcases h with ⟨h1, _⟩ | ⟨i, j, hd, ⟨h2, h3, _, _⟩, _, _⟩
  · omega
  · refine ⟨?_, mem_keysOf.1 (List.mem_of_getElem? h2), mem_keysOf.1 (List.mem_of_getElem? h3)⟩
    obtain ⟨hi, rfl⟩ := List.getElem?_eq_some_iff.1 h2
    obtain ⟨hj, rfl⟩ := List.getElem?_eq_some_iff.1 h3
    exact List.pairwise_iff_getElem.1 (keysOf_sorted n f) i j hi hj hd.1
end Go.Kn
