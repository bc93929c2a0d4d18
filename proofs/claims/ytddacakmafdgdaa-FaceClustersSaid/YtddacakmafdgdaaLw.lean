/- The law on clusters: plain facts. -/
import Derived.Test.YtddacakmafdgdaaGa
import Derived.Test.YtddacakmafdgdaaKnP
set_option linter.unusedVariables false
set_option linter.unusedSimpArgs false
namespace Go.Kn
open Go.RowKit Go.Proofs.Ytddacakmafdgdaa
theorem sorted_getE {xs : List Int} (h : xs.Pairwise (· < ·)) {i j : Nat} {x y : Int} (hi : xs[i]? = some x) (hj : xs[j]? = some y) (hij : i < j) : x < y := by
  obtain ⟨h1, rfl⟩ := List.getElem?_eq_some_iff.1 hi
  obtain ⟨h2, rfl⟩ := List.getElem?_eq_some_iff.1 hj
  exact List.pairwise_iff_getElem.1 h i j h1 h2 hij
section
variable {l : List (List Int)} {n : Nat} {f : Nat → Nat}
def idAt (l : List (List Int)) (p : Nat) : Int := idOf (l.getD p [])
theorem idAt_lt (hs : sortedIds l) {p q : Nat} (hpq : p < q) (hq : q < l.length) : idAt l p < idAt l q := by
  have hp : p < l.length := by omega
  have := sorted_lt hs (i := p) (j := q) (x := l[p]) (y := l[q]) (by simp) (by simp) hpq
  simpa [idAt, hp, hq] using this
theorem idAt_inj (hs : sortedIds l) {p q : Nat} (hp : p < l.length) (hq : q < l.length) (h : idAt l p = idAt l q) : p = q := by
  rcases Nat.lt_trichotomy p q with h1 | h1 | h1
  · have := idAt_lt hs h1 hq; omega
  · exact h1
  · have := idAt_lt hs h1 hp; omega
theorem atPos_id (hs : sortedIds l) {p : Nat} (hp : p < l.length) : atPos l (idAt l p) = p ∧ atOk l (idAt l p) = true := by
  have hok : atOk l (idAt l p) = true := List.any_eq_true.2 ⟨l[p], List.getElem_mem hp, by simp [idAt, hp]⟩
  refine ⟨?_, hok⟩
  obtain ⟨x, hx, he⟩ := at_found hs hok
  have hlt := place_lt hs hok
  refine idAt_inj hs hlt hp ?_
  have h2 : l.getD (atPos l (idAt l p)) [] = x := by simp [hx]
  show idOf (l.getD (atPos l (idAt l p)) []) = idAt l p
  rw [h2]; exact he
theorem at_idAt (hs : sortedIds l) {t : Int} (h : atOk l t = true) : idAt l (atPos l t) = t := by
  obtain ⟨x, hx, he⟩ := at_found hs h
  simp [idAt, hx, he]
theorem mem_idsAt {k : Nat} {x : Int} : x ∈ idsAt l n f k ↔ ∃ p, p < n ∧ f p = k ∧ idAt l p = x := by
  unfold idsAt
  rw [List.mem_map]
  constructor
  · rintro ⟨p, hp, rfl⟩; exact ⟨p, (mem_members.1 hp).1, (mem_members.1 hp).2, rfl⟩
  · rintro ⟨p, h1, h2, rfl⟩; exact ⟨p, mem_members.2 ⟨h1, h2⟩, rfl⟩
theorem idsAt_sorted (hs : sortedIds l) (hn : l.length = n) (k : Nat) : (idsAt l n f k).Pairwise (· < ·) := by
  unfold idsAt
  rw [List.pairwise_map]
  refine List.Pairwise.imp_of_mem ?_ (members_sorted n f k)
  intro p q hp hq hpq
  exact idAt_lt hs hpq (by rw [hn]; exact (mem_members.1 hq).1)
/-- the first one stands first -/
theorem idsAt_first (hle : ∀ p, p < n → f p ≤ p) {k : Nat} (hk : isKey n f k) : (idsAt l n f k)[0]? = some (idAt l k) := by
  have hm : k ∈ members n f k := mem_members.2 ⟨hk.1, hk.2⟩
  obtain ⟨j, hj⟩ := List.mem_iff_getElem?.1 hm
  have hj0 : j = 0 := by
    rcases Nat.eq_zero_or_pos j with h | h
    · exact h
    · exfalso
      have hjl := (List.getElem?_eq_some_iff.1 hj).1
      have h0 : (members n f k)[0]? = some ((members n f k)[0]'(by omega)) := by simp
      have hm0 := mem_members.1 (List.mem_of_getElem? h0)
      have hlt : (members n f k)[0]'(by omega) < k := by
        obtain ⟨h1, h2⟩ := List.getElem?_eq_some_iff.1 hj
        have := List.pairwise_iff_getElem.1 (members_sorted n f k) 0 j (by omega) h1 h
        rw [h2] at this; exact this
      have := hle _ hm0.1
      rw [hm0.2] at this
      omega
  subst hj0
  unfold idsAt
  rw [List.getElem?_map, hj]
  rfl
structure FOk (n : Nat) (f : Nat → Nat) : Prop where
  le : ∀ p, p < n → f p ≤ p
  idem : ∀ p, p < n → f (f p) = f p
theorem FOk.key {n : Nat} {f : Nat → Nat} (h : FOk n f) {p : Nat} (hp : p < n) : isKey n f (f p) := ⟨Nat.lt_of_le_of_lt (h.le p hp) hp, h.idem p hp⟩
theorem FOk.idx {n : Nat} {f : Nat → Nat} (h : FOk n f) {p : Nat} (hp : p < n) : ∃ j : Nat, (keysOf n f)[j]? = some (f p) := List.mem_iff_getElem?.1 (mem_keysOf.2 (h.key hp))
theorem keys_idx_inj {n : Nat} {f : Nat → Nat} {i j x : Nat} (hi : (keysOf n f)[i]? = some x) (hj : (keysOf n f)[j]? = some x) : i = j := by
  obtain ⟨h1, h2⟩ := List.getElem?_eq_some_iff.1 hi
  obtain ⟨h3, h4⟩ := List.getElem?_eq_some_iff.1 hj
  rcases Nat.lt_trichotomy i j with h | h | h
  · have := List.pairwise_iff_getElem.1 (keysOf_sorted n f) i j h1 h3 h; omega
  · exact h
  · have := List.pairwise_iff_getElem.1 (keysOf_sorted n f) j i h3 h1 h; omega
/-! ### the map of numbers of groups -/
def plTo (ids : List (List Int)) (i k : Nat) : List (Int × Nat) := ((ids.take i).zipIdx.flatMap fun p => p.1.map fun x => (x, p.2)) ++ ((ids.getD i []).take k).map fun x => (x, i)
def esOf (P : List (Int × Nat)) : List Ent := P.zipIdx.map fun q => ⟨q.1.1, .int .i64 (q.1.2 : Int), q.2⟩
theorem esOf_snoc (P : List (Int × Nat)) (x : Int) (i : Nat) : esOf (P ++ [(x, i)]) = esOf P ++ [⟨x, .int .i64 (i : Int), P.length⟩] := by simp [esOf, List.zipIdx_append]
theorem esOf_len (P : List (Int × Nat)) : (esOf P).length = P.length := by simp [esOf]
theorem esOf_keys (P : List (Int × Nat)) : (esOf P).map Ent.key = P.map (·.1) := by
  unfold esOf
  rw [List.map_map]
  have : (Ent.key ∘ fun q : (Int × Nat) × Nat => (⟨q.1.1, .int .i64 (q.1.2 : Int), q.2⟩ : Ent)) = (fun p : Int × Nat => p.1) ∘ Prod.fst := by funext q; rfl
  rw [this, ← List.map_map]
  congr 1
  exact List.zipIdx_map_fst 0 P
theorem esOf_get {P : List (Int × Nat)} {x : Int} {i : Nat} (h : (x, i) ∈ P) (hn : (P.map (·.1)).Nodup) : mget x (esOf P) = some (.int .i64 (i : Int)) := by
  obtain ⟨j, hj⟩ := List.mem_iff_getElem?.1 h
  have hm : (⟨x, .int .i64 (i : Int), j⟩ : Ent) ∈ esOf P := List.mem_map.2 ⟨((x, i), j), List.mk_mem_zipIdx_iff_getElem?.2 hj, rfl⟩
  exact mget_some hm rfl (by rw [esOf_keys]; exact hn)
theorem esOf_none {P : List (Int × Nat)} {x : Int} (h : x ∉ P.map (·.1)) : mget x (esOf P) = none := mget_none (fun e he hk => h (by rw [← esOf_keys]; exact List.mem_map.2 ⟨e, he, hk⟩))
theorem plTo_step {ids : List (List Int)} {i k : Nat} {xs : List Int} {x : Int} (hi : ids[i]? = some xs) (hk : xs[k]? = some x) : plTo ids i (k + 1) = plTo ids i k ++ [(x, i)] := by
  have : ids.getD i [] = xs := by simp [hi]
  unfold plTo
  rw [this, take_snoc' hk, List.map_append, List.append_assoc]
  rfl
theorem plTo_row {ids : List (List Int)} {i k : Nat} {xs : List Int} (hi : ids[i]? = some xs) (hk : xs.length ≤ k) : plTo ids i k = plTo ids (i + 1) 0 := by
  have h1 : ids.getD i [] = xs := by simp [hi]
  unfold plTo
  rw [h1, take_snoc' hi, List.zipIdx_append, List.flatMap_append, List.take_of_length_le hk]
  have hlen : (ids.take i).length = i := by
    have := (List.getElem?_eq_some_iff.1 hi).1
    rw [List.length_take]; omega
  simp [hlen]
theorem plTo_fst {ids : List (List Int)} {i k : Nat} : (plTo ids i k).map (·.1) = (ids.take i).flatMap id ++ (ids.getD i []).take k := by
  unfold plTo
  rw [List.map_append, List.map_flatMap]
  congr 1
  · have h2 : (fun a : List Int × Nat => (a.1.map fun x => (x, a.2)).map (·.1)) = fun a => id a.1 := by funext a; rw [List.map_map]; exact List.map_id a.1
    rw [h2]
    have : (ids.take i).zipIdx.flatMap (fun a => id a.1) = ((ids.take i).zipIdx.map (·.1)).flatMap id := by rw [List.flatMap_map]
    rw [this, List.zipIdx_map_fst]
  · rw [List.map_map]; exact List.map_id _
/-- all Ids of all groups, each once -/
theorem ids_perm (hs : sortedIds l) (hn : l.length = n) (hf : FOk n f) : ((idsG l n f).flatMap id).Perm ((List.range n).map (idAt l)) := by
  have hnd2 : ((List.range n).map (idAt l)).Nodup := by
    rw [List.Nodup, List.pairwise_map]
    refine List.Pairwise.imp_of_mem ?_ List.pairwise_lt_range
    intro p q hp hq hpq e
    have := idAt_lt hs hpq (by rw [hn]; exact List.mem_range.1 hq)
    omega
  have hfl : (idsG l n f).flatMap id = ((keysOf n f).flatMap fun k => members n f k).map (idAt l) := by
    unfold idsG
    rw [List.flatMap_map, List.map_flatMap]
    rfl
  have hp : ((keysOf n f).flatMap fun k => members n f k).Perm (List.range n) := by
    rw [List.perm_ext_iff_of_nodup _ List.nodup_range]
    · intro p
      rw [List.mem_flatMap]
      constructor
      · rintro ⟨k, _, hp⟩; exact List.mem_range.2 (mem_members.1 hp).1
      · intro hp
        have hpn := List.mem_range.1 hp
        exact ⟨f p, mem_keysOf.2 (hf.key hpn), mem_members.2 ⟨hpn, rfl⟩⟩
    · rw [List.Nodup, List.pairwise_flatMap]
      refine ⟨fun k _ => (members_sorted n f k).imp (fun h => by omega), ?_⟩
      refine (keysOf_sorted n f).imp ?_
      intro a b hab p hp q hq e
      subst e
      have h1 := (mem_members.1 hp).2
      have h2 := (mem_members.1 hq).2
      omega
  rw [hfl]
  exact hp.map _
theorem ids_nodup (hs : sortedIds l) (hn : l.length = n) (hf : FOk n f) : ((idsG l n f).flatMap id).Nodup := by
  rw [(ids_perm hs hn hf).nodup_iff]
  rw [List.Nodup, List.pairwise_map]
  refine List.Pairwise.imp_of_mem ?_ List.pairwise_lt_range
  intro p q hp hq hpq e
  have := idAt_lt hs hpq (by rw [hn]; exact List.mem_range.1 hq)
  omega
end
end Go.Kn
