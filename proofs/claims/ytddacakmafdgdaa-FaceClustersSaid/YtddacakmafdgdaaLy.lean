/- The law on clusters: pieces for its walk. -/
import Derived.Test.YtddacakmafdgdaaLx
import Derived.Test.YtddacakmafdgdaaFN
set_option linter.unusedVariables false
set_option linter.unusedSimpArgs false
namespace Go.Proofs.Ytddacakmafdgdaa
open Go.RowKit Go.Kn Go.Proofs
theorem SSok_of' {w0 w : World} {S : Nat → Prop} {A : Option Addr} {c : Nat} {rows : List ORow} {Lo : Hp} (hM : Mem w0 S w (Lo ++ rows.flatMap ORow.L)) (ho : OwnR tInts 1 (.slice A rows.length c) rows.length (rows.map rowV) Lo) (hr : ∀ r ∈ rows, r.ok) : SSok w A rows :=
  SSok_of (R := []) (by rw [List.append_nil]; exact hM) ho hr
theorem plTo_00 {ids : List (List Int)} : plTo ids 0 0 = [] := by simp [plTo]
theorem plTo_new {ids : List (List Int)} {i k : Nat} {xs : List Int} {y : Int} (hn : (ids.flatMap id).Nodup) (hi : ids[i]? = some xs) (hk : xs[k]? = some y) : y ∉ (plTo ids i k).map (·.1) := by
  rw [plTo_fst]
  have hg : ids.getD i [] = xs := by simp [hi]
  rw [hg]
  obtain ⟨hil, he⟩ := List.getElem?_eq_some_iff.1 hi
  obtain ⟨hkl, he2⟩ := List.getElem?_eq_some_iff.1 hk
  have e1 : ids = ids.take i ++ xs :: ids.drop (i + 1) := by
    conv => lhs; rw [← List.take_append_drop i ids, List.drop_eq_getElem_cons hil, he]
  have e2 : xs = xs.take k ++ y :: xs.drop (k + 1) := by
    conv => lhs; rw [← List.take_append_drop k xs, List.drop_eq_getElem_cons hkl, he2]
  have e3 : ids.flatMap id = ((ids.take i).flatMap id ++ xs.take k) ++ (y :: (xs.drop (k + 1) ++ (ids.drop (i + 1)).flatMap id)) := by
    conv => lhs; rw [e1]
    rw [List.flatMap_append, List.flatMap_cons]
    show _ ++ (xs ++ _) = _
    conv => lhs; rw [e2]
    simp
  rw [e3, List.nodup_append] at hn
  intro hm
  exact hn.2.2 y hm y (by simp) rfl
theorem plTo_nodup {ids : List (List Int)} {m : Nat} (hn : (ids.flatMap id).Nodup) (hm : ids.length ≤ m) : ((plTo ids m 0).map (·.1)).Nodup ∧ (plTo ids m 0).map (·.1) = ids.flatMap id := by
  have : (plTo ids m 0).map (·.1) = ids.flatMap id := by rw [plTo_fst, List.take_of_length_le hm]; simp
  exact ⟨by rw [this]; exact hn, this⟩
theorem plTo_mem {ids : List (List Int)} {m j : Nat} {xs : List Int} {x : Int} (hm : ids.length ≤ m) (hj : ids[j]? = some xs) (hx : x ∈ xs) : (x, j) ∈ plTo ids m 0 := by
  unfold plTo
  rw [List.take_of_length_le hm]
  refine List.mem_append_left _ (List.mem_flatMap.2 ⟨(xs, j), List.mk_mem_zipIdx_iff_getElem?.2 hj, List.mem_map.2 ⟨x, hx, rfl⟩⟩)
section
variable {l : List (List Int)} {n : Nat} {f : Nat → Nat} {bs : List Bond3}
theorem ids_get {i x : Nat} (h : (keysOf n f)[i]? = some x) : (idsG l n f)[i]? = some (idsAt l n f x) := by simp [idsG, h]
theorem plTo_len (hs : sortedIds l) (hn : l.length = n) (hf : FOk n f) {m : Nat} (hm : (idsG l n f).length ≤ m) : (esOf (plTo (idsG l n f) m 0)).length = n := by
  rw [esOf_len, ← List.length_map (f := fun p : Int × Nat => p.1), (plTo_nodup (ids_nodup hs hn hf) hm).2, (ids_perm hs hn hf).length_eq]
  simp
/-- where an Id's group is -/
theorem of_id (hs : sortedIds l) (hn : l.length = n) (hf : FOk n f) {m : Nat} (hm : (idsG l n f).length ≤ m) {t : Int} (ht : atOk l t = true) {j : Nat} (hj : (keysOf n f)[j]? = some (f (atPos l t))) : mget t (esOf (plTo (idsG l n f) m 0)) = some (.int .i64 (j : Int)) := by
  refine esOf_get (plTo_mem hm (ids_get hj) (mem_idsAt.2 ⟨atPos l t, ?_, rfl, at_idAt hs ht⟩)) (plTo_nodup (ids_nodup hs hn hf) hm).1
  rw [← hn]; exact place_lt hs ht
theorem _root_.Go.Kn.clErr_ok {limit : Int} (h : clErr l bs limit = 0) : checkB l bs = 0 ∧ 0 ≤ limit ∧ limit ≤ 774192 := by
  unfold clErr at h
  split at h
  · rename_i h1; exact absurd h h1
  · rename_i h1
    split at h
    · cases h
    · rename_i h2
      simp [outN] at h2
      exact ⟨by simpa using h1, by omega, by omega⟩
/-- the Nots that have been laid down -/
def ApOk (l : List (List Int)) (n : Nat) (f : Nat → Nat) (es : List (PEnt (Int × Int))) (bs : List Bond3) : Prop :=
  ∀ b ∈ bs, b.must = false → ∀ x y : Nat, (keysOf n f)[x]? = some (f (atPos l b.a)) → (keysOf n f)[y]? = some (f (atPos l b.b)) → pget (min (x : Int) (y : Int), max (x : Int) (y : Int)) es = some (.bool true)
theorem ApOk.skip {es : List (PEnt (Int × Int))} {k : Nat} {b : Bond3} (h : ApOk l n f es (bs.take k)) (hb : bs[k]? = some b) (hm : b.must = true) : ApOk l n f es (bs.take (k + 1)) := by
  intro c hc
  rw [take_snoc' hb] at hc
  rcases List.mem_append.1 hc with hc | hc
  · exact h c hc
  · simp at hc; subst hc
    intro h2; rw [hm] at h2; cases h2
theorem ApOk.add {es : List (PEnt (Int × Int))} {k ck ja jb : Nat} {b : Bond3} (h : ApOk l n f es (bs.take k)) (hb : bs[k]? = some b) (ha : (keysOf n f)[ja]? = some (f (atPos l b.a))) (hbb : (keysOf n f)[jb]? = some (f (atPos l b.b))) : ApOk l n f (pset (min (ja : Int) (jb : Int), max (ja : Int) (jb : Int)) (.bool true) ck es).1 (bs.take (k + 1)) := by
  intro c hc hm x y hx hy
  rw [pget_set]
  rw [take_snoc' hb] at hc
  rcases List.mem_append.1 hc with hc | hc
  · split
    · rfl
    · exact h c hc hm x y hx hy
  · simp at hc; subst hc
    have h1 := keys_idx_inj hx ha
    have h2 := keys_idx_inj hy hbb
    subst h1; subst h2
    rw [if_pos rfl]
theorem ApOk.get {es : List (PEnt (Int × Int))} (h : ApOk l n f es bs) {k i x y : Nat} (hk : (keysOf n f)[k]? = some x) (hi : (keysOf n f)[i]? = some y) (hki : k < i) (hm : ∃ m ∈ notsOf l bs, (f m.1 = x ∧ f m.2 = y) ∨ (f m.2 = x ∧ f m.1 = y)) : pget ((k : Int), (i : Int)) es = some (.bool true) := by
  obtain ⟨m, hm, h1⟩ := hm
  obtain ⟨b, hb, rfl⟩ := List.mem_map.1 hm
  obtain ⟨hb1, hb2⟩ := List.mem_filter.1 hb
  have hmu : b.must = false := by simpa using hb2
  rcases h1 with ⟨h2, h3⟩ | ⟨h2, h3⟩
  · have := h b hb1 hmu k i (by rw [hk, ← h2]; rfl) (by rw [hi, ← h3]; rfl)
    rwa [Int.min_eq_left (by omega), Int.max_eq_right (by omega)] at this
  · have := h b hb1 hmu i k (by rw [hi, ← h3]; rfl) (by rw [hk, ← h2]; rfl)
    rwa [Int.min_eq_right (by omega), Int.max_eq_left (by omega)] at this
end
def gapF (l : List (List Int)) (xs ys : List Int) : Int := (xs.flatMap fun x => ys.map fun y => farAt l (atPos l x) (atPos l y)).foldl min 774192
theorem foldl_min (zs : List Int) (a v : Int) : v ≤ zs.foldl min a ↔ v ≤ a ∧ ∀ z ∈ zs, v ≤ z := by
  induction zs generalizing a with
  | nil => simp
  | cons z r ih =>
    rw [List.foldl_cons, ih, Int.le_min]
    simp only [List.mem_cons, forall_eq_or_imp]
    exact ⟨fun ⟨⟨h1, h2⟩, h3⟩ => ⟨h1, h2, h3⟩, fun ⟨h1, h2, h3⟩ => ⟨⟨h1, h2⟩, h3⟩⟩
theorem gapF_all (l : List (List Int)) (xs ys : List Int) : GapAll l xs ys (gapF l xs ys) := by
  intro v
  unfold gapF
  rw [foldl_min]
  refine and_congr Iff.rfl ?_
  constructor
  · intro h x hx y hy
    exact h _ (List.mem_flatMap.2 ⟨x, hx, List.mem_map.2 ⟨y, hy, rfl⟩⟩)
  · intro h z hz
    obtain ⟨x, hx, hz⟩ := List.mem_flatMap.1 hz
    obtain ⟨y, hy, rfl⟩ := List.mem_map.1 hz
    exact h x hx y hy
theorem gapAll_eq {l : List (List Int)} {xs ys : List Int} {g g' : Int} (h : GapAll l xs ys g) (h' : GapAll l xs ys g') : g = g' :=
  Int.le_antisymm ((h' g).2 ((h g).1 (Int.le_refl _))) ((h g').2 ((h' g').1 (Int.le_refl _)))
theorem gap_ok (Al Aa Ab : Option Addr) (n cl ca cb : Nat) (l : List (List Int)) (xs ys : List Int) (w : World) (hl : RdE intsE 14 w Al n l) (ha : RdE intE 1 w Aa xs.length xs) (hb : RdE intE 1 w Ab ys.length ys) (h1 : xs.length ≤ 274877906944) (h2 : ys.length ≤ 274877906944) (he : gapErr l xs ys = 0) :
    Calls Try.prog 8 #[.slice Al n cl, .slice Aa xs.length ca, .slice Ab ys.length cb] w fun e w' => ∃ r, e = .returned r ∧ r = .tuple #[.int .i64 (gapF l xs ys), .int .i64 0] ∧ Mem w No w' [] := by
  refine (gap_s Al Aa Ab n cl ca cb l xs ys w hl ha hb h1 h2).mono ?_
  rintro e w' ⟨r, h3, g, e2, h4, h5, _, h6, h7⟩
  rw [he] at h5
  subst h5
  rw [gapAll_eq (h6 rfl) (gapF_all l xs ys)] at h4
  exact ⟨r, h3, h4, h7⟩
theorem pairL : KeyLaw Try.prog tPair encP2 := pairLaw (e := tInt) (by kernel_rfl) (by kernel_rfl) (by kernel_rfl) (fun _ => by kernel_rfl)
end Go.Proofs.Ytddacakmafdgdaa
