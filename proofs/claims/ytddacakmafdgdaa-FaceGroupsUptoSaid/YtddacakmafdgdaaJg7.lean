/- Parts of the proof, laid together: Hz, Ia, Ib, Ie. -/
import Derived.Test.YtddacakmafdgdaaJg6
section
/- The reference's clustering: groups by labels, in order; what is kept. -/
set_option linter.unusedVariables false
set_option linter.unusedSimpArgs false
namespace Go.Kn
open Go.RowKit Go.Proofs.Ytddacakmafdgdaa
theorem joinF_ok {n : Nat} {f : Nat → Nat} (h : FOk n f) {i k : Nat} (hi : i < n) (hk : k < n) : FOk n (joinF (f i) (f k) f) := by
  have hii := h.idem i hi
  have hkk := h.idem k hk
  have fmin : f (min (f i) (f k)) = min (f i) (f k) := by rcases Nat.le_total (f i) (f k) with h1 | h1 <;> simp [h1, hii, hkk]
  refine ⟨fun p hp => ?_, fun p hp => ?_⟩
  · have := h.le p hp
    unfold joinF; split <;> omega
  · have h2 := h.idem p hp
    by_cases e : f p = max (f i) (f k)
    · have e1 : joinF (f i) (f k) f p = min (f i) (f k) := by unfold joinF; rw [if_pos e]
      rw [e1]
      unfold joinF
      rw [fmin]
      split <;> omega
    · have e1 : joinF (f i) (f k) f p = f p := by unfold joinF; rw [if_neg e]
      rw [e1]
      unfold joinF
      rw [h2, if_neg e]
theorem joinAll_ok {n : Nat} {ms : List (Nat × Nat)} (h : ∀ m ∈ ms, m.1 < n ∧ m.2 < n) : FOk n (joinAll ms) := by
  have gen : ∀ (ms : List (Nat × Nat)) (f : Nat → Nat), FOk n f → (∀ m ∈ ms, m.1 < n ∧ m.2 < n) → FOk n (ms.foldl (fun f m => joinF (f m.1) (f m.2) f) f) := by
    intro ms
    induction ms with
    | nil => intro f hf _; exact hf
    | cons a r ih =>
      intro f hf hm
      rw [List.foldl_cons]
      have := hm a (by simp)
      exact ih _ (joinF_ok hf this.1 this.2) (fun m hm' => hm m (by simp [hm']))
  exact gen ms id ⟨fun p _ => Nat.le_refl p, fun p _ => rfl⟩ h
/-! ### groups by labels -/
def clsN (g : Nat → Nat) (i k : Nat) : List Nat := (List.range k).filter fun q => decide (g q = i)
theorem cls_yes {g : Nat → Nat} {i k : Nat} (h : g k = i) : clsN g i (k + 1) = clsN g i k ++ [k] := by simp [clsN, List.range_succ, List.filter_append, h]
theorem cls_no {g : Nat → Nat} {i k : Nat} (h : g k ≠ i) : clsN g i (k + 1) = clsN g i k := by simp [clsN, List.range_succ, List.filter_append, h]
theorem cls_len (g : Nat → Nat) (i k : Nat) : (clsN g i k).length ≤ k := by
  have := List.length_filter_le (fun q => decide (g q = i)) (List.range k)
  simpa [clsN] using this
theorem mem_cls {g : Nat → Nat} {i k q : Nat} : q ∈ clsN g i k ↔ q < k ∧ g q = i := by simp [clsN]
def grpsTo (g : Nat → Nat) (n i : Nat) : List (List Nat) := ((List.range i).map fun j => clsN g j n).filter fun z => decide (z ≠ [])
theorem grps_yes {g : Nat → Nat} {n i : Nat} (h : clsN g i n ≠ []) : grpsTo g n (i + 1) = grpsTo g n i ++ [clsN g i n] := by simp [grpsTo, List.range_succ, List.filter_append, h]
theorem grps_no {g : Nat → Nat} {n i : Nat} (h : clsN g i n = []) : grpsTo g n (i + 1) = grpsTo g n i := by simp [grpsTo, List.range_succ, List.filter_append, h]
theorem grps_len (g : Nat → Nat) (n i : Nat) : (grpsTo g n i).length ≤ i := by
  have := List.length_filter_le (fun z => decide (z ≠ [])) ((List.range i).map fun j => clsN g j n)
  simpa [grpsTo] using this
theorem mem_grps {g : Nat → Nat} {n i : Nat} {z : List Nat} : z ∈ grpsTo g n i ↔ z ≠ [] ∧ ∃ j, j < i ∧ clsN g j n = z := by
  unfold grpsTo
  rw [List.mem_filter, List.mem_map]
  constructor
  · rintro ⟨⟨j, hj, rfl⟩, h⟩; exact ⟨by simpa using h, j, List.mem_range.1 hj, rfl⟩
  · rintro ⟨h, j, hj, rfl⟩; exact ⟨⟨j, List.mem_range.2 hj, rfl⟩, by simpa using h⟩
theorem cls_members {n : Nat} {f g : Nat → Nat} (hL : Lab n f g) (hf : FOk n f) {p : Nat} (hp : p < n) : clsN g (g p) n = members n f (f p) := by
  unfold clsN members
  refine List.filter_congr fun q hq => ?_
  have := hL.2 q p (List.mem_range.1 hq) hp
  simp [this]
theorem members_first {n : Nat} {f : Nat → Nat} (hf : FOk n f) {x : Nat} (hx : isKey n f x) : (members n f x).headD 0 = x ∧ members n f x ≠ [] := by
  have hm : x ∈ members n f x := mem_members.2 ⟨hx.1, hx.2⟩
  cases hq : members n f x with
  | nil => rw [hq] at hm; cases hm
  | cons a t =>
    refine ⟨?_, by simp⟩
    have ha : a ∈ members n f x := by rw [hq]; simp
    obtain ⟨h1, h2⟩ := mem_members.1 ha
    have hle := hf.le a h1
    rw [h2] at hle
    rw [hq] at hm
    rcases List.mem_cons.1 hm with h3 | h3
    · simp [h3]
    · have hs := members_sorted n f x
      rw [hq, List.pairwise_cons] at hs
      have := hs.1 x h3
      omega
theorem firstOf_eq (r : RRow) : firstOf r = r.xs.headD 0 := rfl
/-- the groups, in order -/
theorem groups_order {n : Nat} {f g : Nat → Nat} (hL : Lab n f g) (hf : FOk n f) {gs gs' : List RRow} (h : gs.map RRow.xs = grpsTo g n n) (hp : gs'.Perm gs) (hs : gs'.Pairwise fun a b => firstOf a < firstOf b) : gs'.map RRow.xs = (keysOf n f).map (members n f) := by
  have hs1 : (gs'.map RRow.xs).Pairwise fun a b => a.headD 0 < b.headD 0 := by rw [List.pairwise_map]; exact hs
  have hs2 : ((keysOf n f).map (members n f)).Pairwise fun a b => a.headD 0 < b.headD 0 := by
    rw [List.pairwise_map]
    refine List.Pairwise.imp_of_mem ?_ (keysOf_sorted n f)
    intro a b ha hb hab
    rw [(members_first hf (mem_keysOf.1 ha)).1, (members_first hf (mem_keysOf.1 hb)).1]
    exact hab
  have nd : ∀ {zs : List (List Nat)}, (zs.Pairwise fun a b => a.headD 0 < b.headD 0) → zs.Nodup := fun h => h.imp fun hlt e => by subst e; omega
  refine List.Perm.eq_of_pairwise (le := fun a b => a.headD 0 < b.headD 0) (fun a b _ _ h1 h2 => by omega) hs1 hs2 ?_
  rw [List.perm_ext_iff_of_nodup (nd hs1) (nd hs2)]
  intro z
  have hz : z ∈ gs'.map RRow.xs ↔ z ∈ grpsTo g n n := by rw [← h]; exact (hp.map RRow.xs).mem_iff
  rw [hz, mem_grps, List.mem_map]
  constructor
  · rintro ⟨hne, j, hj, rfl⟩
    obtain ⟨p, hp⟩ := List.exists_mem_of_ne_nil _ hne
    obtain ⟨h1, h2⟩ := mem_cls.1 hp
    subst h2
    exact ⟨f p, mem_keysOf.2 (hf.key h1), (cls_members hL hf h1).symm⟩
  · rintro ⟨x, hx, rfl⟩
    have hxk := mem_keysOf.1 hx
    refine ⟨(members_first hf hxk).2, g x, hL.1 x hxk.1, ?_⟩
    rw [cls_members hL hf hxk.1, hxk.2]
theorem groups_distinct {n : Nat} {g : Nat → Nat} {gs : List RRow} (h : gs.map RRow.xs = grpsTo g n n) : (∀ r ∈ gs, r.xs ≠ []) ∧ (gs.Pairwise fun a b => firstOf a ≠ firstOf b) ∧ (∀ r ∈ gs, ∀ x ∈ r.xs, x < n) ∧ gs.length ≤ n := by
  have hm : ∀ r ∈ gs, r.xs ∈ grpsTo g n n := fun r hr => h ▸ List.mem_map.2 ⟨r, hr, rfl⟩
  refine ⟨fun r hr => (mem_grps.1 (hm r hr)).1, ?_, fun r hr x hx => ?_, ?_⟩
  · have h1 : (gs.map RRow.xs).Pairwise fun a b => a.headD 0 ≠ b.headD 0 := by
      rw [h]
      unfold grpsTo
      rw [List.filter_map, List.pairwise_map]
      refine List.Pairwise.imp_of_mem ?_ (List.Pairwise.filter _ List.nodup_range)
      intro a b ha hb hab e
      have hna : clsN g a n ≠ [] := by have := (List.mem_filter.1 ha).2; simpa using this
      have hnb : clsN g b n ≠ [] := by have := (List.mem_filter.1 hb).2; simpa using this
      have hd : ∀ {j : Nat}, clsN g j n ≠ [] → g ((clsN g j n).headD 0) = j := by
        intro j hj
        cases hq : clsN g j n with
        | nil => exact absurd hq hj
        | cons a t => exact (mem_cls.1 (by rw [hq]; simp : a ∈ clsN g j n)).2
      have h2 := hd hna
      rw [e, hd hnb] at h2
      exact hab h2.symm
    rw [List.pairwise_map] at h1
    exact h1
  · obtain ⟨_, j, _, he⟩ := mem_grps.1 (hm r hr)
    rw [← he] at hx
    exact (mem_cls.1 hx).1
  · have := congrArg List.length h
    simp at this
    rw [this]; exact grps_len g n n
/-! ### gaps -/
def gapV (l : List (List Int)) (ps qs : List Nat) : Int := (ps.flatMap fun p => qs.map fun q => farAt l p q).foldl min 774193
theorem foldl_min (zs : List Int) : ∀ (a v : Int), v ≤ zs.foldl min a ↔ v ≤ a ∧ ∀ z ∈ zs, v ≤ z := by
  induction zs with
  | nil => intro a v; simp
  | cons b r ih =>
    intro a v
    rw [List.foldl_cons, ih, Int.le_min]
    simp only [List.mem_cons, forall_eq_or_imp, and_assoc]
theorem gapV_is (l : List (List Int)) (ps qs : List Nat) : GapPs l ps qs (gapV l ps qs) := by
  intro v
  unfold gapV
  rw [foldl_min]
  constructor
  · rintro ⟨h1, h2⟩
    exact ⟨h1, fun p hp q hq => h2 _ (List.mem_flatMap.2 ⟨p, hp, List.mem_map.2 ⟨q, hq, rfl⟩⟩)⟩
  · rintro ⟨h1, h2⟩
    refine ⟨h1, fun z hz => ?_⟩
    obtain ⟨p, hp, hz⟩ := List.mem_flatMap.1 hz
    obtain ⟨q, hq, rfl⟩ := List.mem_map.1 hz
    exact h2 p hp q hq
/-- the table at first -/
def tabG (l : List (List Int)) (n : Nat) (f : Nat → Nat) (i k : Nat) : Int := gapV l (members n f ((keysOf n f).getD i 0)) (members n f ((keysOf n f).getD k 0))
def ApI (K : List Nat) (f : Nat → Nat) (ns : List (Nat × Nat)) (A : Nat → Nat → Bool) : Prop := ∀ i k x y, K[i]? = some x → K[k]? = some y → (A i k = true ↔ ∃ m ∈ ns, (f m.1 = x ∧ f m.2 = y) ∨ (f m.2 = x ∧ f m.1 = y))
theorem apI_0 (K : List Nat) (f : Nat → Nat) : ApI K f [] (fun _ _ => false) := by intro i k x y _ _; simp
theorem apI_step {K : List Nat} {f : Nat → Nat} {ns : List (Nat × Nat)} {A : Nat → Nat → Bool} {a b p q : Nat} (hs : K.Pairwise (· < ·)) (hp : K[p]? = some (f a)) (hq : K[q]? = some (f b)) (h : ApI K f ns A) : ApI K f (ns ++ [(a, b)]) (upd2 (upd2 A p q true) q p true) := by
  intro i k x y hi hk
  have e1 := sidx_eq hs hi hp
  have e2 := sidx_eq hs hi hq
  have e3 := sidx_eq hs hk hp
  have e4 := sidx_eq hs hk hq
  unfold upd2
  by_cases h1 : i = q ∧ k = p
  · rw [if_pos h1]
    simp only [true_iff]
    exact ⟨(a, b), by simp, .inr ⟨(e2.2 h1.1).symm, (e3.2 h1.2).symm⟩⟩
  · rw [if_neg h1]
    by_cases h2 : i = p ∧ k = q
    · rw [if_pos h2]
      simp only [true_iff]
      exact ⟨(a, b), by simp, .inl ⟨(e1.2 h2.1).symm, (e4.2 h2.2).symm⟩⟩
    · rw [if_neg h2, h i k x y hi hk]
      constructor
      · rintro ⟨m, hm, hc⟩; exact ⟨m, by simp [hm], hc⟩
      · rintro ⟨m, hm, hc⟩
        rcases List.mem_append.1 hm with hm | hm
        · exact ⟨m, hm, hc⟩
        · simp at hm; subst hm
          rcases hc with ⟨c1, c2⟩ | ⟨c1, c2⟩
          · exact absurd ⟨e1.1 c1.symm, e4.1 c2.symm⟩ h2
          · exact absurd ⟨e2.1 c1.symm, e3.1 c2.symm⟩ h1
theorem tabI_0 {l : List (List Int)} {n : Nat} {f : Nat → Nat} {ns : List (Nat × Nat)} {A : Nat → Nat → Bool} (hf : FOk n f) (hA : ApI (keysOf n f) f ns A) : TabI l n (keysOf n f) f ns (tabG l n f) A := by
  refine ⟨⟨fun x y hx hy _ v => ?_, fun x y hx hy _ => ?_⟩, keysOf_sorted n f, fun x hx => (mem_keysOf.1 hx).1, fun x hx => mem_keysOf.2 hx, hf.le, hf.idem⟩
  · obtain ⟨i, hi⟩ := List.mem_iff_getElem?.1 (mem_keysOf.2 hx)
    obtain ⟨k, hk⟩ := List.mem_iff_getElem?.1 (mem_keysOf.2 hy)
    rw [gK_at (keysOf_sorted n f) hi hk]
    unfold tabG
    rw [show (keysOf n f).getD i 0 = x by simp [hi], show (keysOf n f).getD k 0 = y by simp [hk], gapV_is l _ _ v]
    constructor
    · rintro ⟨h1, h2⟩
      exact ⟨h1, fun p q hp hq hfp hfq => h2 p (mem_members.2 ⟨hp, hfp⟩) q (mem_members.2 ⟨hq, hfq⟩)⟩
    · rintro ⟨h1, h2⟩
      refine ⟨h1, fun p hp q hq => ?_⟩
      obtain ⟨h3, h4⟩ := mem_members.1 hp
      obtain ⟨h5, h6⟩ := mem_members.1 hq
      exact h2 p q h3 h5 h4 h6
  · obtain ⟨i, hi⟩ := List.mem_iff_getElem?.1 (mem_keysOf.2 hx)
    obtain ⟨k, hk⟩ := List.mem_iff_getElem?.1 (mem_keysOf.2 hy)
    rw [aK_at (keysOf_sorted n f) hi hk]
    exact hA i k x y hi hk
/-! ### the groups while they are joined -/
structure GrsOk (n : Nat) (K : List Nat) (f : Nat → Nat) (gs : List RRow) : Prop where
  len : gs.length = K.length
  ok : ∀ r ∈ gs, r.ok
  alive : ∀ (i : Nat) r x, gs[i]? = some r → K[i]? = some x → f x = x → r.xs = members n f x
  dead : ∀ (i : Nat) r x, gs[i]? = some r → K[i]? = some x → f x ≠ x → r = ⟨.slice none 0 0, [], []⟩
theorem grs_0 {n : Nat} {f : Nat → Nat} {gs : List RRow} (h : gs.map RRow.xs = (keysOf n f).map (members n f)) (hok : ∀ r ∈ gs, r.ok) : GrsOk n (keysOf n f) f gs := by
  refine ⟨by simpa using congrArg List.length h, hok, fun i r x hr hx _ => ?_, fun i r x hr hx hne => absurd (mem_keysOf.1 (List.mem_of_getElem? hx)).2 hne⟩
  have h1 := congrArg (fun z => z[i]?) h
  simp only [List.getElem?_map, hr, hx, Option.map_some] at h1
  injection h1
theorem members_sortI {n x y : Nat} {f : Nat → Nat} (hxy : x < y) : sortI (natsI (members n f x) ++ natsI (members n f y)) = natsI (members n (joinF x y f) x) := by
  have hp := members_join (n := n) (f := f) (show x ≠ y by omega)
  rw [Nat.min_eq_left (by omega), Nat.max_eq_right (by omega)] at hp
  refine sortI_eq ?_ ?_
  · unfold natsI
    rw [← List.map_append]
    exact hp.map _
  · unfold natsI
    rw [List.pairwise_map]
    exact (members_sorted n _ x).imp fun h => by omega
theorem members_off {n x y z : Nat} {f : Nat → Nat} (hxy : x < y) (h1 : z ≠ x) (h2 : z ≠ y) : members n (joinF x y f) z = members n f z := members_other (by rw [Nat.min_eq_left (by omega)]; exact h1) (by rw [Nat.max_eq_right (by omega)]; exact h2)
/-- two groups made one -/
theorem grs_join {n : Nat} {K : List Nat} {f : Nat → Nat} {gs : List RRow} {a b x y : Nat} {v : Value} {L : Hp} (h : GrsOk n K f gs) (hs : K.Pairwise (· < ·)) (hab : a < b) (hx : K[a]? = some x) (hy : K[b]? = some y) (hfx : f x = x) (hfy : f y = y) (hr : RRow.ok ⟨v, members n (joinF x y f) x, L⟩) :
    GrsOk n K (joinF x y f) ((gs.set a ⟨v, members n (joinF x y f) x, L⟩).set b ⟨.slice none 0 0, [], []⟩) := by
  have hxy : x < y := (sidx_lt hs hx hy).2 hab
  have hal : a < gs.length := by rw [h.len]; exact (List.getElem?_eq_some_iff.1 hx).1
  have hbl : b < gs.length := by rw [h.len]; exact (List.getElem?_eq_some_iff.1 hy).1
  have hget : ∀ (i : Nat) r, ((gs.set a ⟨v, members n (joinF x y f) x, L⟩).set b ⟨.slice none 0 0, [], []⟩)[i]? = some r → (i = b ∧ r = ⟨.slice none 0 0, [], []⟩) ∨ (i = a ∧ i ≠ b ∧ r = ⟨v, members n (joinF x y f) x, L⟩) ∨ (i ≠ a ∧ i ≠ b ∧ gs[i]? = some r) := by
    intro i r hi
    rw [List.getElem?_set] at hi
    by_cases e : b = i
    · subst e
      rw [if_pos rfl, if_pos (by simp; exact hbl)] at hi
      injection hi with hi
      exact .inl ⟨rfl, hi.symm⟩
    · rw [if_neg e, List.getElem?_set] at hi
      by_cases e2 : a = i
      · subst e2
        rw [if_pos rfl, if_pos hal] at hi
        injection hi with hi
        exact .inr (.inl ⟨rfl, fun e3 => e e3.symm, hi.symm⟩)
      · rw [if_neg e2] at hi
        exact .inr (.inr ⟨fun e3 => e2 e3.symm, fun e3 => e e3.symm, hi⟩)
  refine ⟨by simp [h.len], fun r hr' => ?_, fun i r z hi hz hfz => ?_, fun i r z hi hz hfz => ?_⟩
  · obtain ⟨i, hi⟩ := List.mem_iff_getElem?.1 hr'
    rcases hget i r hi with ⟨_, rfl⟩ | ⟨_, _, rfl⟩ | ⟨_, _, h1⟩
    · exact OwnR.nil _ _
    · exact hr
    · exact h.ok r (List.mem_of_getElem? h1)
  · rcases hget i r hi with ⟨rfl, rfl⟩ | ⟨rfl, _, rfl⟩ | ⟨h1, h2, h3⟩
    · rw [hy] at hz; injection hz with hz; subst hz
      rw [joinF_eq hxy, if_pos hfy] at hfz
      omega
    · rw [hx] at hz; injection hz with hz; subst hz; rfl
    · have hzx : z ≠ x := fun e => h1 ((sidx_eq hs hz hx).1 e)
      have hzy : z ≠ y := fun e => h2 ((sidx_eq hs hz hy).1 e)
      rw [(first_other hxy hzx hzy z)] at hfz
      rw [members_off hxy hzx hzy]
      exact h.alive i r z h3 hz hfz
  · rcases hget i r hi with ⟨rfl, rfl⟩ | ⟨rfl, _, rfl⟩ | ⟨h1, h2, h3⟩
    · rfl
    · rw [hx] at hz; injection hz with hz; subst hz
      exfalso
      apply hfz
      rw [joinF_eq hxy, if_neg (by omega)]; exact hfx
    · have hzx : z ≠ x := fun e => h1 ((sidx_eq hs hz hx).1 e)
      have hzy : z ≠ y := fun e => h2 ((sidx_eq hs hz hy).1 e)
      refine h.dead i r z h3 hz (fun e => hfz ?_)
      exact (first_other hxy hzx hzy z).2 e
end Go.Kn
end
section
/- What the walk of the reference's clustering needs of memory. -/
set_option linter.unusedVariables false
set_option linter.unusedSimpArgs false
namespace Go.Proofs.Ytddacakmafdgdaa
open Go.RowKit Go.Kn Go.Proofs
theorem gapOfV_s (Al Aa Ab : Option Addr) (n cl na ca nb cb : Nat) (l : List (List Int)) (ps qs : List Nat) (w : World) (hl : RdE intsE 14 w Al n l) (hgd : Kn.Good l) (ha : RdE intE 1 w Aa na (natsI ps)) (hb : RdE intE 1 w Ab nb (natsI qs)) (hpsr : ∀ p ∈ ps, p < n) (hqsr : ∀ q ∈ qs, q < n) (hna : na ≤ 1099511627776) (hnb : nb ≤ 1099511627776) :
    Calls Try.prog 35 #[.slice Al n cl, .slice Aa na ca, .slice Ab nb cb] w fun e w' => ∃ r, e = .returned r ∧ r = .int .i64 (gapV l ps qs) ∧ Mem w No w' [] :=
  (gapOfP_s Al Aa Ab n cl na ca nb cb l ps qs w hl hgd ha hb hpsr hqsr hna hnb).mono fun e w' ⟨r, h1, g, h2, h3, h4⟩ => ⟨r, h1, by rw [h2, gapPs_uniq h3 (gapV_is l ps qs)], h4⟩
end Go.Proofs.Ytddacakmafdgdaa
namespace Go.Kn
open Go.RowKit Go.Proofs.Ytddacakmafdgdaa
section
variable {P : Program} {w : World} {ρ : Operand → Value} {dst : Option Tmp} {type : TypeId} {pos : String} {after : Array Edge} {guard : Option (Nat × Bool)}
theorem x_eqNil {t t' e : TypeId} {x y : Operand} {A : Option Addr} {n c : Nat} (hx : ρ x = .slice A n c) (hy : ρ y = .slice none 0 0) (ht : P.underlying t = some (.slice e)) :
    (execOp ρ ⟨dst, .binOp .eql t x y t', type, pos, after, guard⟩).run P w = .ok (.value (.bool A.isNone)) w := by
  have h : ∀ b : Bool, A.isNone = b → (Op.equalIn Op.maxDepth t (.slice A n c) (.slice none 0 0)).run P w = .ok b w := by
    intro b hb
    rw [show Op.maxDepth = (Op.maxDepth - 1) + 1 from rfl]
    unfold Op.equalIn
    simp only [Sem.run_bind, run_underlying ht, Result.andThen_ok]
    subst hb
    cases A <;> rfl
  simp [execOp, hx, hy, eqGuard, Go.binOp, Op.equal, h _ rfl]
end
/-- a part of a list, in any order -/
def SubP (L' L : Hp) : Prop := ∃ R, L.Perm (L' ++ R)
theorem Mem.subp {w0 w : World} {S : Nat → Prop} {L L' : Hp} (h : Mem w0 S w L) (hs : SubP L' L) : Mem w0 S w L' := by
  obtain ⟨R, hR⟩ := hs
  exact (h.perm hR).left
section
variable {P : Program} {n : Nat} {ops : Array Oper} {Q : Exit → Act → World → Prop} {K : St} {w w0 : World} {S : Nat → Prop} {dst : Option Tmp} {type : TypeId} {pos : String} {after : Array Edge} {rest : List Oper}
/-- a cell of the call's own row -/
theorem r_storeOwn {e t : TypeId} {x y : Operand} {A : Option Addr} {m c i : Nat} {xs : List Value} {L R : Hp} {v : Value} (h : OwnR e 1 (.slice A m c) m xs L) (hM : Mem w0 S w (L ++ R)) (hi : i < m) (h1 : v.oneCell' = true) (hs : (sizeOf t).run P w = .ok 1 w)
    (hx : okOp n K ⟨dst, .store t x y, type, pos, after, none⟩ = true) (ha : K.ev x = .pointer (some ((adr A).add (i * 1)))) (hv : K.ev y = v)
    (hn : ∀ w' L', OwnR e 1 (.slice A m c) m (xs.set i v) L' → Mem w0 S w' (L' ++ R) → wpR P n ops Q rest (K.put dst undef) w') : wpR P n ops Q (⟨dst, .store t x y, type, pos, after, none⟩ :: rest) K w := by
  rcases h.2 with ⟨_, h2, _⟩ | ⟨b, cap, cur, h2, h3, h4, h5, h6, rfl⟩
  · omega
  · injection h2 with h2 h2m h2c
    subst h2
    subst h2c
    have hic : i < cur.size := by omega
    refine r_store (v := v) (j := i) hM 0 rfl hic h1 hs hx (by rw [ha]; simp [adr, add_row]) hv (fun w' hM' => hn w' [(b, .cells (cur.setIfInBounds i v) e (0, 0))] ⟨by rw [List.length_set]; exact h.1, .inr ⟨b, c, _, rfl, h3, h4, by simpa using h5, ?_, rfl⟩⟩ ?_)
    · rw [← h6]
      apply List.ext_getElem?
      intro j
      rw [List.getElem?_take, List.getElem?_set, List.getElem?_take]
      simp only [Nat.mul_one]
      by_cases hj : j < m
      · rw [if_pos hj, if_pos hj]
        by_cases hij : i = j
        · subst hij
          simp [hic]
          omega
        · rw [if_neg hij]
          simp [List.getElem?_set, hij]
      · rw [if_neg hj, if_neg hj, if_neg (by omega)]
    · simpa using hM'
variable {α : Type} {N k i j : Nat} {enc : α → Value} {rb : Nat → Nat} {g : Nat → Nat → α} {ty : TypeId} {E Lt T1 R : Hp}
theorem r_storeT1 {t : TypeId} {x y : Operand} (E Lt : Hp) (hM : Mem w0 S w (E ++ (Lt ++ (tabL ty enc k N rb g ++ R)))) (hi : i < k) (hj : j < N) {v : α} (h1 : (enc v).oneCell' = true) (hs : (sizeOf t).run P w = .ok 1 w)
    (hx : okOp n K ⟨dst, .store t x y, type, pos, after, none⟩ = true) (ha : K.ev x = .pointer (some ⟨rb i, j, none⟩)) (hv : K.ev y = enc v)
    (h : ∀ w', Mem w0 S w' (E ++ (Lt ++ (tabL ty enc k N rb (upd2 g i j v) ++ R))) → wpR P n ops Q rest (K.put dst undef) w') : wpR P n ops Q (⟨dst, .store t x y, type, pos, after, none⟩ :: rest) K w :=
  r_storeT (A := E ++ Lt) (by rw [List.append_assoc]; exact hM) hi hj h1 hs hx ha hv (fun w' h' => h w' (by rw [List.append_assoc] at h'; exact h'))
theorem r_storeT2 {t : TypeId} {x y : Operand} (E Lt T1 : Hp) (hM : Mem w0 S w (E ++ (Lt ++ (T1 ++ (tabL ty enc k N rb g ++ R))))) (hi : i < k) (hj : j < N) {v : α} (h1 : (enc v).oneCell' = true) (hs : (sizeOf t).run P w = .ok 1 w)
    (hx : okOp n K ⟨dst, .store t x y, type, pos, after, none⟩ = true) (ha : K.ev x = .pointer (some ⟨rb i, j, none⟩)) (hv : K.ev y = enc v)
    (h : ∀ w', Mem w0 S w' (E ++ (Lt ++ (T1 ++ (tabL ty enc k N rb (upd2 g i j v) ++ R)))) → wpR P n ops Q rest (K.put dst undef) w') : wpR P n ops Q (⟨dst, .store t x y, type, pos, after, none⟩ :: rest) K w :=
  r_storeT (A := E ++ (Lt ++ T1)) (by simp only [List.append_assoc]; exact hM) hi hj h1 hs hx ha hv (fun w' h' => h w' (by simp only [List.append_assoc] at h'; exact h'))
end
theorem tabL_snocG {α : Type} {ty : TypeId} {enc : α → Value} {k n b : Nat} {rb : Nat → Nat} {g : Nat → Nat → α} : tabL ty enc (k + 1) n (fun q => if q = k then b else rb q) g = tabL ty enc k n rb g ++ [(b, .cells (rowC n enc (g k)) ty (0, 0))] := by
  have h := tabL_snoc (ty := ty) (enc := enc) (k := k) (n := n) (rb := rb) (g := g) (b := b) (h := g k)
  rw [← h]
  congr 1
  funext p
  split
  · rename_i e; rw [e]
  · rfl
theorem Mem.tabgrow3 {w w0 : World} {S : Nat → Prop} {p q : Nat × Obj} {E Lt T1 T2 R : Hp} (h : Mem w0 S w (p :: q :: (E ++ (Lt ++ (T1 ++ (T2 ++ R)))))) : Mem w0 S w (E ++ (Lt ++ ((T1 ++ [p]) ++ ((T2 ++ [q]) ++ R)))) := by
  refine h.perm ?_
  classical
  rw [List.perm_iff_count]
  intro a
  simp only [List.count_append, List.count_cons, List.count_nil]
  omega
abbrev encV (r : RRow) : List Value := [r.v]
theorem top_rd {w : World} {A : Option Addr} {m c : Nat} {gs : List RRow} {L : Hp} (h : OwnR tInts 1 (.slice A m c) m (topV gs) L) (hL : Holds w L) : RdE encV 1 w A m gs := by
  have e : gs.flatMap encV = topV gs := by
    clear h
    induction gs with
    | nil => rfl
    | cons a t ih => rw [List.flatMap_cons, ih]; rfl
  exact OwnR.rd (enc := encV) (by rw [e]; exact h) hL (by simp) (by decide)
theorem row_rd {w : World} {r : RRow} {A : Option Addr} {c : Nat} (h : r.ok) (hv : r.v = .slice A r.xs.length c) (hL : Holds w r.L) : RdE intE 1 w A r.xs.length (natsI r.xs) := by
  unfold RRow.ok at h
  rw [hv] at h
  exact h.rdI hL
theorem row_slice {r : RRow} (h : r.ok) : ∃ A c, r.v = .slice A r.xs.length c ∧ (r.xs ≠ [] → A.isNone = false) := by
  obtain ⟨A, c, hv, _, _, hA⟩ := OwnR.slice h
  refine ⟨A, c, hv, fun hne => ?_⟩
  have := hA (List.length_pos_iff.2 hne)
  cases A with
  | none => cases this
  | some a => rfl
theorem cons_erase_perm {α : Type} : ∀ {l : List α} {i : Nat} (h : i < l.length), (l[i] :: l.eraseIdx i).Perm l
  | a :: r, 0, _ => List.Perm.refl _
  | a :: r, i + 1, h => (List.Perm.swap _ _ _).trans (List.Perm.cons a (cons_erase_perm (l := r) (i := i) (by simpa using h)))
theorem set_perm {α : Type} {gs : List α} {a : Nat} {X : α} (ha : a < gs.length) : (gs.set a X).Perm (X :: gs.eraseIdx a) := by
  have h := cons_erase_perm (l := gs.set a X) (i := a) (by simpa using ha)
  rw [List.getElem_set_self, List.eraseIdx_set_eq] at h
  exact h.symm
theorem get_perm {α : Type} {gs : List α} {a : Nat} {X : α} (h : gs[a]? = some X) : gs.Perm (X :: gs.eraseIdx a) := by
  obtain ⟨ha, rfl⟩ := List.getElem?_eq_some_iff.1 h
  exact (cons_erase_perm ha).symm
/-- a row, taken out -/
theorem Mem.outRow {w w0 : World} {S : Nat → Prop} {E X : Hp} {gs : List RRow} {a : Nat} {r : RRow} (h : Mem w0 S w (E ++ (X ++ gs.flatMap RRow.L))) (hr : gs[a]? = some r) : Mem w0 S w (E ++ (r.L ++ (X ++ (gs.eraseIdx a).flatMap RRow.L))) := by
  refine h.perm (List.Perm.append_left E ?_)
  have h1 := rows_perm (get_perm hr)
  rw [List.flatMap_cons] at h1
  exact (List.Perm.append_left X h1).trans (List.perm_append_comm_assoc X r.L _)
theorem sub_join {E Lt X L9 : Hp} {gs : List RRow} {a b : Nat} {v : Value} {zs : List Nat} (ha : a < gs.length) (hb : b < gs.length) : SubP (E ++ (Lt ++ (X ++ ((gs.set a ⟨v, zs, L9⟩).set b ⟨.slice none 0 0, [], []⟩).flatMap RRow.L))) (E ++ (L9 ++ (Lt ++ (X ++ (gs.eraseIdx a).flatMap RRow.L)))) := by
  have h1 := rows_perm (set_perm (gs := gs.set a ⟨v, zs, L9⟩) (X := ⟨.slice none 0 0, [], []⟩) (a := b) (by simpa using hb))
  rw [List.flatMap_cons] at h1
  have hbs : b < (gs.set a ⟨v, zs, L9⟩).length := by simpa using hb
  have h2 := rows_perm (get_perm (gs := gs.set a ⟨v, zs, L9⟩) (a := b) (List.getElem?_eq_getElem hbs))
  rw [List.flatMap_cons] at h2
  have h3 := rows_perm (set_perm (gs := gs) (X := ⟨v, zs, L9⟩) ha)
  rw [List.flatMap_cons] at h3
  have h4 := h3.symm.trans h2
  refine ⟨((gs.set a ⟨v, zs, L9⟩)[b]).L, ?_⟩
  classical
  rw [List.perm_iff_count] at h1 h4 ⊢
  intro p
  have e1 := h1 p
  have e4 := h4 p
  simp only [List.count_append, List.count_nil] at e1 e4 ⊢
  omega
/-- the rows' holds, past what lies ahead -/
theorem Mem.past {w w0 : World} {S : Nat → Prop} {A R : Hp} (h : Mem w0 S w (A ++ R)) : Mem w0 S w R := h.right
end Go.Kn
end
section
/- Ib: what Go functions of this seat come to, printed by walk.py over the engine. -/
set_option linter.unusedVariables false
set_option linter.unusedSimpArgs false
set_option maxRecDepth 100000
namespace Go.Proofs.Ytddacakmafdgdaa
open Go.RowKit Go.Kn

structure HereP (A : Option Addr) (n : Nat) : Prop where
 here : 0 < n → A.isSome = true
structure FirstAt (w : World) (At : Option Addr) (j : Nat) (x : Int) (A : Option Addr) (n c : Nat) : Prop where
 top : w.cell? ((adr At).add (j * 1)) = some (.slice A n c)
 pos : 0 < n
 her : HereP A n
 cell : w.cell? ((adr A).add (0 * 1)) = some (.int .i64 x)
structure GapAt (w : World) (tg m i k : Nat) (v : Int) (e : Nat) : Prop where
 top : w.cell? ⟨tg, i, none⟩ = some (.slice (some ⟨e, 0, none⟩) m m)
 cell : w.cell? ⟨e, k, none⟩ = some (.int .i64 v)
theorem earlier_s (At : Option Addr) (m ct tg i k a b : Nat) (hAt : HereP At m) (hi : i < m) (hk : k < m) (ha : a < m) (hb : b < m) (x y u v g1 g2 : Int) (Ai Ak Aa Ab : Option Addr) (ni ci nk ck na ca nb cb ei ea : Nat) (w : World) (hfi : FirstAt w At i x Ai ni ci) (hfk : FirstAt w At k y Ak nk ck) (hfa : FirstAt w At a u Aa na ca) (hfb : FirstAt w At b v Ab nb cb) (hg1 : GapAt w tg m i k g1 ei) (hg2 : GapAt w tg m a b g2 ea) :
  Calls Try.prog 39 #[Value.slice At m ct, Value.slice (some ⟨tg, 0, none⟩) m m, Value.int .i64 (i : Int), Value.int .i64 (k : Int), Value.int .i64 (a : Int), Value.int .i64 (b : Int)] w fun e w' => ∃ r, e = .returned r ∧ r = .bool (decide (firstN [cmp3 g1 g2, cmp3 (min x y) (min u v), cmp3 (max x y) (max u v)] < 0)) ∧ Mem w No w' [] := by
 refine calls_k (args := [Value.slice At m ct, Value.slice (some ⟨tg, 0, none⟩) m m, Value.int .i64 (i : Int), Value.int .i64 (k : Int), Value.int .i64 (a : Int), Value.int .i64 (b : Int)]) 93 [(0, Value.slice At m ct), (1, Value.slice (some ⟨tg, 0, none⟩) m m), (2, Value.int .i64 (i : Int)), (3, Value.int .i64 (k : Int)), (4, Value.int .i64 (a : Int)), (5, Value.int .i64 (b : Int))] Try.func39 rfl rfl ⟨rfl, rfl, rfl, rfl, rfl, rfl, trivial⟩ ?_
 have hM := Mem.nil w No
 have hpi := hfi.pos
 have hpk := hfk.pos
 have hpa := hfa.pos
 have hpb := hfb.pos
 refine k_seq (k_region (sqV (.bool false) rfl rfl rfl ?_))
 refine r_nil (e_then (k_seq ?_))
 refine k_drawP mixed [0, 0, 3, 7, 15, 31, 0, 0, 192, 448, 960, 1984, 4095, 0, 0, 24576, 57344, 122880, 253952, 0, 0, 1572864, 3670016, 7864320, 16252928, 33546240, 8191, 134217727] [some (Value.slice At m ct), some (Value.int .i64 (i : Int)), some (Value.pointer (some ((adr At).add (i * 1)))), some (Value.slice Ai ni ci), some (Value.pointer (some ((adr Ai).add (0 * 1)))), some (Value.int .i64 x), some (Value.slice At m ct), some (Value.int .i64 (k : Int)), some (Value.pointer (some ((adr At).add (k * 1)))), some (Value.slice Ak nk ck), some (Value.pointer (some ((adr Ak).add (0 * 1)))), some (Value.int .i64 y), some (Value.int .i64 (min x y)), some (Value.slice At m ct), some (Value.int .i64 (i : Int)), some (Value.pointer (some ((adr At).add (i * 1)))), some (Value.slice Ai ni ci), some (Value.pointer (some ((adr Ai).add (0 * 1)))), some (Value.int .i64 x), some (Value.slice At m ct), some (Value.int .i64 (k : Int)), some (Value.pointer (some ((adr At).add (k * 1)))), some (Value.slice Ak nk ck), some (Value.pointer (some ((adr Ak).add (0 * 1)))), some (Value.int .i64 y), some (Value.int .i64 (max x y)), some (Value.int .i64 (min x y))] (by kernel_rfl) 27 [] rfl rfl (by kernel_rfl) rfl (fun D V w_ => Mem w No w_ []) (fun V => hM.drew) trivial ?_ ?_
 ·refine ⟨?_, ?_, ?_, ?_, ?_, ?_, ?_, ?_, ?_, ?_, ?_, ?_, ?_, ?_, ?_, ?_, ?_, ?_, ?_, ?_, ?_, ?_, ?_, ?_, ?_, ?_, ?_, trivial⟩
  ·intro D V w_ hd hi hM_
   refine sqG [(0, .slice At m ct)] rfl rfl rfl ?_
   exact run_val (.slice At m ct) (rfl) ⟨sqT, hM_⟩
  ·intro D V w_ hd hi hM_
   refine sqG [(2, .int .i64 (i : Int))] rfl rfl rfl ?_
   exact run_val (.int .i64 (i : Int)) (rfl) ⟨sqT, hM_⟩
  ·intro D V w_ hd hi hM_
   refine sqG [(17, .slice At m ct), (18, .int .i64 (i : Int))] rfl rfl rfl ?_
   exact run_val (.pointer (some ((adr At).add (i * 1)))) (x_indexAddrN (i := i) (sz := 1) hAt.here (by omega) rfl rfl rfl rfl) ⟨sqT, hM_⟩
  ·intro D V w_ hd hi hM_
   refine sqG [(19, .pointer (some ((adr At).add (i * 1))))] rfl rfl rfl ?_
   exact run_val (.slice Ai ni ci) (x_load ((hM_).old hfi.top (fun h => h)) rfl rfl) ⟨sqT, hM_⟩
  ·intro D V w_ hd hi hM_
   refine sqG [(20, .slice Ai ni ci)] rfl rfl rfl ?_
   exact run_val (.pointer (some ((adr Ai).add (0 * 1)))) (x_indexAddrN (i := 0) (sz := 1) hfi.her.here (by omega) rfl rfl rfl rfl) ⟨sqT, hM_⟩
  ·intro D V w_ hd hi hM_
   refine sqG [(21, .pointer (some ((adr Ai).add (0 * 1))))] rfl rfl rfl ?_
   exact run_val (.int .i64 x) (x_load ((hM_).old hfi.cell (fun h => h)) rfl rfl) ⟨sqT, hM_⟩
  ·intro D V w_ hd hi hM_
   refine sqG [(0, .slice At m ct)] rfl rfl rfl ?_
   exact run_val (.slice At m ct) (rfl) ⟨sqT, hM_⟩
  ·intro D V w_ hd hi hM_
   refine sqG [(3, .int .i64 (k : Int))] rfl rfl rfl ?_
   exact run_val (.int .i64 (k : Int)) (rfl) ⟨sqT, hM_⟩
  ·intro D V w_ hd hi hM_
   refine sqG [(23, .slice At m ct), (24, .int .i64 (k : Int))] rfl rfl rfl ?_
   exact run_val (.pointer (some ((adr At).add (k * 1)))) (x_indexAddrN (i := k) (sz := 1) hAt.here (by omega) rfl rfl rfl rfl) ⟨sqT, hM_⟩
  ·intro D V w_ hd hi hM_
   refine sqG [(25, .pointer (some ((adr At).add (k * 1))))] rfl rfl rfl ?_
   exact run_val (.slice Ak nk ck) (x_load ((hM_).old hfk.top (fun h => h)) rfl rfl) ⟨sqT, hM_⟩
  ·intro D V w_ hd hi hM_
   refine sqG [(26, .slice Ak nk ck)] rfl rfl rfl ?_
   exact run_val (.pointer (some ((adr Ak).add (0 * 1)))) (x_indexAddrN (i := 0) (sz := 1) hfk.her.here (by omega) rfl rfl rfl rfl) ⟨sqT, hM_⟩
  ·intro D V w_ hd hi hM_
   refine sqG [(27, .pointer (some ((adr Ak).add (0 * 1))))] rfl rfl rfl ?_
   exact run_val (.int .i64 y) (x_load ((hM_).old hfk.cell (fun h => h)) rfl rfl) ⟨sqT, hM_⟩
  ·intro D V w_ hd hi hM_
   refine sqG [(22, .int .i64 x), (28, .int .i64 y)] rfl rfl rfl ?_
   exact run_val (.int .i64 (min x y)) (x_min rfl rfl) ⟨sqT, hM_⟩
  ·intro D V w_ hd hi hM_
   refine sqG [(0, .slice At m ct)] rfl rfl rfl ?_
   exact run_val (.slice At m ct) (rfl) ⟨sqT, hM_⟩
  ·intro D V w_ hd hi hM_
   refine sqG [(2, .int .i64 (i : Int))] rfl rfl rfl ?_
   exact run_val (.int .i64 (i : Int)) (rfl) ⟨sqT, hM_⟩
  ·intro D V w_ hd hi hM_
   refine sqG [(30, .slice At m ct), (31, .int .i64 (i : Int))] rfl rfl rfl ?_
   exact run_val (.pointer (some ((adr At).add (i * 1)))) (x_indexAddrN (i := i) (sz := 1) hAt.here (by omega) rfl rfl rfl rfl) ⟨sqT, hM_⟩
  ·intro D V w_ hd hi hM_
   refine sqG [(32, .pointer (some ((adr At).add (i * 1))))] rfl rfl rfl ?_
   exact run_val (.slice Ai ni ci) (x_load ((hM_).old hfi.top (fun h => h)) rfl rfl) ⟨sqT, hM_⟩
  ·intro D V w_ hd hi hM_
   refine sqG [(33, .slice Ai ni ci)] rfl rfl rfl ?_
   exact run_val (.pointer (some ((adr Ai).add (0 * 1)))) (x_indexAddrN (i := 0) (sz := 1) hfi.her.here (by omega) rfl rfl rfl rfl) ⟨sqT, hM_⟩
  ·intro D V w_ hd hi hM_
   refine sqG [(34, .pointer (some ((adr Ai).add (0 * 1))))] rfl rfl rfl ?_
   exact run_val (.int .i64 x) (x_load ((hM_).old hfi.cell (fun h => h)) rfl rfl) ⟨sqT, hM_⟩
  ·intro D V w_ hd hi hM_
   refine sqG [(0, .slice At m ct)] rfl rfl rfl ?_
   exact run_val (.slice At m ct) (rfl) ⟨sqT, hM_⟩
  ·intro D V w_ hd hi hM_
   refine sqG [(3, .int .i64 (k : Int))] rfl rfl rfl ?_
   exact run_val (.int .i64 (k : Int)) (rfl) ⟨sqT, hM_⟩
  ·intro D V w_ hd hi hM_
   refine sqG [(36, .slice At m ct), (37, .int .i64 (k : Int))] rfl rfl rfl ?_
   exact run_val (.pointer (some ((adr At).add (k * 1)))) (x_indexAddrN (i := k) (sz := 1) hAt.here (by omega) rfl rfl rfl rfl) ⟨sqT, hM_⟩
  ·intro D V w_ hd hi hM_
   refine sqG [(38, .pointer (some ((adr At).add (k * 1))))] rfl rfl rfl ?_
   exact run_val (.slice Ak nk ck) (x_load ((hM_).old hfk.top (fun h => h)) rfl rfl) ⟨sqT, hM_⟩
  ·intro D V w_ hd hi hM_
   refine sqG [(39, .slice Ak nk ck)] rfl rfl rfl ?_
   exact run_val (.pointer (some ((adr Ak).add (0 * 1)))) (x_indexAddrN (i := 0) (sz := 1) hfk.her.here (by omega) rfl rfl rfl rfl) ⟨sqT, hM_⟩
  ·intro D V w_ hd hi hM_
   refine sqG [(40, .pointer (some ((adr Ak).add (0 * 1))))] rfl rfl rfl ?_
   exact run_val (.int .i64 y) (x_load ((hM_).old hfk.cell (fun h => h)) rfl rfl) ⟨sqT, hM_⟩
  ·intro D V w_ hd hi hM_
   refine sqG [(35, .int .i64 x), (41, .int .i64 y)] rfl rfl rfl ?_
   exact run_val (.int .i64 (max x y)) (x_max rfl rfl) ⟨sqT, hM_⟩
  ·intro D V w_ hd hi hM_
   refine sqG [(29, .int .i64 (min x y))] rfl rfl rfl ?_
   exact run_val (.int .i64 (min x y)) (rfl) ⟨sqT, hM_⟩
 intro D V w1 hall hM2
 refine sqR [(0, .slice At m ct), (1, .slice (some ⟨tg, 0, none⟩) m m), (2, .int .i64 (i : Int)), (3, .int .i64 (k : Int)), (4, .int .i64 (a : Int)), (5, .int .i64 (b : Int)), (13, .int .i64 (min x y)), (42, .int .i64 (max x y))] rfl (sqV (.int .i64 (max x y)) rfl rfl rfl ?_)
 refine r_nil (e_then (k_seq ?_))
 refine k_drawP mixed [0, 0, 3, 7, 15, 31, 0, 0, 192, 448, 960, 1984, 4095, 0, 0, 24576, 57344, 122880, 253952, 0, 0, 1572864, 3670016, 7864320, 16252928, 33546240, 8191, 134217727] [some (Value.slice At m ct), some (Value.int .i64 (a : Int)), some (Value.pointer (some ((adr At).add (a * 1)))), some (Value.slice Aa na ca), some (Value.pointer (some ((adr Aa).add (0 * 1)))), some (Value.int .i64 u), some (Value.slice At m ct), some (Value.int .i64 (b : Int)), some (Value.pointer (some ((adr At).add (b * 1)))), some (Value.slice Ab nb cb), some (Value.pointer (some ((adr Ab).add (0 * 1)))), some (Value.int .i64 v), some (Value.int .i64 (min u v)), some (Value.slice At m ct), some (Value.int .i64 (a : Int)), some (Value.pointer (some ((adr At).add (a * 1)))), some (Value.slice Aa na ca), some (Value.pointer (some ((adr Aa).add (0 * 1)))), some (Value.int .i64 u), some (Value.slice At m ct), some (Value.int .i64 (b : Int)), some (Value.pointer (some ((adr At).add (b * 1)))), some (Value.slice Ab nb cb), some (Value.pointer (some ((adr Ab).add (0 * 1)))), some (Value.int .i64 v), some (Value.int .i64 (max u v)), some (Value.int .i64 (min u v))] (by kernel_rfl) 27 [] rfl rfl (by kernel_rfl) rfl (fun D V w_ => Mem w No w_ []) (fun V => hM2.drew) trivial ?_ ?_
 ·refine ⟨?_, ?_, ?_, ?_, ?_, ?_, ?_, ?_, ?_, ?_, ?_, ?_, ?_, ?_, ?_, ?_, ?_, ?_, ?_, ?_, ?_, ?_, ?_, ?_, ?_, ?_, ?_, trivial⟩
  ·intro D V w_ hd hi hM_
   refine sqG [(0, .slice At m ct)] rfl rfl rfl ?_
   exact run_val (.slice At m ct) (rfl) ⟨sqT, hM_⟩
  ·intro D V w_ hd hi hM_
   refine sqG [(4, .int .i64 (a : Int))] rfl rfl rfl ?_
   exact run_val (.int .i64 (a : Int)) (rfl) ⟨sqT, hM_⟩
  ·intro D V w_ hd hi hM_
   refine sqG [(43, .slice At m ct), (44, .int .i64 (a : Int))] rfl rfl rfl ?_
   exact run_val (.pointer (some ((adr At).add (a * 1)))) (x_indexAddrN (i := a) (sz := 1) hAt.here (by omega) rfl rfl rfl rfl) ⟨sqT, hM_⟩
  ·intro D V w_ hd hi hM_
   refine sqG [(45, .pointer (some ((adr At).add (a * 1))))] rfl rfl rfl ?_
   exact run_val (.slice Aa na ca) (x_load ((hM_).old hfa.top (fun h => h)) rfl rfl) ⟨sqT, hM_⟩
  ·intro D V w_ hd hi hM_
   refine sqG [(46, .slice Aa na ca)] rfl rfl rfl ?_
   exact run_val (.pointer (some ((adr Aa).add (0 * 1)))) (x_indexAddrN (i := 0) (sz := 1) hfa.her.here (by omega) rfl rfl rfl rfl) ⟨sqT, hM_⟩
  ·intro D V w_ hd hi hM_
   refine sqG [(47, .pointer (some ((adr Aa).add (0 * 1))))] rfl rfl rfl ?_
   exact run_val (.int .i64 u) (x_load ((hM_).old hfa.cell (fun h => h)) rfl rfl) ⟨sqT, hM_⟩
  ·intro D V w_ hd hi hM_
   refine sqG [(0, .slice At m ct)] rfl rfl rfl ?_
   exact run_val (.slice At m ct) (rfl) ⟨sqT, hM_⟩
  ·intro D V w_ hd hi hM_
   refine sqG [(5, .int .i64 (b : Int))] rfl rfl rfl ?_
   exact run_val (.int .i64 (b : Int)) (rfl) ⟨sqT, hM_⟩
  ·intro D V w_ hd hi hM_
   refine sqG [(49, .slice At m ct), (50, .int .i64 (b : Int))] rfl rfl rfl ?_
   exact run_val (.pointer (some ((adr At).add (b * 1)))) (x_indexAddrN (i := b) (sz := 1) hAt.here (by omega) rfl rfl rfl rfl) ⟨sqT, hM_⟩
  ·intro D V w_ hd hi hM_
   refine sqG [(51, .pointer (some ((adr At).add (b * 1))))] rfl rfl rfl ?_
   exact run_val (.slice Ab nb cb) (x_load ((hM_).old hfb.top (fun h => h)) rfl rfl) ⟨sqT, hM_⟩
  ·intro D V w_ hd hi hM_
   refine sqG [(52, .slice Ab nb cb)] rfl rfl rfl ?_
   exact run_val (.pointer (some ((adr Ab).add (0 * 1)))) (x_indexAddrN (i := 0) (sz := 1) hfb.her.here (by omega) rfl rfl rfl rfl) ⟨sqT, hM_⟩
  ·intro D V w_ hd hi hM_
   refine sqG [(53, .pointer (some ((adr Ab).add (0 * 1))))] rfl rfl rfl ?_
   exact run_val (.int .i64 v) (x_load ((hM_).old hfb.cell (fun h => h)) rfl rfl) ⟨sqT, hM_⟩
  ·intro D V w_ hd hi hM_
   refine sqG [(48, .int .i64 u), (54, .int .i64 v)] rfl rfl rfl ?_
   exact run_val (.int .i64 (min u v)) (x_min rfl rfl) ⟨sqT, hM_⟩
  ·intro D V w_ hd hi hM_
   refine sqG [(0, .slice At m ct)] rfl rfl rfl ?_
   exact run_val (.slice At m ct) (rfl) ⟨sqT, hM_⟩
  ·intro D V w_ hd hi hM_
   refine sqG [(4, .int .i64 (a : Int))] rfl rfl rfl ?_
   exact run_val (.int .i64 (a : Int)) (rfl) ⟨sqT, hM_⟩
  ·intro D V w_ hd hi hM_
   refine sqG [(56, .slice At m ct), (57, .int .i64 (a : Int))] rfl rfl rfl ?_
   exact run_val (.pointer (some ((adr At).add (a * 1)))) (x_indexAddrN (i := a) (sz := 1) hAt.here (by omega) rfl rfl rfl rfl) ⟨sqT, hM_⟩
  ·intro D V w_ hd hi hM_
   refine sqG [(58, .pointer (some ((adr At).add (a * 1))))] rfl rfl rfl ?_
   exact run_val (.slice Aa na ca) (x_load ((hM_).old hfa.top (fun h => h)) rfl rfl) ⟨sqT, hM_⟩
  ·intro D V w_ hd hi hM_
   refine sqG [(59, .slice Aa na ca)] rfl rfl rfl ?_
   exact run_val (.pointer (some ((adr Aa).add (0 * 1)))) (x_indexAddrN (i := 0) (sz := 1) hfa.her.here (by omega) rfl rfl rfl rfl) ⟨sqT, hM_⟩
  ·intro D V w_ hd hi hM_
   refine sqG [(60, .pointer (some ((adr Aa).add (0 * 1))))] rfl rfl rfl ?_
   exact run_val (.int .i64 u) (x_load ((hM_).old hfa.cell (fun h => h)) rfl rfl) ⟨sqT, hM_⟩
  ·intro D V w_ hd hi hM_
   refine sqG [(0, .slice At m ct)] rfl rfl rfl ?_
   exact run_val (.slice At m ct) (rfl) ⟨sqT, hM_⟩
  ·intro D V w_ hd hi hM_
   refine sqG [(5, .int .i64 (b : Int))] rfl rfl rfl ?_
   exact run_val (.int .i64 (b : Int)) (rfl) ⟨sqT, hM_⟩
  ·intro D V w_ hd hi hM_
   refine sqG [(62, .slice At m ct), (63, .int .i64 (b : Int))] rfl rfl rfl ?_
   exact run_val (.pointer (some ((adr At).add (b * 1)))) (x_indexAddrN (i := b) (sz := 1) hAt.here (by omega) rfl rfl rfl rfl) ⟨sqT, hM_⟩
  ·intro D V w_ hd hi hM_
   refine sqG [(64, .pointer (some ((adr At).add (b * 1))))] rfl rfl rfl ?_
   exact run_val (.slice Ab nb cb) (x_load ((hM_).old hfb.top (fun h => h)) rfl rfl) ⟨sqT, hM_⟩
  ·intro D V w_ hd hi hM_
   refine sqG [(65, .slice Ab nb cb)] rfl rfl rfl ?_
   exact run_val (.pointer (some ((adr Ab).add (0 * 1)))) (x_indexAddrN (i := 0) (sz := 1) hfb.her.here (by omega) rfl rfl rfl rfl) ⟨sqT, hM_⟩
  ·intro D V w_ hd hi hM_
   refine sqG [(66, .pointer (some ((adr Ab).add (0 * 1))))] rfl rfl rfl ?_
   exact run_val (.int .i64 v) (x_load ((hM_).old hfb.cell (fun h => h)) rfl rfl) ⟨sqT, hM_⟩
  ·intro D V w_ hd hi hM_
   refine sqG [(61, .int .i64 u), (67, .int .i64 v)] rfl rfl rfl ?_
   exact run_val (.int .i64 (max u v)) (x_max rfl rfl) ⟨sqT, hM_⟩
  ·intro D V w_ hd hi hM_
   refine sqG [(55, .int .i64 (min u v))] rfl rfl rfl ?_
   exact run_val (.int .i64 (min u v)) (rfl) ⟨sqT, hM_⟩
 intro D V w3 hall hM4
 refine sqR [(1, .slice (some ⟨tg, 0, none⟩) m m), (2, .int .i64 (i : Int)), (3, .int .i64 (k : Int)), (4, .int .i64 (a : Int)), (5, .int .i64 (b : Int)), (13, .int .i64 (min x y)), (14, .int .i64 (max x y)), (15, .int .i64 (min u v)), (68, .int .i64 (max u v))] rfl (sqV (.int .i64 (max u v)) rfl rfl rfl ?_)
 refine r_nil (e_then (k_seq ?_))
 refine k_drawP mixed [0, 0, 3, 7, 0, 31, 63, 0, 0, 384, 896, 0, 3968, 8064, 16383, 0, 0, 131071, 0, 0, 1048575, 2097151, 4194303, 8388607, 16777215] [some (Value.slice (some ⟨tg, 0, none⟩) m m), some (Value.int .i64 (i : Int)), some (Value.pointer (some ⟨tg, i, none⟩)), some (Value.slice (some ⟨ei, 0, none⟩) m m), some (Value.int .i64 (k : Int)), some (Value.pointer (some ⟨ei, k, none⟩)), some (Value.int .i64 g1), some (Value.slice (some ⟨tg, 0, none⟩) m m), some (Value.int .i64 (a : Int)), some (Value.pointer (some ⟨tg, a, none⟩)), some (Value.slice (some ⟨ea, 0, none⟩) m m), some (Value.int .i64 (b : Int)), some (Value.pointer (some ⟨ea, b, none⟩)), some (Value.int .i64 g2), some (Value.int .i64 (cmp3 g1 g2)), some (Value.int .i64 (min x y)), some (Value.int .i64 (min u v)), some (Value.int .i64 (cmp3 (min x y) (min u v))), some (Value.int .i64 (max x y)), some (Value.int .i64 (max u v))] (by kernel_rfl) 20 [] rfl rfl (by kernel_rfl) rfl (fun D V w_ => Mem w No w_ []) (fun V => hM4.drew) trivial ?_ ?_
 ·refine ⟨?_, ?_, ?_, ?_, ?_, ?_, ?_, ?_, ?_, ?_, ?_, ?_, ?_, ?_, ?_, ?_, ?_, ?_, ?_, ?_, trivial⟩
  ·intro D V w_ hd hi hM_
   refine sqG [(1, .slice (some ⟨tg, 0, none⟩) m m)] rfl rfl rfl ?_
   exact run_val (.slice (some ⟨tg, 0, none⟩) m m) (rfl) ⟨sqT, hM_⟩
  ·intro D V w_ hd hi hM_
   refine sqG [(2, .int .i64 (i : Int))] rfl rfl rfl ?_
   exact run_val (.int .i64 (i : Int)) (rfl) ⟨sqT, hM_⟩
  ·intro D V w_ hd hi hM_
   refine sqG [(69, .slice (some ⟨tg, 0, none⟩) m m), (70, .int .i64 (i : Int))] rfl rfl rfl ?_
   exact run_val (.pointer (some ⟨tg, i, none⟩)) (x_indexAddrL (i := i) (sz := 1) (by omega) rfl rfl rfl rfl (by omega)) ⟨sqT, hM_⟩
  ·intro D V w_ hd hi hM_
   refine sqG [(71, .pointer (some ⟨tg, i, none⟩))] rfl rfl rfl ?_
   exact run_val (.slice (some ⟨ei, 0, none⟩) m m) (x_load ((hM_).old hg1.top (fun h => h)) rfl rfl) ⟨sqT, hM_⟩
  ·intro D V w_ hd hi hM_
   refine sqG [(3, .int .i64 (k : Int))] rfl rfl rfl ?_
   exact run_val (.int .i64 (k : Int)) (rfl) ⟨sqT, hM_⟩
  ·intro D V w_ hd hi hM_
   refine sqG [(72, .slice (some ⟨ei, 0, none⟩) m m), (73, .int .i64 (k : Int))] rfl rfl rfl ?_
   exact run_val (.pointer (some ⟨ei, k, none⟩)) (x_indexAddrL (i := k) (sz := 1) (by omega) rfl rfl rfl rfl (by omega)) ⟨sqT, hM_⟩
  ·intro D V w_ hd hi hM_
   refine sqG [(74, .pointer (some ⟨ei, k, none⟩))] rfl rfl rfl ?_
   exact run_val (.int .i64 g1) (x_load ((hM_).old hg1.cell (fun h => h)) rfl rfl) ⟨sqT, hM_⟩
  ·intro D V w_ hd hi hM_
   refine sqG [(1, .slice (some ⟨tg, 0, none⟩) m m)] rfl rfl rfl ?_
   exact run_val (.slice (some ⟨tg, 0, none⟩) m m) (rfl) ⟨sqT, hM_⟩
  ·intro D V w_ hd hi hM_
   refine sqG [(4, .int .i64 (a : Int))] rfl rfl rfl ?_
   exact run_val (.int .i64 (a : Int)) (rfl) ⟨sqT, hM_⟩
  ·intro D V w_ hd hi hM_
   refine sqG [(76, .slice (some ⟨tg, 0, none⟩) m m), (77, .int .i64 (a : Int))] rfl rfl rfl ?_
   exact run_val (.pointer (some ⟨tg, a, none⟩)) (x_indexAddrL (i := a) (sz := 1) (by omega) rfl rfl rfl rfl (by omega)) ⟨sqT, hM_⟩
  ·intro D V w_ hd hi hM_
   refine sqG [(78, .pointer (some ⟨tg, a, none⟩))] rfl rfl rfl ?_
   exact run_val (.slice (some ⟨ea, 0, none⟩) m m) (x_load ((hM_).old hg2.top (fun h => h)) rfl rfl) ⟨sqT, hM_⟩
  ·intro D V w_ hd hi hM_
   refine sqG [(5, .int .i64 (b : Int))] rfl rfl rfl ?_
   exact run_val (.int .i64 (b : Int)) (rfl) ⟨sqT, hM_⟩
  ·intro D V w_ hd hi hM_
   refine sqG [(79, .slice (some ⟨ea, 0, none⟩) m m), (80, .int .i64 (b : Int))] rfl rfl rfl ?_
   exact run_val (.pointer (some ⟨ea, b, none⟩)) (x_indexAddrL (i := b) (sz := 1) (by omega) rfl rfl rfl rfl (by omega)) ⟨sqT, hM_⟩
  ·intro D V w_ hd hi hM_
   refine sqG [(81, .pointer (some ⟨ea, b, none⟩))] rfl rfl rfl ?_
   exact run_val (.int .i64 g2) (x_load ((hM_).old hg2.cell (fun h => h)) rfl rfl) ⟨sqT, hM_⟩
  ·intro D V w_ hd hi hM_
   refine sqG [(75, .int .i64 g1), (82, .int .i64 g2)] rfl rfl rfl ?_
   refine run_call (f := 33) (args := #[Value.int .i64 g1, Value.int .i64 g2]) (w' := w_) (x_call (vs := [Value.int .i64 g1, Value.int .i64 g2]) (enter33 _ _) rfl rfl) (compare_s g1 g2 w_) ?_
   rintro v_ w2_ ⟨rfl, hM2_⟩
   exact ⟨sqT, hM_.grow hM2_.kept⟩
  ·intro D V w_ hd hi hM_
   refine sqG [(13, .int .i64 (min x y))] rfl rfl rfl ?_
   exact run_val (.int .i64 (min x y)) (rfl) ⟨sqT, hM_⟩
  ·intro D V w_ hd hi hM_
   refine sqG [(15, .int .i64 (min u v))] rfl rfl rfl ?_
   exact run_val (.int .i64 (min u v)) (rfl) ⟨sqT, hM_⟩
  ·intro D V w_ hd hi hM_
   refine sqG [(84, .int .i64 (min x y)), (85, .int .i64 (min u v))] rfl rfl rfl ?_
   refine run_call (f := 33) (args := #[Value.int .i64 (min x y), Value.int .i64 (min u v)]) (w' := w_) (x_call (vs := [Value.int .i64 (min x y), Value.int .i64 (min u v)]) (enter33 _ _) rfl rfl) (compare_s (min x y) (min u v) w_) ?_
   rintro v_ w2_ ⟨rfl, hM2_⟩
   exact ⟨sqT, hM_.grow hM2_.kept⟩
  ·intro D V w_ hd hi hM_
   refine sqG [(14, .int .i64 (max x y))] rfl rfl rfl ?_
   exact run_val (.int .i64 (max x y)) (rfl) ⟨sqT, hM_⟩
  ·intro D V w_ hd hi hM_
   refine sqG [(16, .int .i64 (max u v))] rfl rfl rfl ?_
   exact run_val (.int .i64 (max u v)) (rfl) ⟨sqT, hM_⟩
 intro D V w9 hall hM10
 refine sqR [(83, .int .i64 (cmp3 g1 g2)), (86, .int .i64 (cmp3 (min x y) (min u v))), (87, .int .i64 (max x y)), (88, .int .i64 (max u v))] rfl (r_call (f := 33) (args := #[Value.int .i64 (max x y), Value.int .i64 (max u v)]) (w' := w9) rfl rfl (x_call (vs := [Value.int .i64 (max x y), Value.int .i64 (max u v)]) (enter33 _ _) rfl rfl) (compare_s (max x y) (max u v) w9) ?_)
 rintro v_ w11 ⟨rfl, hM12⟩
 replace hM12 := hM10.grow hM12.kept
 refine r_new (fun b => .slice (some ⟨b, 0, none⟩) 3 3) (.cells #[Value.int .i64 (cmp3 g1 g2), Value.int .i64 (cmp3 (min x y) (min u v)), Value.int .i64 (cmp3 (max x y) (max u v))] 3 (0, 0)) hM12 (by kernel_rfl) rfl rfl ?_
 intro b15 w13 hM14 hb15
 replace hM14 : Mem w No w13 [(b15, .cells #[Value.int .i64 (cmp3 g1 g2), Value.int .i64 (cmp3 (min x y) (min u v)), Value.int .i64 (cmp3 (max x y) (max u v))] 3 (0, 0))] := hM14
 refine r_call (f := 32) (args := #[Value.slice (some ⟨b15, 0, none⟩) 3 3]) (w' := w13) rfl rfl (x_call (vs := [Value.slice (some ⟨b15, 0, none⟩) 3 3]) (enter32 _ _) rfl rfl) (orI_s (some ⟨b15, 0, none⟩) 3 3 [cmp3 g1 g2, cmp3 (min x y) (min u v), cmp3 (max x y) (max u v)] w13 (OwnR.rdI (OwnR.lit 3 1 b15 3 _ (by decide) rfl) ⟨by simp, by simpa using hM14.get 0 rfl⟩) (by decide)) ?_
 rintro v_ w16 ⟨rfl, hM17⟩
 replace hM17 := hM14.grow hM17.kept
 refine sqV (.bool (decide ((firstN [cmp3 g1 g2, cmp3 (min x y) (min u v), cmp3 (max x y) (max u v)]) < 0))) rfl rfl rfl ?_
 refine sqV (.bool (decide ((firstN [cmp3 g1 g2, cmp3 (min x y) (min u v), cmp3 (max x y) (max u v)]) < 0))) rfl rfl rfl ?_
 refine r_nil (sqE [(12, .bool (decide ((firstN [cmp3 g1 g2, cmp3 (min x y) (min u v), cmp3 (max x y) (max u v)]) < 0)))] rfl (e_then (k_ret (e_ret1 rfl rfl ?_))))
 exact ⟨_, rfl, rfl, hM17.drop⟩


end Go.Proofs.Ytddacakmafdgdaa
end
section
/- The walk of the reference's clustering: small facts. -/
set_option linter.unusedVariables false
set_option linter.unusedSimpArgs false
namespace Go.Kn
open Go.RowKit Go.Proofs.Ytddacakmafdgdaa
def aI (o : Option (Nat × Nat)) : Int := match o with | none => -1 | some q => (q.1 : Int)
def bI (o : Option (Nat × Nat)) : Int := match o with | none => -1 | some q => (q.2 : Int)
theorem aI_neg {o : Option (Nat × Nat)} (h : aI o < 0) : o = none := by
  cases o with
  | none => rfl
  | some q => exfalso; simp only [aI] at h; omega
theorem aI_pos {o : Option (Nat × Nat)} (h : ¬ aI o < 0) : ∃ a b, o = some (a, b) := by
  cases o with
  | none => exact absurd (show aI none < 0 by decide) h
  | some q => exact ⟨q.1, q.2, rfl⟩
theorem fillG_0 {n : Nat} {g : Nat → Int} : rowC n (Value.int .i64) (fun _ => (0 : Int)) = rowC n (Value.int .i64) (fun q => if q < 0 then g q else 0) := by simp
theorem fillG_step {k : Nat} {g : Nat → Int} : (fun q => if q = k then g k else if q < k then g q else 0) = fun q => if q < k + 1 then g q else 0 := by
  funext q
  by_cases h1 : q = k
  · subst h1; rw [if_pos rfl, if_pos (by omega)]
  · rw [if_neg h1]
    by_cases h2 : q < k
    · rw [if_pos h2, if_pos (by omega)]
    · rw [if_neg h2, if_neg (by omega)]
theorem fillG_n {n : Nat} {g : Nat → Int} : rowC n (Value.int .i64) (fun q => if q < n then g q else 0) = rowC n (Value.int .i64) g := rowC_congr (fun p hp => by simp [hp])
theorem earlier_lt {K : List Nat} {i k a b xi xk xa xb : Nat} {g1 g2 : Int} (hs : K.Pairwise (· < ·)) (hi : K[i]? = some xi) (hk : K[k]? = some xk) (ha : K[a]? = some xa) (hb : K[b]? = some xb) (hik : i < k) (hab : a < b) (ho : a < i ∨ (a = i ∧ b < k)) :
    firstN [cmp3 g1 g2, cmp3 (min (xi : Int) (xk : Int)) (min (xa : Int) (xb : Int)), cmp3 (max (xi : Int) (xk : Int)) (max (xa : Int) (xb : Int))] < 0 ↔ g1 < g2 := by
  have h1 := (sidx_lt hs hi hk).2 hik
  have h2 := (sidx_lt hs ha hb).2 hab
  have h3 := sidx_lt hs ha hi
  have h4 := sidx_eq hs ha hi
  have h5 := sidx_lt hs hb hk
  rw [Int.min_eq_left (by omega : (xi : Int) ≤ xk), Int.min_eq_left (by omega : (xa : Int) ≤ xb), Int.max_eq_right (by omega : (xi : Int) ≤ xk), Int.max_eq_right (by omega : (xa : Int) ≤ xb)]
  have e2 : ¬ (xi : Int) < xa := by omega
  have e3 : (xi : Int) = xa → ¬ (xk : Int) < xb := by omega
  simp only [firstN, cmp3]
  repeat' split
  all_goals omega
theorem own_at {w : World} {e : TypeId} {A : Option Addr} {n c j : Nat} {xs : List Value} {L : Hp} {u : Value} (h : OwnR e 1 (.slice A n c) n xs L) (hL : Holds w L) (hj : xs[j]? = some u) : w.cell? ((adr A).add (j * 1)) = some u := by
  rw [Nat.mul_one]; exact h.cell hL j u hj
theorem row_here {r : RRow} {A : Option Addr} {c : Nat} (h : r.ok) (hv : r.v = .slice A r.xs.length c) : 0 < r.xs.length → A.isSome = true := by
  unfold RRow.ok at h
  rw [hv] at h
  obtain ⟨A', c', e, _, _, hA⟩ := h.slice
  injection e with e _ _
  subst e
  exact hA
theorem top_get {gs : List RRow} {j : Nat} {r : RRow} (h : gs[j]? = some r) : (topV gs)[j]? = some r.v := by simp [topV, h]
theorem first_at {w : World} {At : Option Addr} {m ct j nl x c : Nat} {A : Option Addr} {gs : List RRow} {Lt : Hp} {r : RRow} {f : Nat → Nat} (ht : OwnR tInts 1 (.slice At m ct) m (topV gs) Lt) (hLt : Holds w Lt) (hr : gs[j]? = some r) (hv : r.v = .slice A r.xs.length c) (hok : r.ok) (hL : Holds w r.L) (hx : r.xs = members nl f x) (hf : FOk nl f) (hk : isKey nl f x) : FirstAt w At j (x : Int) A r.xs.length c := by
  have hm := members_first hf hk
  have hrd := row_rd hok hv hL
  have hpos : 0 < r.xs.length := by rw [hx]; exact List.length_pos_iff.2 hm.2
  refine ⟨by rw [own_at ht hLt (top_get hr), hv], hpos, ⟨hrd.here⟩, ?_⟩
  have h0 : (natsI r.xs)[0]? = some (x : Int) := by
    have h1 := first_get (r := r) (by intro e; rw [e] at hpos; simp at hpos)
    rw [h1, firstOf_eq, hx, hm.1]
  exact hrd.first h0 rfl
theorem gap_at {w : World} {tg m i k : Nat} {G : Nat → Nat → Int} {rg : Nat → Nat} (h1 : w.cell? ⟨tg, i, none⟩ = some (.slice (some ⟨rg i, 0, none⟩) m m)) (h2 : w.cell? ⟨rg i, k, none⟩ = some (.int .i64 (G i k))) : GapAt w tg m i k (G i k) (rg i) := ⟨h1, h2⟩
section
variable {P : Program} {n : Nat} {ops : Array Oper} {Q : Exit → Act → World → Prop} {K : St} {w w0 : World} {S : Nat → Prop} {dst : Option Tmp} {type : TypeId} {pos : String} {after : Array Edge} {rest : List Oper}
theorem r_storeOwn2 {e t : TypeId} {x y : Operand} {A : Option Addr} {m c i : Nat} {xs : List Value} {Lt R : Hp} {v : Value} (E L9 : Hp) (h : OwnR e 1 (.slice A m c) m xs Lt) (hM : Mem w0 S w (E ++ (L9 ++ (Lt ++ R)))) (hi : i < m) (h1 : v.oneCell' = true) (hs : (sizeOf t).run P w = .ok 1 w)
    (hx : okOp n K ⟨dst, .store t x y, type, pos, after, none⟩ = true) (ha : K.ev x = .pointer (some ((adr A).add (i * 1)))) (hv : K.ev y = v)
    (hn : ∀ w' Lt', OwnR e 1 (.slice A m c) m (xs.set i v) Lt' → Mem w0 S w' (E ++ (L9 ++ (Lt' ++ R))) → wpR P n ops Q rest (K.put dst undef) w') : wpR P n ops Q (⟨dst, .store t x y, type, pos, after, none⟩ :: rest) K w := by
  have p : ∀ X : Hp, (E ++ (L9 ++ (X ++ R))).Perm (X ++ (E ++ (L9 ++ R))) := by
    intro X
    classical
    rw [List.perm_iff_count]
    intro q
    simp only [List.count_append]; omega
  exact r_storeOwn h (hM.perm (p Lt)) hi h1 hs hx ha hv (fun w' L' h2 h3 => hn w' L' h2 (h3.perm (p L').symm))
end
theorem Mem.outRow3 {w w0 : World} {S : Nat → Prop} {E Lt T1 T2 : Hp} {gs : List RRow} {a : Nat} {r : RRow} (h : Mem w0 S w (E ++ (Lt ++ (T1 ++ (T2 ++ gs.flatMap RRow.L))))) (hr : gs[a]? = some r) : Mem w0 S w (E ++ (r.L ++ (Lt ++ (T1 ++ (T2 ++ (gs.eraseIdx a).flatMap RRow.L))))) := by
  have := Mem.outRow (E := E) (X := Lt ++ (T1 ++ T2)) (by simpa only [List.append_assoc] using h) hr
  simpa only [List.append_assoc] using this
theorem sub_join3 {E Lt T1 T2 L9 : Hp} {gs : List RRow} {a b : Nat} {v : Value} {zs : List Nat} (ha : a < gs.length) (hb : b < gs.length) : SubP (E ++ (Lt ++ (T1 ++ (T2 ++ ((gs.set a ⟨v, zs, L9⟩).set b ⟨.slice none 0 0, [], []⟩).flatMap RRow.L)))) (E ++ (L9 ++ (Lt ++ (T1 ++ (T2 ++ (gs.eraseIdx a).flatMap RRow.L))))) := by
  have := sub_join (E := E) (Lt := Lt) (X := T1 ++ T2) (L9 := L9) (v := v) (zs := zs) ha hb
  simpa only [List.append_assoc] using this
/-! ### what comes out -/
def idN (l : List (List Int)) (p : Nat) : Nat := (idAt l p).toNat
def outTo (l : List (List Int)) (n : Nat) (f : Nat → Nat) (K : List Nat) (i : Nat) : List (List Nat) := ((K.take i).filter fun x => decide (f x = x)).map fun x => (members n f x).map (idN l)
theorem out_yes {l : List (List Int)} {n : Nat} {f : Nat → Nat} {K : List Nat} {i x : Nat} (hx : K[i]? = some x) (h : f x = x) : outTo l n f K (i + 1) = outTo l n f K i ++ [(members n f x).map (idN l)] := by
  unfold outTo
  rw [take_snoc' hx, List.filter_append, List.map_append]; simp [h]
theorem out_no {l : List (List Int)} {n : Nat} {f : Nat → Nat} {K : List Nat} {i x : Nat} (hx : K[i]? = some x) (h : f x ≠ x) : outTo l n f K (i + 1) = outTo l n f K i := by
  unfold outTo
  rw [take_snoc' hx, List.filter_append, List.map_append]; simp [h]
theorem out_len {l : List (List Int)} {n : Nat} {f : Nat → Nat} {K : List Nat} {i : Nat} : (outTo l n f K i).length ≤ i := by
  unfold outTo
  rw [List.length_map]
  exact Nat.le_trans (List.length_filter_le _ _) (List.length_take_le _ _)
theorem ids_natsI {l : List (List Int)} (hid : ∀ x ∈ l, 0 ≤ idOf x ∧ idOf x ≤ 1000000) {xs : List Nat} (hb : ∀ p ∈ xs, p < l.length) : natsI (xs.map (idN l)) = xs.map fun p => idOf (l.getD p []) := by
  unfold natsI
  rw [List.map_map]
  refine List.map_congr_left fun p hp => ?_
  have hlt := hb p hp
  have := hid l[p] (List.getElem_mem hlt)
  simp only [Function.comp, idN, idAt]
  rw [show l.getD p [] = l[p] by simp [hlt]]
  omega
theorem out_keys {n : Nat} {f : Nat → Nat} {K : List Nat} (hs : K.Pairwise (· < ·)) (hlt : ∀ x ∈ K, x < n) (hk : ∀ x, isKey n f x → x ∈ K) : (K.filter fun x => decide (f x = x)) = keysOf n f := by
  refine List.Perm.eq_of_pairwise (le := fun a b => a < b) (fun a b _ _ h1 h2 => absurd h1 (by omega)) (hs.filter _) (keysOf_sorted n f) ?_
  rw [List.perm_ext_iff_of_nodup ((hs.filter _).imp fun h => by omega) ((keysOf_sorted n f).imp fun h => by omega)]
  intro x
  rw [List.mem_filter, mem_keysOf]
  constructor
  · rintro ⟨h1, h2⟩; exact ⟨hlt x h1, by simpa using h2⟩
  · exact fun h => ⟨hk x h, by simp [h.2]⟩
/-- the rows that come out, sorted again, are the rows -/
theorem out_final {l : List (List Int)} {n : Nat} {f : Nat → Nat} {K : List Nat} {rows rows2 : List RRow} (hsd : sortedIds l) (hln : l.length = n) (hid : ∀ x ∈ l, 0 ≤ idOf x ∧ idOf x ≤ 1000000) (hf : FOk n f) (hs : K.Pairwise (· < ·)) (hlt : ∀ x ∈ K, x < n) (hk : ∀ x, isKey n f x → x ∈ K) (h : rows.map RRow.xs = outTo l n f K K.length) :
    (∀ r ∈ rows, r.xs ≠ []) ∧ (rows.Pairwise fun a b => firstOf a ≠ firstOf b) ∧ (∀ r ∈ rows, ∀ x ∈ r.xs, x ≤ 1000000) ∧ (rows2.Perm rows → (rows2.Pairwise fun a b => firstOf a < firstOf b) → rows2.map (fun r => natsI r.xs) = idsG l n f) := by
  have hK : outTo l n f K K.length = (keysOf n f).map fun x => (members n f x).map (idN l) := by unfold outTo; rw [List.take_length, out_keys hs hlt hk]
  rw [hK] at h
  have hm : ∀ r ∈ rows, ∃ x, isKey n f x ∧ r.xs = (members n f x).map (idN l) := by
    intro r hr
    have : r.xs ∈ rows.map RRow.xs := List.mem_map.2 ⟨r, hr, rfl⟩
    rw [h] at this
    obtain ⟨x, hx, he⟩ := List.mem_map.1 this
    exact ⟨x, mem_keysOf.1 hx, he.symm⟩
  have hidN : ∀ p, p < n → (idN l p : Int) = idAt l p := by
    intro p hp
    have hp' : p < l.length := by omega
    have := hid l[p] (List.getElem_mem hp')
    unfold idN idAt
    rw [show l.getD p [] = l[p] by simp [hp']]
    omega
  have hfst : ∀ x, isKey n f x → ((members n f x).map (idN l)).headD 0 = idN l x := by
    intro x hx
    obtain ⟨h1, h2⟩ := members_first hf hx
    cases hq : members n f x with
    | nil => exact absurd hq h2
    | cons a t => rw [hq] at h1; simp at h1; simp [h1]
  have hpw : ((keysOf n f).map fun x => (members n f x).map (idN l)).Pairwise fun a b => a.headD 0 < b.headD 0 := by
    rw [List.pairwise_map]
    refine List.Pairwise.imp_of_mem ?_ (keysOf_sorted n f)
    intro a b ha hb hab
    have hak := mem_keysOf.1 ha
    have hbk := mem_keysOf.1 hb
    rw [hfst a hak, hfst b hbk]
    have h1 := idAt_lt hsd hab (by rw [hln]; exact hbk.1)
    have h2 := hidN a hak.1
    have h3 := hidN b hbk.1
    omega
  have hrow : rows.Pairwise fun a b => firstOf a < firstOf b := by
    rw [← h, List.pairwise_map] at hpw
    exact hpw
  refine ⟨fun r hr => ?_, hrow.imp fun h => by omega, fun r hr x hx => ?_, fun hp hs2 => ?_⟩
  · obtain ⟨x, hx, he⟩ := hm r hr
    rw [he]
    intro e
    exact (members_first hf hx).2 (List.map_eq_nil_iff.1 e)
  · obtain ⟨y, hy, he⟩ := hm r hr
    rw [he] at hx
    obtain ⟨p, hp, rfl⟩ := List.mem_map.1 hx
    have hpn := (mem_members.1 hp).1
    have hp' : p < l.length := by omega
    have h1 := hidN p hpn
    have h2 := (hid l[p] (List.getElem_mem hp')).2
    unfold idAt at h1
    rw [show l.getD p [] = l[p] by simp [hp']] at h1
    omega
  · have e : rows2 = rows := List.Perm.eq_of_pairwise (le := fun a b => firstOf a < firstOf b) (fun a b _ _ h1 h2 => absurd h1 (by omega)) hs2 hrow hp
    rw [e]
    have e2 : rows.map (fun r => natsI r.xs) = (rows.map RRow.xs).map natsI := by rw [List.map_map]; rfl
    rw [e2, h, List.map_map]
    unfold idsG
    refine List.map_congr_left fun x hx => ?_
    exact ids_natsI hid (fun p hp => by rw [hln]; exact (mem_members.1 hp).1)
end Go.Kn
end
