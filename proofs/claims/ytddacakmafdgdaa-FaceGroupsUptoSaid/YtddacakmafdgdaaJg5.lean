/- Parts of the proof, laid together: Fm, Ga, Hs, Hd, KnP, Lw, Hn, Lx, FN, Ly, Lz, Ho. -/
import Derived.Test.YtddacakmafdgdaaJg4
import Derived.ChangeKeysEq
section
/- Fm: what Go functions of this seat come to, printed by walk.py over the engine. -/
set_option linter.unusedVariables false
set_option linter.unusedSimpArgs false
set_option maxRecDepth 100000
namespace Go.Proofs.Ytddacakmafdgdaa
open Go.RowKit Go.Kn

theorem concat_s (At : Option Addr) (m c : Nat) (es : List SRow) (w : World) (ht : RdE encR 1 w At m es) (hes : ∀ e ∈ es, RdE intE 1 w e.A e.xs.length e.xs) (hsz : (allXs es).length ≤ 1099511627776) (hm : m ≤ 1099511627776) :
  Calls Try.prog 26 #[Value.slice At m c] w fun e w' => ∃ r, e = .returned r ∧ ∃ L, OwnR tInt 1 r (allXs es).length ((allXs es).map (.int .i64)) L ∧ Mem w No w' L := by
 refine calls_k (args := [Value.slice At m c]) 36 [(0, Value.slice At m c)] Try.func26 rfl rfl ⟨rfl, trivial⟩ ?_
 have hM := Mem.nil w No
 have htl := ht.len
 refine k_seq (k_region (sqV (.slice none 0 0) rfl rfl rfl ?_))
 refine r_nil (e_then (k_seq (k_region (sqV (.int .i64 0) rfl rfl rfl ?_))))
 refine r_nil (e_then (k_seq (k_seq (k_region (sqV (.slice At m c) rfl rfl rfl ?_)))))
 refine sqV (.int .i64 (m : Int)) rfl rfl (x_len rfl rfl) ?_
 refine sqV (.int .i64 0) rfl rfl rfl ?_
 refine r_nil (e_then (k_block (k_loop (σ := Nat) (fun k => [(0, .slice At m c), (3, .int .i64 ((allXs (es.take k)).length : Int)), (9, .slice At m c), (10, .int .i64 (m : Int)), (11, .int .i64 (k : Int))]) (fun k w_ => Mem w No w_ [] ∧ k ≤ m) (fun k => m - k) 0 (sqS rfl) ⟨hM, Nat.zero_le _⟩ ?_)))
 rintro k w1 ⟨hM2, hk⟩
 refine sqK [(0, .slice At m c), (3, .int .i64 ((allXs (es.take k)).length : Int)), (9, .slice At m c), (10, .int .i64 (m : Int)), (11, .int .i64 (k : Int))] rfl (k_seq (k_region (sqV (.bool (decide ((k : Int) < (m : Int)))) rfl rfl rfl ?_)))
 refine r_nil (sqE [(0, .slice At m c), (3, .int .i64 ((allXs (es.take k)).length : Int)), (9, .slice At m c), (10, .int .i64 (m : Int)), (11, .int .i64 (k : Int)), (12, .bool (decide ((k : Int) < (m : Int))))] rfl (e_then (k_seq ?_)))
 refine k_cond rfl rfl (fun h => ?_) (fun h => ?_)
 ·try simp only [sqC] at h
  refine k_skip (e_then (k_seq (k_block (k_seq (k_region ?_)))))
  obtain ⟨e, he⟩ : ∃ e, es[k]? = some e := ⟨es[k]'(by omega), by simp⟩
  have hsn := allXs_snoc he
  have hle := allXs_le (es := es) (k + 1)
  rw [hsn, List.length_append] at hle
  refine sqV (.pointer (some ((adr At).add (k * 1)))) rfl rfl (x_indexAddrN (i := k) (sz := 1) ht.here (by omega) rfl rfl rfl rfl) ?_
  refine sqV (.slice e.A e.xs.length e.c) rfl rfl (x_load ((ht.up hM2).first he rfl) rfl rfl) ?_
  refine sqV (.slice e.A e.xs.length e.c) rfl rfl rfl ?_
  refine r_nil (e_then (k_seq (k_region (sqV (.int .i64 ((allXs (es.take k)).length : Int)) rfl rfl rfl ?_))))
  refine sqV (.slice e.A e.xs.length e.c) rfl rfl rfl ?_
  refine sqV (.int .i64 (e.xs.length : Int)) rfl rfl (x_len rfl rfl) ?_
  refine sqV (.int .i64 ((allXs (es.take (k + 1))).length : Int)) rfl rfl (x_addE (by rw [hsn, List.length_append]; omega) (by omega) (by rw [hsn, List.length_append]; omega) rfl rfl) ?_
  refine sqV (.int .i64 ((allXs (es.take (k + 1))).length : Int)) rfl rfl rfl ?_
  refine r_nil (e_then (k_seq (k_region (sqV (.int .i64 ((allXs (es.take (k + 1))).length : Int)) rfl rfl rfl ?_))))
  refine sqV (.bool (decide (((allXs (es.take (k + 1))).length : Int) < 0))) rfl rfl rfl ?_
  refine r_nil (e_then (k_cond_false rfl (congrArg Value.bool (decide_eq_false (by omega))) ?_))
  refine k_skip (e_blk (e_then (k_region (sqV (.int .i64 ((k : Int) + 1)) rfl rfl (x_addE rfl (by omega) (by omega) rfl rfl) ?_))))
  refine sqV (.int .i64 ((k : Int) + 1)) rfl rfl rfl ?_
  refine r_nil (sqE [(0, .slice At m c), (3, .int .i64 ((allXs (es.take (k + 1))).length : Int)), (9, .slice At m c), (10, .int .i64 (m : Int)), (11, .int .i64 ((k : Int) + 1))] rfl ?_)
  refine e_loop (k + 1) (sqS rfl) ?_ ?_
  ·exact ⟨hM2, by omega⟩
  ·(try dsimp only); omega
 ·try simp only [sqC] at h
  refine k_exit (e_then_exit (e_loop_exit (e_blk_exit (e_then (k_seq (k_region ?_))))))
  have hkm : es.take k = es := List.take_of_length_le (by omega)
  skip
  refine wpR_sub [(0, Value.slice At m c), (3, Value.int .i64 ((allXs es).length : Int)), (9, Value.slice At m c), (10, Value.int .i64 (m : Int)), (11, Value.int .i64 (k : Int)), (12, Value.bool (decide ((k : Int) < (m : Int))))] ⟨rfl, congrArg (fun z => some (Value.int .i64 ((allXs z).length : Int))) hkm, rfl, rfl, rfl, rfl, trivial⟩ ?_
  refine sqV (.int .i64 ((allXs es).length : Int)) rfl rfl rfl ?_
  refine r_call (f := 59) (args := #[Value.slice none 0 0, Value.int .i64 ((allXs es).length : Int)]) (w' := w1) rfl rfl (x_call (vs := [Value.slice none 0 0, Value.int .i64 ((allXs es).length : Int)]) (enter59 _ _) rfl rfl) (grow_s (allXs es).length w1 (by omega)) ?_
  rintro v_ w3 ⟨L1, hr0, hM4⟩
  replace hM4 : Mem w No w3 L1 := by simpa using Mem.call0 hM2.drop hM4
  obtain ⟨v1, rfl⟩ : ∃ v, v = v_ := ⟨_, rfl⟩
  refine sqV (v1) rfl rfl rfl ?_
  refine r_nil (e_then (k_seq (k_seq (k_region (sqV (.slice At m c) rfl rfl rfl ?_)))))
  refine sqV (.int .i64 (m : Int)) rfl rfl (x_len rfl rfl) ?_
  refine sqV (.int .i64 0) rfl rfl rfl ?_
  refine r_nil (e_then (k_block (k_loop (σ := Nat × Value × Hp) (fun ⟨k, v, L1⟩ => [(6, v), (25, .slice At m c), (26, .int .i64 (m : Int)), (27, .int .i64 (k : Int))]) (fun ⟨k, v, L1⟩ w_ => Mem w No w_ L1 ∧ k ≤ m ∧ OwnR tInt 1 v (allXs (es.take k)).length ((allXs (es.take k)).map (.int .i64)) L1) (fun ⟨k, v, L1⟩ => m - k) (0, v1, L1) (sqS rfl) ⟨hM4, Nat.zero_le _, hr0⟩ ?_)))
  rintro ⟨k, v, L1⟩ w5 ⟨hM6, hk, hr⟩
  refine sqK [(6, v), (25, .slice At m c), (26, .int .i64 (m : Int)), (27, .int .i64 (k : Int))] rfl (k_seq (k_region (sqV (.bool (decide ((k : Int) < (m : Int)))) rfl rfl rfl ?_)))
  refine r_nil (e_then (k_seq ?_))
  refine k_cond rfl rfl (fun h2 => ?_) (fun h2 => ?_)
  ·try simp only [sqC] at h2
   refine k_skip (e_then (k_seq (k_block (k_seq (k_region ?_)))))
   obtain ⟨e, he⟩ : ∃ e, es[k]? = some e := ⟨es[k]'(by omega), by simp⟩
   have hsn := allXs_snoc he
   have hle := allXs_le (es := es) (k + 1)
   rw [hsn, List.length_append] at hle
   have hre := hes e (List.mem_of_getElem? he)
   refine sqV (.pointer (some ((adr At).add (k * 1)))) rfl rfl (x_indexAddrN (i := k) (sz := 1) ht.here (by omega) rfl rfl rfl rfl) ?_
   refine sqV (.slice e.A e.xs.length e.c) rfl rfl (x_load ((ht.up hM6).first he rfl) rfl rfl) ?_
   have hM7 : Mem w No w5 (L1 ++ []) := by rw [List.append_nil]; exact hM6
   refine sqV (.slice e.A e.xs.length e.c) rfl rfl rfl ?_
   refine r_nil (sqE [(6, v), (8, .slice e.A e.xs.length e.c), (25, .slice At m c), (26, .int .i64 (m : Int)), (27, .int .i64 (k : Int))] rfl (e_then (k_region (sqV (v) rfl rfl rfl ?_))))
   refine sqV (.slice e.A e.xs.length e.c) rfl rfl rfl ?_
   refine r_append (bytes := 8) (z := .int .i64 0) (A := e.A) (m := e.xs.length) (c := e.c) (news := e.xs.map (.int .i64)) hr (hM7.perm (List.perm_append_comm_assoc ([] : Hp) L1 ([]))) (hre.here) (by simp) ((hre.up hM7).cellsI) (by simp [Value.oneCell']) (by omega) (by kernel_rfl) (by kernel_rfl) rfl (by decide) (by decide) rfl rfl rfl ?_
   intro v9 L9 w8 hr9 hM9
   replace hM9 := (hM9).perm (List.perm_append_comm_assoc L9 ([] : Hp) ([]))
   have hone_v9 := hr9.one
   replace hM9 : Mem w No w8 (L9 ++ ([])) := hM9
   refine sqV (v9) rfl rfl rfl ?_
   refine r_nil (e_blk (e_then (k_region (sqV (.int .i64 ((k : Int) + 1)) rfl rfl (x_addE rfl (by omega) (by omega) rfl rfl) ?_))))
   refine sqV (.int .i64 ((k : Int) + 1)) rfl rfl rfl ?_
   refine r_nil ?_
   refine e_loop (k + 1, v9, L9) (sqS rfl) ?_ ?_
   ·exact ⟨by simpa using hM9, by omega, by rw [hsn, List.map_append, List.length_append]; exact hr9⟩
   ·(try dsimp only); omega
  ·try simp only [sqC] at h2
   refine k_exit (e_then_exit (e_loop_exit (e_blk_exit (e_then (k_seq (k_region ?_))))))
   have hkm2 : es.take k = es := List.take_of_length_le (by omega)
   rw [hkm2] at hr
   refine sqV (v) rfl rfl rfl ?_
   refine sqV (v) rfl rfl rfl ?_
   refine r_nil (e_then (k_ret (e_ret1 rfl rfl ?_)))
   exact ⟨_, rfl, L1, hr, hM6⟩


end Go.Proofs.Ytddacakmafdgdaa
end
section
/- Gap: what it says. -/
set_option linter.unusedVariables false
set_option linter.unusedSimpArgs false
namespace Go.Kn
open Go.RowKit Go.Proofs.Ytddacakmafdgdaa
def gapErr (l : List (List Int)) (xs ys : List Int) : Int := if checkL l ≠ 0 then checkL l else if (xs ++ ys).all (atOk l) = false then 7 else if xs = [] ∨ ys = [] then 7 else 0
def GapL (l : List (List Int)) (xs ys : List Int) (D : Nat → Nat → Prop) (g : Int) : Prop :=
  ∀ v, v ≤ g ↔ v ≤ 774192 ∧ ∀ p q x y, D p q → xs[p]? = some x → ys[q]? = some y → v ≤ farAt l (atPos l x) (atPos l y)
/-- the least Far of two lists of Ids -/
def GapAll (l : List (List Int)) (xs ys : List Int) (g : Int) : Prop := ∀ v, v ≤ g ↔ v ≤ 774192 ∧ ∀ x ∈ xs, ∀ y ∈ ys, v ≤ farAt l (atPos l x) (atPos l y)
def upQ (i k : Nat) (p q : Nat) : Prop := p < i ∨ (p = i ∧ q < k)
section
variable {l : List (List Int)} {xs ys : List Int} {g : Int} {i k : Nat} {x y : Int}
theorem gapL_none : GapL l xs ys (upQ 0 0) 774192 := by
  intro v
  exact ⟨fun h => ⟨h, fun p q x y hd => by unfold upQ at hd; omega⟩, fun h => h.1⟩
theorem gapL_row (h : GapL l xs ys (upQ i k) g) (hk : ys.length ≤ k) : GapL l xs ys (upQ (i + 1) 0) g := by
  intro v
  rw [h v]
  constructor
  · rintro ⟨h1, h2⟩
    refine ⟨h1, fun p q x y hd hx hy => h2 p q x y ?_ hx hy⟩
    have := (List.getElem?_eq_some_iff.1 hy).1
    unfold upQ at *; omega
  · rintro ⟨h1, h2⟩
    exact ⟨h1, fun p q x y hd hx hy => h2 p q x y (by unfold upQ at *; omega) hx hy⟩
theorem gapL_step (h : GapL l xs ys (upQ i k) g) (hx : xs[i]? = some x) (hy : ys[k]? = some y) : GapL l xs ys (upQ i (k + 1)) (min g (farAt l (atPos l x) (atPos l y))) := by
  intro v
  rw [Int.le_min, h v]
  constructor
  · rintro ⟨⟨h1, h2⟩, h3⟩
    refine ⟨h1, fun p q x' y' hd hx' hy' => ?_⟩
    by_cases hold : upQ i k p q
    · exact h2 p q x' y' hold hx' hy'
    · have : p = i ∧ q = k := by unfold upQ at *; omega
      obtain ⟨rfl, rfl⟩ := this
      rw [hx] at hx'; rw [hy] at hy'
      injection hx' with hx'; injection hy' with hy'
      subst hx'; subst hy'
      exact h3
  · rintro ⟨h1, h2⟩
    exact ⟨⟨h1, fun p q x' y' hd => h2 p q x' y' (by unfold upQ at *; omega)⟩, h2 i k x y (by unfold upQ; omega) hx hy⟩
theorem gapL_all (h : GapL l xs ys (upQ xs.length 0) g) : GapAll l xs ys g := by
  intro v
  rw [h v]
  constructor
  · rintro ⟨h1, h2⟩
    refine ⟨h1, fun x hx y hy => ?_⟩
    obtain ⟨p, hp⟩ := List.mem_iff_getElem?.1 hx
    obtain ⟨q, hq⟩ := List.mem_iff_getElem?.1 hy
    exact h2 p q x y (.inl (List.getElem?_eq_some_iff.1 hp).1) hp hq
  · rintro ⟨h1, h2⟩
    exact ⟨h1, fun p q x y _ hx hy => h2 x (List.mem_of_getElem? hx) y (List.mem_of_getElem? hy)⟩
theorem gapErr_1 (h : checkL l ≠ 0) : gapErr l xs ys = checkL l := if_pos h
theorem gapErr_2 (h : checkL l = 0) {z : Int} (hz : z ∈ xs ++ ys) (h2 : atOk l z = false) : gapErr l xs ys = 7 := by
  unfold gapErr
  rw [eq_if h, if_pos]
  rw [List.all_eq_false]
  exact ⟨z, hz, by simp [h2]⟩
theorem gapErr_3 (h : checkL l = 0) (h2 : xs = [] ∨ ys = []) : gapErr l xs ys = 7 := by
  unfold gapErr
  rw [eq_if h, if_pos h2]
  split <;> rfl
theorem gapErr_0 (h : checkL l = 0) (h2 : ∀ z ∈ xs ++ ys, atOk l z = true) (h3 : ¬ (xs = [] ∨ ys = [])) : gapErr l xs ys = 0 := by
  unfold gapErr
  rw [eq_if h, if_neg, if_neg h3]
  simp only [Bool.not_eq_false, List.all_eq_true]
  exact h2
end
theorem concat2_s (bx : Nat) (A B : Option Addr) (ca cb : Nat) (xs ys : List Int) (e : TypeId) (w : World) (hx : w.heap[bx]? = some (.cells #[.slice A xs.length ca, .slice B ys.length cb] e (0, 0))) (ha : RdE intE 1 w A xs.length xs) (hb : RdE intE 1 w B ys.length ys) (h1 : xs.length ≤ 274877906944) (h2 : ys.length ≤ 274877906944) :
    Calls Go.Proofs.Try.prog 26 #[.slice (some ⟨bx, 0, none⟩) 2 2] w fun e w' => ∃ r, e = .returned r ∧ ∃ L, OwnR tInt 1 r (xs ++ ys).length ((xs ++ ys).map (.int .i64)) L ∧ Mem w No w' L := by
  have hal : allXs [⟨A, ca, xs⟩, ⟨B, cb, ys⟩] = xs ++ ys := by simp [allXs]
  have hlit := OwnR.lit e 1 bx 2 #[.slice A xs.length ca, .slice B ys.length cb] (by decide) rfl
  have hrd : RdE encR 1 w (some ⟨bx, 0, none⟩) 2 [⟨A, ca, xs⟩, ⟨B, cb, ys⟩] := OwnR.rd (enc := encR) hlit ⟨by simp, by simpa using hx⟩ (by simp) (by decide)
  have h := concat_s (some ⟨bx, 0, none⟩) 2 2 [⟨A, ca, xs⟩, ⟨B, cb, ys⟩] w hrd (by
    intro r hr
    simp at hr
    rcases hr with rfl | rfl
    · exact ha
    · exact hb) (by rw [hal, List.length_append]; omega) (by omega)
  rw [hal] at h
  exact h
end Go.Kn
end
section
/- Bonds and gaps as the reference has them: plain facts. -/
set_option linter.unusedVariables false
set_option linter.unusedSimpArgs false
namespace Go.Kn
open Go.RowKit Go.Proofs.Ytddacakmafdgdaa
section
variable {l : List (List Int)} {bs : List Bond3} {k : Nat} {b : Bond3} {f : Nat → Nat}
theorem apartR_yes (hb : bs[k]? = some b) (hm : b.must = false) (h : f (atPos l b.a) = f (atPos l b.b)) : apartBad f (notsOf l bs) = true :=
  List.any_eq_true.2 ⟨placeOf l b, List.mem_map.2 ⟨b, List.mem_filter.2 ⟨List.mem_of_getElem? hb, by simp [hm]⟩, rfl⟩, by simp [placeOf, h]⟩
theorem apartR_no (hb : bs[k]? = some b) (hm : b.must = false) (h : ¬ f (atPos l b.a) = f (atPos l b.b)) (h2 : apartBad f (notsOf l (bs.take k)) = false) : apartBad f (notsOf l (bs.take (k + 1))) = false := by
  rw [nots_snoc hb hm]
  unfold apartBad at *
  rw [List.any_append, h2]
  simp [placeOf, h]
theorem apartR_must (hb : bs[k]? = some b) (hm : b.must = true) (h2 : apartBad f (notsOf l (bs.take k)) = false) : apartBad f (notsOf l (bs.take (k + 1))) = false := by
  rw [nots_same hb hm]; exact h2
theorem checkB2_1 (h : 1000 < bs.length) : checkB2 l bs = 4 := if_pos h
theorem checkB2_2 (h : ¬ 1000 < bs.length) : checkB2 l bs = if bondsFrom l none bs ≠ 0 then bondsFrom l none bs else if apartBad (firstsOf l bs) (notsOf l bs) = true then 11 else 0 := if_neg h
theorem checkB2_a (h : ¬ 1000 < bs.length) {z : Int} (h1 : bondsFrom l none bs = z) (hz : z ≠ 0) : checkB2 l bs = z := by rw [checkB2_2 h, if_pos (by rw [h1]; exact hz), h1]
theorem checkB2_b (h : ¬ 1000 < bs.length) (h1 : bondsFrom l none bs = 0) (h2 : apartBad (firstsOf l bs) (notsOf l bs) = true) : checkB2 l bs = 11 := by rw [checkB2_2 h, eq_if h1, if_pos h2]
theorem checkB2_c (h : ¬ 1000 < bs.length) (h1 : bondsFrom l none bs = 0) (h2 : apartBad (firstsOf l bs) (notsOf l bs) = false) : checkB2 l bs = 0 := by rw [checkB2_2 h, eq_if h1, if_neg (by simp [h2])]
end
/-! ### gaps of lists of places -/
def GapP (l : List (List Int)) (ps qs : List Nat) (D : Nat → Nat → Prop) (g : Int) : Prop :=
  ∀ v, v ≤ g ↔ v ≤ 774193 ∧ ∀ i j p q, D i j → ps[i]? = some p → qs[j]? = some q → v ≤ farAt l p q
def GapPs (l : List (List Int)) (ps qs : List Nat) (g : Int) : Prop := ∀ v, v ≤ g ↔ v ≤ 774193 ∧ ∀ p ∈ ps, ∀ q ∈ qs, v ≤ farAt l p q
section
variable {l : List (List Int)} {ps qs : List Nat} {g : Int} {i k : Nat} {x y : Nat}
theorem gapP_none : GapP l ps qs (upQ 0 0) 774193 := by
  intro v
  exact ⟨fun h => ⟨h, fun p q x y hd => by unfold upQ at hd; omega⟩, fun h => h.1⟩
theorem gapP_row (h : GapP l ps qs (upQ i k) g) (hk : qs.length ≤ k) : GapP l ps qs (upQ (i + 1) 0) g := by
  intro v
  rw [h v]
  constructor
  · rintro ⟨h1, h2⟩
    refine ⟨h1, fun p q x y hd hx hy => h2 p q x y ?_ hx hy⟩
    have := (List.getElem?_eq_some_iff.1 hy).1
    unfold upQ at *; omega
  · rintro ⟨h1, h2⟩
    exact ⟨h1, fun p q x y hd hx hy => h2 p q x y (by unfold upQ at *; omega) hx hy⟩
theorem gapP_step (h : GapP l ps qs (upQ i k) g) (hx : ps[i]? = some x) (hy : qs[k]? = some y) : GapP l ps qs (upQ i (k + 1)) (min g (farAt l x y)) := by
  intro v
  rw [Int.le_min, h v]
  constructor
  · rintro ⟨⟨h1, h2⟩, h3⟩
    refine ⟨h1, fun p q x' y' hd hx' hy' => ?_⟩
    by_cases hold : upQ i k p q
    · exact h2 p q x' y' hold hx' hy'
    · have : p = i ∧ q = k := by unfold upQ at *; omega
      obtain ⟨rfl, rfl⟩ := this
      rw [hx] at hx'; rw [hy] at hy'
      injection hx' with hx'; injection hy' with hy'
      subst hx'; subst hy'
      exact h3
  · rintro ⟨h1, h2⟩
    exact ⟨⟨h1, fun p q x' y' hd => h2 p q x' y' (by unfold upQ at *; omega)⟩, h2 i k x y (by unfold upQ; omega) hx hy⟩
theorem gapP_all (h : GapP l ps qs (upQ ps.length 0) g) : GapPs l ps qs g := by
  intro v
  rw [h v]
  constructor
  · rintro ⟨h1, h2⟩
    refine ⟨h1, fun x hx y hy => ?_⟩
    obtain ⟨p, hp⟩ := List.mem_iff_getElem?.1 hx
    obtain ⟨q, hq⟩ := List.mem_iff_getElem?.1 hy
    exact h2 p q x y (.inl (List.getElem?_eq_some_iff.1 hp).1) hp hq
  · rintro ⟨h1, h2⟩
    exact ⟨h1, fun p q x y _ hx hy => h2 x (List.mem_of_getElem? hx) y (List.mem_of_getElem? hy)⟩
theorem gapPs_uniq {g g' : Int} (h : GapPs l ps qs g) (h' : GapPs l ps qs g') : g = g' := by
  have h1 := (h' g).2 ((h g).1 (Int.le_refl _))
  have h2 := (h g').2 ((h' g').1 (Int.le_refl _))
  omega
/-- the two gaps are one, where there are Ids -/
theorem gap_same {l : List (List Int)} (hgd : Good l) {xs ys : List Int} {g g' : Int} (hx : xs ≠ []) (hy : ys ≠ []) (hok : ∀ z ∈ xs ++ ys, atOk l z = true) (h : GapAll l xs ys g) (h' : GapPs l (xs.map (atPos l)) (ys.map (atPos l)) g') : g = g' := by
  obtain ⟨x, xr, rfl⟩ := List.exists_cons_of_ne_nil hx
  obtain ⟨y, yr, rfl⟩ := List.exists_cons_of_ne_nil hy
  have hfar : farAt l (atPos l x) (atPos l y) ≤ 774192 := by
    obtain ⟨u, hu, _⟩ := at_found hgd.sorted (hok x (by simp))
    obtain ⟨v, hv, _⟩ := at_found hgd.sorted (hok y (by simp))
    have := (farOf_bd (hgd.vec u (List.mem_of_getElem? hu)) (hgd.vec v (List.mem_of_getElem? hv))).2
    simpa [farAt, hu, hv] using this
  have e : ∀ v, (∀ x' ∈ x :: xr, ∀ y' ∈ y :: yr, v ≤ farAt l (atPos l x') (atPos l y')) ↔ ∀ p ∈ (x :: xr).map (atPos l), ∀ q ∈ (y :: yr).map (atPos l), v ≤ farAt l p q := by
    intro v
    constructor
    · intro h p hp q hq
      obtain ⟨a, ha, rfl⟩ := List.mem_map.1 hp
      obtain ⟨b, hb, rfl⟩ := List.mem_map.1 hq
      exact h a ha b hb
    · intro h a ha b hb
      exact h _ (List.mem_map.2 ⟨a, ha, rfl⟩) _ (List.mem_map.2 ⟨b, hb, rfl⟩)
  have key : ∀ v, v ≤ g ↔ v ≤ g' := by
    intro v
    rw [h v, h' v, e v]
    constructor
    · rintro ⟨h1, h2⟩; exact ⟨by omega, h2⟩
    · rintro ⟨h1, h2⟩
      have := h2 (atPos l x) (by simp) (atPos l y) (by simp)
      exact ⟨by omega, h2⟩
  have h1 := (key g).1 (Int.le_refl _)
  have h2 := (key g').2 (Int.le_refl _)
  omega
end
def gapErr2 (l : List (List Int)) (xs ys : List Int) : Int := if (xs ++ ys).all (atOk l) = false then 7 else if xs = [] ∨ ys = [] then 7 else 0
theorem gapErr_eq {l : List (List Int)} (h : checkL l = 0) {xs ys : List Int} : gapErr l xs ys = gapErr2 l xs ys := by unfold gapErr gapErr2; rw [eq_if h]
theorem gapErr2_2 {l : List (List Int)} {xs ys : List Int} {z : Int} (hz : z ∈ xs ++ ys) (h2 : atOk l z = false) : gapErr2 l xs ys = 7 := by
  unfold gapErr2
  rw [if_pos]
  rw [List.all_eq_false]
  exact ⟨z, hz, by simp [h2]⟩
theorem gapErr2_3 {l : List (List Int)} {xs ys : List Int} (h2 : xs = [] ∨ ys = []) : gapErr2 l xs ys = 7 := by
  unfold gapErr2
  rw [if_pos h2]
  split <;> rfl
theorem gapErr2_0 {l : List (List Int)} {xs ys : List Int} (h2 : ∀ z ∈ xs ++ ys, atOk l z = true) (h3 : ¬ (xs = [] ∨ ys = [])) : gapErr2 l xs ys = 0 := by
  unfold gapErr2
  rw [if_neg, if_neg h3]
  simp only [Bool.not_eq_false, List.all_eq_true]
  exact h2
theorem natsI_map {l : List (List Int)} {xs : List Int} : natsI (xs.map (atPos l)) = xs.map fun x => (atPos l x : Int) := by simp [natsI]
theorem rowV_set {n j : Nat} {h : Nat → Value} {v : Value} (hj : j < n) : (rowC n (fun v => v) h).setIfInBounds j v = rowC n (fun v => v) (fun q => if q = j then v else h q) := rowC_set (enc := fun v => v) hj
end Go.Kn
end
section
/- Hd: what Go functions of this seat come to, printed by walk.py over the engine. -/
set_option linter.unusedVariables false
set_option linter.unusedSimpArgs false
set_option maxRecDepth 100000
namespace Go.Proofs.Ytddacakmafdgdaa
open Go.RowKit Go.Kn

theorem bondsFault_s (Al Ab : Option Addr) (nl cl nb cb : Nat) (l : List (List Int)) (bs : List Bond3) (w : World) (hl : RdE intsE 14 w Al nl l) (hb : RdE bondE 3 w Ab nb bs) (hgd : Kn.Good l) (hnb : nb ≤ 1099511627776) :
  Calls Try.prog 10 #[Value.slice Al nl cl, Value.slice Ab nb cb] w fun e w' => ∃ r, e = .returned r ∧ r = .int .i64 (checkB2 l bs) ∧ Mem w No w' [] := by
 refine calls_k (args := [Value.slice Al nl cl, Value.slice Ab nb cb]) 96 [(0, Value.slice Al nl cl), (1, Value.slice Ab nb cb)] Try.func10 rfl rfl ⟨rfl, rfl, trivial⟩ ?_
 have hM := Mem.nil w No
 have hbl := hb.len
 have hll := hl.len
 have hl3 : nl ≤ 300 := by have := hgd.len; omega
 refine k_seq (k_region (sqV (.int .i64 0) rfl rfl rfl ?_))
 refine r_nil (e_then (k_seq (k_seq (k_region (sqV (.slice Ab nb cb) rfl rfl rfl ?_)))))
 refine sqV (.int .i64 (nb : Int)) rfl rfl (x_len rfl rfl) ?_
 refine sqV (.bool (decide ((nb : Int) > 1000))) rfl rfl rfl ?_
 refine r_nil (e_then ?_)
 refine k_cond rfl rfl (fun hbig => ?_) (fun hbig => ?_)
 ·try simp only [sqC] at hbig
  refine k_seq (k_region (sqV (.int .i64 4) rfl rfl rfl ?_))
  refine r_nil (e_then (k_ret (e_then_ret (e_ret1 rfl rfl ?_))))
  exact ⟨_, rfl, by rw [checkB2_1 (by omega)], hM.drop⟩
 ·try simp only [sqC] at hbig
  refine k_skip (e_then (k_seq (k_seq (k_region ?_))))
  replace hbig : ¬ 1000 < bs.length := by omega
  refine sqV (.slice Ab nb cb) rfl rfl rfl ?_
  refine sqV (.int .i64 (nb : Int)) rfl rfl (x_len rfl rfl) ?_
  refine sqV (.int .i64 0) rfl rfl rfl ?_
  refine r_nil (sqE [(0, .slice Al nl cl), (1, .slice Ab nb cb), (13, .slice Ab nb cb), (14, .int .i64 (nb : Int)), (15, .int .i64 0)] rfl (e_then (k_block (k_loop (σ := Nat) (fun k => [(0, .slice Al nl cl), (1, .slice Ab nb cb), (13, .slice Ab nb cb), (14, .int .i64 (nb : Int)), (15, .int .i64 (k : Int))]) (fun k w_ => Mem w No w_ [] ∧ k ≤ nb ∧ bondsFrom l none bs = bondsFrom l (bprev bs k) (bs.drop k)) (fun k => nb - k) 0 (sqS rfl) ⟨hM, by omega, rfl⟩ ?_))))
  rintro k w1 ⟨hM2, hk, he⟩
  refine sqK [(0, .slice Al nl cl), (1, .slice Ab nb cb), (13, .slice Ab nb cb), (14, .int .i64 (nb : Int)), (15, .int .i64 (k : Int))] rfl (k_seq (k_region (sqV (.bool (decide ((k : Int) < (nb : Int)))) rfl rfl rfl ?_)))
  refine r_nil (e_then (k_seq ?_))
  refine k_cond rfl rfl (fun h1 => ?_) (fun h1 => ?_)
  ·try simp only [sqC] at h1
   refine k_skip (e_then (k_seq (k_block (k_seq (k_region ?_)))))
   obtain ⟨b, hbk⟩ : ∃ b, bs[k]? = some b := ⟨bs[k]'(by omega), by simp⟩
   have hat := bonds_at (l := l) hbk (bprev bs k)
   refine sqV (.int .i64 (k : Int)) rfl rfl rfl ?_
   refine sqV (.pointer (some ((adr Ab).add (k * 3)))) rfl rfl (x_indexAddrN (i := k) (sz := 3) hb.here (by omega) rfl rfl rfl rfl) ?_
   refine sqV (.agg (#[.int .i64 b.a, .int .i64 b.b, .bool b.must])) rfl rfl (x_loadElem (enc := bondE) (e := b) (hb.up hM2) hbk rfl rfl rfl) ?_
   refine r_alloc hM2 (z := Value.agg #[Value.int .i64 0, Value.int .i64 0, Value.bool false]) rfl rfl ?_
   intro b5 w3 hM4 hb5
   replace hM4 : Mem w No w3 [(b5, .cells #[Value.int .i64 0, Value.int .i64 0, Value.bool false] 35 (0, 0))] := hM4
   refine sqV (.int .i64 (k : Int)) rfl rfl rfl ?_
   refine r_storeRow (vs := (#[Value.int .i64 b.a, Value.int .i64 b.b, Value.bool b.must])) hM4 0 rfl (by rw [show (#[Value.int .i64 b.a, Value.int .i64 b.b, Value.bool b.must]).size = 3 from (by simp [ints_size, *])]; rfl) (by first | (simp [Value.oneCell']; done) | (simp only [List.mem_cons, List.not_mem_nil, or_false, forall_eq_or_imp, forall_eq]; (repeat' constructor) <;> first | assumption | rfl)) (by rw [show (#[Value.int .i64 b.a, Value.int .i64 b.b, Value.bool b.must]).size = 3 from (by simp [ints_size, *])]; rfl) rfl rfl rfl ?_
   intro w6 hM7
   replace hM7 : Mem w No w6 [(b5, .cells (#[Value.int .i64 b.a, Value.int .i64 b.b, Value.bool b.must]) 35 (0, 0))] := hM7
   refine r_nil (e_then (k_block (k_seq (k_region (sqV (.slice Al nl cl) rfl rfl rfl ?_)))))
   refine sqV (.pointer (some ⟨b5, 0, none⟩)) rfl rfl rfl ?_
   refine sqV (.int .i64 b.a) rfl rfl (x_load (hM7.cell 0 rfl rfl) rfl rfl) ?_
   refine r_call (f := 31) (args := #[Value.slice Al nl cl, Value.int .i64 b.a]) (w' := w6) rfl rfl (x_call (vs := [Value.slice Al nl cl, Value.int .i64 b.a]) (enter31 _ _) rfl rfl) (likeAt_s Al nl cl l b.a w6 (hl.up hM7) hgd.sorted hl3) ?_
   rintro v_ w8 ⟨rfl, hM9⟩
   replace hM9 := hM7.grow hM9.kept
   refine sqV (.bool (decide ((atI l b.a) < 0))) rfl rfl rfl ?_
   refine sqV (.bool (decide ((atI l b.a) < 0))) rfl rfl rfl ?_
   rcases Bool.eq_false_or_eq_true (decide ((atI l b.a) < 0)) with g0 | g0
   ·refine wpR_sub [(0, Value.slice Al nl cl), (1, Value.slice Ab nb cb), (5, Value.int .i64 (k : Int)), (6, Value.pointer (some ⟨b5, 0, none⟩)), (13, Value.slice Ab nb cb), (14, Value.int .i64 (nb : Int)), (15, Value.int .i64 (k : Int)), (26, Value.bool true)] ⟨rfl, rfl, rfl, rfl, rfl, rfl, rfl, congrArg (fun z => some (Value.bool z)) g0, trivial⟩ ?_
    have g0' := atI_neg.1 (of_decide_eq_true g0)
    have h2 : (!atOk l b.a || !atOk l b.b) = true := by rw [g0']; rfl
    refine r_no rfl rfl (by decide) rfl ?_
    refine r_no rfl rfl (by decide) rfl ?_
    refine r_no rfl rfl (by decide) rfl ?_
    refine r_no rfl rfl (by decide) rfl ?_
    refine r_no rfl rfl (by decide) rfl ?_
    refine sqV (.bool true) rfl rfl rfl ?_
    refine sqV (.bool true) rfl rfl rfl ?_
    refine r_nil (e_then (k_cond_true rfl rfl ?_))
    refine k_seq (k_region (sqV (.int .i64 7) rfl rfl rfl ?_))
    refine r_nil (sqE [(4, .int .i64 7)] rfl (e_then (k_ret (e_blk_ret (e_blk_ret (e_then_ret (e_loop_ret (e_blk_ret (e_then_ret (e_ret1 rfl rfl ?_))))))))))
    exact ⟨_, rfl, by rw [checkB2_a (z := 7) hbig (by rw [he, hat, bone_none h2]; rfl) (by decide)], hM9.drop⟩
   ·refine wpR_sub [(0, Value.slice Al nl cl), (1, Value.slice Ab nb cb), (5, Value.int .i64 (k : Int)), (6, Value.pointer (some ⟨b5, 0, none⟩)), (13, Value.slice Ab nb cb), (14, Value.int .i64 (nb : Int)), (15, Value.int .i64 (k : Int)), (26, Value.bool false)] ⟨rfl, rfl, rfl, rfl, rfl, rfl, rfl, congrArg (fun z => some (Value.bool z)) g0, trivial⟩ ?_
    refine r_yes rfl rfl ?_
    refine sqV (.slice Al nl cl) rfl rfl rfl ?_
    refine r_yes rfl rfl ?_
    refine sqV (.pointer (some ⟨b5, 1, none⟩)) rfl rfl rfl ?_
    refine r_yes rfl rfl ?_
    refine sqV (.int .i64 b.b) rfl rfl (x_load (hM9.cell 0 rfl rfl) rfl rfl) ?_
    refine r_yes rfl rfl ?_
    refine r_call (f := 31) (args := #[Value.slice Al nl cl, Value.int .i64 b.b]) (w' := w8) rfl rfl (x_call (vs := [Value.slice Al nl cl, Value.int .i64 b.b]) (enter31 _ _) rfl rfl) (likeAt_s Al nl cl l b.b w8 (hl.up hM9) hgd.sorted hl3) ?_
    rintro v_ w11 ⟨rfl, hM12⟩
    replace hM12 := hM9.grow hM12.kept
    refine r_yes rfl rfl ?_
    refine sqV (.bool (decide ((atI l b.b) < 0))) rfl rfl rfl ?_
    refine sqV (.bool (decide ((atI l b.b) < 0))) rfl rfl rfl ?_
    refine sqV (.bool (decide ((atI l b.b) < 0))) rfl rfl rfl ?_
    refine r_nil (e_then ?_)
    refine k_cond rfl rfl (fun h2b => ?_) (fun h2b => ?_)
    ·try simp only [sqC] at h2b
     refine k_seq (k_region ?_)
     have h2 : (!atOk l b.a || !atOk l b.b) = true := by rw [atI_neg.1 h2b]; simp
     refine sqV (.int .i64 7) rfl rfl rfl ?_
     refine r_nil (e_then (k_ret (e_blk_ret (e_blk_ret (e_then_ret (e_loop_ret (e_blk_ret (e_then_ret (e_ret1 rfl rfl ?_)))))))))
     exact ⟨_, rfl, by rw [checkB2_a (z := 7) hbig (by rw [he, hat, bone_none h2]; rfl) (by decide)], hM12.drop⟩
    ·try simp only [sqC] at h2b
     refine k_seq (k_region ?_)
     have hoa : atOk l b.a = true := by cases h9 : atOk l b.a with | true => rfl | false => have := atI_neg.2 h9; exact absurd this (of_decide_eq_false g0)
     have hob : atOk l b.b = true := by cases h9 : atOk l b.b with | true => rfl | false => have := atI_neg.2 h9; omega
     have h2 : (!atOk l b.a || !atOk l b.b) = false := by simp [hoa, hob]
     refine sqV (.pointer (some ⟨b5, 0, none⟩)) rfl rfl rfl ?_
     refine sqV (.int .i64 b.a) rfl rfl (x_load (hM12.cell 0 rfl rfl) rfl rfl) ?_
     refine sqV (.pointer (some ⟨b5, 1, none⟩)) rfl rfl rfl ?_
     refine sqV (.int .i64 b.b) rfl rfl (x_load (hM12.cell 0 rfl rfl) rfl rfl) ?_
     refine sqV (.bool (decide (b.a ≥ b.b))) rfl rfl rfl ?_
     refine sqV (.bool (decide (b.a ≥ b.b))) rfl rfl rfl ?_
     refine r_nil (e_then ?_)
     refine k_cond rfl rfl (fun h3 => ?_) (fun h3 => ?_)
     ·try simp only [sqC] at h3
      refine k_seq (k_region ?_)
      have h3 : b.b ≤ b.a := by omega
      refine sqV (.int .i64 1) rfl rfl rfl ?_
      refine r_nil (sqE [(4, .int .i64 1)] rfl (e_then (k_ret (e_blk_ret (e_blk_ret (e_then_ret (e_loop_ret (e_blk_ret (e_then_ret (e_ret1 rfl rfl ?_))))))))))
      exact ⟨_, rfl, by rw [checkB2_a (z := 1) hbig (by rw [he, hat, bone_form h2 h3]; rfl) (by decide)], hM12.drop⟩
     ·try simp only [sqC] at h3
      refine k_seq ?_
      have h3 : ¬ b.b ≤ b.a := by omega
      rcases Bool.eq_false_or_eq_true (decide ((k : Int) > 0)) with g1 | g1
      ·skip
       have hk0 : 0 < k := by simpa using g1
       obtain ⟨q, hq⟩ : ∃ q, bs[k - 1]? = some q := ⟨bs[k - 1]'(by omega), by simp⟩
       have hp := bprev_at hq hk0
       refine k_drawP mixed [0, 1, 3, 7, 15, 7, 7, 71, 231, 487, 999, 2047, 7, 4103, 7, 7, 32775, 114695, 245767, 507911, 1048575, 2097151, 4194303, 8388607, 16777215, 33554431] [some (Value.int .i64 (k : Int)), some (Value.bool true), some (Value.bool true), some (Value.pointer (some ⟨b5, 0, none⟩)), some (Value.int .i64 b.a), some (Value.slice Ab nb cb), some (Value.int .i64 (k : Int)), some (Value.int .i64 ((k - 1 : Nat) : Int)), some (Value.pointer (some ((adr Ab).add ((k - 1 : Nat) * 3)))), some (Value.pointer (some ((adr Ab).add ((k - 1 : Nat) * 3)))), some (Value.int .i64 q.a), some (Value.int .i64 (cmp3 b.a q.a)), some (Value.pointer (some ⟨b5, 1, none⟩)), some (Value.int .i64 b.b), some (Value.slice Ab nb cb), some (Value.int .i64 (k : Int)), some (Value.int .i64 ((k - 1 : Nat) : Int)), some (Value.pointer (some ((adr Ab).add ((k - 1 : Nat) * 3)))), some (Value.pointer (some (((adr Ab).add ((k - 1 : Nat) * 3)).add 1))), some (Value.int .i64 q.b)] (by kernel_rfl) 20 [] rfl rfl (by kernel_rfl) rfl (fun D V w_ => Mem w No w_ [(b5, .cells (#[Value.int .i64 b.a, Value.int .i64 b.b, Value.bool b.must]) 35 (0, 0))]) (fun V => hM12.drew) trivial ?_ ?_
       ·refine ⟨?_, ?_, ?_, ?_, ?_, ?_, ?_, ?_, ?_, ?_, ?_, ?_, ?_, ?_, ?_, ?_, ?_, ?_, ?_, ?_, trivial⟩
        ·intro D V w_ hd hi hM_
         refine sqG [(5, .int .i64 (k : Int))] rfl rfl rfl ?_
         exact run_val (.int .i64 (k : Int)) (rfl) ⟨sqT, hM_⟩
        ·intro D V w_ hd hi hM_
         refine sqG [(40, .int .i64 (k : Int))] rfl rfl rfl ?_
         exact run_val (.bool true) (Eq.trans (rfl) (congrArg (fun z => Result.ok (Next.value (Value.bool z)) w_) g1)) ⟨sqT, hM_⟩
        ·intro D V w_ hd hi hM_
         refine sqG [(41, .bool true)] rfl rfl rfl ?_
         exact run_val (.bool true) (rfl) ⟨sqT, hM_⟩
        ·intro D V w_ hd hi hM_
         refine goal_yes [(6, Value.pointer (some ⟨b5, 0, none⟩))] rfl rfl ⟨rfl, trivial⟩ rfl ?_
         exact run_val (.pointer (some ⟨b5, 0, none⟩)) (rfl) ⟨sqT, hM_⟩
        ·intro D V w_ hd hi hM_
         refine goal_yes [(43, Value.pointer (some ⟨b5, 0, none⟩))] rfl rfl ⟨rfl, trivial⟩ rfl ?_
         exact run_val (.int .i64 b.a) (x_load (hM_.cell 0 rfl rfl) rfl rfl) ⟨sqT, hM_⟩
        ·intro D V w_ hd hi hM_
         refine goal_yes [(1, Value.slice Ab nb cb)] rfl rfl ⟨rfl, trivial⟩ rfl ?_
         exact run_val (.slice Ab nb cb) (rfl) ⟨sqT, hM_⟩
        ·intro D V w_ hd hi hM_
         refine goal_yes [(5, Value.int .i64 (k : Int))] rfl rfl ⟨rfl, trivial⟩ rfl ?_
         exact run_val (.int .i64 (k : Int)) (rfl) ⟨sqT, hM_⟩
        ·intro D V w_ hd hi hM_
         refine goal_yes [(46, Value.int .i64 (k : Int))] rfl rfl ⟨rfl, trivial⟩ rfl ?_
         exact run_val (.int .i64 ((k - 1 : Nat) : Int)) (x_subE (by omega) (by omega) (by omega) rfl rfl) ⟨sqT, hM_⟩
        ·intro D V w_ hd hi hM_
         refine goal_yes [(45, Value.slice Ab nb cb), (47, Value.int .i64 ((k - 1 : Nat) : Int))] rfl rfl ⟨rfl, rfl, trivial⟩ rfl ?_
         exact run_val (.pointer (some ((adr Ab).add ((k - 1 : Nat) * 3)))) (x_indexAddrN (i := (k - 1 : Nat)) (sz := 3) hb.here (by omega) rfl rfl rfl rfl) ⟨sqT, hM_⟩
        ·intro D V w_ hd hi hM_
         refine goal_yes [(48, Value.pointer (some ((adr Ab).add ((k - 1 : Nat) * 3))))] rfl rfl ⟨rfl, trivial⟩ rfl ?_
         exact run_val (.pointer (some ((adr Ab).add ((k - 1 : Nat) * 3)))) (rfl) ⟨sqT, hM_⟩
        ·intro D V w_ hd hi hM_
         refine goal_yes [(49, Value.pointer (some ((adr Ab).add ((k - 1 : Nat) * 3))))] rfl rfl ⟨rfl, trivial⟩ rfl ?_
         exact run_val (.int .i64 q.a) (x_load ((hb.up hM_).first hq rfl) rfl rfl) ⟨sqT, hM_⟩
        ·intro D V w_ hd hi hM_
         refine goal_yes [(44, Value.int .i64 b.a), (50, Value.int .i64 q.a)] rfl rfl ⟨rfl, rfl, trivial⟩ rfl ?_
         refine run_call (f := 33) (args := #[Value.int .i64 b.a, Value.int .i64 q.a]) (w' := w_) (x_call (vs := [Value.int .i64 b.a, Value.int .i64 q.a]) (enter33 _ _) rfl rfl) (compare_s b.a q.a w_) ?_
         rintro v_ w2_ ⟨rfl, hM2_⟩
         exact ⟨sqT, hM_.grow hM2_.kept⟩
        ·intro D V w_ hd hi hM_
         refine goal_yes [(6, Value.pointer (some ⟨b5, 0, none⟩))] rfl rfl ⟨rfl, trivial⟩ rfl ?_
         exact run_val (.pointer (some ⟨b5, 1, none⟩)) (rfl) ⟨sqT, hM_⟩
        ·intro D V w_ hd hi hM_
         refine goal_yes [(52, Value.pointer (some ⟨b5, 1, none⟩))] rfl rfl ⟨rfl, trivial⟩ rfl ?_
         exact run_val (.int .i64 b.b) (x_load (hM_.cell 0 rfl rfl) rfl rfl) ⟨sqT, hM_⟩
        ·intro D V w_ hd hi hM_
         refine goal_yes [(1, Value.slice Ab nb cb)] rfl rfl ⟨rfl, trivial⟩ rfl ?_
         exact run_val (.slice Ab nb cb) (rfl) ⟨sqT, hM_⟩
        ·intro D V w_ hd hi hM_
         refine goal_yes [(5, Value.int .i64 (k : Int))] rfl rfl ⟨rfl, trivial⟩ rfl ?_
         exact run_val (.int .i64 (k : Int)) (rfl) ⟨sqT, hM_⟩
        ·intro D V w_ hd hi hM_
         refine goal_yes [(55, Value.int .i64 (k : Int))] rfl rfl ⟨rfl, trivial⟩ rfl ?_
         exact run_val (.int .i64 ((k - 1 : Nat) : Int)) (x_subE (by omega) (by omega) (by omega) rfl rfl) ⟨sqT, hM_⟩
        ·intro D V w_ hd hi hM_
         refine goal_yes [(54, Value.slice Ab nb cb), (56, Value.int .i64 ((k - 1 : Nat) : Int))] rfl rfl ⟨rfl, rfl, trivial⟩ rfl ?_
         exact run_val (.pointer (some ((adr Ab).add ((k - 1 : Nat) * 3)))) (x_indexAddrN (i := (k - 1 : Nat)) (sz := 3) hb.here (by omega) rfl rfl rfl rfl) ⟨sqT, hM_⟩
        ·intro D V w_ hd hi hM_
         refine goal_yes [(57, Value.pointer (some ((adr Ab).add ((k - 1 : Nat) * 3))))] rfl rfl ⟨rfl, trivial⟩ rfl ?_
         exact run_val (.pointer (some (((adr Ab).add ((k - 1 : Nat) * 3)).add 1))) (rfl) ⟨sqT, hM_⟩
        ·intro D V w_ hd hi hM_
         refine goal_yes [(58, Value.pointer (some (((adr Ab).add ((k - 1 : Nat) * 3)).add 1)))] rfl rfl ⟨rfl, trivial⟩ rfl ?_
         exact run_val (.int .i64 q.b) (x_load ((hb.up hM_).elem hq 1 _ rfl) rfl rfl) ⟨sqT, hM_⟩
       intro D V w16 hall hM17
       refine sqR [(0, .slice Al nl cl), (1, .slice Ab nb cb), (13, .slice Ab nb cb), (14, .int .i64 (nb : Int)), (15, .int .i64 (k : Int)), (42, .bool true), (51, .int .i64 (cmp3 b.a q.a)), (53, .int .i64 b.b), (59, .int .i64 q.b)] rfl (r_yes rfl rfl ?_)
       refine r_call (f := 33) (args := #[Value.int .i64 b.b, Value.int .i64 q.b]) (w' := w16) rfl rfl (x_call (vs := [Value.int .i64 b.b, Value.int .i64 q.b]) (enter33 _ _) rfl rfl) (compare_s b.b q.b w16) ?_
       rintro v_ w18 ⟨rfl, hM19⟩
       replace hM19 := hM17.grow hM19.kept
       refine r_yes rfl rfl ?_
       refine r_new (fun b => .slice (some ⟨b, 0, none⟩) 2 2) (.cells #[Value.int .i64 (cmp3 b.a q.a), Value.int .i64 (cmp3 b.b q.b)] 3 (0, 0)) hM19 (by kernel_rfl) rfl rfl ?_
       intro b22 w20 hM21 hb22
       replace hM21 : Mem w No w20 [(b22, .cells #[Value.int .i64 (cmp3 b.a q.a), Value.int .i64 (cmp3 b.b q.b)] 3 (0, 0)), (b5, .cells (#[Value.int .i64 b.a, Value.int .i64 b.b, Value.bool b.must]) 35 (0, 0))] := hM21
       refine r_yes rfl rfl ?_
       refine r_call (f := 32) (args := #[Value.slice (some ⟨b22, 0, none⟩) 2 2]) (w' := w20) rfl rfl (x_call (vs := [Value.slice (some ⟨b22, 0, none⟩) 2 2]) (enter32 _ _) rfl rfl) (orI_s (some ⟨b22, 0, none⟩) 2 2 [cmp3 b.a q.a, cmp3 b.b q.b] w20 (OwnR.rdI (OwnR.lit 3 1 b22 2 _ (by decide) rfl) ⟨by simp, by simpa using hM21.get 0 rfl⟩) (by decide)) ?_
       rintro v_ w23 ⟨rfl, hM24⟩
       replace hM24 := hM21.grow hM24.kept
       refine r_yes rfl rfl ?_
       refine sqV (.bool (decide ((firstN [cmp3 b.a q.a, cmp3 b.b q.b]) ≤ 0))) rfl rfl rfl ?_
       refine sqV (.bool (decide ((firstN [cmp3 b.a q.a, cmp3 b.b q.b]) ≤ 0))) rfl rfl rfl ?_
       refine sqV (.bool (decide ((firstN [cmp3 b.a q.a, cmp3 b.b q.b]) ≤ 0))) rfl rfl rfl ?_
       refine r_nil (e_then ?_)
       refine k_cond rfl rfl (fun h4 => ?_) (fun h4 => ?_)
       ·try simp only [sqC] at h4
        refine k_seq (k_region ?_)
        have h4' := cmp_after.1 h4
        refine sqV (.int .i64 5) rfl rfl rfl ?_
        refine r_nil (e_then (k_ret (e_blk_ret (e_blk_ret (e_then_ret (e_loop_ret (e_blk_ret (e_then_ret (e_ret1 rfl rfl ?_)))))))))
        exact ⟨_, rfl, by rw [checkB2_a (z := 5) hbig (by rw [he, hat, bone_order h2 h3 (by rw [hp]; simp [bAfter]; exact h4')]; rfl) (by decide)], hM24.drop⟩
       ·try simp only [sqC] at h4
        refine k_skip (e_blk (e_blk (e_then (k_region ?_))))
        have h4' : ¬ (b.a < q.a ∨ (b.a = q.a ∧ b.b ≤ q.b)) := fun h9 => absurd (cmp_after.2 h9) (by omega)
        refine sqV (.int .i64 ((k : Int) + 1)) rfl rfl (x_addE rfl (by omega) (by omega) rfl rfl) ?_
        refine sqV (.int .i64 ((k : Int) + 1)) rfl rfl rfl ?_
        refine r_nil ?_
        refine e_loop (k + 1) (sqS rfl) ?_ ?_
        ·exact ⟨hM24.drop, by omega, by rw [he, hat, bone_ok h2 h3 (by rw [hp]; simp [bAfter]; omega)]; rfl⟩
        ·(try dsimp only); omega
      ·skip
       have hk0 : k = 0 := by simp at g1; omega
       refine k_drawP mixed [0, 1, 3, 7, 15, 7, 7, 71, 231, 487, 999, 2047, 7, 4103, 7, 7, 32775, 114695, 245767, 507911, 1048575, 2097151, 4194303, 8388607, 16777215, 33554431] [some (Value.int .i64 (k : Int)), some (Value.bool false), some (Value.bool false), some (undef), some (undef), some (undef), some (undef), some (undef), some (undef), some (undef), some (undef), some (undef), some (undef), some (undef), some (undef), some (undef), some (undef), some (undef), some (undef), some (undef)] (by kernel_rfl) 20 [] rfl rfl (by kernel_rfl) rfl (fun D V w_ => Mem w No w_ [(b5, .cells (#[Value.int .i64 b.a, Value.int .i64 b.b, Value.bool b.must]) 35 (0, 0))]) (fun V => hM12.drew) trivial ?_ ?_
       ·refine ⟨?_, ?_, ?_, ?_, ?_, ?_, ?_, ?_, ?_, ?_, ?_, ?_, ?_, ?_, ?_, ?_, ?_, ?_, ?_, ?_, trivial⟩
        ·intro D V w_ hd hi hM_
         refine sqG [(5, .int .i64 (k : Int))] rfl rfl rfl ?_
         exact run_val (.int .i64 (k : Int)) (rfl) ⟨sqT, hM_⟩
        ·intro D V w_ hd hi hM_
         refine sqG [(40, .int .i64 (k : Int))] rfl rfl rfl ?_
         exact run_val (.bool false) (Eq.trans (rfl) (congrArg (fun z => Result.ok (Next.value (Value.bool z)) w_) g1)) ⟨sqT, hM_⟩
        ·intro D V w_ hd hi hM_
         refine sqG [(41, .bool false)] rfl rfl rfl ?_
         exact run_val (.bool false) (rfl) ⟨sqT, hM_⟩
        ·intro D V w_ hd hi hM_
         exact goal_no rfl rfl (by decide) ⟨sqT, hM_⟩
        ·intro D V w_ hd hi hM_
         exact goal_no rfl rfl (by decide) ⟨sqT, hM_⟩
        ·intro D V w_ hd hi hM_
         exact goal_no rfl rfl (by decide) ⟨sqT, hM_⟩
        ·intro D V w_ hd hi hM_
         exact goal_no rfl rfl (by decide) ⟨sqT, hM_⟩
        ·intro D V w_ hd hi hM_
         exact goal_no rfl rfl (by decide) ⟨sqT, hM_⟩
        ·intro D V w_ hd hi hM_
         exact goal_no rfl rfl (by decide) ⟨sqT, hM_⟩
        ·intro D V w_ hd hi hM_
         exact goal_no rfl rfl (by decide) ⟨sqT, hM_⟩
        ·intro D V w_ hd hi hM_
         exact goal_no rfl rfl (by decide) ⟨sqT, hM_⟩
        ·intro D V w_ hd hi hM_
         exact goal_no rfl rfl (by decide) ⟨sqT, hM_⟩
        ·intro D V w_ hd hi hM_
         exact goal_no rfl rfl (by decide) ⟨sqT, hM_⟩
        ·intro D V w_ hd hi hM_
         exact goal_no rfl rfl (by decide) ⟨sqT, hM_⟩
        ·intro D V w_ hd hi hM_
         exact goal_no rfl rfl (by decide) ⟨sqT, hM_⟩
        ·intro D V w_ hd hi hM_
         exact goal_no rfl rfl (by decide) ⟨sqT, hM_⟩
        ·intro D V w_ hd hi hM_
         exact goal_no rfl rfl (by decide) ⟨sqT, hM_⟩
        ·intro D V w_ hd hi hM_
         exact goal_no rfl rfl (by decide) ⟨sqT, hM_⟩
        ·intro D V w_ hd hi hM_
         exact goal_no rfl rfl (by decide) ⟨sqT, hM_⟩
        ·intro D V w_ hd hi hM_
         exact goal_no rfl rfl (by decide) ⟨sqT, hM_⟩
       intro D V w25 hall hM26
       refine sqR [(0, .slice Al nl cl), (1, .slice Ab nb cb), (13, .slice Ab nb cb), (14, .int .i64 (nb : Int)), (15, .int .i64 (k : Int)), (42, .bool false), (51, undef), (53, undef), (59, undef)] rfl (r_no rfl rfl (by decide) rfl ?_)
       refine r_no rfl rfl (by decide) rfl ?_
       refine r_no rfl rfl (by decide) rfl ?_
       refine r_no rfl rfl (by decide) rfl ?_
       refine sqV (.bool false) rfl rfl rfl ?_
       refine sqV (.bool false) rfl rfl rfl ?_
       refine r_nil (sqE [(0, .slice Al nl cl), (1, .slice Ab nb cb), (13, .slice Ab nb cb), (14, .int .i64 (nb : Int)), (15, .int .i64 (k : Int)), (39, .bool false)] rfl (e_then (k_cond_false rfl rfl ?_)))
       refine k_skip (e_blk (e_blk (e_then (k_region (sqV (.int .i64 ((k : Int) + 1)) rfl rfl (x_addE rfl (by omega) (by omega) rfl rfl) ?_)))))
       refine sqV (.int .i64 ((k : Int) + 1)) rfl rfl rfl ?_
       refine r_nil ?_
       refine e_loop (k + 1) (sqS rfl) ?_ ?_
       ·exact ⟨hM26.drop, by omega, by rw [he, hat, bone_ok h2 h3 (by subst hk0; rfl)]; rfl⟩
       ·(try dsimp only); omega
  ·try simp only [sqC] at h1
   refine k_exit (e_then_exit (e_loop_exit (e_blk_exit (e_then (k_seq (k_region ?_))))))
   have hdr : bs.drop k = [] := List.drop_eq_nil_of_le (by omega)
   have hb0 : bondsFrom l none bs = 0 := by rw [he, hdr]; rfl
   have hnb1 : nb ≤ 1000 := by omega
   refine sqV (.slice Al nl cl) rfl rfl rfl ?_
   refine sqV (.slice Ab nb cb) rfl rfl rfl ?_
   refine r_call (f := 34) (args := #[Value.slice Al nl cl, Value.slice Ab nb cb]) (w' := w1) rfl rfl (x_call (vs := [Value.slice Al nl cl, Value.slice Ab nb cb]) (enter34 _ _) rfl rfl) (mustsR_s Al Ab nl cl nb cb l bs w1 (hl.up hM2) (hb.up hM2) hgd hb0 hnb1) ?_
   rintro v_ w27 ⟨bg, g, rfl, hlab, hM28⟩
   replace hM28 : Mem w No w27 [(bg, .cells (rowC nl (Value.int .i64) (fun q => (g q : Int))) 3 (0, 0))] := by simpa using Mem.call0 hM2.drop hM28
   refine sqV (.slice (some ⟨bg, 0, none⟩) nl nl) rfl rfl rfl ?_
   refine r_nil (e_then (k_seq (k_seq (k_region (sqV (.slice Ab nb cb) rfl rfl rfl ?_)))))
   refine sqV (.int .i64 (nb : Int)) rfl rfl (x_len rfl rfl) ?_
   refine sqV (.int .i64 0) rfl rfl rfl ?_
   refine r_nil (e_then (k_block (k_loop (σ := Nat) (fun k => [(0, .slice Al nl cl), (7, .slice (some ⟨bg, 0, none⟩) nl nl), (69, .slice Ab nb cb), (70, .int .i64 (nb : Int)), (71, .int .i64 (k : Int))]) (fun k w_ => Mem w No w_ [(bg, .cells (rowC nl (.int .i64) (fun q => (g q : Int))) 3 (0, 0))] ∧ k ≤ nb ∧ apartBad (firstsOf l bs) (notsOf l (bs.take k)) = false) (fun k => nb - k) 0 (sqS rfl) ⟨hM28, by omega, rfl⟩ ?_)))
   rintro k w29 ⟨hM30, hk, hno⟩
   refine sqK [(0, .slice Al nl cl), (7, .slice (some ⟨bg, 0, none⟩) nl nl), (69, .slice Ab nb cb), (70, .int .i64 (nb : Int)), (71, .int .i64 (k : Int))] rfl (k_seq (k_region (sqV (.bool (decide ((k : Int) < (nb : Int)))) rfl rfl rfl ?_)))
   refine r_nil (sqE [(0, .slice Al nl cl), (7, .slice (some ⟨bg, 0, none⟩) nl nl), (69, .slice Ab nb cb), (70, .int .i64 (nb : Int)), (71, .int .i64 (k : Int)), (72, .bool (decide ((k : Int) < (nb : Int))))] rfl (e_then (k_seq ?_)))
   refine k_cond rfl rfl (fun h5 => ?_) (fun h5 => ?_)
   ·try simp only [sqC] at h5
    refine k_skip (e_then (k_seq (k_block (k_seq (k_region ?_)))))
    obtain ⟨b, hbk⟩ : ∃ b, bs[k]? = some b := ⟨bs[k]'(by omega), by simp⟩
    obtain ⟨hoa, hob, _⟩ := bonds_ok hb0 b (List.mem_of_getElem? hbk)
    have hpa := place_lt hgd.sorted hoa
    have hpb := place_lt hgd.sorted hob
    have hlk := hlab.2 (atPos l b.a) (atPos l b.b) (by omega) (by omega)
    refine sqV (.pointer (some ((adr Ab).add (k * 3)))) rfl rfl (x_indexAddrN (i := k) (sz := 3) hb.here (by omega) rfl rfl rfl rfl) ?_
    refine sqV (.agg (#[.int .i64 b.a, .int .i64 b.b, .bool b.must])) rfl rfl (x_loadElem (enc := bondE) (e := b) (hb.up hM30) hbk rfl rfl rfl) ?_
    refine r_alloc hM30 (z := Value.agg #[Value.int .i64 0, Value.int .i64 0, Value.bool false]) rfl rfl ?_
    intro b33 w31 hM32 hb33
    replace hM32 : Mem w No w31 [(b33, .cells #[Value.int .i64 0, Value.int .i64 0, Value.bool false] 35 (0, 0)), (bg, .cells (rowC nl (Value.int .i64) (fun q => (g q : Int))) 3 (0, 0))] := hM32
    refine r_storeRow (vs := (#[Value.int .i64 b.a, Value.int .i64 b.b, Value.bool b.must])) hM32 0 rfl (by rw [show (#[Value.int .i64 b.a, Value.int .i64 b.b, Value.bool b.must]).size = 3 from (by simp [ints_size, *])]; rfl) (by first | (simp [Value.oneCell']; done) | (simp only [List.mem_cons, List.not_mem_nil, or_false, forall_eq_or_imp, forall_eq]; (repeat' constructor) <;> first | assumption | rfl)) (by rw [show (#[Value.int .i64 b.a, Value.int .i64 b.b, Value.bool b.must]).size = 3 from (by simp [ints_size, *])]; rfl) rfl rfl rfl ?_
    intro w34 hM35
    replace hM35 : Mem w No w34 [(b33, .cells (#[Value.int .i64 b.a, Value.int .i64 b.b, Value.bool b.must]) 35 (0, 0)), (bg, .cells (rowC nl (Value.int .i64) (fun q => (g q : Int))) 3 (0, 0))] := hM35
    refine r_nil (e_then (k_seq ?_))
    rcases Bool.eq_false_or_eq_true (!b.must) with g2 | g2
    ·skip
     have hmust : b.must = false := by simpa using g2
     refine k_drawP mixed [0, 1, 3, 7, 15, 15, 15, 79, 239, 511, 1023, 15, 15, 15, 8207, 29167, 63983, 129519, 262143, 524287] [some (Value.pointer (some ⟨b33, 2, none⟩)), some (Value.bool b.must), some (Value.bool true), some (Value.bool true), some (Value.slice (some ⟨bg, 0, none⟩) nl nl), some (Value.slice Al nl cl), some (Value.pointer (some ⟨b33, 0, none⟩)), some (Value.int .i64 b.a), some (Value.int .i64 (atI l b.a)), some (Value.pointer (some ⟨bg, (atPos l b.a), none⟩)), some (Value.int .i64 (g (atPos l b.a) : Int)), some (Value.slice (some ⟨bg, 0, none⟩) nl nl), some (Value.slice Al nl cl), some (Value.pointer (some ⟨b33, 1, none⟩)), some (Value.int .i64 b.b), some (Value.int .i64 (atI l b.b)), some (Value.pointer (some ⟨bg, (atPos l b.b), none⟩)), some (Value.int .i64 (g (atPos l b.b) : Int))] (by kernel_rfl) 18 [] rfl rfl (by kernel_rfl) rfl (fun D V w_ => Mem w No w_ [(b33, .cells (#[Value.int .i64 b.a, Value.int .i64 b.b, Value.bool b.must]) 35 (0, 0)), (bg, .cells (rowC nl (Value.int .i64) (fun q => (g q : Int))) 3 (0, 0))]) (fun V => hM35.drew) trivial ?_ ?_
     ·refine ⟨?_, ?_, ?_, ?_, ?_, ?_, ?_, ?_, ?_, ?_, ?_, ?_, ?_, ?_, ?_, ?_, ?_, ?_, trivial⟩
      ·intro D V w_ hd hi hM_
       refine sqG [(9, .pointer (some ⟨b33, 0, none⟩))] rfl rfl rfl ?_
       exact run_val (.pointer (some ⟨b33, 2, none⟩)) (rfl) ⟨sqT, hM_⟩
      ·intro D V w_ hd hi hM_
       refine sqG [(75, .pointer (some ⟨b33, 2, none⟩))] rfl rfl rfl ?_
       exact run_val (.bool b.must) (x_load (hM_.cell 0 rfl rfl) rfl rfl) ⟨sqT, hM_⟩
      ·intro D V w_ hd hi hM_
       refine sqG [(76, .bool b.must)] rfl rfl rfl ?_
       exact run_val (.bool true) (Eq.trans (rfl) (congrArg (fun z => Result.ok (Next.value (Value.bool z)) w_) g2)) ⟨sqT, hM_⟩
      ·intro D V w_ hd hi hM_
       refine sqG [(77, .bool true)] rfl rfl rfl ?_
       exact run_val (.bool true) (rfl) ⟨sqT, hM_⟩
      ·intro D V w_ hd hi hM_
       refine goal_yes [(7, Value.slice (some ⟨bg, 0, none⟩) nl nl)] rfl rfl ⟨rfl, trivial⟩ rfl ?_
       exact run_val (.slice (some ⟨bg, 0, none⟩) nl nl) (rfl) ⟨sqT, hM_⟩
      ·intro D V w_ hd hi hM_
       refine goal_yes [(0, Value.slice Al nl cl)] rfl rfl ⟨rfl, trivial⟩ rfl ?_
       exact run_val (.slice Al nl cl) (rfl) ⟨sqT, hM_⟩
      ·intro D V w_ hd hi hM_
       refine goal_yes [(9, Value.pointer (some ⟨b33, 0, none⟩))] rfl rfl ⟨rfl, trivial⟩ rfl ?_
       exact run_val (.pointer (some ⟨b33, 0, none⟩)) (rfl) ⟨sqT, hM_⟩
      ·intro D V w_ hd hi hM_
       refine goal_yes [(81, Value.pointer (some ⟨b33, 0, none⟩))] rfl rfl ⟨rfl, trivial⟩ rfl ?_
       exact run_val (.int .i64 b.a) (x_load (hM_.cell 0 rfl rfl) rfl rfl) ⟨sqT, hM_⟩
      ·intro D V w_ hd hi hM_
       refine goal_yes [(80, Value.slice Al nl cl), (82, Value.int .i64 b.a)] rfl rfl ⟨rfl, rfl, trivial⟩ rfl ?_
       refine run_call (f := 31) (args := #[Value.slice Al nl cl, Value.int .i64 b.a]) (w' := w_) (x_call (vs := [Value.slice Al nl cl, Value.int .i64 b.a]) (enter31 _ _) rfl rfl) (likeAt_s Al nl cl l b.a w_ (hl.up hM_) hgd.sorted hl3) ?_
       rintro v_ w2_ ⟨rfl, hM2_⟩
       exact ⟨sqT, hM_.grow hM2_.kept⟩
      ·intro D V w_ hd hi hM_
       refine goal_yes [(79, Value.slice (some ⟨bg, 0, none⟩) nl nl), (83, Value.int .i64 (atI l b.a))] rfl rfl ⟨rfl, rfl, trivial⟩ rfl ?_
       exact run_val (.pointer (some ⟨bg, (atPos l b.a), none⟩)) (by rw [atI_ok hoa]; exact x_indexAddrL (i := atPos l b.a) (sz := 1) (by omega) rfl rfl rfl rfl (by omega)) ⟨sqT, hM_⟩
      ·intro D V w_ hd hi hM_
       refine goal_yes [(84, Value.pointer (some ⟨bg, (atPos l b.a), none⟩))] rfl rfl ⟨rfl, trivial⟩ rfl ?_
       exact run_val (.int .i64 (g (atPos l b.a) : Int)) (x_load (hM_.cell 1 rfl (rowC_get (by omega))) rfl rfl) ⟨sqT, hM_⟩
      ·intro D V w_ hd hi hM_
       refine goal_yes [(7, Value.slice (some ⟨bg, 0, none⟩) nl nl)] rfl rfl ⟨rfl, trivial⟩ rfl ?_
       exact run_val (.slice (some ⟨bg, 0, none⟩) nl nl) (rfl) ⟨sqT, hM_⟩
      ·intro D V w_ hd hi hM_
       refine goal_yes [(0, Value.slice Al nl cl)] rfl rfl ⟨rfl, trivial⟩ rfl ?_
       exact run_val (.slice Al nl cl) (rfl) ⟨sqT, hM_⟩
      ·intro D V w_ hd hi hM_
       refine goal_yes [(9, Value.pointer (some ⟨b33, 0, none⟩))] rfl rfl ⟨rfl, trivial⟩ rfl ?_
       exact run_val (.pointer (some ⟨b33, 1, none⟩)) (rfl) ⟨sqT, hM_⟩
      ·intro D V w_ hd hi hM_
       refine goal_yes [(88, Value.pointer (some ⟨b33, 1, none⟩))] rfl rfl ⟨rfl, trivial⟩ rfl ?_
       exact run_val (.int .i64 b.b) (x_load (hM_.cell 0 rfl rfl) rfl rfl) ⟨sqT, hM_⟩
      ·intro D V w_ hd hi hM_
       refine goal_yes [(87, Value.slice Al nl cl), (89, Value.int .i64 b.b)] rfl rfl ⟨rfl, rfl, trivial⟩ rfl ?_
       refine run_call (f := 31) (args := #[Value.slice Al nl cl, Value.int .i64 b.b]) (w' := w_) (x_call (vs := [Value.slice Al nl cl, Value.int .i64 b.b]) (enter31 _ _) rfl rfl) (likeAt_s Al nl cl l b.b w_ (hl.up hM_) hgd.sorted hl3) ?_
       rintro v_ w2_ ⟨rfl, hM2_⟩
       exact ⟨sqT, hM_.grow hM2_.kept⟩
      ·intro D V w_ hd hi hM_
       refine goal_yes [(86, Value.slice (some ⟨bg, 0, none⟩) nl nl), (90, Value.int .i64 (atI l b.b))] rfl rfl ⟨rfl, rfl, trivial⟩ rfl ?_
       exact run_val (.pointer (some ⟨bg, (atPos l b.b), none⟩)) (by rw [atI_ok hob]; exact x_indexAddrL (i := atPos l b.b) (sz := 1) (by omega) rfl rfl rfl rfl (by omega)) ⟨sqT, hM_⟩
      ·intro D V w_ hd hi hM_
       refine goal_yes [(91, Value.pointer (some ⟨bg, (atPos l b.b), none⟩))] rfl rfl ⟨rfl, trivial⟩ rfl ?_
       exact run_val (.int .i64 (g (atPos l b.b) : Int)) (x_load (hM_.cell 1 rfl (rowC_get (by omega))) rfl rfl) ⟨sqT, hM_⟩
     intro D V w41 hall hM42
     refine sqR [(0, .slice Al nl cl), (7, .slice (some ⟨bg, 0, none⟩) nl nl), (69, .slice Ab nb cb), (70, .int .i64 (nb : Int)), (71, .int .i64 (k : Int)), (78, .bool true), (85, .int .i64 (g (atPos l b.a) : Int)), (92, .int .i64 (g (atPos l b.b) : Int))] rfl (r_yes rfl rfl ?_)
     refine sqV (.bool ((g (atPos l b.a) : Int) == (g (atPos l b.b) : Int))) rfl rfl rfl ?_
     refine sqV (.bool ((g (atPos l b.a) : Int) == (g (atPos l b.b) : Int))) rfl rfl rfl ?_
     refine r_nil (e_then ?_)
     refine k_cond rfl rfl (fun h6 => ?_) (fun h6 => ?_)
     ·try simp only [sqC] at h6
      refine k_seq (k_region (sqV (.int .i64 11) rfl rfl rfl ?_))
      refine r_nil (e_then (k_ret (e_blk_ret (e_then_ret (e_loop_ret (e_blk_ret (e_then_ret (e_ret1 rfl rfl ?_))))))))
      exact ⟨_, rfl, by rw [checkB2_b hbig hb0 (apartR_yes hbk hmust (hlk.1 (by omega)))], hM42.drop⟩
     ·try simp only [sqC] at h6
      refine k_skip (e_blk (e_then (k_region (sqV (.int .i64 ((k : Int) + 1)) rfl rfl (x_addE rfl (by omega) (by omega) rfl rfl) ?_))))
      refine sqV (.int .i64 ((k : Int) + 1)) rfl rfl rfl ?_
      refine r_nil (sqE [(0, .slice Al nl cl), (7, .slice (some ⟨bg, 0, none⟩) nl nl), (69, .slice Ab nb cb), (70, .int .i64 (nb : Int)), (71, .int .i64 ((k : Int) + 1))] rfl ?_)
      refine e_loop (k + 1) (sqS rfl) ?_ ?_
      ·exact ⟨(hM42.pick [1] _ (by decide) rfl), by omega, apartR_no hbk hmust (fun h9 => h6 (congrArg Nat.cast (hlk.2 h9))) hno⟩
      ·(try dsimp only); omega
    ·skip
     have hmust : b.must = true := by simpa using g2
     refine k_drawP mixed [0, 1, 3, 7, 15, 15, 15, 79, 239, 511, 1023, 15, 15, 15, 8207, 29167, 63983, 129519, 262143, 524287] [some (Value.pointer (some ⟨b33, 2, none⟩)), some (Value.bool b.must), some (Value.bool false), some (Value.bool false), some (undef), some (undef), some (undef), some (undef), some (undef), some (undef), some (undef), some (undef), some (undef), some (undef), some (undef), some (undef), some (undef), some (undef)] (by kernel_rfl) 18 [] rfl rfl (by kernel_rfl) rfl (fun D V w_ => Mem w No w_ [(b33, .cells (#[Value.int .i64 b.a, Value.int .i64 b.b, Value.bool b.must]) 35 (0, 0)), (bg, .cells (rowC nl (Value.int .i64) (fun q => (g q : Int))) 3 (0, 0))]) (fun V => hM35.drew) trivial ?_ ?_
     ·refine ⟨?_, ?_, ?_, ?_, ?_, ?_, ?_, ?_, ?_, ?_, ?_, ?_, ?_, ?_, ?_, ?_, ?_, ?_, trivial⟩
      ·intro D V w_ hd hi hM_
       refine sqG [(9, .pointer (some ⟨b33, 0, none⟩))] rfl rfl rfl ?_
       exact run_val (.pointer (some ⟨b33, 2, none⟩)) (rfl) ⟨sqT, hM_⟩
      ·intro D V w_ hd hi hM_
       refine sqG [(75, .pointer (some ⟨b33, 2, none⟩))] rfl rfl rfl ?_
       exact run_val (.bool b.must) (x_load (hM_.cell 0 rfl rfl) rfl rfl) ⟨sqT, hM_⟩
      ·intro D V w_ hd hi hM_
       refine sqG [(76, .bool b.must)] rfl rfl rfl ?_
       exact run_val (.bool false) (Eq.trans (rfl) (congrArg (fun z => Result.ok (Next.value (Value.bool z)) w_) g2)) ⟨sqT, hM_⟩
      ·intro D V w_ hd hi hM_
       refine sqG [(77, .bool false)] rfl rfl rfl ?_
       exact run_val (.bool false) (rfl) ⟨sqT, hM_⟩
      ·intro D V w_ hd hi hM_
       exact goal_no rfl rfl (by decide) ⟨sqT, hM_⟩
      ·intro D V w_ hd hi hM_
       exact goal_no rfl rfl (by decide) ⟨sqT, hM_⟩
      ·intro D V w_ hd hi hM_
       exact goal_no rfl rfl (by decide) ⟨sqT, hM_⟩
      ·intro D V w_ hd hi hM_
       exact goal_no rfl rfl (by decide) ⟨sqT, hM_⟩
      ·intro D V w_ hd hi hM_
       exact goal_no rfl rfl (by decide) ⟨sqT, hM_⟩
      ·intro D V w_ hd hi hM_
       exact goal_no rfl rfl (by decide) ⟨sqT, hM_⟩
      ·intro D V w_ hd hi hM_
       exact goal_no rfl rfl (by decide) ⟨sqT, hM_⟩
      ·intro D V w_ hd hi hM_
       exact goal_no rfl rfl (by decide) ⟨sqT, hM_⟩
      ·intro D V w_ hd hi hM_
       exact goal_no rfl rfl (by decide) ⟨sqT, hM_⟩
      ·intro D V w_ hd hi hM_
       exact goal_no rfl rfl (by decide) ⟨sqT, hM_⟩
      ·intro D V w_ hd hi hM_
       exact goal_no rfl rfl (by decide) ⟨sqT, hM_⟩
      ·intro D V w_ hd hi hM_
       exact goal_no rfl rfl (by decide) ⟨sqT, hM_⟩
      ·intro D V w_ hd hi hM_
       exact goal_no rfl rfl (by decide) ⟨sqT, hM_⟩
      ·intro D V w_ hd hi hM_
       exact goal_no rfl rfl (by decide) ⟨sqT, hM_⟩
     intro D V w43 hall hM44
     refine sqR [(0, .slice Al nl cl), (7, .slice (some ⟨bg, 0, none⟩) nl nl), (69, .slice Ab nb cb), (70, .int .i64 (nb : Int)), (71, .int .i64 (k : Int)), (78, .bool false), (85, undef), (92, undef)] rfl (r_no rfl rfl (by decide) rfl ?_)
     refine sqV (.bool false) rfl rfl rfl ?_
     refine r_nil (e_then (k_cond_false rfl rfl ?_))
     refine k_skip (e_blk (e_then (k_region (sqV (.int .i64 ((k : Int) + 1)) rfl rfl (x_addE rfl (by omega) (by omega) rfl rfl) ?_))))
     refine sqV (.int .i64 ((k : Int) + 1)) rfl rfl rfl ?_
     refine r_nil ?_
     refine e_loop (k + 1) (sqS rfl) ?_ ?_
     ·exact ⟨(hM44.pick [1] _ (by decide) rfl), by omega, apartR_must hbk hmust hno⟩
     ·(try dsimp only); omega
   ·try simp only [sqC] at h5
    refine k_exit (e_then_exit (e_loop_exit (e_blk_exit (e_then (k_seq (k_region ?_))))))
    have hkb : bs.take k = bs := List.take_of_length_le (by omega)
    rw [hkb] at hno
    refine sqV (.int .i64 0) rfl rfl rfl ?_
    refine r_nil (e_then (k_ret (e_ret1 rfl rfl ?_)))
    exact ⟨_, rfl, by rw [checkB2_c hbig hb0 hno], hM30.drop⟩

theorem gapOfP_s (Al Aa Ab : Option Addr) (n cl na ca nb cb : Nat) (l : List (List Int)) (ps qs : List Nat) (w : World) (hl : RdE intsE 14 w Al n l) (hgd : Kn.Good l) (ha : RdE intE 1 w Aa na (natsI ps)) (hb : RdE intE 1 w Ab nb (natsI qs)) (hpsr : ∀ p ∈ ps, p < n) (hqsr : ∀ q ∈ qs, q < n) (hna : na ≤ 1099511627776) (hnb : nb ≤ 1099511627776) :
  Calls Try.prog 35 #[Value.slice Al n cl, Value.slice Aa na ca, Value.slice Ab nb cb] w fun e w' => ∃ r, e = .returned r ∧ ∃ g, r = .int .i64 g ∧ GapPs l ps qs g ∧ Mem w No w' [] := by
 refine calls_k (args := [Value.slice Al n cl, Value.slice Aa na ca, Value.slice Ab nb cb]) 40 [(0, Value.slice Al n cl), (1, Value.slice Aa na ca), (2, Value.slice Ab nb cb)] Try.func35 rfl rfl ⟨rfl, rfl, rfl, trivial⟩ ?_
 have hM := Mem.nil w No
 have hll := hl.len
 have hal := ha.len
 have hbl := hb.len
 have hpl : ps.length = na := by simpa [natsI] using hal
 have hql : qs.length = nb := by simpa [natsI] using hbl
 refine k_seq (k_region (sqV (.int .i64 0) rfl rfl rfl ?_))
 refine r_nil (sqE [(0, .slice Al n cl), (1, .slice Aa na ca), (2, .slice Ab nb cb)] rfl (e_then (k_seq (k_region (sqV (.int .i64 774193) rfl rfl rfl ?_)))))
 refine r_nil (e_then (k_seq (k_seq (k_region (sqV (.slice Aa na ca) rfl rfl rfl ?_)))))
 refine sqV (.int .i64 (na : Int)) rfl rfl (x_len rfl rfl) ?_
 refine sqV (.int .i64 0) rfl rfl rfl ?_
 refine r_nil (e_then (k_block (k_loop (σ := Nat × Int) (fun ⟨i, g⟩ => [(0, .slice Al n cl), (2, .slice Ab nb cb), (7, .int .i64 g), (12, .slice Aa na ca), (13, .int .i64 (na : Int)), (14, .int .i64 (i : Int))]) (fun ⟨i, g⟩ w_ => Mem w No w_ [] ∧ i ≤ na ∧ GapP l ps qs (upQ i 0) g) (fun ⟨i, g⟩ => na - i) (0, 774193) (sqS rfl) ⟨hM, Nat.zero_le _, gapP_none⟩ ?_)))
 rintro ⟨i, g⟩ w1 ⟨hM2, hi, hg⟩
 refine sqK [(0, .slice Al n cl), (2, .slice Ab nb cb), (7, .int .i64 g), (12, .slice Aa na ca), (13, .int .i64 (na : Int)), (14, .int .i64 (i : Int))] rfl (k_seq (k_region (sqV (.bool (decide ((i : Int) < (na : Int)))) rfl rfl rfl ?_)))
 refine r_nil (e_then (k_seq ?_))
 refine k_cond rfl rfl (fun h6 => ?_) (fun h6 => ?_)
 ·try simp only [sqC] at h6
  refine k_skip (e_then (k_seq (k_block (k_seq (k_region ?_)))))
  obtain ⟨x, hx⟩ : ∃ z, ps[i]? = some z := ⟨ps[i]'(by omega), by simp⟩
  have hxn := hpsr x (List.mem_of_getElem? hx)
  refine sqV (.pointer (some ((adr Aa).add (i * 1)))) rfl rfl (x_indexAddrN (i := i) (sz := 1) ha.here (by omega) rfl rfl rfl rfl) ?_
  refine sqV (.int .i64 (x : Int)) rfl rfl (x_loadEInt (ha.up hM2) (natsI_get hx) rfl rfl) ?_
  refine sqV (.int .i64 (x : Int)) rfl rfl rfl ?_
  refine r_nil (sqE [(0, .slice Al n cl), (2, .slice Ab nb cb), (7, .int .i64 g), (9, .int .i64 (x : Int)), (12, .slice Aa na ca), (13, .int .i64 (na : Int)), (14, .int .i64 (i : Int))] rfl (e_then (k_seq (k_region (sqV (.slice Ab nb cb) rfl rfl rfl ?_)))))
  refine sqV (.int .i64 (nb : Int)) rfl rfl (x_len rfl rfl) ?_
  refine sqV (.int .i64 0) rfl rfl rfl ?_
  refine r_nil (e_then (k_block (k_loop (σ := Nat × Int) (fun ⟨k, g⟩ => [(0, .slice Al n cl), (2, .slice Ab nb cb), (7, .int .i64 g), (9, .int .i64 (x : Int)), (12, .slice Aa na ca), (13, .int .i64 (na : Int)), (14, .int .i64 (i : Int)), (18, .slice Ab nb cb), (19, .int .i64 (nb : Int)), (20, .int .i64 (k : Int))]) (fun ⟨k, g⟩ w_ => Mem w No w_ [] ∧ k ≤ nb ∧ GapP l ps qs (upQ i k) g) (fun ⟨k, g⟩ => nb - k) (0, g) (sqS rfl) ⟨hM2, Nat.zero_le _, hg⟩ ?_)))
  rintro ⟨k, g⟩ w3 ⟨hM4, hk, hg⟩
  refine sqK [(0, .slice Al n cl), (2, .slice Ab nb cb), (7, .int .i64 g), (9, .int .i64 (x : Int)), (12, .slice Aa na ca), (13, .int .i64 (na : Int)), (14, .int .i64 (i : Int)), (18, .slice Ab nb cb), (19, .int .i64 (nb : Int)), (20, .int .i64 (k : Int))] rfl (k_seq (k_region (sqV (.bool (decide ((k : Int) < (nb : Int)))) rfl rfl rfl ?_)))
  refine r_nil (e_then (k_seq ?_))
  refine k_cond rfl rfl (fun h7 => ?_) (fun h7 => ?_)
  ·try simp only [sqC] at h7
   refine k_skip (e_then (k_seq (k_block (k_seq (k_region ?_)))))
   obtain ⟨y, hy⟩ : ∃ z, qs[k]? = some z := ⟨qs[k]'(by omega), by simp⟩
   have hyn := hqsr y (List.mem_of_getElem? hy)
   refine sqV (.pointer (some ((adr Ab).add (k * 1)))) rfl rfl (x_indexAddrN (i := k) (sz := 1) hb.here (by omega) rfl rfl rfl rfl) ?_
   refine sqV (.int .i64 (y : Int)) rfl rfl (x_loadEInt (hb.up hM4) (natsI_get hy) rfl rfl) ?_
   obtain ⟨u, hu⟩ : ∃ z, l[x]? = some z := ⟨l[x]'(by omega), by simp⟩
   have hu14 : u.length = 14 := by have := hl.size' hu; simpa using this
   have hum := List.mem_of_getElem? hu
   obtain ⟨v, hv⟩ : ∃ z, l[y]? = some z := ⟨l[y]'(by omega), by simp⟩
   have hv14 : v.length = 14 := by have := hl.size' hv; simpa using this
   have hvm := List.mem_of_getElem? hv
   refine sqV (.int .i64 (y : Int)) rfl rfl rfl ?_
   refine r_nil (e_then ?_)
   refine k_drawP mixed [0, 0, 0, 6, 14, 30, 0, 0, 192, 448, 960, 2046, 4095, 8191] [some (Value.int .i64 g), some (Value.slice Al n cl), some (Value.int .i64 (x : Int)), some (Value.pointer (some ((adr Al).add (x * 14)))), some (Value.pointer (some (((adr Al).add (x * 14)).add 2))), some (Value.agg (ints (vecOf u))), some (Value.slice Al n cl), some (Value.int .i64 (y : Int)), some (Value.pointer (some ((adr Al).add (y * 14)))), some (Value.pointer (some (((adr Al).add (y * 14)).add 2))), some (Value.agg (ints (vecOf v))), some (Value.int .i64 (farOf (vecOf u) (vecOf v)))] (by kernel_rfl) 12 [] rfl rfl (by kernel_rfl) rfl (fun D V w_ => Mem w No w_ []) (fun V => hM4.drew) trivial ?_ ?_
   ·refine ⟨?_, ?_, ?_, ?_, ?_, ?_, ?_, ?_, ?_, ?_, ?_, ?_, trivial⟩
    ·intro D V w_ hd hi hM_
     refine sqG [(7, .int .i64 g)] rfl rfl rfl ?_
     exact run_val (.int .i64 g) (rfl) ⟨sqT, hM_⟩
    ·intro D V w_ hd hi hM_
     refine sqG [(0, .slice Al n cl)] rfl rfl rfl ?_
     exact run_val (.slice Al n cl) (rfl) ⟨sqT, hM_⟩
    ·intro D V w_ hd hi hM_
     refine sqG [(9, .int .i64 (x : Int))] rfl rfl rfl ?_
     exact run_val (.int .i64 (x : Int)) (rfl) ⟨sqT, hM_⟩
    ·intro D V w_ hd hi hM_
     refine sqG [(25, .slice Al n cl), (26, .int .i64 (x : Int))] rfl rfl rfl ?_
     exact run_val (.pointer (some ((adr Al).add (x * 14)))) (x_indexAddrN (i := x) (sz := 14) hl.here (by omega) rfl rfl rfl rfl) ⟨sqT, hM_⟩
    ·intro D V w_ hd hi hM_
     refine sqG [(27, .pointer (some ((adr Al).add (x * 14))))] rfl rfl rfl ?_
     exact run_val (.pointer (some (((adr Al).add (x * 14)).add 2))) (rfl) ⟨sqT, hM_⟩
    ·intro D V w_ hd hi hM_
     refine sqG [(28, .pointer (some (((adr Al).add (x * 14)).add 2)))] rfl rfl rfl ?_
     exact run_val (.agg (ints (vecOf u))) (x_loadEPart (o := 2) (m := 12) (hl.up hM_) hu (by omega) rfl rfl rfl) ⟨sqT, hM_⟩
    ·intro D V w_ hd hi hM_
     refine sqG [(0, .slice Al n cl)] rfl rfl rfl ?_
     exact run_val (.slice Al n cl) (rfl) ⟨sqT, hM_⟩
    ·intro D V w_ hd hi hM_
     refine sqG [(11, .int .i64 (y : Int))] rfl rfl rfl ?_
     exact run_val (.int .i64 (y : Int)) (rfl) ⟨sqT, hM_⟩
    ·intro D V w_ hd hi hM_
     refine sqG [(30, .slice Al n cl), (31, .int .i64 (y : Int))] rfl rfl rfl ?_
     exact run_val (.pointer (some ((adr Al).add (y * 14)))) (x_indexAddrN (i := y) (sz := 14) hl.here (by omega) rfl rfl rfl rfl) ⟨sqT, hM_⟩
    ·intro D V w_ hd hi hM_
     refine sqG [(32, .pointer (some ((adr Al).add (y * 14))))] rfl rfl rfl ?_
     exact run_val (.pointer (some (((adr Al).add (y * 14)).add 2))) (rfl) ⟨sqT, hM_⟩
    ·intro D V w_ hd hi hM_
     refine sqG [(33, .pointer (some (((adr Al).add (y * 14)).add 2)))] rfl rfl rfl ?_
     exact run_val (.agg (ints (vecOf v))) (x_loadEPart (o := 2) (m := 12) (hl.up hM_) hv (by omega) rfl rfl rfl) ⟨sqT, hM_⟩
    ·intro D V w_ hd hi hM_
     refine sqG [(29, .agg (ints (vecOf u))), (34, .agg (ints (vecOf v)))] rfl rfl rfl ?_
     refine run_call (f := 64) (args := #[Value.agg (ints (vecOf u)), Value.agg (ints (vecOf v))]) (w' := w_) (x_call (vs := [Value.agg (ints (vecOf u)), Value.agg (ints (vecOf v))]) (enter64 _ _) rfl rfl) (farOf_s (vecOf u) (vecOf v) (by simp [vecOf]; omega) (by simp [vecOf]; omega) (hgd.vec u hum) (hgd.vec v hvm) w_) ?_
     rintro v_ w2_ ⟨rfl, hM2_⟩
     exact ⟨sqT, hM_.grow hM2_.kept⟩
   intro D V w7 hall hM8
   refine sqR [(0, .slice Al n cl), (2, .slice Ab nb cb), (9, .int .i64 (x : Int)), (12, .slice Aa na ca), (13, .int .i64 (na : Int)), (14, .int .i64 (i : Int)), (18, .slice Ab nb cb), (19, .int .i64 (nb : Int)), (20, .int .i64 (k : Int)), (24, .int .i64 g), (35, .int .i64 (farOf (vecOf u) (vecOf v)))] rfl ?_
   have hfar : farAt l x y = farOf (vecOf u) (vecOf v) := by simp [farAt, hu, hv]
   refine sqV (.int .i64 (min g (farOf (vecOf u) (vecOf v)))) rfl rfl (x_min rfl rfl) ?_
   refine sqV (.int .i64 (min g (farOf (vecOf u) (vecOf v)))) rfl rfl rfl ?_
   refine r_nil (sqE [(0, .slice Al n cl), (2, .slice Ab nb cb), (7, .int .i64 (min g (farOf (vecOf u) (vecOf v)))), (9, .int .i64 (x : Int)), (12, .slice Aa na ca), (13, .int .i64 (na : Int)), (14, .int .i64 (i : Int)), (18, .slice Ab nb cb), (19, .int .i64 (nb : Int)), (20, .int .i64 (k : Int))] rfl (e_blk (e_then (k_region (sqV (.int .i64 ((k : Int) + 1)) rfl rfl (x_addE rfl (by omega) (by omega) rfl rfl) ?_)))))
   refine sqV (.int .i64 ((k : Int) + 1)) rfl rfl rfl ?_
   refine r_nil ?_
   refine e_loop (k + 1, min g (farOf (vecOf u) (vecOf v))) (sqS rfl) ?_ ?_
   ·exact ⟨hM8, by omega, by rw [← hfar]; exact gapP_step hg hx hy⟩
   ·(try dsimp only); omega
  ·try simp only [sqC] at h7
   refine k_exit (e_then_exit (e_loop_exit (e_blk_exit (e_blk (e_then (k_region (sqV (.int .i64 ((i : Int) + 1)) rfl rfl (x_addE rfl (by omega) (by omega) rfl rfl) ?_)))))))
   refine sqV (.int .i64 ((i : Int) + 1)) rfl rfl rfl ?_
   refine r_nil ?_
   refine e_loop (i + 1, g) (sqS rfl) ?_ ?_
   ·exact ⟨hM4, by omega, gapP_row hg (by omega)⟩
   ·(try dsimp only); omega
 ·try simp only [sqC] at h6
  refine k_exit (e_then_exit (e_loop_exit (e_blk_exit (e_then (k_seq (k_region ?_))))))
  have hil : i = ps.length := by omega
  rw [hil] at hg
  refine sqV (.int .i64 g) rfl rfl rfl ?_
  refine sqV (.int .i64 g) rfl rfl rfl ?_
  refine r_nil (e_then (k_ret (e_ret1 rfl rfl ?_)))
  exact ⟨_, rfl, g, rfl, gapP_all hg, hM2⟩


end Go.Proofs.Ytddacakmafdgdaa
end
section
/- Maps whose keys are of whatever kind, by three laws of the kind. -/
set_option linter.unusedVariables false
set_option linter.unusedSimpArgs false
namespace Go.Kn
open Go.RowKit
variable {κ : Type} [DecidableEq κ]
structure PEnt (κ : Type) where
  key : κ
  v : Value
  born : Nat
def PEnt.obj (enc : κ → Value) (e : PEnt κ) : MapEntry := ⟨enc e.key, e.v, e.born⟩
abbrev pmapO (enc : κ → Value) (es : List (PEnt κ)) (clock : Nat) : Obj := .map (es.map (PEnt.obj enc)).toArray clock
def pget (k : κ) : List (PEnt κ) → Option Value
  | [] => none
  | e :: r => if e.key = k then some e.v else pget k r
def pfind (k : κ) : List (PEnt κ) → Nat → Option (Nat × Value)
  | [], _ => none
  | e :: r, i => if e.key = k then some (i, e.v) else pfind k r (i + 1)
theorem pfind_get (k : κ) : ∀ (es : List (PEnt κ)) (i : Nat), (pfind k es i).map (·.2) = pget k es
  | [], _ => rfl
  | e :: r, i => by unfold pfind pget; split <;> simp [pfind_get k r]
structure KeyLaw (P : Program) (kt : TypeId) (enc : κ → Value) : Prop where
  check : ∀ (b : Bool) (k : κ) (w : World), (Instr.checkKey b 10000 kt (enc k)).run P w = .ok () w
  find : ∀ (k : κ) (es : List (PEnt κ)) (w : World), (Instr.findKey kt (enc k) (es.map (PEnt.obj enc))).run P w = .ok (pfind k es 0) w
  stays : ∀ (k : κ) (w : World), (Instr.keyThatStays (enc k) (enc k)).run P w = .ok (enc k) w
section
variable {P : Program} {w : World} {ρ : Operand → Value} {dst : Option Tmp} {type : TypeId} {pos : String} {after : Array Edge} {guard : Option (Nat × Bool)} {enc : κ → Value}
theorem xp_lookup {t kt et : TypeId} {x y : Operand} {b : Nat} {es : List (PEnt κ)} {clock : Nat} {k : κ} {z : Value} (L : KeyLaw P kt enc) (hb : w.heap[b]? = some (pmapO enc es clock)) (hx : ρ x = .map (some b)) (hy : ρ y = enc k) (ht : P.underlying t = some (.map kt et)) (hz : (zeroValue et).run P w = .ok z w) :
    (execOp ρ ⟨dst, .lookup t x y false, type, pos, after, guard⟩).run P w = .ok (.value ((pget k es).getD z)) w := by
  have hg := run_getObj (P := P) hb (by simp [pmapO])
  have hf := L.find k es w
  have hc := L.check
  simp only [execOp, Instr.lookup, hx, hy, Sem.run_bind, run_underlying ht, Result.andThen_ok, hg, Sem.run_pure, hc, hf, List.toList_toArray, pmapO]
  rw [← pfind_get k es 0]
  cases h : pfind k es 0 with
  | none => simp [hz]
  | some p => obtain ⟨i, v⟩ := p; simp
theorem xp_lookupOk {t kt et : TypeId} {x y : Operand} {b : Nat} {es : List (PEnt κ)} {clock : Nat} {k : κ} {z : Value} (L : KeyLaw P kt enc) (hb : w.heap[b]? = some (pmapO enc es clock)) (hx : ρ x = .map (some b)) (hy : ρ y = enc k) (ht : P.underlying t = some (.map kt et)) (hz : (zeroValue et).run P w = .ok z w) :
    (execOp ρ ⟨dst, .lookup t x y true, type, pos, after, guard⟩).run P w = .ok (.value (.tuple #[(pget k es).getD z, .bool (pget k es).isSome])) w := by
  have hg := run_getObj (P := P) hb (by simp [pmapO])
  have hf := L.find k es w
  have hc := L.check
  simp only [execOp, Instr.lookup, hx, hy, Sem.run_bind, run_underlying ht, Result.andThen_ok, hg, Sem.run_pure, hc, hf, List.toList_toArray, pmapO]
  rw [← pfind_get k es 0]
  cases h : pfind k es 0 with
  | none => simp [hz]
  | some p => obtain ⟨i, v⟩ := p; simp
end
section
variable {P : Program} {n : Nat} {ops : Array Oper} {Q : Exit → Act → World → Prop} {K : St} {w w0 : World} {S : Nat → Prop} {L : Hp} {dst : Option Tmp} {type : TypeId} {pos : String} {after : Array Edge} {rest : List Oper} {enc : κ → Value}
theorem pfind_spec {k : κ} : ∀ {es : List (PEnt κ)} {j q : Nat} {v : Value}, pfind k es j = some (q, v) → ∃ i e, q = j + i ∧ es[i]? = some e ∧ e.key = k ∧ ∀ i', i' < i → ∀ e', es[i']? = some e' → e'.key ≠ k
  | [], _, _, _, h => by cases h
  | e :: r, j, q, v, h => by
    unfold pfind at h
    split at h
    · rename_i he
      injection h with h; injection h with h1 h2
      exact ⟨0, e, by omega, rfl, he, fun i' hi' => absurd hi' (by omega)⟩
    · rename_i he
      obtain ⟨i, e', h1, h2, h3, h4⟩ := pfind_spec h
      refine ⟨i + 1, e', by omega, by simpa using h2, h3, fun i' hi' e'' he'' => ?_⟩
      cases i' with
      | zero => simp at he''; subst he''; exact he
      | succ i' => exact h4 i' (by omega) e'' (by simpa using he'')
/-- set: in place where the key is there, behind all else -/
def pset (k : κ) (v : Value) (clock : Nat) (es : List (PEnt κ)) : List (PEnt κ) × Nat :=
  match pfind k es 0 with
  | some (i, _) => (es.modify i fun e => { e with v := v }, clock)
  | none => (es ++ [⟨k, v, clock⟩], clock + 1)
theorem rp_set {t kt et : TypeId} {x y z : Operand} (KL : KeyLaw P kt enc) (hM : Mem w0 S w L) (i : Nat) {b : Nat} {es : List (PEnt κ)} {clock : Nat} {k : κ} {v : Value} (hi : L[i]? = some (b, pmapO enc es clock)) (ht : P.underlying t = some (.map kt et))
    (hok : okOp n K ⟨dst, .mapUpdate t x y z, type, pos, after, none⟩ = true) (hx : K.ev x = .map (some b)) (hy : K.ev y = enc k) (hz : K.ev z = v)
    (h : ∀ w', Mem w0 S w' (L.set i (b, pmapO enc (pset k v clock es).1 (pset k v clock es).2)) → wpR P n ops Q rest (K.put dst undef) w') : wpR P n ops Q (⟨dst, .mapUpdate t x y z, type, pos, after, none⟩ :: rest) K w := by
  have hb := hM.get i hi
  have hg := run_getObj (P := P) hb (by simp [pmapO])
  have hf := KL.find k es w
  have hc := KL.check
  refine r_skip (w' := { w with heap := w.heap.setIfInBounds b (pmapO enc (pset k v clock es).1 (pset k v clock es).2) }) rfl hok ?_ (h _ (hM.turn hi kept_setObj (heap_setObj hb)))
  cases hp : pfind k es 0 with
  | none =>
    have hs := run_setObj (P := P) (o := pmapO enc (es ++ [(⟨k, v, clock⟩ : PEnt κ)]) (clock + 1)) hb (by simp [pmapO])
    have e1 : pset k v clock es = (es ++ [⟨k, v, clock⟩], clock + 1) := by unfold pset; rw [hp]
    have e2 : (es.map (PEnt.obj enc)).toArray.push { key := enc k, val := v, born := clock } = ((es ++ [(⟨k, v, clock⟩ : PEnt κ)]).map (PEnt.obj enc)).toArray := by simp [PEnt.obj]
    rw [hp] at hf
    rw [e1]
    simp only [execOp, Instr.mapUpdate, hx, hy, hz, Sem.run_bind, run_underlying ht, Result.andThen_ok, hg, pmapO, hc, List.toList_toArray, hf]
    rw [e2]
    simp only [pmapO] at hs
    simp only [Sem.run_bind, hs, Result.andThen_ok, Sem.run_pure]
  | some p =>
    obtain ⟨q, u⟩ := p
    obtain ⟨j, e, h1, h2, h3, _⟩ := pfind_spec hp
    have hqj : q = j := by omega
    subst hqj
    have e1 : pset k v clock es = (es.modify q fun e => { e with v := v }, clock) := by unfold pset; rw [hp]
    have hs := run_setObj (P := P) (o := pmapO enc (es.modify q fun e => { e with v := v }) clock) hb (by simp [pmapO])
    have hkey : ((((es.map (PEnt.obj enc)).toArray[q]?).map (·.key)).getD (enc k)) = enc k := by simp [h2, PEnt.obj, h3]
    have e2 : (es.map (PEnt.obj enc)).toArray.modify q (fun a => { a with key := enc k, val := v }) = ((es.modify q fun e => { e with v := v }).map (PEnt.obj enc)).toArray := by
      apply Array.ext_getElem?
      intro m
      rw [Array.getElem?_modify]
      simp only [List.getElem?_toArray, List.getElem?_map, List.getElem?_modify]
      by_cases hqm : q = m
      · subst hqm
        simp [h2, PEnt.obj, h3]
      · simp [hqm]
    rw [hp] at hf
    rw [e1]
    simp only [execOp, Instr.mapUpdate, hx, hy, hz, Sem.run_bind, run_underlying ht, Result.andThen_ok, hg, pmapO, hc, List.toList_toArray, hf, hkey, KL.stays]
    rw [e2]
    simp only [pmapO] at hs
    simp [hs]
theorem pget_set {k : κ} {v : Value} {clock : Nat} {es : List (PEnt κ)} (q : κ) : pget q (pset k v clock es).1 = if q = k then some v else pget q es := by
  have app : ∀ (l : List (PEnt κ)) (c : Nat), pget q (l ++ [⟨k, v, c⟩]) = match pget q l with | some u => some u | none => if k = q then some v else none := by
    intro l c
    induction l with
    | nil => simp [pget]
    | cons a r ih =>
      simp only [List.cons_append, pget]
      split
      · rfl
      · exact ih
  unfold pset
  cases hp : pfind k es 0 with
  | none =>
    have hn : pget k es = none := by rw [← pfind_get k es 0, hp]; rfl
    simp only [app]
    by_cases hq : q = k
    · subst hq; rw [hn]
    · rw [if_neg hq]
      have : ¬ k = q := fun e => hq e.symm
      cases pget q es <;> simp [this]
  | some p =>
    obtain ⟨m, u⟩ := p
    obtain ⟨j, e, h1, h2, h3, h4⟩ := pfind_spec hp
    have hmj : m = j := by omega
    subst hmj
    simp only
    clear hp h1
    induction es generalizing m with
    | nil => simp at h2
    | cons a r ih =>
      cases m with
      | zero =>
        simp at h2
        subst h2
        simp only [List.modify_zero_cons, pget, h3]
        by_cases hq : q = k
        · rw [if_pos hq.symm, if_pos hq]
        · rw [if_neg (fun e => hq e.symm), if_neg hq, if_neg (fun e => hq e.symm)]
      | succ m =>
        have ha : a.key ≠ k := h4 0 (by omega) a (by simp)
        simp only [List.modify_succ_cons, pget]
        have := ih m (by simpa using h2) (fun i' hi' e' he' => h4 (i' + 1) (by omega) e' (by simpa using he'))
        rw [this]
        by_cases hq : q = k
        · subst hq; simp [ha]
        · simp [hq]
end
/-! pairs of ints -/
abbrev encP2 (k : Int × Int) : Value := .agg #[.int .i64 k.1, .int .i64 k.2]
theorem pairLaw {P : Program} {kt e : TypeId} (hu : P.underlying kt = some (.array 2 e)) (he : P.underlying e = some (.int .i64)) (hi : (P.info? e).map (fun i => (i.zero, i.size, i.bytes)) = some (some (.int .i64 0), 1, 8)) (hg : ∀ w, (isAgg e).run P w = .ok false w) : KeyLaw P kt encP2 := by
  obtain ⟨i0, h1, h2, h3, h4⟩ := info_parts hi
  have hsz : ∀ w, (sizeOf e).run P w = .ok 1 w := fun w => by have := run_sizeOf (P := P) w h1; rw [this]; simp [Program.cellsOf, h1, h3]
  have hcl : P.cellsOf e = 1 := by simp [Program.cellsOf, h1, h3]
  have hp0 : ∀ (a b : Int) (w : World), (part e #[.int .i64 a, .int .i64 b] 0).run P w = .ok (.int .i64 a) w := by intro a b w; simp [part, hg]
  have hp1 : ∀ (a b : Int) (w : World), (part e #[.int .i64 a, .int .i64 b] 1).run P w = .ok (.int .i64 b) w := by intro a b w; simp [part, hg]
  have heq : ∀ (k q : Int × Int) (w : World), (Op.equal kt (encP2 k) (encP2 q)).run P w = .ok (decide (k = q)) w := by
    intro k q w
    have heqI : ∀ (d : Nat) (a b : Int) (w : World), (Op.equalIn (d + 1) e (.int .i64 a) (.int .i64 b)).run P w = .ok (a == b) w := by
      intro d a b w
      simp [Op.equalIn, run_underlying he]
    have h9 := run_equalIn_array (P := P) (w := w) 9999 #[.int .i64 k.1, .int .i64 k.2] #[.int .i64 q.1, .int .i64 q.2] hu h1
    show (Op.equalIn (9999 + 1) kt (encP2 k) (encP2 q)).run P w = _
    rw [h9, hcl]
    rw [show List.range 2 = [0, 1] from rfl]
    simp only [Op.eqItems, Nat.zero_mul, Nat.one_mul, Sem.run_bind, hp0, hp1, Result.andThen_ok]
    rw [show (9999 : Nat) = 9998 + 1 from rfl]
    simp only [heqI, Result.andThen_ok, if_true]
    obtain ⟨a, b⟩ := k
    obtain ⟨c, d⟩ := q
    by_cases h5 : a = c <;> by_cases h6 : b = d <;> simp [h5, h6, heqI, hp0, hp1]
  refine ⟨fun b k w => ?_, fun k es w => ?_, fun k w => ?_⟩
  · have hplain : ∀ (d : Nat) (a : Int) (w : World), (Instr.checkKey b (d + 1) e (.int .i64 a)).run P w = .ok () w := by
      intro d a w
      simp [Instr.checkKey, run_underlying he]
    have hall : ∀ d, (Instr.checkKey b (d + 1 + 1) kt (encP2 k)).run P w = .ok () w := by
      intro d
      unfold Instr.checkKey
      simp only [Sem.run_bind, run_underlying hu, Result.andThen_ok]
      simp only [Std.Legacy.Range.forIn_eq_forIn_range', Std.Legacy.Range.size, Nat.sub_zero, Nat.add_one_sub_one, Nat.div_one]
      rw [show List.range' 0 2 = [0, 1] from rfl]
      simp [hsz, hp0, hp1, hplain]
    exact hall 9998
  · have hask : ∀ (es : List (PEnt (Int × Int))) (i : Nat) (w : World), (Instr.findAsking kt (encP2 k) (es.map (PEnt.obj encP2)) i).run P w = .ok (pfind k es i) w := by
      intro es
      induction es with
      | nil => intro i w; rfl
      | cons a r ih =>
        intro i w
        simp only [List.map_cons, Instr.findAsking, PEnt.obj, Sem.run_bind, heq, Result.andThen_ok, pfind]
        by_cases h : k = a.key
        · simp [h]
        · have h' : ¬ a.key = k := fun e => h e.symm
          simp only [h, h', decide_false, Bool.false_eq_true, if_false]
          exact ih (i + 1) w
    cases es with
    | nil => simp [Instr.findKey, run_underlying hu, Instr.findNow, pfind]
    | cons a r =>
      have hnow : Instr.findNow (.array 2 e) (encP2 k) ((a :: r).map (PEnt.obj encP2)) 0 = none := by
        simp [Instr.findNow, Instr.sameNow]
      simp only [Instr.findKey, Sem.run_bind, run_underlying hu, Result.andThen_ok, hnow]
      exact hask (a :: r) 0 w
  · have hsb : ∀ n, Instr.sameBits (n + 1) (encP2 k) (encP2 k) = true := by intro n; simp [Instr.sameBits]
    have : Instr.sameBits 10000 (encP2 k) (encP2 k) = true := hsb 9999
    unfold Instr.keyThatStays
    rw [if_pos this]
    rfl
end Go.Kn
end
section
/- The law on clusters: plain facts. -/
set_option linter.unusedVariables false
set_option linter.unusedSimpArgs false
namespace Go.Kn
open Go.RowKit Go.Proofs.Ytddacakmafdgdaa
theorem sorted_getE {xs : List Int} (h : xs.Pairwise (· < ·)) {i j : Nat} {x y : Int} (hi : xs[i]? = some x) (hj : xs[j]? = some y) (hij : i < j) : x < y := by
  obtain ⟨h1, rfl⟩ := List.getElem?_eq_some_iff.1 hi
  obtain ⟨h2, rfl⟩ := List.getElem?_eq_some_iff.1 hj
  exact List.pairwise_iff_getElem.1 h i j h1 h2 hij
section
variable {l : List (List Int)} {n : Nat} {f : Nat → Nat}
def idAt (l : List (List Int)) (p : Nat) : Int := idOf (l.getD p [])
theorem idAt_lt (hs : sortedIds l) {p q : Nat} (hpq : p < q) (hq : q < l.length) : idAt l p < idAt l q := by
  have hp : p < l.length := by omega
  have := sorted_lt hs (i := p) (j := q) (x := l[p]) (y := l[q]) (by simp) (by simp) hpq
  simpa [idAt, hp, hq] using this
theorem idAt_inj (hs : sortedIds l) {p q : Nat} (hp : p < l.length) (hq : q < l.length) (h : idAt l p = idAt l q) : p = q := by
  rcases Nat.lt_trichotomy p q with h1 | h1 | h1
  · have := idAt_lt hs h1 hq; omega
  · exact h1
  · have := idAt_lt hs h1 hp; omega
theorem atPos_id (hs : sortedIds l) {p : Nat} (hp : p < l.length) : atPos l (idAt l p) = p ∧ atOk l (idAt l p) = true := by
  have hok : atOk l (idAt l p) = true := List.any_eq_true.2 ⟨l[p], List.getElem_mem hp, by simp [idAt, hp]⟩
  refine ⟨?_, hok⟩
  obtain ⟨x, hx, he⟩ := at_found hs hok
  have hlt := place_lt hs hok
  refine idAt_inj hs hlt hp ?_
  have h2 : l.getD (atPos l (idAt l p)) [] = x := by simp [hx]
  show idOf (l.getD (atPos l (idAt l p)) []) = idAt l p
  rw [h2]; exact he
theorem at_idAt (hs : sortedIds l) {t : Int} (h : atOk l t = true) : idAt l (atPos l t) = t := by
  obtain ⟨x, hx, he⟩ := at_found hs h
  simp [idAt, hx, he]
theorem mem_idsAt {k : Nat} {x : Int} : x ∈ idsAt l n f k ↔ ∃ p, p < n ∧ f p = k ∧ idAt l p = x := by
  unfold idsAt
  rw [List.mem_map]
  constructor
  · rintro ⟨p, hp, rfl⟩; exact ⟨p, (mem_members.1 hp).1, (mem_members.1 hp).2, rfl⟩
  · rintro ⟨p, h1, h2, rfl⟩; exact ⟨p, mem_members.2 ⟨h1, h2⟩, rfl⟩
theorem idsAt_sorted (hs : sortedIds l) (hn : l.length = n) (k : Nat) : (idsAt l n f k).Pairwise (· < ·) := by
  unfold idsAt
  rw [List.pairwise_map]
  refine List.Pairwise.imp_of_mem ?_ (members_sorted n f k)
  intro p q hp hq hpq
  exact idAt_lt hs hpq (by rw [hn]; exact (mem_members.1 hq).1)
/-- the first one stands first -/
theorem idsAt_first (hle : ∀ p, p < n → f p ≤ p) {k : Nat} (hk : isKey n f k) : (idsAt l n f k)[0]? = some (idAt l k) := by
  have hm : k ∈ members n f k := mem_members.2 ⟨hk.1, hk.2⟩
  obtain ⟨j, hj⟩ := List.mem_iff_getElem?.1 hm
  have hj0 : j = 0 := by
    rcases Nat.eq_zero_or_pos j with h | h
    · exact h
    · exfalso
      have hjl := (List.getElem?_eq_some_iff.1 hj).1
      have h0 : (members n f k)[0]? = some ((members n f k)[0]'(by omega)) := by simp
      have hm0 := mem_members.1 (List.mem_of_getElem? h0)
      have hlt : (members n f k)[0]'(by omega) < k := by
        obtain ⟨h1, h2⟩ := List.getElem?_eq_some_iff.1 hj
        have := List.pairwise_iff_getElem.1 (members_sorted n f k) 0 j (by omega) h1 h
        rw [h2] at this; exact this
      have := hle _ hm0.1
      rw [hm0.2] at this
      omega
  subst hj0
  unfold idsAt
  rw [List.getElem?_map, hj]
  rfl
structure FOk (n : Nat) (f : Nat → Nat) : Prop where
  le : ∀ p, p < n → f p ≤ p
  idem : ∀ p, p < n → f (f p) = f p
theorem FOk.key {n : Nat} {f : Nat → Nat} (h : FOk n f) {p : Nat} (hp : p < n) : isKey n f (f p) := ⟨Nat.lt_of_le_of_lt (h.le p hp) hp, h.idem p hp⟩
theorem FOk.idx {n : Nat} {f : Nat → Nat} (h : FOk n f) {p : Nat} (hp : p < n) : ∃ j : Nat, (keysOf n f)[j]? = some (f p) := List.mem_iff_getElem?.1 (mem_keysOf.2 (h.key hp))
theorem keys_idx_inj {n : Nat} {f : Nat → Nat} {i j x : Nat} (hi : (keysOf n f)[i]? = some x) (hj : (keysOf n f)[j]? = some x) : i = j := by
  obtain ⟨h1, h2⟩ := List.getElem?_eq_some_iff.1 hi
  obtain ⟨h3, h4⟩ := List.getElem?_eq_some_iff.1 hj
  rcases Nat.lt_trichotomy i j with h | h | h
  · have := List.pairwise_iff_getElem.1 (keysOf_sorted n f) i j h1 h3 h; omega
  · exact h
  · have := List.pairwise_iff_getElem.1 (keysOf_sorted n f) j i h3 h1 h; omega
/-! ### the map of numbers of groups -/
def plTo (ids : List (List Int)) (i k : Nat) : List (Int × Nat) := ((ids.take i).zipIdx.flatMap fun p => p.1.map fun x => (x, p.2)) ++ ((ids.getD i []).take k).map fun x => (x, i)
def esOf (P : List (Int × Nat)) : List Ent := P.zipIdx.map fun q => ⟨q.1.1, .int .i64 (q.1.2 : Int), q.2⟩
theorem esOf_snoc (P : List (Int × Nat)) (x : Int) (i : Nat) : esOf (P ++ [(x, i)]) = esOf P ++ [⟨x, .int .i64 (i : Int), P.length⟩] := by simp [esOf, List.zipIdx_append]
theorem esOf_len (P : List (Int × Nat)) : (esOf P).length = P.length := by simp [esOf]
theorem esOf_keys (P : List (Int × Nat)) : (esOf P).map Ent.key = P.map (·.1) := by
  unfold esOf
  rw [List.map_map]
  have : (Ent.key ∘ fun q : (Int × Nat) × Nat => (⟨q.1.1, .int .i64 (q.1.2 : Int), q.2⟩ : Ent)) = (fun p : Int × Nat => p.1) ∘ Prod.fst := by funext q; rfl
  rw [this, ← List.map_map]
  congr 1
  exact List.zipIdx_map_fst 0 P
theorem esOf_get {P : List (Int × Nat)} {x : Int} {i : Nat} (h : (x, i) ∈ P) (hn : (P.map (·.1)).Nodup) : mget x (esOf P) = some (.int .i64 (i : Int)) := by
  obtain ⟨j, hj⟩ := List.mem_iff_getElem?.1 h
  have hm : (⟨x, .int .i64 (i : Int), j⟩ : Ent) ∈ esOf P := List.mem_map.2 ⟨((x, i), j), List.mk_mem_zipIdx_iff_getElem?.2 hj, rfl⟩
  exact mget_some hm rfl (by rw [esOf_keys]; exact hn)
theorem esOf_none {P : List (Int × Nat)} {x : Int} (h : x ∉ P.map (·.1)) : mget x (esOf P) = none := mget_none (fun e he hk => h (by rw [← esOf_keys]; exact List.mem_map.2 ⟨e, he, hk⟩))
theorem plTo_step {ids : List (List Int)} {i k : Nat} {xs : List Int} {x : Int} (hi : ids[i]? = some xs) (hk : xs[k]? = some x) : plTo ids i (k + 1) = plTo ids i k ++ [(x, i)] := by
  have : ids.getD i [] = xs := by simp [hi]
  unfold plTo
  rw [this, take_snoc' hk, List.map_append, List.append_assoc]
  rfl
theorem plTo_row {ids : List (List Int)} {i k : Nat} {xs : List Int} (hi : ids[i]? = some xs) (hk : xs.length ≤ k) : plTo ids i k = plTo ids (i + 1) 0 := by
  have h1 : ids.getD i [] = xs := by simp [hi]
  unfold plTo
  rw [h1, take_snoc' hi, List.zipIdx_append, List.flatMap_append, List.take_of_length_le hk]
  have hlen : (ids.take i).length = i := by
    have := (List.getElem?_eq_some_iff.1 hi).1
    rw [List.length_take]; omega
  simp [hlen]
theorem plTo_fst {ids : List (List Int)} {i k : Nat} : (plTo ids i k).map (·.1) = (ids.take i).flatMap id ++ (ids.getD i []).take k := by
  unfold plTo
  rw [List.map_append, List.map_flatMap]
  congr 1
  · have h2 : (fun a : List Int × Nat => (a.1.map fun x => (x, a.2)).map (·.1)) = fun a => id a.1 := by funext a; rw [List.map_map]; exact List.map_id a.1
    rw [h2]
    have : (ids.take i).zipIdx.flatMap (fun a => id a.1) = ((ids.take i).zipIdx.map (·.1)).flatMap id := by rw [List.flatMap_map]
    rw [this, List.zipIdx_map_fst]
  · rw [List.map_map]; exact List.map_id _
/-- all Ids of all groups, each once -/
theorem ids_perm (hs : sortedIds l) (hn : l.length = n) (hf : FOk n f) : ((idsG l n f).flatMap id).Perm ((List.range n).map (idAt l)) := by
  have hnd2 : ((List.range n).map (idAt l)).Nodup := by
    rw [List.Nodup, List.pairwise_map]
    refine List.Pairwise.imp_of_mem ?_ List.pairwise_lt_range
    intro p q hp hq hpq e
    have := idAt_lt hs hpq (by rw [hn]; exact List.mem_range.1 hq)
    omega
  have hfl : (idsG l n f).flatMap id = ((keysOf n f).flatMap fun k => members n f k).map (idAt l) := by
    unfold idsG
    rw [List.flatMap_map, List.map_flatMap]
    rfl
  have hp : ((keysOf n f).flatMap fun k => members n f k).Perm (List.range n) := by
    rw [List.perm_ext_iff_of_nodup _ List.nodup_range]
    · intro p
      rw [List.mem_flatMap]
      constructor
      · rintro ⟨k, _, hp⟩; exact List.mem_range.2 (mem_members.1 hp).1
      · intro hp
        have hpn := List.mem_range.1 hp
        exact ⟨f p, mem_keysOf.2 (hf.key hpn), mem_members.2 ⟨hpn, rfl⟩⟩
    · rw [List.Nodup, List.pairwise_flatMap]
      refine ⟨fun k _ => (members_sorted n f k).imp (fun h => by omega), ?_⟩
      refine (keysOf_sorted n f).imp ?_
      intro a b hab p hp q hq e
      subst e
      have h1 := (mem_members.1 hp).2
      have h2 := (mem_members.1 hq).2
      omega
  rw [hfl]
  exact hp.map _
theorem ids_nodup (hs : sortedIds l) (hn : l.length = n) (hf : FOk n f) : ((idsG l n f).flatMap id).Nodup := by
  rw [(ids_perm hs hn hf).nodup_iff]
  rw [List.Nodup, List.pairwise_map]
  refine List.Pairwise.imp_of_mem ?_ List.pairwise_lt_range
  intro p q hp hq hpq e
  have := idAt_lt hs hpq (by rw [hn]; exact List.mem_range.1 hq)
  omega
end
end Go.Kn
end
section
/- Pairs of Ids that are counted: over the entries of a map in any order, and over a list. -/
set_option linter.unusedVariables false
set_option linter.unusedSimpArgs false
namespace Go.Kn
open Go.RowKit Go.Proofs.Ytddacakmafdgdaa
section
variable {α : Type}
def sumAux (f : α → Nat) (seen : Array Nat) : List α → Nat → Nat
  | [], _ => 0
  | a :: r, k => (if k ∈ seen.toList then f a else 0) + sumAux f seen r (k + 1)
/-- the sum over the entries that have been met -/
def sumSeen (f : α → Nat) (P : List α) (seen : Array Nat) : Nat := sumAux f seen P 0
theorem sumAux_same {f : α → Nat} {seen : Array Nat} {j : Nat} : ∀ {P : List α} {k : Nat}, j < k → sumAux f (seen.push j) P k = sumAux f seen P k
  | [], _, _ => rfl
  | a :: r, k, h => by
    unfold sumAux
    rw [sumAux_same (by omega)]
    have : (k ∈ (seen.push j).toList) ↔ k ∈ seen.toList := by simp; omega
    simp only [this]
theorem sumAux_push {f : α → Nat} {seen : Array Nat} {j : Nat} {a : α} : ∀ {P : List α} {k : Nat}, P[j]? = some a → (k + j) ∉ seen.toList → sumAux f (seen.push (k + j)) P k = sumAux f seen P k + f a
  | [], _, h, _ => by simp at h
  | b :: r, k, h, hn => by
    unfold sumAux
    cases j with
    | zero =>
      simp at h; subst h
      rw [Nat.add_zero] at hn ⊢
      rw [sumAux_same (by omega)]
      have h2 : k ∈ (seen.push k).toList := by simp
      rw [if_pos h2, if_neg hn]; omega
    | succ j =>
      have hr : r[j]? = some a := by simpa using h
      have e : k + (j + 1) = (k + 1) + j := by omega
      rw [e] at hn ⊢
      rw [sumAux_push hr hn]
      have : (k ∈ (seen.push (k + 1 + j)).toList) ↔ k ∈ seen.toList := by simp; omega
      simp only [this]; omega
theorem sum_push {f : α → Nat} {P : List α} {seen : Array Nat} {j : Nat} {a : α} (h : P[j]? = some a) (hn : j ∉ seen.toList) : sumSeen f P (seen.push j) = sumSeen f P seen + f a := by
  have := sumAux_push (f := f) (k := 0) h (by rw [Nat.zero_add]; exact hn)
  rwa [Nat.zero_add] at this
theorem sumAux_all {f : α → Nat} {seen : Array Nat} : ∀ {P : List α} {k : Nat}, (∀ j, j < P.length → (k + j) ∈ seen.toList) → sumAux f seen P k = (P.map f).sum
  | [], _, _ => rfl
  | a :: r, k, h => by
    unfold sumAux
    have h0 := h 0 (by simp)
    rw [Nat.add_zero] at h0
    rw [if_pos h0, sumAux_all (fun j hj => by have := h (j + 1) (by simp; omega); rwa [show k + 1 + j = k + (j + 1) by omega])]
    simp
theorem sum_all {f : α → Nat} {P : List α} {seen : Array Nat} (h : ∀ j, j < P.length → j ∈ seen.toList) : sumSeen f P seen = (P.map f).sum := sumAux_all (fun j hj => by rw [Nat.zero_add]; exact h j hj)
theorem sumAux_none {f : α → Nat} : ∀ {P : List α} {k : Nat}, sumAux f #[] P k = 0
  | [], _ => rfl
  | a :: r, k => by unfold sumAux; rw [sumAux_none]; simp
theorem sum_none {f : α → Nat} {P : List α} : sumSeen f P #[] = 0 := sumAux_none
theorem sumAux_le {f : α → Nat} {seen : Array Nat} {M : Nat} (hf : ∀ a, f a ≤ M) : ∀ {P : List α} {k : Nat}, sumAux f seen P k ≤ P.length * M
  | [], _ => by simp [sumAux]
  | a :: r, k => by
    unfold sumAux
    have h1 := sumAux_le (seen := seen) hf (P := r) (k := k + 1)
    have h2 := hf a
    rw [List.length_cons, Nat.add_mul]
    split <;> omega
theorem sum_le {f : α → Nat} {P : List α} {seen : Array Nat} {M : Nat} (hf : ∀ a, f a ≤ M) : sumSeen f P seen ≤ P.length * M := sumAux_le hf
/-- one or none -/
def b01 (b : Bool) : Nat := if b then 1 else 0
theorem b01_le (b : Bool) : b01 b ≤ 1 := by unfold b01; split <;> omega
theorem sum_b01 {c : α → Bool} {P : List α} : (P.map fun q => b01 (c q)).sum = P.countP c := by
  induction P with
  | nil => rfl
  | cons a r ih => rw [List.map_cons, List.sum_cons, ih, List.countP_cons]; unfold b01; omega
/-- all pairs -/
def sq (c : α → α → Bool) (zs : List α) : Nat := (zs.map fun p => zs.countP (c p)).sum
theorem sum_perm {f : α → Nat} {a b : List α} (h : a.Perm b) : (a.map f).sum = (b.map f).sum := by
  induction h with
  | nil => rfl
  | cons x _ ih => simp [ih]
  | swap x y l => simp; omega
  | trans _ _ h1 h2 => rw [h1, h2]
theorem sq_perm {c : α → α → Bool} {a b : List α} (h : a.Perm b) : sq c a = sq c b := by
  unfold sq
  rw [sum_perm h]
  congr 1
  exact List.map_congr_left fun p _ => h.countP_eq _
theorem sq_filter {c : α → α → Bool} {s : α → Bool} {zs : List α} (h : ∀ p q, c p q = true → s p = true ∧ s q = true) : sq c zs = sq c (zs.filter s) := by
  unfold sq
  have h1 : ∀ p, zs.countP (c p) = (zs.filter s).countP (c p) := by
    intro p
    rw [List.countP_filter]
    refine List.countP_congr fun q _ => ?_
    constructor
    · intro hc; simp [hc, (h p q hc).2]
    · intro hc; simp at hc; exact hc.1
  have h2 : ∀ (l : List α), ((l.map fun p => zs.countP (c p))).sum = ((l.filter s).map fun p => (zs.filter s).countP (c p)).sum := by
    intro l
    induction l with
    | nil => rfl
    | cons a r ih =>
      rw [List.map_cons, List.sum_cons, ih, List.filter_cons]
      by_cases hs : s a = true
      · rw [if_pos hs, List.map_cons, List.sum_cons, ← h1 a]
      · rw [if_neg hs]
        have : zs.countP (c a) = 0 := List.countP_eq_zero.2 fun q _ hc => hs (h a q hc).1
        omega
  exact h2 zs
theorem sum_add {f g : α → Nat} {l : List α} : (l.map fun a => f a + g a).sum = (l.map f).sum + (l.map g).sum := by
  induction l with
  | nil => rfl
  | cons a r ih => simp only [List.map_cons, List.sum_cons, ih]; omega
/-- pairs of a place and one before it -/
def tri (d : α → α → Bool) : List α → Nat
  | [] => 0
  | a :: r => tri d r + r.countP (d a)
def triTo (d : α → α → Bool) (zs : List α) (i k : Nat) : Nat := sq (fun p q => d p q) [] + ((List.range i).map fun a => match zs[a]? with | some x => (zs.take a).countP (d x) | none => 0).sum + (match zs[i]? with | some x => (zs.take k).countP (d x) | none => 0)
theorem sq_snoc {lt : α → α → Bool} {d : α → α → Bool} {zs : List α} {a : α} (hs : ∀ p q, d p q = d q p) (hd : ∀ z ∈ zs, lt z a = !lt a z) (haa : lt a a = false) : sq (fun p q => lt p q && d p q) (zs ++ [a]) = sq (fun p q => lt p q && d p q) zs + zs.countP (d a) := by
  unfold sq
  rw [List.map_append, List.sum_append]
  have h1 : (zs.map fun p => (zs ++ [a]).countP fun q => lt p q && d p q) = zs.map fun p => zs.countP (fun q => lt p q && d p q) + b01 (lt p a && d p a) := by
    refine List.map_congr_left fun p _ => ?_
    rw [List.countP_append, List.countP_cons, List.countP_nil]
    unfold b01; omega
  rw [h1, sum_add, sum_b01]
  have h2 : (zs ++ [a]).countP (fun q => lt a q && d a q) = zs.countP (fun q => lt a q && d a q) := by
    rw [List.countP_append, List.countP_cons, List.countP_nil, haa]; simp
  simp only [List.map_cons, List.map_nil, List.sum_cons, List.sum_nil, h2]
  have h3 : zs.countP (d a) = zs.countP (fun p => lt p a && d p a) + zs.countP (fun q => lt a q && d a q) := by
    clear h1 h2
    induction zs with
    | nil => rfl
    | cons z r ih =>
      have hz := hd z (by simp)
      rw [List.countP_cons, List.countP_cons, List.countP_cons, ih (fun y hy => hd y (by simp [hy])), hz, hs z a]
      cases lt a z <;> cases d a z <;> simp <;> omega
  omega
/-- the sum of the rows of pairs -/
def triS (d : α → α → Bool) (zs : List α) (i : Nat) : Nat := ((List.range i).map fun a => match zs[a]? with | some x => (zs.take a).countP (d x) | none => 0).sum
theorem triS_succ {d : α → α → Bool} {zs : List α} {i : Nat} {x : α} (h : zs[i]? = some x) : triS d zs (i + 1) = triS d zs i + (zs.take i).countP (d x) := by
  unfold triS
  rw [List.range_succ, List.map_append, List.sum_append]
  simp [h]
theorem countP_step {c : α → Bool} {zs : List α} {k : Nat} {y : α} (h : zs[k]? = some y) : (zs.take (k + 1)).countP c = (zs.take k).countP c + b01 (c y) := by
  obtain ⟨hlt, rfl⟩ := List.getElem?_eq_some_iff.1 h
  rw [List.take_succ_eq_append_getElem hlt, List.countP_append, List.countP_cons, List.countP_nil]
  unfold b01; omega
theorem triS_all {lt : α → α → Bool} {d : α → α → Bool} {zs : List α} (hs : ∀ p q, d p q = d q p) (hd : zs.Pairwise fun y z => lt y z = !lt z y) (haa : ∀ a, lt a a = false) : ∀ i, i ≤ zs.length → triS d zs i = sq (fun p q => lt p q && d p q) (zs.take i) := by
  intro i
  induction i with
  | zero => intro _; rfl
  | succ i ih =>
    intro hi
    have hx : zs[i]? = some zs[i] := by simp
    rw [triS_succ hx, ih (by omega), List.take_succ_eq_append_getElem (by omega), sq_snoc hs ?_ (haa _)]
    intro z hz
    obtain ⟨j, hj⟩ := List.mem_iff_getElem?.1 hz
    rw [List.getElem?_take] at hj
    split at hj
    · obtain ⟨h1, rfl⟩ := List.getElem?_eq_some_iff.1 hj
      exact List.pairwise_iff_getElem.1 hd j i h1 (by omega) (by omega)
    · cases hj
end
/-! ### numbers of groups -/
/-- the number of an Id's group -/
def numOf (Q : List (Int × Nat)) (x : Int) : Option Nat := (Q.find? fun q => q.1 == x).map (·.2)
theorem mget_aux {x : Int} : ∀ (Q : List (Int × Nat)) (k : Nat), mget x ((Q.zipIdx k).map fun q => (⟨q.1.1, .int .i64 (q.1.2 : Int), q.2⟩ : Ent)) = (numOf Q x).map fun i => Value.int .i64 (i : Int)
  | [], _ => rfl
  | a :: r, k => by
    rw [List.zipIdx_cons, List.map_cons]
    unfold mget numOf
    rw [List.find?_cons]
    by_cases h : a.1 = x
    · simp [h]
    · have : (a.1 == x) = false := by simpa using h
      rw [this, if_neg h]
      exact mget_aux r (k + 1)
theorem mget_num (Q : List (Int × Nat)) (x : Int) : mget x (esOf Q) = (numOf Q x).map fun i => Value.int .i64 (i : Int) := mget_aux Q 0
theorem num_none {Q : List (Int × Nat)} {x : Int} : numOf Q x = none ↔ x ∉ Q.map (·.1) := by
  unfold numOf
  rw [Option.map_eq_none_iff, List.find?_eq_none]
  constructor
  · intro h hx
    obtain ⟨q, hq, rfl⟩ := List.mem_map.1 hx
    exact h q hq (by simp)
  · intro h q hq he
    exact h (List.mem_map.2 ⟨q, hq, by simpa using he⟩)
theorem num_some {Q : List (Int × Nat)} {x : Int} {i : Nat} (hn : (Q.map (·.1)).Nodup) (h : (x, i) ∈ Q) : numOf Q x = some i := by
  have h1 := mget_num Q x
  rw [esOf_get h hn] at h1
  cases hq : numOf Q x with
  | none => rw [hq] at h1; cases h1
  | some j => rw [hq] at h1; simp at h1; rw [show j = i by omega]
def isIn (Q : List (Int × Nat)) (p : Int × Nat) : Bool := (numOf Q p.1).isSome
def same1 (p q : Int × Nat) : Bool := p.2 == q.2
def same2 (Q : List (Int × Nat)) (p q : Int × Nat) : Bool := numOf Q p.1 == numOf Q q.1
def ltP (p q : Int × Nat) : Bool := decide (p.1 < q.1)
/-- the three kinds of pairs -/
def knd (Q : List (Int × Nat)) (j : Nat) (p q : Int × Nat) : Bool := match j with | 0 => same1 p q && same2 Q p q | 1 => same1 p q && !same2 Q p q | _ => !same1 p q && same2 Q p q
theorem knd_symm (Q : List (Int × Nat)) (j : Nat) (p q : Int × Nat) : knd Q j p q = knd Q j q p := by
  have h1 : same1 p q = same1 q p := by unfold same1; rw [Bool.eq_iff_iff]; simp; exact eq_comm
  have h2 : same2 Q p q = same2 Q q p := by unfold same2; rw [Bool.eq_iff_iff]; simp; exact eq_comm
  unfold knd
  rw [h1, h2]
/-- what Pairs counts -/
def cnd3 (Q : List (Int × Nat)) (j : Nat) (p q : Int × Nat) : Bool := (ltP p q && knd Q j p q) && (isIn Q p && isIn Q q)
def pairsN (P Q : List (Int × Nat)) (j : Nat) : Nat := sq (cnd3 Q j) P
theorem pairs_common {P Q zs : List (Int × Nat)} {j : Nat} (hn : (P.map (·.1)).Nodup) (h : zs.Perm (P.filter (isIn Q))) : triS (knd Q j) zs zs.length = pairsN P Q j := by
  have hz : (zs.map (·.1)).Nodup := by
    have h1 := (h.map (fun p : Int × Nat => p.1)).nodup_iff.2
    exact h1 (hn.sublist (List.filter_sublist.map _))
  rw [triS_all (lt := ltP) (knd_symm Q j) ?_ (fun a => by simp [ltP]) _ (Nat.le_refl _), List.take_length, sq_perm h]
  · unfold pairsN
    rw [sq_filter (s := isIn Q) (c := cnd3 Q j) (fun p q hc => by unfold cnd3 at hc; simp at hc; exact hc.2)]
    unfold sq
    congr 1
    refine List.map_congr_left fun p hp => List.countP_congr fun q hq => ?_
    have hp2 := (List.mem_filter.1 hp).2
    have hq2 := (List.mem_filter.1 hq).2
    unfold cnd3
    simp [hp2, hq2]
  · rw [List.Nodup, List.pairwise_map] at hz
    refine hz.imp fun {a b} hne => ?_
    unfold ltP
    rcases Int.lt_trichotomy a.1 b.1 with h1 | h1 | h1
    · have : ¬ b.1 < a.1 := by omega
      simp [h1, this]
    · exact absurd h1 hne
    · have : ¬ a.1 < b.1 := by omega
      simp [h1, this]
theorem pairs_le {P Q : List (Int × Nat)} {j : Nat} : pairsN P Q j ≤ P.length * P.length := by
  have : ∀ l : List (Int × Nat), (l.map fun p => P.countP (cnd3 Q j p)).sum ≤ l.length * P.length := by
    intro l
    induction l with
    | nil => simp
    | cons a r ih =>
      have := List.countP_le_length (p := cnd3 Q j a) (l := P)
      simp only [List.map_cons, List.sum_cons, List.length_cons, Nat.add_mul]; omega
  exact this P
end Go.Kn
end
section
/- The law on clusters: what a clustering keeps. -/
set_option linter.unusedVariables false
set_option linter.unusedSimpArgs false
namespace Go.Kn
open Go.RowKit Go.Proofs.Ytddacakmafdgdaa
theorem joinF_same {a b p q : Nat} {f : Nat → Nat} (h : f p = f q) : joinF a b f p = joinF a b f q := by unfold joinF; rw [h]
theorem joinAll_must : ∀ {ms : List (Nat × Nat)} {m : Nat × Nat}, m ∈ ms → joinAll ms m.1 = joinAll ms m.2 := by
  have gen : ∀ (ms : List (Nat × Nat)) (f : Nat → Nat) (p q : Nat), (f p = f q ∨ (p, q) ∈ ms) → (ms.foldl (fun f m => joinF (f m.1) (f m.2) f) f) p = (ms.foldl (fun f m => joinF (f m.1) (f m.2) f) f) q := by
    intro ms
    induction ms with
    | nil => intro f p q h; rcases h with h | h
             · exact h
             · cases h
    | cons a r ih =>
      intro f p q h
      rw [List.foldl_cons]
      refine ih _ p q ?_
      rcases h with h | h
      · exact .inl (joinF_same h)
      · rcases List.mem_cons.1 h with h | h
        · left
          subst h
          show (if f p = max (f p) (f q) then min (f p) (f q) else f p) = if f q = max (f p) (f q) then min (f p) (f q) else f q
          by_cases h1 : f p = f q
          · rw [h1]
          · rcases Nat.lt_or_ge (f p) (f q) with h2 | h2
            · rw [Nat.max_eq_right (by omega), Nat.min_eq_left (by omega), if_neg (by omega), if_pos rfl]
            · rw [Nat.max_eq_left h2, Nat.min_eq_right h2, if_pos rfl, if_neg (by omega)]
        · exact .inr h
  intro ms m hm
  exact gen ms id m.1 m.2 (.inr hm)
section
variable {l : List (List Int)} {n : Nat} {ns : List (Nat × Nat)} {limit : Int} {f f' : Nat → Nat}
theorem runs_same (h : Runs l n ns limit f f') {p q : Nat} (he : f p = f q) : f' p = f' q := by
  induction h with
  | refl => exact he
  | snoc _ hs ih =>
    obtain ⟨g, a, x, y, least, _, _, _, rfl⟩ := hs
    exact joinF_same ih
theorem runs_apart (h : Runs l n ns limit f f') {m : Nat × Nat} (hm : m ∈ ns) (he : f m.1 ≠ f m.2) : f' m.1 ≠ f' m.2 := by
  induction h with
  | refl => exact he
  | @snoc f1 f2 _ hs ih =>
    obtain ⟨g, a, x, y, least, hT, hB, hl, rfl⟩ := hs
    obtain ⟨hxy, hx, hy⟩ := best_keys hB hl
    have ha : a x y = false := by
      rcases hB with ⟨h1, _⟩ | ⟨_, _, _, ⟨_, _, h3, _⟩, _⟩
      · omega
      · exact h3
    intro e
    rw [joinF_eq hxy, joinF_eq hxy] at e
    have hap := (hT.apart x y hx hy (by omega)).2
    have : a x y = true := by
      apply hap
      refine ⟨m, hm, ?_⟩
      by_cases h1 : f1 m.1 = y <;> by_cases h2 : f1 m.2 = y
      · exact absurd (h1.trans h2.symm) ih
      · rw [if_pos h1, if_neg h2] at e; exact .inr ⟨e.symm, h1⟩
      · rw [if_neg h1, if_pos h2] at e; exact .inl ⟨e, h2⟩
      · rw [if_neg h1, if_neg h2] at e; exact absurd e ih
    rw [ha] at this; cases this
theorem farAt_le (hg : Good l) {p q : Nat} (hp : p < l.length) (hq : q < l.length) : farAt l p q ≤ 774192 := by
  have h1 := hg.vec l[p] (List.getElem_mem hp)
  have h2 := hg.vec l[q] (List.getElem_mem hq)
  have := (farOf_bd h1 h2).2
  simpa [farAt, hp, hq] using this
/-- two groups are far apart, or have a Not between them -/
theorem law_gap (hg : Good l) (hn : l.length = n) (hS : Stop l n ns limit f) (hf : FOk n f) (hl0 : 0 ≤ limit) {k i x y : Nat} (hk : (keysOf n f)[k]? = some x) (hi : (keysOf n f)[i]? = some y) (hki : k < i) {gap : Int} (hgap : GapAll l (idsAt l n f x) (idsAt l n f y) gap) (hle : gap ≤ limit) :
    ∃ m ∈ ns, (f m.1 = x ∧ f m.2 = y) ∨ (f m.2 = x ∧ f m.1 = y) := by
  obtain ⟨g, a, u, v, least, hT, hB, hno⟩ := hS
  have hxk := mem_keysOf.1 (List.mem_of_getElem? hk)
  have hyk := mem_keysOf.1 (List.mem_of_getElem? hi)
  have hil := (List.getElem?_eq_some_iff.1 hi).1
  have hxy : x ≠ y := by
    intro e; subst e
    have := keys_idx_inj hk hi; omega
  have hnc : ∀ i j u v, upP (keysOf n f).length (keysOf n f).length 0 i j → ¬ Cand g a limit (keysOf n f) i j u v := by
    rcases hB with ⟨_, h2⟩ | ⟨_, _, _, ⟨_, _, _, h4⟩, h5, _⟩
    · exact h2
    · omega
  have hc := hnc k i x y (by unfold upP; omega)
  rw [← hT.apart x y hxk hyk hxy]
  cases ha : a x y with
  | true => rfl
  | false =>
    exfalso
    have hgl : limit + 1 ≤ g x y := by
      by_cases h : g x y ≤ limit
      · exact absurd ⟨hk, hi, ha, h⟩ hc
      · omega
    obtain ⟨h1, h2⟩ := (hT.gap x y hxk hyk hxy (limit + 1)).1 hgl
    have hpair := h2 x y hxk.1 hyk.1 hxk.2 hyk.2
    have hb := farAt_le hg (p := x) (q := y) (by rw [hn]; exact hxk.1) (by rw [hn]; exact hyk.1)
    have h3 : limit + 1 ≤ gap := by
      refine (hgap (limit + 1)).2 ⟨by omega, fun s hs t ht => ?_⟩
      obtain ⟨p, hp, hfp, rfl⟩ := mem_idsAt.1 hs
      obtain ⟨q, hq, hfq, rfl⟩ := mem_idsAt.1 ht
      rw [(atPos_id hg.sorted (by rw [hn]; exact hp)).1, (atPos_id hg.sorted (by rw [hn]; exact hq)).1]
      exact h2 p q hp hq hfp hfq
    omega
end
end Go.Kn
end
section
/- FN: what Go functions of this seat come to, printed by walk.py over the engine. -/
set_option linter.unusedVariables false
set_option linter.unusedSimpArgs false
set_option maxRecDepth 100000
namespace Go.Proofs.Ytddacakmafdgdaa
open Go.RowKit Go.Kn

theorem gap_s (Al Aa Ab : Option Addr) (n cl ca cb : Nat) (l : List (List Int)) (xs ys : List Int) (w : World) (hl : RdE intsE 14 w Al n l) (ha : RdE intE 1 w Aa xs.length xs) (hb : RdE intE 1 w Ab ys.length ys) (h1 : xs.length ≤ 274877906944) (h2 : ys.length ≤ 274877906944) :
  Calls Try.prog 8 #[Value.slice Al n cl, Value.slice Aa xs.length ca, Value.slice Ab ys.length cb] w fun e w' => ∃ r, e = .returned r ∧ ∃ g e, r = .tuple #[.int .i64 g, .int .i64 e] ∧ e = gapErr l xs ys ∧ (e ≠ 0 → g = 0) ∧ (e = 0 → GapAll l xs ys g) ∧ Mem w No w' [] := by
 refine calls_k (args := [Value.slice Al n cl, Value.slice Aa xs.length ca, Value.slice Ab ys.length cb]) 93 [(0, Value.slice Al n cl), (1, Value.slice Aa xs.length ca), (2, Value.slice Ab ys.length cb)] Try.func8 rfl rfl ⟨rfl, rfl, rfl, trivial⟩ ?_
 have hM := Mem.nil w No
 have hll := hl.len
 refine k_seq (k_region (sqV (.int .i64 0) rfl rfl rfl ?_))
 refine sqV (.int .i64 0) rfl rfl rfl ?_
 refine r_nil (e_then (k_seq (k_seq (k_region (sqV (.slice Al n cl) rfl rfl rfl ?_)))))
 refine r_call (f := 25) (args := #[Value.slice Al n cl]) (w' := w) rfl rfl (x_call (vs := [Value.slice Al n cl]) (enter25 _ _) rfl rfl) (check_s Al n cl l w (hl.up hM)) ?_
 rintro v_ w1 ⟨rfl, hM2⟩
 replace hM2 := hM.grow hM2.kept
 refine sqV (.int .i64 (checkL l)) rfl rfl rfl ?_
 refine r_nil (e_then (k_seq (k_region (sqV (.int .i64 (checkL l)) rfl rfl rfl ?_))))
 refine sqV (.bool ((checkL l) != 0)) rfl rfl rfl ?_
 refine r_nil (e_then ?_)
 refine k_cond rfl rfl (fun h => ?_) (fun h => ?_)
 ·try simp only [sqC] at h
  refine k_seq (k_region (sqV (.int .i64 (checkL l)) rfl rfl rfl ?_))
  refine sqV (.int .i64 0) rfl rfl rfl ?_
  refine sqV (.int .i64 (checkL l)) rfl rfl rfl ?_
  refine r_nil (sqE [(6, .int .i64 0), (7, .int .i64 (checkL l))] rfl (e_then (k_ret (e_then_ret (e_ret2 rfl rfl rfl ?_)))))
  exact ⟨_, rfl, _, _, rfl, (gapErr_1 h).symm, fun _ => rfl, fun h0 => absurd h0 h, hM2.drop⟩
 ·try simp only [sqC] at h
  refine k_skip (e_then (k_seq (k_seq (k_region ?_))))
  have hgd := good_of h (fun x hx => by have := hl.size x hx; simpa using this)
  have hn3 : n ≤ 300 := by have := hgd.len; omega
  refine sqV (.slice Aa xs.length ca) rfl rfl rfl ?_
  refine sqV (.slice Ab ys.length cb) rfl rfl rfl ?_
  refine r_new (fun b => .slice (some ⟨b, 0, none⟩) 2 2) (.cells #[Value.slice Aa xs.length ca, Value.slice Ab ys.length cb] 30 (0, 0)) hM2 (by kernel_rfl) rfl rfl ?_
  intro b5 w3 hM4 hb5
  replace hM4 : Mem w No w3 [(b5, .cells #[Value.slice Aa xs.length ca, Value.slice Ab ys.length cb] 30 (0, 0))] := hM4
  refine r_call (f := 26) (args := #[Value.slice (some ⟨b5, 0, none⟩) 2 2]) (w' := w3) rfl rfl (x_call (vs := [Value.slice (some ⟨b5, 0, none⟩) 2 2]) (enter26 _ _) rfl rfl) (concat2_s b5 Aa Ab ca cb xs ys _ w3 (hM4.get 0 rfl) (ha.up hM4) (hb.up hM4) h1 h2) ?_
  rintro v_ w6 ⟨L1, hrow, hM7⟩
  replace hM7 : Mem w No w6 L1 := by simpa using Mem.call0 hM4.drop hM7
  obtain ⟨A1, c1, rfl, hnc1, hcx1, hA1⟩ := hrow.slice
  have hal : (xs ++ ys).length = xs.length + ys.length := List.length_append
  refine sqV (.int .i64 ((xs ++ ys).length : Int)) rfl rfl (x_len rfl rfl) ?_
  refine sqV (.int .i64 0) rfl rfl rfl ?_
  refine r_nil (e_then (k_block (k_loop (σ := Nat) (fun k => [(0, .slice Al n cl), (1, .slice Aa xs.length ca), (2, .slice Ab ys.length cb), (30, .slice A1 ((xs ++ ys).length) c1), (31, .int .i64 ((xs ++ ys).length : Int)), (32, .int .i64 (k : Int))]) (fun k w_ => Mem w No w_ L1 ∧ k ≤ (xs ++ ys).length ∧ ∀ z ∈ (xs ++ ys).take k, atOk l z = true) (fun k => (xs ++ ys).length - k) 0 (sqS rfl) ⟨hM7, Nat.zero_le _, by simp⟩ ?_)))
  rintro k w8 ⟨hM9, hk, hok⟩
  refine sqK [(0, .slice Al n cl), (1, .slice Aa xs.length ca), (2, .slice Ab ys.length cb), (30, .slice A1 ((xs ++ ys).length) c1), (31, .int .i64 ((xs ++ ys).length : Int)), (32, .int .i64 (k : Int))] rfl (k_seq (k_region (sqV (.bool (decide ((k : Int) < ((xs ++ ys).length : Int)))) rfl rfl rfl ?_)))
  refine r_nil (e_then (k_seq ?_))
  refine k_cond rfl rfl (fun h3 => ?_) (fun h3 => ?_)
  ·try simp only [sqC] at h3
   refine k_skip (e_then (k_seq (k_block (k_seq (k_region ?_)))))
   have hcr := hrow.rdI (w := w8) hM9.holds
   obtain ⟨z, hz⟩ : ∃ z, (xs ++ ys)[k]? = some z := ⟨(xs ++ ys)[k]'(by omega), by simp⟩
   refine sqV (.pointer (some ((adr A1).add (k * 1)))) rfl rfl (x_indexAddrN (i := k) (sz := 1) hcr.here (by omega) rfl rfl rfl rfl) ?_
   refine sqV (.int .i64 z) rfl rfl (x_loadEInt hcr hz rfl rfl) ?_
   refine sqV (.int .i64 z) rfl rfl rfl ?_
   refine r_nil (e_then (k_seq (k_region (sqV (.slice Al n cl) rfl rfl rfl ?_))))
   refine sqV (.int .i64 z) rfl rfl rfl ?_
   refine r_call (f := 27) (args := #[Value.slice Al n cl, Value.int .i64 z]) (w' := w8) rfl rfl (x_call (vs := [Value.slice Al n cl, Value.int .i64 z]) (enter27 _ _) rfl rfl) (at_s Al n cl l z w8 (hl.up hM9) hgd.sorted hn3) ?_
   rintro v_ w10 ⟨rfl, hM11⟩
   replace hM11 := hM9.grow hM11.kept
   refine sqV (.tuple #[.int .i64 (atPos l z : Int), .bool (atOk l z)]) rfl rfl rfl ?_
   refine sqV (.int .i64 (atPos l z : Int)) rfl rfl rfl ?_
   refine sqV (.bool (atOk l z)) rfl rfl rfl ?_
   refine sqV (.int .i64 (atPos l z : Int)) rfl rfl rfl ?_
   refine sqV (.bool (atOk l z)) rfl rfl rfl ?_
   refine r_nil (sqE [(0, .slice Al n cl), (1, .slice Aa xs.length ca), (2, .slice Ab ys.length cb), (12, .bool (atOk l z)), (30, .slice A1 ((xs ++ ys).length) c1), (31, .int .i64 ((xs ++ ys).length : Int)), (32, .int .i64 (k : Int))] rfl (e_then (k_seq (k_region (sqV (.bool (atOk l z)) rfl rfl rfl ?_)))))
   refine sqV (.bool (!(atOk l z))) rfl rfl rfl ?_
   refine r_nil (e_then ?_)
   refine k_cond rfl rfl (fun h4 => ?_) (fun h4 => ?_)
   ·try simp only [sqC] at h4
    refine k_seq (k_region (sqV (.int .i64 0) rfl rfl rfl ?_))
    refine sqV (.int .i64 7) rfl rfl rfl ?_
    refine r_nil (e_then (k_ret (e_blk_ret (e_then_ret (e_loop_ret (e_blk_ret (e_then_ret (e_ret2 rfl rfl rfl ?_))))))))
    exact ⟨_, rfl, _, _, rfl, (gapErr_2 h (List.mem_of_getElem? hz) h4).symm, fun _ => rfl, fun h0 => absurd h0 (by decide), hM11.drop⟩
   ·try simp only [sqC] at h4
    refine k_skip (e_blk (e_then (k_region (sqV (.int .i64 ((k : Int) + 1)) rfl rfl (x_addE rfl (by omega) (by omega) rfl rfl) ?_))))
    refine sqV (.int .i64 ((k : Int) + 1)) rfl rfl rfl ?_
    refine r_nil ?_
    refine e_loop (k + 1) (sqS rfl) ?_ ?_
    ·exact ⟨hM11, by omega, fun q hq => by rw [take_snoc' hz] at hq; rcases List.mem_append.1 hq with hq | hq; exact hok q hq; simp at hq; subst hq; exact h4⟩
    ·(try dsimp only); omega
  ·try simp only [sqC] at h3
   refine k_exit (e_then_exit (e_loop_exit (e_blk_exit (e_then (k_seq (k_seq (k_region ?_)))))))
   rw [List.take_of_length_le (by omega)] at hok
   refine sqV (.slice Aa xs.length ca) rfl rfl rfl ?_
   refine sqV (.int .i64 (xs.length : Int)) rfl rfl (x_len rfl rfl) ?_
   refine sqV (.bool ((xs.length : Int) == 0)) rfl rfl rfl ?_
   refine sqV (.bool ((xs.length : Int) == 0)) rfl rfl rfl ?_
   rcases Bool.eq_false_or_eq_true ((xs.length : Int) == 0) with g1 | g1
   ·refine wpR_sub [(0, Value.slice Al n cl), (1, Value.slice Aa xs.length ca), (2, Value.slice Ab ys.length cb), (48, Value.bool true)] ⟨rfl, rfl, rfl, congrArg (fun z => some (Value.bool z)) g1, trivial⟩ ?_
    refine r_no rfl rfl (by decide) rfl ?_
    refine r_no rfl rfl (by decide) rfl ?_
    refine r_no rfl rfl (by decide) rfl ?_
    refine sqV (.bool true) rfl rfl rfl ?_
    refine r_nil (sqE [(0, .slice Al n cl), (1, .slice Aa xs.length ca), (2, .slice Ab ys.length cb), (52, .bool true)] rfl (e_then (k_cond_true rfl rfl ?_)))
    refine k_seq (k_region (sqV (.int .i64 0) rfl rfl rfl ?_))
    refine sqV (.int .i64 7) rfl rfl rfl ?_
    refine r_nil (e_then (k_ret (e_then_ret (e_ret2 rfl rfl rfl ?_))))
    exact ⟨_, rfl, _, _, rfl, (gapErr_3 h (.inl (List.eq_nil_of_length_eq_zero (by simpa using g1)))).symm, fun _ => rfl, fun h0 => absurd h0 (by decide), hM9.drop⟩
   ·refine wpR_sub [(0, Value.slice Al n cl), (1, Value.slice Aa xs.length ca), (2, Value.slice Ab ys.length cb), (48, Value.bool false)] ⟨rfl, rfl, rfl, congrArg (fun z => some (Value.bool z)) g1, trivial⟩ ?_
    refine r_yes rfl rfl ?_
    refine sqV (.slice Ab ys.length cb) rfl rfl rfl ?_
    refine r_yes rfl rfl ?_
    refine sqV (.int .i64 (ys.length : Int)) rfl rfl (x_len rfl rfl) ?_
    refine r_yes rfl rfl ?_
    refine sqV (.bool ((ys.length : Int) == 0)) rfl rfl rfl ?_
    refine sqV (.bool ((ys.length : Int) == 0)) rfl rfl rfl ?_
    refine r_nil (e_then ?_)
    refine k_cond rfl rfl (fun h5 => ?_) (fun h5 => ?_)
    ·try simp only [sqC] at h5
     refine k_seq (k_region (sqV (.int .i64 0) rfl rfl rfl ?_))
     refine sqV (.int .i64 7) rfl rfl rfl ?_
     refine r_nil (e_then (k_ret (e_then_ret (e_ret2 rfl rfl rfl ?_))))
     exact ⟨_, rfl, _, _, rfl, (gapErr_3 h (.inr (List.eq_nil_of_length_eq_zero (by simpa using h5)))).symm, fun _ => rfl, fun h0 => absurd h0 (by decide), hM9.drop⟩
    ·try simp only [sqC] at h5
     refine k_skip (e_then (k_seq (k_region ?_)))
     have he0 := gapErr_0 h hok (by rintro (e | e) <;> subst e <;> simp at g1 h5)
     have hM13 : Mem w No w8 [] := hM9.drop
     refine sqV (.int .i64 774192) rfl rfl rfl ?_
     refine r_nil (sqE [(0, .slice Al n cl), (1, .slice Aa xs.length ca), (2, .slice Ab ys.length cb), (13, .int .i64 774192)] rfl (e_then (k_seq (k_seq (k_region (sqV (.slice Aa xs.length ca) rfl rfl rfl ?_))))))
     refine sqV (.int .i64 (xs.length : Int)) rfl rfl (x_len rfl rfl) ?_
     refine sqV (.int .i64 0) rfl rfl rfl ?_
     refine r_nil (e_then (k_block (k_loop (σ := Nat × Int) (fun ⟨i, g⟩ => [(0, .slice Al n cl), (2, .slice Ab ys.length cb), (13, .int .i64 g), (53, .slice Aa xs.length ca), (54, .int .i64 (xs.length : Int)), (55, .int .i64 (i : Int))]) (fun ⟨i, g⟩ w_ => Mem w No w_ [] ∧ i ≤ xs.length ∧ GapL l xs ys (upQ i 0) g) (fun ⟨i, g⟩ => xs.length - i) (0, 774192) (sqS rfl) ⟨hM13, Nat.zero_le _, gapL_none⟩ ?_)))
     rintro ⟨i, g⟩ w14 ⟨hM15, hi, hg⟩
     refine sqK [(0, .slice Al n cl), (2, .slice Ab ys.length cb), (13, .int .i64 g), (53, .slice Aa xs.length ca), (54, .int .i64 (xs.length : Int)), (55, .int .i64 (i : Int))] rfl (k_seq (k_region (sqV (.bool (decide ((i : Int) < (xs.length : Int)))) rfl rfl rfl ?_)))
     refine r_nil (e_then (k_seq ?_))
     refine k_cond rfl rfl (fun h6 => ?_) (fun h6 => ?_)
     ·try simp only [sqC] at h6
      refine k_skip (e_then (k_seq (k_block (k_seq (k_region ?_)))))
      obtain ⟨x, hx⟩ : ∃ z, xs[i]? = some z := ⟨xs[i]'(by omega), by simp⟩
      refine sqV (.pointer (some ((adr Aa).add (i * 1)))) rfl rfl (x_indexAddrN (i := i) (sz := 1) ha.here (by omega) rfl rfl rfl rfl) ?_
      refine sqV (.int .i64 x) rfl rfl (x_loadEInt (ha.up hM15) hx rfl rfl) ?_
      refine sqV (.int .i64 x) rfl rfl rfl ?_
      refine r_nil (e_then (k_seq (k_region (sqV (.slice Ab ys.length cb) rfl rfl rfl ?_))))
      refine sqV (.int .i64 (ys.length : Int)) rfl rfl (x_len rfl rfl) ?_
      refine sqV (.int .i64 0) rfl rfl rfl ?_
      refine r_nil (sqE [(0, .slice Al n cl), (2, .slice Ab ys.length cb), (13, .int .i64 g), (15, .int .i64 x), (53, .slice Aa xs.length ca), (54, .int .i64 (xs.length : Int)), (55, .int .i64 (i : Int)), (59, .slice Ab ys.length cb), (60, .int .i64 (ys.length : Int)), (61, .int .i64 0)] rfl (e_then (k_block (k_loop (σ := Nat × Int) (fun ⟨k, g⟩ => [(0, .slice Al n cl), (2, .slice Ab ys.length cb), (13, .int .i64 g), (15, .int .i64 x), (53, .slice Aa xs.length ca), (54, .int .i64 (xs.length : Int)), (55, .int .i64 (i : Int)), (59, .slice Ab ys.length cb), (60, .int .i64 (ys.length : Int)), (61, .int .i64 (k : Int))]) (fun ⟨k, g⟩ w_ => Mem w No w_ [] ∧ k ≤ ys.length ∧ GapL l xs ys (upQ i k) g) (fun ⟨k, g⟩ => ys.length - k) (0, g) (sqS rfl) ⟨hM15, Nat.zero_le _, hg⟩ ?_))))
      rintro ⟨k, g⟩ w16 ⟨hM17, hk, hg⟩
      refine sqK [(0, .slice Al n cl), (2, .slice Ab ys.length cb), (13, .int .i64 g), (15, .int .i64 x), (53, .slice Aa xs.length ca), (54, .int .i64 (xs.length : Int)), (55, .int .i64 (i : Int)), (59, .slice Ab ys.length cb), (60, .int .i64 (ys.length : Int)), (61, .int .i64 (k : Int))] rfl (k_seq (k_region (sqV (.bool (decide ((k : Int) < (ys.length : Int)))) rfl rfl rfl ?_)))
      refine r_nil (e_then (k_seq ?_))
      refine k_cond rfl rfl (fun h7 => ?_) (fun h7 => ?_)
      ·try simp only [sqC] at h7
       refine k_skip (e_then (k_seq (k_block (k_seq (k_region ?_)))))
       obtain ⟨y, hy⟩ : ∃ z, ys[k]? = some z := ⟨ys[k]'(by omega), by simp⟩
       refine sqV (.pointer (some ((adr Ab).add (k * 1)))) rfl rfl (x_indexAddrN (i := k) (sz := 1) hb.here (by omega) rfl rfl rfl rfl) ?_
       refine sqV (.int .i64 y) rfl rfl (x_loadEInt (hb.up hM17) hy rfl rfl) ?_
       refine sqV (.int .i64 y) rfl rfl rfl ?_
       refine r_nil (e_then (k_seq (k_region (sqV (.slice Al n cl) rfl rfl rfl ?_))))
       refine sqV (.int .i64 x) rfl rfl rfl ?_
       refine r_call (f := 27) (args := #[Value.slice Al n cl, Value.int .i64 x]) (w' := w16) rfl rfl (x_call (vs := [Value.slice Al n cl, Value.int .i64 x]) (enter27 _ _) rfl rfl) (at_s Al n cl l x w16 (hl.up hM17) hgd.sorted hn3) ?_
       rintro v_ w18 ⟨rfl, hM19⟩
       replace hM19 := hM17.grow hM19.kept
       refine sqV (.tuple #[.int .i64 (atPos l x : Int), .bool (atOk l x)]) rfl rfl rfl ?_
       refine sqV (.int .i64 (atPos l x : Int)) rfl rfl rfl ?_
       refine sqV (.bool (atOk l x)) rfl rfl rfl ?_
       refine sqV (.int .i64 (atPos l x : Int)) rfl rfl rfl ?_
       refine sqV (.bool (atOk l x)) rfl rfl rfl ?_
       refine r_nil (e_then (k_seq (k_region (sqV (.slice Al n cl) rfl rfl rfl ?_))))
       refine sqV (.int .i64 y) rfl rfl rfl ?_
       refine r_call (f := 27) (args := #[Value.slice Al n cl, Value.int .i64 y]) (w' := w18) rfl rfl (x_call (vs := [Value.slice Al n cl, Value.int .i64 y]) (enter27 _ _) rfl rfl) (at_s Al n cl l y w18 (hl.up hM19) hgd.sorted hn3) ?_
       rintro v_ w20 ⟨rfl, hM21⟩
       replace hM21 := hM19.grow hM21.kept
       have hox := hok x (List.mem_append_left ys (List.mem_of_getElem? hx))
       obtain ⟨u, hu, hiu⟩ := at_found hgd.sorted hox
       have hul := place_lt hgd.sorted hox
       have hu14 : u.length = 14 := by have := hl.size' hu; simpa using this
       have hum := List.mem_of_getElem? hu
       have hoy := hok y (List.mem_append_right xs (List.mem_of_getElem? hy))
       obtain ⟨v, hv, hiv⟩ := at_found hgd.sorted hoy
       have hvl := place_lt hgd.sorted hoy
       have hv14 : v.length = 14 := by have := hl.size' hv; simpa using this
       have hvm := List.mem_of_getElem? hv
       refine sqV (.tuple #[.int .i64 (atPos l y : Int), .bool (atOk l y)]) rfl rfl rfl ?_
       refine sqV (.int .i64 (atPos l y : Int)) rfl rfl rfl ?_
       refine sqV (.bool (atOk l y)) rfl rfl rfl ?_
       refine sqV (.int .i64 (atPos l y : Int)) rfl rfl rfl ?_
       refine sqV (.bool (atOk l y)) rfl rfl rfl ?_
       refine r_nil (sqE [(0, .slice Al n cl), (2, .slice Ab ys.length cb), (13, .int .i64 g), (15, .int .i64 x), (18, .int .i64 (atPos l x : Int)), (20, .int .i64 (atPos l y : Int)), (53, .slice Aa xs.length ca), (54, .int .i64 (xs.length : Int)), (55, .int .i64 (i : Int)), (59, .slice Ab ys.length cb), (60, .int .i64 (ys.length : Int)), (61, .int .i64 (k : Int))] rfl (e_then ?_))
       refine k_draw mixed [0, 0, 0, 6, 14, 30, 0, 0, 192, 448, 960, 2046, 4095, 8191] [some (Value.int .i64 g), some (Value.slice Al n cl), some (Value.int .i64 (atPos l x : Int)), some (Value.pointer (some ((adr Al).add ((atPos l x) * 14)))), some (Value.pointer (some (((adr Al).add ((atPos l x) * 14)).add 2))), some (Value.agg (ints (vecOf u))), some (Value.slice Al n cl), some (Value.int .i64 (atPos l y : Int)), some (Value.pointer (some ((adr Al).add ((atPos l y) * 14)))), some (Value.pointer (some (((adr Al).add ((atPos l y) * 14)).add 2))), some (Value.agg (ints (vecOf v))), some (Value.int .i64 (farOf (vecOf u) (vecOf v))), some (Value.int .i64 (min g (farOf (vecOf u) (vecOf v)))), some (Value.int .i64 (min g (farOf (vecOf u) (vecOf v))))] (by kernel_rfl) (fun D V w_ => Mem w No w_ []) (fun V => hM21.drew) ?_ ?_
       ·refine ⟨?_, ?_, ?_, ?_, ?_, ?_, ?_, ?_, ?_, ?_, ?_, ?_, ?_, ?_, trivial⟩
        ·intro D V w_ hd hi hM_
         refine sqG [(13, .int .i64 g)] rfl rfl rfl ?_
         exact run_val (.int .i64 g) (rfl) ⟨sqT, hM_⟩
        ·intro D V w_ hd hi hM_
         refine sqG [(0, .slice Al n cl)] rfl rfl rfl ?_
         exact run_val (.slice Al n cl) (rfl) ⟨sqT, hM_⟩
        ·intro D V w_ hd hi hM_
         refine sqG [(18, .int .i64 (atPos l x : Int))] rfl rfl rfl ?_
         exact run_val (.int .i64 (atPos l x : Int)) (rfl) ⟨sqT, hM_⟩
        ·intro D V w_ hd hi hM_
         refine sqG [(78, .slice Al n cl), (79, .int .i64 (atPos l x : Int))] rfl rfl rfl ?_
         exact run_val (.pointer (some ((adr Al).add ((atPos l x) * 14)))) (x_indexAddrN (i := atPos l x) (sz := 14) hl.here (by omega) rfl rfl rfl rfl) ⟨sqT, hM_⟩
        ·intro D V w_ hd hi hM_
         refine sqG [(80, .pointer (some ((adr Al).add ((atPos l x) * 14))))] rfl rfl rfl ?_
         exact run_val (.pointer (some (((adr Al).add ((atPos l x) * 14)).add 2))) (rfl) ⟨sqT, hM_⟩
        ·intro D V w_ hd hi hM_
         refine sqG [(81, .pointer (some (((adr Al).add ((atPos l x) * 14)).add 2)))] rfl rfl rfl ?_
         exact run_val (.agg (ints (vecOf u))) (x_loadEPart (o := 2) (m := 12) (hl.up hM_) hu (by omega) rfl rfl rfl) ⟨sqT, hM_⟩
        ·intro D V w_ hd hi hM_
         refine sqG [(0, .slice Al n cl)] rfl rfl rfl ?_
         exact run_val (.slice Al n cl) (rfl) ⟨sqT, hM_⟩
        ·intro D V w_ hd hi hM_
         refine sqG [(20, .int .i64 (atPos l y : Int))] rfl rfl rfl ?_
         exact run_val (.int .i64 (atPos l y : Int)) (rfl) ⟨sqT, hM_⟩
        ·intro D V w_ hd hi hM_
         refine sqG [(83, .slice Al n cl), (84, .int .i64 (atPos l y : Int))] rfl rfl rfl ?_
         exact run_val (.pointer (some ((adr Al).add ((atPos l y) * 14)))) (x_indexAddrN (i := atPos l y) (sz := 14) hl.here (by omega) rfl rfl rfl rfl) ⟨sqT, hM_⟩
        ·intro D V w_ hd hi hM_
         refine sqG [(85, .pointer (some ((adr Al).add ((atPos l y) * 14))))] rfl rfl rfl ?_
         exact run_val (.pointer (some (((adr Al).add ((atPos l y) * 14)).add 2))) (rfl) ⟨sqT, hM_⟩
        ·intro D V w_ hd hi hM_
         refine sqG [(86, .pointer (some (((adr Al).add ((atPos l y) * 14)).add 2)))] rfl rfl rfl ?_
         exact run_val (.agg (ints (vecOf v))) (x_loadEPart (o := 2) (m := 12) (hl.up hM_) hv (by omega) rfl rfl rfl) ⟨sqT, hM_⟩
        ·intro D V w_ hd hi hM_
         refine sqG [(82, .agg (ints (vecOf u))), (87, .agg (ints (vecOf v)))] rfl rfl rfl ?_
         refine run_call (f := 28) (args := #[Value.agg (ints (vecOf u)), Value.agg (ints (vecOf v))]) (w' := w_) (x_call (vs := [Value.agg (ints (vecOf u)), Value.agg (ints (vecOf v))]) (enter28 _ _) rfl rfl) (far_s (vecOf u) (vecOf v) (by simp [vecOf]; omega) (by simp [vecOf]; omega) (hgd.vec u hum) (hgd.vec v hvm) w_) ?_
         rintro v_ w2_ ⟨rfl, hM2_⟩
         exact ⟨sqT, hM_.grow hM2_.kept⟩
        ·intro D V w_ hd hi hM_
         refine sqG [(77, .int .i64 g), (88, .int .i64 (farOf (vecOf u) (vecOf v)))] rfl rfl rfl ?_
         exact run_val (Value.int .i64 (min g (farOf (vecOf u) (vecOf v)))) (x_min rfl rfl) ⟨sqT, hM_⟩
        ·intro D V w_ hd hi hM_
         refine sqG [(89, .int .i64 (min g (farOf (vecOf u) (vecOf v))))] rfl rfl rfl ?_
         exact run_val (Value.int .i64 (min g (farOf (vecOf u) (vecOf v)))) (rfl) ⟨sqT, hM_⟩
       intro D V w24 hall hM25
       refine e_blk (e_then (k_region ?_))
       have hfar : farAt l (atPos l x) (atPos l y) = farOf (vecOf u) (vecOf v) := by simp [farAt, hu, hv]
       refine sqV (.int .i64 ((k : Int) + 1)) rfl rfl (x_addE rfl (by omega) (by omega) rfl rfl) ?_
       refine sqV (.int .i64 ((k : Int) + 1)) rfl rfl rfl ?_
       refine r_nil ?_
       refine e_loop (k + 1, min g (farOf (vecOf u) (vecOf v))) (sqS rfl) ?_ ?_
       ·exact ⟨hM25, by omega, by rw [← hfar]; exact gapL_step hg hx hy⟩
       ·(try dsimp only); omega
      ·try simp only [sqC] at h7
       refine k_exit (e_then_exit (e_loop_exit (e_blk_exit (e_blk (e_then (k_region (sqV (.int .i64 ((i : Int) + 1)) rfl rfl (x_addE rfl (by omega) (by omega) rfl rfl) ?_)))))))
       refine sqV (.int .i64 ((i : Int) + 1)) rfl rfl rfl ?_
       refine r_nil ?_
       refine e_loop (i + 1, g) (sqS rfl) ?_ ?_
       ·exact ⟨hM17, by omega, gapL_row hg (by omega)⟩
       ·(try dsimp only); omega
     ·try simp only [sqC] at h6
      refine k_exit (e_then_exit (e_loop_exit (e_blk_exit (e_then (k_seq (k_region ?_))))))
      have hil : i = xs.length := by omega
      rw [hil] at hg
      refine sqV (.int .i64 g) rfl rfl rfl ?_
      refine sqV (.int .i64 g) rfl rfl rfl ?_
      refine sqV (.int .i64 0) rfl rfl rfl ?_
      refine r_nil (sqE [(6, .int .i64 g), (7, .int .i64 0)] rfl (e_then (k_ret (e_ret2 rfl rfl rfl ?_))))
      exact ⟨_, rfl, _, _, rfl, he0.symm, fun h0 => absurd rfl h0, fun _ => gapL_all hg, hM15⟩


end Go.Proofs.Ytddacakmafdgdaa
end
section
/- The law on clusters: pieces for its walk. -/
set_option linter.unusedVariables false
set_option linter.unusedSimpArgs false
namespace Go.Proofs.Ytddacakmafdgdaa
open Go.RowKit Go.Kn Go.Proofs
theorem SSok_of' {w0 w : World} {S : Nat → Prop} {A : Option Addr} {c : Nat} {rows : List ORow} {Lo : Hp} (hM : Mem w0 S w (Lo ++ rows.flatMap ORow.L)) (ho : OwnR tInts 1 (.slice A rows.length c) rows.length (rows.map rowV) Lo) (hr : ∀ r ∈ rows, r.ok) : SSok w A rows :=
  SSok_of (R := []) (by rw [List.append_nil]; exact hM) ho hr
theorem plTo_00 {ids : List (List Int)} : plTo ids 0 0 = [] := by simp [plTo]
theorem plTo_new {ids : List (List Int)} {i k : Nat} {xs : List Int} {y : Int} (hn : (ids.flatMap id).Nodup) (hi : ids[i]? = some xs) (hk : xs[k]? = some y) : y ∉ (plTo ids i k).map (·.1) := by
  rw [plTo_fst]
  have hg : ids.getD i [] = xs := by simp [hi]
  rw [hg]
  obtain ⟨hil, he⟩ := List.getElem?_eq_some_iff.1 hi
  obtain ⟨hkl, he2⟩ := List.getElem?_eq_some_iff.1 hk
  have e1 : ids = ids.take i ++ xs :: ids.drop (i + 1) := by
    conv => lhs; rw [← List.take_append_drop i ids, List.drop_eq_getElem_cons hil, he]
  have e2 : xs = xs.take k ++ y :: xs.drop (k + 1) := by
    conv => lhs; rw [← List.take_append_drop k xs, List.drop_eq_getElem_cons hkl, he2]
  have e3 : ids.flatMap id = ((ids.take i).flatMap id ++ xs.take k) ++ (y :: (xs.drop (k + 1) ++ (ids.drop (i + 1)).flatMap id)) := by
    conv => lhs; rw [e1]
    rw [List.flatMap_append, List.flatMap_cons]
    show _ ++ (xs ++ _) = _
    conv => lhs; rw [e2]
    simp
  rw [e3, List.nodup_append] at hn
  intro hm
  exact hn.2.2 y hm y (by simp) rfl
theorem plTo_nodup {ids : List (List Int)} {m : Nat} (hn : (ids.flatMap id).Nodup) (hm : ids.length ≤ m) : ((plTo ids m 0).map (·.1)).Nodup ∧ (plTo ids m 0).map (·.1) = ids.flatMap id := by
  have : (plTo ids m 0).map (·.1) = ids.flatMap id := by rw [plTo_fst, List.take_of_length_le hm]; simp
  exact ⟨by rw [this]; exact hn, this⟩
theorem plTo_mem {ids : List (List Int)} {m j : Nat} {xs : List Int} {x : Int} (hm : ids.length ≤ m) (hj : ids[j]? = some xs) (hx : x ∈ xs) : (x, j) ∈ plTo ids m 0 := by
  unfold plTo
  rw [List.take_of_length_le hm]
  refine List.mem_append_left _ (List.mem_flatMap.2 ⟨(xs, j), List.mk_mem_zipIdx_iff_getElem?.2 hj, List.mem_map.2 ⟨x, hx, rfl⟩⟩)
section
variable {l : List (List Int)} {n : Nat} {f : Nat → Nat} {bs : List Bond3}
theorem ids_get {i x : Nat} (h : (keysOf n f)[i]? = some x) : (idsG l n f)[i]? = some (idsAt l n f x) := by simp [idsG, h]
theorem plTo_len (hs : sortedIds l) (hn : l.length = n) (hf : FOk n f) {m : Nat} (hm : (idsG l n f).length ≤ m) : (esOf (plTo (idsG l n f) m 0)).length = n := by
  rw [esOf_len, ← List.length_map (f := fun p : Int × Nat => p.1), (plTo_nodup (ids_nodup hs hn hf) hm).2, (ids_perm hs hn hf).length_eq]
  simp
/-- where an Id's group is -/
theorem of_id (hs : sortedIds l) (hn : l.length = n) (hf : FOk n f) {m : Nat} (hm : (idsG l n f).length ≤ m) {t : Int} (ht : atOk l t = true) {j : Nat} (hj : (keysOf n f)[j]? = some (f (atPos l t))) : mget t (esOf (plTo (idsG l n f) m 0)) = some (.int .i64 (j : Int)) := by
  refine esOf_get (plTo_mem hm (ids_get hj) (mem_idsAt.2 ⟨atPos l t, ?_, rfl, at_idAt hs ht⟩)) (plTo_nodup (ids_nodup hs hn hf) hm).1
  rw [← hn]; exact place_lt hs ht
theorem _root_.Go.Kn.clErr_ok {limit : Int} (h : clErr l bs limit = 0) : checkB l bs = 0 ∧ 0 ≤ limit ∧ limit ≤ 774192 := by
  unfold clErr at h
  split at h
  · rename_i h1; exact absurd h h1
  · rename_i h1
    split at h
    · cases h
    · rename_i h2
      simp [outN] at h2
      exact ⟨by simpa using h1, by omega, by omega⟩
/-- the Nots that have been laid down -/
def ApOk (l : List (List Int)) (n : Nat) (f : Nat → Nat) (es : List (PEnt (Int × Int))) (bs : List Bond3) : Prop :=
  ∀ b ∈ bs, b.must = false → ∀ x y : Nat, (keysOf n f)[x]? = some (f (atPos l b.a)) → (keysOf n f)[y]? = some (f (atPos l b.b)) → pget (min (x : Int) (y : Int), max (x : Int) (y : Int)) es = some (.bool true)
theorem ApOk.skip {es : List (PEnt (Int × Int))} {k : Nat} {b : Bond3} (h : ApOk l n f es (bs.take k)) (hb : bs[k]? = some b) (hm : b.must = true) : ApOk l n f es (bs.take (k + 1)) := by
  intro c hc
  rw [take_snoc' hb] at hc
  rcases List.mem_append.1 hc with hc | hc
  · exact h c hc
  · simp at hc; subst hc
    intro h2; rw [hm] at h2; cases h2
theorem ApOk.add {es : List (PEnt (Int × Int))} {k ck ja jb : Nat} {b : Bond3} (h : ApOk l n f es (bs.take k)) (hb : bs[k]? = some b) (ha : (keysOf n f)[ja]? = some (f (atPos l b.a))) (hbb : (keysOf n f)[jb]? = some (f (atPos l b.b))) : ApOk l n f (pset (min (ja : Int) (jb : Int), max (ja : Int) (jb : Int)) (.bool true) ck es).1 (bs.take (k + 1)) := by
  intro c hc hm x y hx hy
  rw [pget_set]
  rw [take_snoc' hb] at hc
  rcases List.mem_append.1 hc with hc | hc
  · split
    · rfl
    · exact h c hc hm x y hx hy
  · simp at hc; subst hc
    have h1 := keys_idx_inj hx ha
    have h2 := keys_idx_inj hy hbb
    subst h1; subst h2
    rw [if_pos rfl]
theorem ApOk.get {es : List (PEnt (Int × Int))} (h : ApOk l n f es bs) {k i x y : Nat} (hk : (keysOf n f)[k]? = some x) (hi : (keysOf n f)[i]? = some y) (hki : k < i) (hm : ∃ m ∈ notsOf l bs, (f m.1 = x ∧ f m.2 = y) ∨ (f m.2 = x ∧ f m.1 = y)) : pget ((k : Int), (i : Int)) es = some (.bool true) := by
  obtain ⟨m, hm, h1⟩ := hm
  obtain ⟨b, hb, rfl⟩ := List.mem_map.1 hm
  obtain ⟨hb1, hb2⟩ := List.mem_filter.1 hb
  have hmu : b.must = false := by simpa using hb2
  rcases h1 with ⟨h2, h3⟩ | ⟨h2, h3⟩
  · have := h b hb1 hmu k i (by rw [hk, ← h2]; rfl) (by rw [hi, ← h3]; rfl)
    rwa [Int.min_eq_left (by omega), Int.max_eq_right (by omega)] at this
  · have := h b hb1 hmu i k (by rw [hi, ← h3]; rfl) (by rw [hk, ← h2]; rfl)
    rwa [Int.min_eq_right (by omega), Int.max_eq_left (by omega)] at this
end
def gapF (l : List (List Int)) (xs ys : List Int) : Int := (xs.flatMap fun x => ys.map fun y => farAt l (atPos l x) (atPos l y)).foldl min 774192
theorem foldl_min (zs : List Int) (a v : Int) : v ≤ zs.foldl min a ↔ v ≤ a ∧ ∀ z ∈ zs, v ≤ z := by
  induction zs generalizing a with
  | nil => simp
  | cons z r ih =>
    rw [List.foldl_cons, ih, Int.le_min]
    simp only [List.mem_cons, forall_eq_or_imp]
    exact ⟨fun ⟨⟨h1, h2⟩, h3⟩ => ⟨h1, h2, h3⟩, fun ⟨h1, h2, h3⟩ => ⟨⟨h1, h2⟩, h3⟩⟩
theorem gapF_all (l : List (List Int)) (xs ys : List Int) : GapAll l xs ys (gapF l xs ys) := by
  intro v
  unfold gapF
  rw [foldl_min]
  refine and_congr Iff.rfl ?_
  constructor
  · intro h x hx y hy
    exact h _ (List.mem_flatMap.2 ⟨x, hx, List.mem_map.2 ⟨y, hy, rfl⟩⟩)
  · intro h z hz
    obtain ⟨x, hx, hz⟩ := List.mem_flatMap.1 hz
    obtain ⟨y, hy, rfl⟩ := List.mem_map.1 hz
    exact h x hx y hy
theorem gapAll_eq {l : List (List Int)} {xs ys : List Int} {g g' : Int} (h : GapAll l xs ys g) (h' : GapAll l xs ys g') : g = g' :=
  Int.le_antisymm ((h' g).2 ((h g).1 (Int.le_refl _))) ((h g').2 ((h' g').1 (Int.le_refl _)))
theorem gap_ok (Al Aa Ab : Option Addr) (n cl ca cb : Nat) (l : List (List Int)) (xs ys : List Int) (w : World) (hl : RdE intsE 14 w Al n l) (ha : RdE intE 1 w Aa xs.length xs) (hb : RdE intE 1 w Ab ys.length ys) (h1 : xs.length ≤ 274877906944) (h2 : ys.length ≤ 274877906944) (he : gapErr l xs ys = 0) :
    Calls Try.prog 8 #[.slice Al n cl, .slice Aa xs.length ca, .slice Ab ys.length cb] w fun e w' => ∃ r, e = .returned r ∧ r = .tuple #[.int .i64 (gapF l xs ys), .int .i64 0] ∧ Mem w No w' [] := by
  refine (gap_s Al Aa Ab n cl ca cb l xs ys w hl ha hb h1 h2).mono ?_
  rintro e w' ⟨r, h3, g, e2, h4, h5, _, h6, h7⟩
  rw [he] at h5
  subst h5
  rw [gapAll_eq (h6 rfl) (gapF_all l xs ys)] at h4
  exact ⟨r, h3, h4, h7⟩
theorem pairL : KeyLaw Try.prog tPair encP2 := pairLaw (e := tInt) (by kernel_rfl) (by kernel_rfl) (by kernel_rfl) (fun _ => by kernel_rfl)
end Go.Proofs.Ytddacakmafdgdaa
end
section
/- The law on clusters: more pieces. -/
set_option linter.unusedVariables false
set_option linter.unusedSimpArgs false
namespace Go.Proofs.Ytddacakmafdgdaa
open Go.RowKit Go.Kn Go.Proofs
section
variable {l : List (List Int)} {n : Nat} {f : Nat → Nat} {bs : List Bond3}
theorem row_ids {rows : List ORow} (h : rows.map ORow.xs = idsG l n f) {i x : Nat} {r : ORow} (hr : rows[i]? = some r) (hx : (keysOf n f)[i]? = some x) : r.xs = idsAt l n f x := by
  have h1 : (rows.map ORow.xs)[i]? = some r.xs := by rw [List.getElem?_map, hr]; rfl
  rw [h, ids_get hx] at h1
  injection h1 with h1
  exact h1.symm
theorem keys_lt {i j x y : Nat} (hx : (keysOf n f)[i]? = some x) (hy : (keysOf n f)[j]? = some y) (h : i < j) : x < y := by
  obtain ⟨h1, rfl⟩ := List.getElem?_eq_some_iff.1 hx
  obtain ⟨h2, rfl⟩ := List.getElem?_eq_some_iff.1 hy
  exact List.pairwise_iff_getElem.1 (keysOf_sorted n f) i j h1 h2 h
theorem gap_fine (hg : Kn.Good l) (hn : l.length = n) (hc : checkL l = 0) (hle : ∀ p, p < n → f p ≤ p) {x y : Nat} (hx : isKey n f x) (hy : isKey n f y) : gapErr l (idsAt l n f x) (idsAt l n f y) = 0 := by
  refine gapErr_0 hc (fun z hz => ?_) ?_
  · rcases List.mem_append.1 hz with hz | hz
    all_goals
      obtain ⟨p, hp, _, rfl⟩ := mem_idsAt.1 hz
      exact (atPos_id hg.sorted (by rw [hn]; exact hp)).2
  · rintro (h | h)
    · have := idsAt_first (l := l) hle hx; rw [h] at this; cases this
    · have := idsAt_first (l := l) hle hy; rw [h] at this; cases this
theorem bond_must {limit : Int} (hR : Runs l n (notsOf l bs) limit (firstsOf l bs) f) (hcb : checkB l bs = 0) {b : Bond3} (hb : b ∈ bs) {ja jb : Nat} (hja : (keysOf n f)[ja]? = some (f (atPos l b.a))) (hjb : (keysOf n f)[jb]? = some (f (atPos l b.b))) : (b.must != ((ja : Int) == (jb : Int))) = false := by
  cases hm : b.must with
  | true =>
    have h1 : firstsOf l bs (atPos l b.a) = firstsOf l bs (atPos l b.b) := joinAll_must (m := placeOf l b) (List.mem_map.2 ⟨b, List.mem_filter.2 ⟨hb, hm⟩, rfl⟩)
    have h2 := runs_same hR h1
    rw [h2] at hja
    have := keys_idx_inj hja hjb
    subst this
    simp
  | false =>
    have hmem : placeOf l b ∈ notsOf l bs := List.mem_map.2 ⟨b, List.mem_filter.2 ⟨hb, by simp [hm]⟩, rfl⟩
    have h1 : firstsOf l bs (placeOf l b).1 ≠ firstsOf l bs (placeOf l b).2 := by
      intro e
      have h9 := checkB_apart hcb
      have : apartBad (firstsOf l bs) (notsOf l bs) = true := List.any_eq_true.2 ⟨_, hmem, by simp [e]⟩
      rw [h9] at this; cases this
    have h2 := runs_apart hR hmem h1
    have h3 : ja ≠ jb := by
      intro e
      subst e
      rw [hja] at hjb
      injection hjb with hjb
      exact h2 hjb
    have h4 : ¬ (ja : Int) = (jb : Int) := fun e => h3 (by omega)
    simp [h4]
end
section
variable {P : Program} {w : World} {ρ : Operand → Value} {dst : Option Tmp} {type : TypeId} {pos : String} {after : Array Edge} {guard : Option (Nat × Bool)}
theorem x_lookupOkN {t kt et : TypeId} {kk : IntKind} {x y : Operand} {b : Nat} {es : List Ent} {clock : Nat} {k : Int} {z : Value} (hb : w.heap[b]? = some (mapO es clock)) (hn : mget k es = none) (hx : ρ x = .map (some b)) (hy : ρ y = .int .i64 k) (ht : P.underlying t = some (.map kt et)) (hk : P.underlying kt = some (.int kk)) (hz : (zeroValue et).run P w = .ok z w) :
    (execOp ρ ⟨dst, .lookup t x y true, type, pos, after, guard⟩).run P w = .ok (.value (.tuple #[z, .bool false])) w := by
  have h := x_lookupOk (P := P) (ρ := ρ) (dst := dst) (type := type) (pos := pos) (after := after) (guard := guard) (t := t) hb hx hy ht hk hz
  rw [hn] at h; exact h
theorem x_lenMapE {x : Operand} {t kt et : TypeId} {b m : Nat} {es : List Ent} {clock : Nat} (hm : es.length = m) (hb : w.heap[b]? = some (mapO es clock)) (hx : ρ x = .map (some b)) (ht : (underlying t).run P w = .ok (.map kt et) w) :
    (execOp ρ ⟨dst, .call { callee := .builtin .len, args := #[x], argTypes := #[t] }, type, pos, after, guard⟩).run P w = .ok (.value (.int .i64 (m : Int))) w := by
  rw [← hm]; exact x_lenMap hb hx ht
theorem xp_lookupS {κ : Type} [DecidableEq κ] {enc : κ → Value} {t kt et : TypeId} {x y : Operand} {b : Nat} {es : List (PEnt κ)} {clock : Nat} {k : κ} {z v : Value} (L : KeyLaw P kt enc) (hb : w.heap[b]? = some (pmapO enc es clock)) (hv : pget k es = some v) (hx : ρ x = .map (some b)) (hy : ρ y = enc k) (ht : P.underlying t = some (.map kt et)) (hz : (zeroValue et).run P w = .ok z w) :
    (execOp ρ ⟨dst, .lookup t x y false, type, pos, after, guard⟩).run P w = .ok (.value v) w := by
  have h := xp_lookup (P := P) (ρ := ρ) (dst := dst) (type := type) (pos := pos) (after := after) (guard := guard) (t := t) L hb hx hy ht hz
  rw [hv] at h; exact h
end
end Go.Proofs.Ytddacakmafdgdaa
end
section
/- Numbers of groups and pairs: what the walks need. -/
set_option linter.unusedVariables false
set_option linter.unusedSimpArgs false
namespace Go.Kn
open Go.RowKit Go.Proofs.Ytddacakmafdgdaa
def xssOf (rows : List SRow) : List (List Int) := rows.map SRow.xs
def flat (xss : List (List Int)) : List Int := xss.flatMap id
theorem flat_rows (rows : List SRow) : flat (xssOf rows) = allXs rows := by
  unfold flat xssOf allXs
  rw [List.flatMap_map]; rfl
/-- all numbers of all groups -/
def plAll (xss : List (List Int)) : List (Int × Nat) := plTo xss xss.length 0
theorem plAll_fst (xss : List (List Int)) : (plAll xss).map (·.1) = flat xss := by
  unfold plAll flat
  rw [plTo_fst, List.take_length]; simp
theorem plAll_len (xss : List (List Int)) : (plAll xss).length = (flat xss).length := by
  rw [← plAll_fst, List.length_map]
def numErr (xss : List (List Int)) : Int := if (flat xss).Nodup then 0 else 6
theorem xss_get {rows : List SRow} {i : Nat} {r : SRow} (h : rows[i]? = some r) : (xssOf rows)[i]? = some r.xs := by simp [xssOf, h]
theorem plTo_dup {xss : List (List Int)} {i k : Nat} {xs : List Int} {x : Int} (hi : xss[i]? = some xs) (hk : xs[k]? = some x) (h : x ∈ (plTo xss i k).map (·.1)) : numErr xss = 6 := by
  unfold numErr
  rw [if_neg]
  intro hn
  rw [plTo_fst] at h
  have hg : xss.getD i [] = xs := by simp [hi]
  rw [hg] at h
  obtain ⟨hlt, rfl⟩ := List.getElem?_eq_some_iff.1 hi
  obtain ⟨hlk, rfl⟩ := List.getElem?_eq_some_iff.1 hk
  have e : flat xss = ((xss.take i).flatMap id ++ xss[i].take k) ++ (xss[i][k] :: (xss[i].drop (k + 1) ++ (xss.drop (i + 1)).flatMap id)) := by
    unfold flat
    have h1 : xss = xss.take i ++ (xss[i] :: xss.drop (i + 1)) := by
      rw [← List.drop_eq_getElem_cons hlt, List.take_append_drop]
    conv => lhs; rw [h1]
    rw [List.flatMap_append, List.flatMap_cons]
    have h2 : xss[i] = xss[i].take k ++ (xss[i][k] :: xss[i].drop (k + 1)) := by
      rw [← List.drop_eq_getElem_cons hlk, List.take_append_drop]
    refine (congrArg (fun z => (xss.take i).flatMap id ++ (z ++ (xss.drop (i + 1)).flatMap id)) h2).trans ?_
    simp only [List.append_assoc, List.cons_append]
  rw [e, List.nodup_append] at hn
  exact hn.2.2 _ h _ (by simp) rfl
theorem plTo_nodup_step {xss : List (List Int)} {i k : Nat} {xs : List Int} {x : Int} (hi : xss[i]? = some xs) (hk : xs[k]? = some x) (hn : ((plTo xss i k).map (·.1)).Nodup) (h : x ∉ (plTo xss i k).map (·.1)) : ((plTo xss i (k + 1)).map (·.1)).Nodup := by
  rw [plTo_step hi hk, List.map_append, List.nodup_append]
  exact ⟨hn, by simp, fun a ha b hb => by simp at hb; subst hb; exact fun e => h (e ▸ ha)⟩
theorem num_ok {xss : List (List Int)} (hn : ((plAll xss).map (·.1)).Nodup) : numErr xss = 0 := by
  unfold numErr; rw [if_pos]; rw [← plAll_fst]; exact hn
theorem num_nodup {xss : List (List Int)} (h : numErr xss = 0) : ((plAll xss).map (·.1)).Nodup := by
  unfold numErr at h
  split at h
  · rw [plAll_fst]; assumption
  · cases h
/-- what Pairs says -/
def prsErr (xa xb : List (List Int)) : Int := if 300 < (flat xa).length ∨ 300 < (flat xb).length then 4 else if numErr xa ≠ 0 then numErr xa else numErr xb
def prsV (xa xb : List (List Int)) (j : Nat) : Int := if prsErr xa xb = 0 then (pairsN (plAll xa) (plAll xb) j : Int) else 0
def prsOut (xa xb : List (List Int)) : Value := .tuple #[.int .i64 (prsV xa xb 0), .int .i64 (prsV xa xb 1), .int .i64 (prsV xa xb 2), .int .i64 (prsErr xa xb)]
theorem prs_bad {xa xb : List (List Int)} {e : Int} (h : prsErr xa xb = e) (he : e ≠ 0) : prsOut xa xb = .tuple #[.int .i64 0, .int .i64 0, .int .i64 0, .int .i64 e] := by
  unfold prsOut prsV
  rw [h]
  simp [he]
theorem prs_large {xa xb : List (List Int)} (h : 300 < (flat xa).length ∨ 300 < (flat xb).length) : prsErr xa xb = 4 := if_pos h
theorem prs_a {xa xb : List (List Int)} (h : ¬ (300 < (flat xa).length ∨ 300 < (flat xb).length)) (h2 : numErr xa ≠ 0) : prsErr xa xb = numErr xa := by rw [prsErr, if_neg h, ne_if h2]
theorem prs_b {xa xb : List (List Int)} (h : ¬ (300 < (flat xa).length ∨ 300 < (flat xb).length)) (h2 : numErr xa = 0) : prsErr xa xb = numErr xb := by rw [prsErr, if_neg h, eq_if h2]
theorem prs_6 {xa xb : List (List Int)} (h : ¬ (300 < (flat xa).length ∨ 300 < (flat xb).length)) (h2 : numErr xa = 6 ∨ numErr xb = 6) : prsErr xa xb = 6 := by
  rw [prsErr, if_neg h]
  have h3 : numErr xa = 0 ∨ numErr xa = 6 := by unfold numErr; split <;> simp
  split
  · rcases h3 with h3 | h3
    · contradiction
    · exact h3
  · rename_i h4
    rcases h2 with h2 | h2
    · rw [h2] at h4; simp at h4
    · exact h2
theorem prs_ok {xa xb : List (List Int)} (h : prsErr xa xb = 0) : prsOut xa xb = .tuple #[.int .i64 (pairsN (plAll xa) (plAll xb) 0), .int .i64 (pairsN (plAll xa) (plAll xb) 1), .int .i64 (pairsN (plAll xa) (plAll xb) 2), .int .i64 0] := by
  unfold prsOut prsV
  rw [h]
  simp
/-! ### a number, looked up -/
def nv (Q : List (Int × Nat)) (x : Int) : Int := match numOf Q x with | some i => (i : Int) | none => 0
theorem x_lookupNum {P : Program} {w : World} {ρ : Operand → Value} {dst : Option Tmp} {type : TypeId} {pos : String} {after : Array Edge} {guard : Option (Nat × Bool)} {t kt et : TypeId} {kk : IntKind} {x y : Operand} {b : Nat} {Q : List (Int × Nat)} {clock : Nat} {k : Int} (hb : w.heap[b]? = some (mapO (esOf Q) clock)) (hx : ρ x = .map (some b)) (hy : ρ y = .int .i64 k) (ht : P.underlying t = some (.map kt et)) (hk : P.underlying kt = some (.int kk)) (hz : (zeroValue et).run P w = .ok (.int .i64 0) w) :
    (execOp ρ ⟨dst, .lookup t x y true, type, pos, after, guard⟩).run P w = .ok (.value (.tuple #[.int .i64 (nv Q k), .bool (numOf Q k).isSome])) w := by
  have h := x_lookupOk (P := P) (ρ := ρ) (dst := dst) (type := type) (pos := pos) (after := after) (guard := guard) (t := t) hb hx hy ht hk hz
  rw [h, mget_num]
  unfold nv
  cases numOf Q k <;> rfl
theorem x_lookupNv {P : Program} {w : World} {ρ : Operand → Value} {dst : Option Tmp} {type : TypeId} {pos : String} {after : Array Edge} {guard : Option (Nat × Bool)} {t kt et : TypeId} {kk : IntKind} {x y : Operand} {b : Nat} {Q : List (Int × Nat)} {clock : Nat} {k : Int} (hb : w.heap[b]? = some (mapO (esOf Q) clock)) (hx : ρ x = .map (some b)) (hy : ρ y = .int .i64 k) (ht : P.underlying t = some (.map kt et)) (hk : P.underlying kt = some (.int kk)) (hz : (zeroValue et).run P w = .ok (.int .i64 0) w) :
    (execOp ρ ⟨dst, .lookup t x y false, type, pos, after, guard⟩).run P w = .ok (.value (.int .i64 (nv Q k))) w := by
  have h := x_lookup (P := P) (ρ := ρ) (dst := dst) (type := type) (pos := pos) (after := after) (guard := guard) (t := t) hb hx hy ht hk hz
  rw [h, mget_num]
  unfold nv
  cases numOf Q k <;> rfl
theorem esOf_mem {Q : List (Int × Nat)} {e : Ent} (h : e ∈ esOf Q) : ∃ (j : Nat) (p : Int × Nat), Q[j]? = some p ∧ (⟨p.1, .int .i64 (p.2 : Int), j⟩ : Ent) = e := by
  obtain ⟨⟨p, j⟩, hq, rfl⟩ := List.mem_map.1 h
  exact ⟨j, p, List.mk_mem_zipIdx_iff_getElem?.1 hq, rfl⟩
theorem esOf_born {Q : List (Int × Nat)} : ∀ e ∈ esOf Q, e.born < Q.length := by
  intro e he
  obtain ⟨j, p, hp, rfl⟩ := esOf_mem he
  exact (List.getElem?_eq_some_iff.1 hp).1
theorem esOf_bnd {Q : List (Int × Nat)} : ((esOf Q).map Ent.born).Nodup := by
  have : (esOf Q).map Ent.born = List.range' 0 Q.length := by
    unfold esOf
    rw [List.map_map, ← List.zipIdx_map_snd 0 Q]
    rfl
  rw [this]; exact List.nodup_range'
theorem esOf_seen {Q : List (Int × Nat)} {seen : Array Nat} (h : ∀ e ∈ esOf Q, e.born ∈ seen.toList) : ∀ j, j < Q.length → j ∈ seen.toList := by
  intro j hj
  have : (⟨(Q[j]).1, .int .i64 ((Q[j]).2 : Int), j⟩ : Ent) ∈ esOf Q := List.mem_map.2 ⟨(Q[j], j), List.mk_mem_zipIdx_iff_getElem?.2 (by simp), rfl⟩
  exact h _ this
/-! ### the counters -/
def cO (P Q : List (Int × Nat)) (j : Nat) (seen : Array Nat) : Nat := sumSeen (fun p => P.countP (cnd3 Q j p)) P seen
def cI (P Q : List (Int × Nat)) (j : Nat) (p : Int × Nat) (seen : Array Nat) : Nat := sumSeen (fun q => b01 (cnd3 Q j p q)) P seen
section
variable {P Q : List (Int × Nat)} {j : Nat} {p q : Int × Nat} {seen seen2 : Array Nat} {a b : Nat}
theorem cO_0 : cO P Q j #[] = 0 := sum_none
theorem cI_0 : cI P Q j p #[] = 0 := sum_none
theorem cI_push (hq : P[b]? = some q) (hn : b ∉ seen2.toList) : cI P Q j p (seen2.push b) = cI P Q j p seen2 + b01 (cnd3 Q j p q) := sum_push hq hn
theorem cI_no (hq : P[b]? = some q) (hn : b ∉ seen2.toList) (h : cnd3 Q j p q = false) : cI P Q j p (seen2.push b) = cI P Q j p seen2 := by rw [cI_push hq hn, h]; rfl
theorem cI_yes (hq : P[b]? = some q) (hn : b ∉ seen2.toList) (h : cnd3 Q j p q = true) : cI P Q j p (seen2.push b) = cI P Q j p seen2 + 1 := by rw [cI_push hq hn, h]; rfl
theorem cO_next (hp : P[a]? = some p) (hn : a ∉ seen.toList) (hall : ∀ k, k < P.length → k ∈ seen2.toList) : cO P Q j seen + cI P Q j p seen2 = cO P Q j (seen.push a) := by
  unfold cO cI
  rw [sum_push hp hn, sum_all hall, sum_b01]
theorem cO_all (hall : ∀ k, k < P.length → k ∈ seen.toList) : cO P Q j seen = pairsN P Q j := sum_all hall
theorem cO_le (h : P.length ≤ 300) : cO P Q j seen ≤ 90000 := by
  have h1 : cO P Q j seen ≤ P.length * 300 := sum_le (fun p => Nat.le_trans List.countP_le_length h)
  have h2 : P.length * 300 ≤ 300 * 300 := Nat.mul_le_mul_right _ h
  omega
theorem cI_le (h : P.length ≤ 300) : cI P Q j p seen ≤ 300 := by
  have h1 : cI P Q j p seen ≤ P.length * 1 := sum_le (fun q => b01_le _)
  omega
theorem cnd_lt (h : ¬ p.1 < q.1) (j : Nat) : cnd3 Q j p q = false := by simp [cnd3, ltP, h]
theorem cnd_p (h : (numOf Q p.1).isSome = false) (j : Nat) : cnd3 Q j p q = false := by simp [cnd3, isIn, h]
theorem cnd_q (h : (numOf Q q.1).isSome = false) (j : Nat) : cnd3 Q j p q = false := by simp [cnd3, isIn, h]
theorem cnd_in (h : p.1 < q.1) (hp : (numOf Q p.1).isSome = true) (hq : (numOf Q q.1).isSome = true) (j : Nat) : cnd3 Q j p q = knd Q j p q := by simp [cnd3, ltP, isIn, h, hp, hq]
theorem same2_nv (hp : (numOf Q p.1).isSome = true) (hq : (numOf Q q.1).isSome = true) : same2 Q p q = decide (nv Q p.1 = nv Q q.1) := by
  obtain ⟨i, hi⟩ := Option.isSome_iff_exists.1 hp
  obtain ⟨k, hk⟩ := Option.isSome_iff_exists.1 hq
  unfold same2 nv
  rw [hi, hk, Bool.eq_iff_iff]
  simp; omega
theorem same1_i : same1 p q = decide ((p.2 : Int) = q.2) := by
  unfold same1
  rw [Bool.eq_iff_iff]; simp; omega
theorem nv_some (hn : (P.map (·.1)).Nodup) (h : p ∈ P) : nv P p.1 = (p.2 : Int) := by
  unfold nv
  rw [num_some hn (i := p.2) h]
end
/-- how many are still to come -/
def psum (P : List (Int × Nat)) (seen : Array Nat) : Nat := P.length - sumSeen (fun _ => 1) P seen
theorem psum_lt {P : List (Int × Nat)} {seen : Array Nat} {a : Nat} {p : Int × Nat} (hp : P[a]? = some p) (hn : a ∉ seen.toList) : psum P (seen.push a) < psum P seen := by
  have h1 := sum_push (f := fun _ : Int × Nat => 1) hp hn
  have h2 : sumSeen (fun _ : Int × Nat => 1) P (seen.push a) ≤ P.length * 1 := sum_le (fun _ => Nat.le_refl _)
  unfold psum
  omega
/-! ### the Ids that both have -/
def seenAux (seen : Array Nat) : List (Int × Nat) → Nat → List (Int × Nat)
  | [], _ => []
  | a :: r, k => if k ∈ seen.toList then a :: seenAux seen r (k + 1) else seenAux seen r (k + 1)
def seenF (P : List (Int × Nat)) (seen : Array Nat) : List (Int × Nat) := seenAux seen P 0
theorem seenAux_same {seen : Array Nat} {j : Nat} : ∀ {P : List (Int × Nat)} {k : Nat}, j < k → seenAux (seen.push j) P k = seenAux seen P k
  | [], _, _ => rfl
  | a :: r, k, h => by
    unfold seenAux
    rw [seenAux_same (by omega)]
    have : (k ∈ (seen.push j).toList) ↔ k ∈ seen.toList := by simp; omega
    simp only [this]
theorem seenAux_push {seen : Array Nat} {j : Nat} {a : Int × Nat} : ∀ {P : List (Int × Nat)} {k : Nat}, P[j]? = some a → (k + j) ∉ seen.toList → (seenAux (seen.push (k + j)) P k).Perm (a :: seenAux seen P k)
  | [], _, h, _ => by simp at h
  | b :: r, k, h, hn => by
    unfold seenAux
    cases j with
    | zero =>
      simp at h; subst h
      rw [Nat.add_zero] at hn ⊢
      rw [seenAux_same (by omega)]
      have h2 : k ∈ (seen.push k).toList := by simp
      rw [if_pos h2, if_neg hn]
    | succ j =>
      have hr : r[j]? = some a := by simpa using h
      have e : k + (j + 1) = (k + 1) + j := by omega
      rw [e] at hn ⊢
      have ih := seenAux_push hr hn
      have : (k ∈ (seen.push (k + 1 + j)).toList) ↔ k ∈ seen.toList := by simp; omega
      simp only [this]
      split
      · exact (List.Perm.cons b ih).trans (List.Perm.swap _ _ _)
      · exact ih
theorem seenF_push {P : List (Int × Nat)} {seen : Array Nat} {j : Nat} {a : Int × Nat} (h : P[j]? = some a) (hn : j ∉ seen.toList) : (seenF P (seen.push j)).Perm (a :: seenF P seen) := by
  have := seenAux_push (k := 0) h (by rw [Nat.zero_add]; exact hn)
  rwa [Nat.zero_add] at this
theorem seenAux_all {seen : Array Nat} : ∀ {P : List (Int × Nat)} {k : Nat}, (∀ j, j < P.length → (k + j) ∈ seen.toList) → seenAux seen P k = P
  | [], _, _ => rfl
  | a :: r, k, h => by
    unfold seenAux
    have h0 := h 0 (by simp)
    rw [Nat.add_zero] at h0
    rw [if_pos h0, seenAux_all (fun j hj => by have := h (j + 1) (by simp; omega); rwa [show k + 1 + j = k + (j + 1) by omega])]
theorem seenF_all {P : List (Int × Nat)} {seen : Array Nat} (h : ∀ j, j < P.length → j ∈ seen.toList) : seenF P seen = P := seenAux_all (fun j hj => by rw [Nat.zero_add]; exact h j hj)
theorem seenAux_none : ∀ {P : List (Int × Nat)} {k : Nat}, seenAux #[] P k = []
  | [], _ => rfl
  | a :: r, k => by unfold seenAux; rw [seenAux_none]; simp
theorem seenAux_len {seen : Array Nat} : ∀ {P : List (Int × Nat)} {k : Nat}, (seenAux seen P k).length ≤ P.length
  | [], _ => by simp [seenAux]
  | a :: r, k => by
    unfold seenAux
    have := seenAux_len (seen := seen) (P := r) (k := k + 1)
    split <;> simp <;> omega
/-- the Ids of both, as far as the map has been gone through -/
def Both (P Q : List (Int × Nat)) (seen : Array Nat) (zs : List (Int × Nat)) : Prop := zs.Perm ((seenF P seen).filter (isIn Q))
section
variable {P Q zs : List (Int × Nat)} {seen : Array Nat} {a : Nat} {p : Int × Nat}
theorem both_0 : Both P Q #[] [] := by unfold Both seenF; rw [seenAux_none]; exact List.Perm.nil
theorem both_yes (h : Both P Q seen zs) (hp : P[a]? = some p) (hn : a ∉ seen.toList) (hi : (numOf Q p.1).isSome = true) : Both P Q (seen.push a) (zs ++ [p]) := by
  unfold Both at *
  refine List.Perm.trans ?_ ((seenF_push hp hn).filter _).symm
  rw [List.filter_cons, if_pos (by simpa [isIn] using hi)]
  exact (List.perm_append_comm (l₁ := zs) (l₂ := [p])).trans (List.Perm.cons p h)
theorem both_no (h : Both P Q seen zs) (hp : P[a]? = some p) (hn : a ∉ seen.toList) (hi : (numOf Q p.1).isSome = false) : Both P Q (seen.push a) zs := by
  unfold Both at *
  refine List.Perm.trans ?_ ((seenF_push hp hn).filter _).symm
  rw [List.filter_cons, if_neg (by simp [isIn, hi])]
  exact h
theorem both_all (h : Both P Q seen zs) (hall : ∀ j, j < P.length → j ∈ seen.toList) : zs.Perm (P.filter (isIn Q)) := by
  unfold Both at h
  rwa [seenF_all hall] at h
theorem both_len (h : Both P Q seen zs) : zs.length ≤ P.length := by
  rw [h.length_eq]
  exact Nat.le_trans (List.length_filter_le _ _) seenAux_len
end
def triC (Q zs : List (Int × Nat)) (j i k : Nat) (z : Int × Nat) : Nat := triS (knd Q j) zs i + (zs.take k).countP (knd Q j z)
section
variable {Q zs : List (Int × Nat)} {j i k : Nat} {z y : Int × Nat}
theorem triC_0 : triC Q zs j i 0 z = triS (knd Q j) zs i := by simp [triC]
theorem triC_no (hy : zs[k]? = some y) (h : knd Q j z y = false) : triC Q zs j i (k + 1) z = triC Q zs j i k z := by unfold triC; rw [countP_step hy, h]; rfl
theorem triC_yes (hy : zs[k]? = some y) (h : knd Q j z y = true) : triC Q zs j i (k + 1) z = triC Q zs j i k z + 1 := by unfold triC; rw [countP_step hy, h]; rfl
theorem triC_row (hz : zs[i]? = some z) : triC Q zs j i i z = triS (knd Q j) zs (i + 1) := by unfold triC; rw [triS_succ hz]
theorem triS_le : ∀ i, triS (knd Q j) zs i ≤ i * zs.length := by
  intro i
  induction i with
  | zero => simp [triS]
  | succ i ih =>
    have : triS (knd Q j) zs (i + 1) ≤ triS (knd Q j) zs i + zs.length := by
      cases hz : zs[i]? with
      | some x =>
        rw [triS_succ hz]
        have := Nat.le_trans (List.countP_le_length (p := knd Q j x)) (List.length_take_le' i zs)
        omega
      | none =>
        unfold triS
        rw [List.range_succ, List.map_append, List.sum_append]
        simp [hz]
    rw [Nat.add_mul]; omega
theorem triC_le (hz : zs.length ≤ 300) (hi : i ≤ 300) : triC Q zs j i k z ≤ 90300 := by
  have h1 := triS_le (Q := Q) (zs := zs) (j := j) i
  have h2 : i * zs.length ≤ 300 * 300 := Nat.mul_le_mul hi hz
  have h3 : (zs.take k).countP (knd Q j z) ≤ zs.length := Nat.le_trans List.countP_le_length (List.length_take_le' _ _)
  unfold triC; omega
theorem knd_0 (h1 : same1 z y = true) (h2 : same2 Q z y = true) : knd Q 0 z y = true ∧ knd Q 1 z y = false ∧ knd Q 2 z y = false := by simp [knd, h1, h2]
theorem knd_1 (h1 : same1 z y = true) (h2 : same2 Q z y = false) : knd Q 0 z y = false ∧ knd Q 1 z y = true ∧ knd Q 2 z y = false := by simp [knd, h1, h2]
theorem knd_2 (h1 : same1 z y = false) (h2 : same2 Q z y = true) : knd Q 0 z y = false ∧ knd Q 1 z y = false ∧ knd Q 2 z y = true := by simp [knd, h1, h2]
theorem knd_n (h1 : same1 z y = false) (h2 : same2 Q z y = false) : knd Q 0 z y = false ∧ knd Q 1 z y = false ∧ knd Q 2 z y = false := by simp [knd, h1, h2]
end
end Go.Kn
end
