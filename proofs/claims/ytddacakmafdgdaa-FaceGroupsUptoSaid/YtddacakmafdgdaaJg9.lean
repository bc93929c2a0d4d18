/- Parts of the proof, laid together: Ig, Ra, Rb, Bulk, Rd. -/
import Derived.Test.YtddacakmafdgdaaJg8
import Derived.WalkKit
import Derived.ProofKit
import Derived.OpenShut
import Derived.Deep.Slices
import Derived.Test.YtddacakmafdgdaaRows
section
/- Ig: what Go functions of this seat come to, printed by walk.py over the engine. -/
set_option linter.unusedVariables false
set_option linter.unusedSimpArgs false
set_option maxRecDepth 100000
namespace Go.Proofs.Ytddacakmafdgdaa
open Go.RowKit Go.Kn

set_option maxHeartbeats 4000000 in
theorem faceGroups_s (Al Ab Aa Ay Ao : Option Addr) (nl cl nb cb ca cy no co : Nat) (l : List (List Int)) (bs : List Bond3) (limit : Int) (xs ys : List Int) (ro : List SRow) (w : World) (hl : RdE intsE 14 w Al nl l) (hb : RdE bondE 3 w Ab nb bs) (ha : RdE intE 1 w Aa xs.length xs) (hy : RdE intE 1 w Ay ys.length ys) (ho : RowsAt w Ao no ro) (hnl : nl ≤ 1048576) (hnb : nb ≤ 1048576) (hnx : xs.length ≤ 1048576) (hny : ys.length ≤ 1048576) (hno : no ≤ 1048576) (hso : (allXs ro).length ≤ 1048576) :
  Calls Try.prog 4 #[Value.slice Al nl cl, Value.slice Ab nb cb, Value.int .i64 limit, Value.slice Aa xs.length ca, Value.slice Ay ys.length cy, Value.slice Ao no co] w fun e w' => ∃ r, e = .returned r ∧ r = .bool true ∧ Mem w No w' [] := by
 refine calls_k (args := [Value.slice Al nl cl, Value.slice Ab nb cb, Value.int .i64 limit, Value.slice Aa xs.length ca, Value.slice Ay ys.length cy, Value.slice Ao no co]) 129 [(0, Value.slice Al nl cl), (1, Value.slice Ab nb cb), (2, Value.int .i64 limit), (3, Value.slice Aa xs.length ca), (4, Value.slice Ay ys.length cy), (5, Value.slice Ao no co)] Try.func4 rfl rfl ⟨rfl, rfl, rfl, rfl, rfl, rfl, trivial⟩ ?_
 have hM := Mem.nil w No
 have hll := hl.len
 refine k_seq (k_region (sqV (.bool false) rfl rfl rfl ?_))
 refine r_nil (e_then (k_seq (k_region (sqV (.slice Al nl cl) rfl rfl rfl ?_))))
 refine r_call (f := 9) (args := #[Value.slice Al nl cl]) (w' := w) rfl rfl (x_call (vs := [Value.slice Al nl cl]) (enter9 _ _) rfl rfl) (likesFault_s Al nl cl l w (hl.up hM) (by omega)) ?_
 rintro v_ w1 ⟨rfl, hM2⟩
 replace hM2 := hM.grow hM2.kept
 refine sqV (.int .i64 (checkL l)) rfl rfl rfl ?_
 refine r_nil (e_then (k_seq (k_region (sqV (.int .i64 (checkL l)) rfl rfl rfl ?_))))
 refine sqV (.int .i64 (checkL l)) rfl rfl rfl ?_
 refine r_nil (e_then (k_seq (k_seq (k_region (sqV (.int .i64 (checkL l)) rfl rfl rfl ?_)))))
 refine sqV (.bool ((checkL l) == 0)) rfl rfl rfl ?_
 refine r_nil (sqE [(0, .slice Al nl cl), (1, .slice Ab nb cb), (2, .int .i64 limit), (3, .slice Aa xs.length ca), (4, .slice Ay ys.length cy), (5, .slice Ao no co), (13, .int .i64 (checkL l)), (14, .int .i64 (checkL l)), (35, .bool ((checkL l) == 0))] rfl (e_then ?_))
 refine k_cond rfl rfl (fun h0 => ?_) (fun h0 => ?_)
 ·try simp only [sqC] at h0
  refine k_region ?_
  have hgd := good_of h0 (fun x hx => by have := hl.size x hx; simpa using this)
  have hl3 : nl ≤ 300 := by have := hgd.len; omega
  refine sqV (.slice Al nl cl) rfl rfl rfl ?_
  refine sqV (.slice Ab nb cb) rfl rfl rfl ?_
  refine r_call (f := 10) (args := #[Value.slice Al nl cl, Value.slice Ab nb cb]) (w' := w1) rfl rfl (x_call (vs := [Value.slice Al nl cl, Value.slice Ab nb cb]) (enter10 _ _) rfl rfl) (bondsFault_s Al Ab nl cl nb cb l bs w1 (hl.up hM2) (hb.up hM2) hgd (by omega)) ?_
  rintro v_ w3 ⟨rfl, hM4⟩
  replace hM4 := hM2.grow hM4.kept
  refine sqV (.int .i64 (checkB2 l bs)) rfl rfl rfl ?_
  refine r_nil (e_then (k_seq (k_region (sqV (.slice Al nl cl) rfl rfl rfl ?_))))
  refine sqV (.slice Aa xs.length ca) rfl rfl rfl ?_
  refine sqV (.slice Ay ys.length cy) rfl rfl rfl ?_
  refine r_call (f := 8) (args := #[Value.slice Al nl cl, Value.slice Aa xs.length ca, Value.slice Ay ys.length cy]) (w' := w3) rfl rfl (x_call (vs := [Value.slice Al nl cl, Value.slice Aa xs.length ca, Value.slice Ay ys.length cy]) (enter8 _ _) rfl rfl) (gap_s Al Aa Ay nl cl ca cy l xs ys w3 (hl.up hM4) (ha.up hM4) (hy.up hM4) (by omega) (by omega)) ?_
  rintro v_ w5 ⟨gv, ge, rfl, rfl, hgz, hgA, hM6⟩
  replace hM6 := hM4.grow hM6.kept
  refine sqV (.tuple #[.int .i64 gv, .int .i64 (gapErr l xs ys)]) rfl rfl rfl ?_
  refine sqV (.int .i64 gv) rfl rfl rfl ?_
  refine sqV (.int .i64 (gapErr l xs ys)) rfl rfl rfl ?_
  refine sqV (.int .i64 gv) rfl rfl rfl ?_
  refine sqV (.int .i64 (gapErr l xs ys)) rfl rfl rfl ?_
  refine r_nil (e_then (k_seq (k_region (sqV (.int .i64 (checkL l)) rfl rfl rfl ?_))))
  refine sqV (.int .i64 0) rfl rfl rfl ?_
  refine sqV (.int .i64 (checkL l)) rfl rfl rfl ?_
  refine r_nil (e_then (k_seq (k_seq (k_region (sqV (.int .i64 (checkL l)) rfl rfl rfl ?_)))))
  refine sqV (.bool ((checkL l) == 0)) rfl rfl rfl ?_
  refine r_nil (sqE [(0, .slice Al nl cl), (1, .slice Ab nb cb), (2, .int .i64 limit), (3, .slice Aa xs.length ca), (4, .slice Ay ys.length cy), (5, .slice Ao no co), (14, .int .i64 (checkB2 l bs)), (15, .int .i64 gv), (16, .int .i64 (gapErr l xs ys)), (17, .int .i64 0), (18, .int .i64 (checkL l)), (48, .bool ((checkL l) == 0))] rfl (e_then (k_cond_true rfl (congrArg Value.bool (by simp [h0])) ?_)))
  refine k_region (sqV (.slice Al nl cl) rfl rfl rfl ?_)
  refine sqV (.slice Aa xs.length ca) rfl rfl rfl ?_
  refine sqV (.slice Ay ys.length cy) rfl rfl rfl ?_
  refine r_call (f := 11) (args := #[Value.slice Al nl cl, Value.slice Aa xs.length ca, Value.slice Ay ys.length cy]) (w' := w5) rfl rfl (x_call (vs := [Value.slice Al nl cl, Value.slice Aa xs.length ca, Value.slice Ay ys.length cy]) (enter11 _ _) rfl rfl) (gapR_s Al Aa Ay nl cl ca cy l xs ys w5 (hl.up hM6) hgd (ha.up hM6) (hy.up hM6) hnx hny) ?_
  rintro v_ w7 ⟨g2, e2, rfl, rfl, hg2z, hg2A, hM8⟩
  replace hM8 := hM6.grow hM8.kept
  refine sqV (.tuple #[.int .i64 g2, .int .i64 (gapErr2 l xs ys)]) rfl rfl rfl ?_
  refine sqV (.int .i64 g2) rfl rfl rfl ?_
  refine sqV (.int .i64 (gapErr2 l xs ys)) rfl rfl rfl ?_
  refine sqV (.int .i64 g2) rfl rfl rfl ?_
  refine sqV (.int .i64 (gapErr2 l xs ys)) rfl rfl rfl ?_
  refine r_nil (e_then (k_seq (k_region (sqV (.slice Al nl cl) rfl rfl rfl ?_))))
  refine sqV (.slice Ab nb cb) rfl rfl rfl ?_
  refine sqV (.int .i64 limit) rfl rfl rfl ?_
  refine r_call (f := 6) (args := #[Value.slice Al nl cl, Value.slice Ab nb cb, Value.int .i64 limit]) (w' := w7) rfl rfl (x_call (vs := [Value.slice Al nl cl, Value.slice Ab nb cb, Value.int .i64 limit]) (enter6 _ _) rfl rfl) (cluster_t Al Ab nl cl nb cb l bs limit w7 (hl.up hM8) (hb.up hM8)) ?_
  rintro v_ w9 ⟨A1, m1, c1, ss1, L1, rfl, h1W, h1z, h1A, hM10⟩
  replace hM10 : Mem w No w9 L1 := by simpa using Mem.call0 hM8.drop hM10
  have hml := (h1W _ hM10.holds).1.len
  refine sqV (.tuple #[.slice A1 m1 c1, .int .i64 (clErr l bs limit)]) rfl rfl rfl ?_
  refine sqV (.slice A1 m1 c1) rfl rfl rfl ?_
  refine sqV (.int .i64 (clErr l bs limit)) rfl rfl rfl ?_
  refine sqV (.slice A1 m1 c1) rfl rfl rfl ?_
  refine sqV (.int .i64 (clErr l bs limit)) rfl rfl rfl ?_
  refine r_nil (e_then (k_seq (k_region (sqV (.int .i64 (checkB2 l bs)) rfl rfl rfl ?_))))
  refine sqV (.int .i64 limit) rfl rfl rfl ?_
  refine r_call (f := 13) (args := #[Value.int .i64 limit]) (w' := w9) rfl rfl (x_call (vs := [Value.int .i64 limit]) (enter13 _ _) rfl rfl) (limitFault_s limit w9) ?_
  rintro v_ w11 ⟨rfl, hM12⟩
  replace hM12 := hM10.grow hM12.kept
  refine r_new (fun b => .slice (some ⟨b, 0, none⟩) 2 2) (.cells #[Value.int .i64 (checkB2 l bs), Value.int .i64 (if outN limit 0 774192 = true then 2 else 0)] 26 (0, 0)) hM12 (by kernel_rfl) rfl rfl ?_
  intro b15 w13 hM14 hb15
  replace hM14 : Mem w No w13 ((b15, .cells #[Value.int .i64 (checkB2 l bs), Value.int .i64 (if outN limit 0 774192 = true then 2 else 0)] 26 (0, 0)) :: L1) := hM14
  refine r_call (f := 12) (args := #[Value.slice (some ⟨b15, 0, none⟩) 2 2]) (w' := w13) rfl rfl (x_call (vs := [Value.slice (some ⟨b15, 0, none⟩) 2 2]) (enter12 _ _) rfl rfl) (first_s (some ⟨b15, 0, none⟩) 2 2 [checkB2 l bs, (if outN limit 0 774192 = true then 2 else 0)] w13 (OwnR.rdI (OwnR.lit 26 1 b15 2 _ (by decide) rfl) ⟨by simp, by simpa using hM14.get 0 rfl⟩) (by decide)) ?_
  rintro v_ w16 ⟨rfl, hM17⟩
  replace hM17 := hM14.grow hM17.kept
  refine sqV (.int .i64 (firstN [checkB2 l bs, (if outN limit 0 774192 = true then 2 else 0)])) rfl rfl rfl ?_
  refine r_nil (e_then (k_seq (k_region (sqV (.slice none 0 0) rfl rfl rfl ?_))))
  refine r_nil (sqE [(0, .slice Al nl cl), (1, .slice Ab nb cb), (2, .int .i64 limit), (5, .slice Ao no co), (14, .int .i64 (checkB2 l bs)), (15, .int .i64 gv), (16, .int .i64 (gapErr l xs ys)), (17, .int .i64 g2), (18, .int .i64 (gapErr2 l xs ys)), (19, .slice A1 m1 c1), (20, .int .i64 (clErr l bs limit)), (21, .int .i64 (firstN [checkB2 l bs, (if outN limit 0 774192 = true then 2 else 0)])), (22, .slice none 0 0)] rfl (e_then (k_seq (k_seq (k_region (sqV (.int .i64 (firstN [checkB2 l bs, (if outN limit 0 774192 = true then 2 else 0)])) rfl rfl rfl ?_))))))
  refine sqV (.bool ((firstN [checkB2 l bs, (if outN limit 0 774192 = true then 2 else 0)]) == 0)) rfl rfl rfl ?_
  refine r_nil (e_then ?_)
  refine k_cond rfl rfl (fun h2 => ?_) (fun h2 => ?_)
  ·try simp only [sqC] at h2
   refine k_region ?_
   have hcf : clErr l bs limit = 0 := by rw [clErr_first h0]; exact h2
   obtain ⟨fA, hRA, hSA, hxA⟩ := h1A hcf
   obtain ⟨hcb, hlim⟩ := clErr_ok hcf
   obtain ⟨hnb9, hbf⟩ := checkB2_from (by rw [← checkB_eq h0]; exact hcb)
   have hbl := hb.len
   have hb1 := allXs_ids hxA hl3
   have hm1 : m1 ≤ 1099511627776 := by omega
   have hr1 : ∀ r ∈ ss1, r.xs.length ≤ 1099511627776 := fun r hr => by have := hb1.2.2 r hr; omega
   refine sqV (.slice Al nl cl) rfl rfl rfl ?_
   refine sqV (.slice Ab nb cb) rfl rfl rfl ?_
   refine sqV (.int .i64 limit) rfl rfl rfl ?_
   refine r_call (f := 14) (args := #[Value.slice Al nl cl, Value.slice Ab nb cb, Value.int .i64 limit]) (w' := w16) rfl rfl (x_call (vs := [Value.slice Al nl cl, Value.slice Ab nb cb, Value.int .i64 limit]) (enter14 _ _) rfl rfl) (clustered_t Al Ab nl cl nb cb l bs limit w16 (hl.up hM17) (hb.up hM17) hgd (badId_ids h0) hbf (by omega) hlim.1 hlim.2) ?_
   rintro v_ w18 ⟨A2, m2, c2, ss2, L2, rfl, h2W, ⟨fB, hRB, hSB, hxB⟩, hM19⟩
   replace hM19 : Mem w No w18 (L2 ++ L1) := Mem.call0 hM17.tail hM19
   have hff := runs_sole hRA hSA hRB hSB
   have hxx : ss1.map SRow.xs = ss2.map SRow.xs := by rw [hxA, hxB, hff]
   have hb2 := allXs_ids hxB hl3
   have hml2 := (h2W _ (Mem.left (L := L2) hM19).holds).1.len
   have hp1 : (allXs ss2).length ≤ 1099511627776 := by omega
   have hp2 : m2 ≤ 1099511627776 := by omega
   refine sqV (.slice A2 m2 c2) rfl rfl rfl ?_
   refine r_nil (e_then (k_seq (k_region (sqV (.slice A2 m2 c2) rfl rfl rfl ?_))))
   refine sqV (.slice Ao no co) rfl rfl rfl ?_
   refine r_call (f := 15) (args := #[Value.slice A2 m2 c2, Value.slice Ao no co]) (w' := w18) rfl rfl (x_call (vs := [Value.slice A2 m2 c2, Value.slice Ao no co]) (enter15 _ _) rfl rfl) (pairs_s w18 A2 m2 c2 ss2 (h2W _ (Mem.left (L := L2) hM19).holds).1 (h2W _ (Mem.left (L := L2) hM19).holds).2 Ao no co ro (ho.up hM19).1 (ho.up hM19).2 hp1 (by omega) hp2 (by omega)) ?_
   rintro v_ w20 ⟨rfl, hM21⟩
   replace hM21 := hM19.grow hM21.kept
   refine sqV (.tuple #[.int .i64 (prsV (xssOf ss2) (xssOf ro) 0), .int .i64 (prsV (xssOf ss2) (xssOf ro) 1), .int .i64 (prsV (xssOf ss2) (xssOf ro) 2), .int .i64 (prsErr (xssOf ss2) (xssOf ro))]) rfl rfl rfl ?_
   refine sqV (.int .i64 (prsV (xssOf ss2) (xssOf ro) 0)) rfl rfl rfl ?_
   refine sqV (.int .i64 (prsV (xssOf ss2) (xssOf ro) 1)) rfl rfl rfl ?_
   refine sqV (.int .i64 (prsV (xssOf ss2) (xssOf ro) 2)) rfl rfl rfl ?_
   refine sqV (.int .i64 (prsErr (xssOf ss2) (xssOf ro))) rfl rfl rfl ?_
   refine sqV (.int .i64 (prsV (xssOf ss2) (xssOf ro) 0)) rfl rfl rfl ?_
   refine sqV (.int .i64 (prsV (xssOf ss2) (xssOf ro) 1)) rfl rfl rfl ?_
   refine sqV (.int .i64 (prsV (xssOf ss2) (xssOf ro) 2)) rfl rfl rfl ?_
   refine sqV (.int .i64 (prsErr (xssOf ss2) (xssOf ro))) rfl rfl rfl ?_
   refine r_nil (e_then (k_seq (k_region (sqV (.slice A2 m2 c2) rfl rfl rfl ?_))))
   refine sqV (.slice Ao no co) rfl rfl rfl ?_
   refine r_call (f := 16) (args := #[Value.slice A2 m2 c2, Value.slice Ao no co]) (w' := w20) rfl rfl (x_call (vs := [Value.slice A2 m2 c2, Value.slice Ao no co]) (enter16 _ _) rfl rfl) (pairsR_s w20 A2 m2 c2 ss2 (h2W _ (Mem.left (L := L2) hM21).holds).1 (h2W _ (Mem.left (L := L2) hM21).holds).2 Ao no co ro (ho.up hM21).1 (ho.up hM21).2 hp1 (by omega) hp2 (by omega)) ?_
   rintro v_ w22 ⟨rfl, hM23⟩
   replace hM23 := hM21.grow hM23.kept
   refine sqV (.tuple #[.int .i64 (prsV (xssOf ss2) (xssOf ro) 0), .int .i64 (prsV (xssOf ss2) (xssOf ro) 1), .int .i64 (prsV (xssOf ss2) (xssOf ro) 2), .int .i64 (prsErr (xssOf ss2) (xssOf ro))]) rfl rfl rfl ?_
   refine sqV (.int .i64 (prsV (xssOf ss2) (xssOf ro) 0)) rfl rfl rfl ?_
   refine sqV (.int .i64 (prsV (xssOf ss2) (xssOf ro) 1)) rfl rfl rfl ?_
   refine sqV (.int .i64 (prsV (xssOf ss2) (xssOf ro) 2)) rfl rfl rfl ?_
   refine sqV (.int .i64 (prsErr (xssOf ss2) (xssOf ro))) rfl rfl rfl ?_
   refine sqV (.int .i64 (prsV (xssOf ss2) (xssOf ro) 0)) rfl rfl rfl ?_
   refine sqV (.int .i64 (prsV (xssOf ss2) (xssOf ro) 1)) rfl rfl rfl ?_
   refine sqV (.int .i64 (prsV (xssOf ss2) (xssOf ro) 2)) rfl rfl rfl ?_
   refine sqV (.int .i64 (prsErr (xssOf ss2) (xssOf ro))) rfl rfl rfl ?_
   refine r_nil (sqE [(0, .slice Al nl cl), (1, .slice Ab nb cb), (14, .int .i64 (checkB2 l bs)), (15, .int .i64 gv), (16, .int .i64 (gapErr l xs ys)), (17, .int .i64 g2), (18, .int .i64 (gapErr2 l xs ys)), (19, .slice A1 m1 c1), (20, .int .i64 (clErr l bs limit)), (21, .int .i64 (firstN [checkB2 l bs, (if outN limit 0 774192 = true then 2 else 0)])), (22, .slice A2 m2 c2), (23, .int .i64 (prsV (xssOf ss2) (xssOf ro) 0)), (24, .int .i64 (prsV (xssOf ss2) (xssOf ro) 1)), (25, .int .i64 (prsV (xssOf ss2) (xssOf ro) 2)), (26, .int .i64 (prsErr (xssOf ss2) (xssOf ro))), (27, .int .i64 (prsV (xssOf ss2) (xssOf ro) 0)), (28, .int .i64 (prsV (xssOf ss2) (xssOf ro) 1)), (29, .int .i64 (prsV (xssOf ss2) (xssOf ro) 2)), (30, .int .i64 (prsErr (xssOf ss2) (xssOf ro)))] rfl (e_then (k_seq (k_region (sqV (.slice Al nl cl) rfl rfl rfl ?_)))))
   refine sqV (.slice Ab nb cb) rfl rfl rfl ?_
   refine r_call (f := 17) (args := #[Value.slice Al nl cl, Value.slice Ab nb cb]) (w' := w22) rfl rfl (x_call (vs := [Value.slice Al nl cl, Value.slice Ab nb cb]) (enter17 _ _) rfl rfl) (checkBonds_s Al Ab nl cl nb cb l bs w22 (hl.up hM23) (hb.up hM23)) ?_
   rintro v_ w24 ⟨rfl, hM25⟩
   replace hM25 := hM23.grow hM25.kept
   refine sqV (.int .i64 (checkB2 l bs)) rfl rfl rfl ?_
   refine sqV (.bool ((checkB l bs) == (checkB2 l bs))) rfl rfl rfl ?_
   refine sqV (.bool ((checkB l bs) == (checkB2 l bs))) rfl rfl rfl ?_
   rcases Bool.eq_false_or_eq_true ((checkB l bs) == (checkB2 l bs)) with g0 | g0
   ·refine wpR_sub [(15, Value.int .i64 gv), (16, Value.int .i64 (gapErr l xs ys)), (17, Value.int .i64 g2), (18, Value.int .i64 (gapErr2 l xs ys)), (19, Value.slice A1 m1 c1), (20, Value.int .i64 (clErr l bs limit)), (21, Value.int .i64 (firstN [checkB2 l bs, (if outN limit 0 774192 = true then 2 else 0)])), (22, Value.slice A2 m2 c2), (23, Value.int .i64 (prsV (xssOf ss2) (xssOf ro) 0)), (24, Value.int .i64 (prsV (xssOf ss2) (xssOf ro) 1)), (25, Value.int .i64 (prsV (xssOf ss2) (xssOf ro) 2)), (26, Value.int .i64 (prsErr (xssOf ss2) (xssOf ro))), (27, Value.int .i64 (prsV (xssOf ss2) (xssOf ro) 0)), (28, Value.int .i64 (prsV (xssOf ss2) (xssOf ro) 1)), (29, Value.int .i64 (prsV (xssOf ss2) (xssOf ro) 2)), (30, Value.int .i64 (prsErr (xssOf ss2) (xssOf ro))), (95, Value.bool true)] ⟨rfl, rfl, rfl, rfl, rfl, rfl, rfl, rfl, rfl, rfl, rfl, rfl, rfl, rfl, rfl, rfl, congrArg (fun z => some (Value.bool z)) g0, trivial⟩ ?_
    refine r_yes rfl rfl ?_
    refine sqV (.int .i64 gv) rfl rfl rfl ?_
    refine r_yes rfl rfl ?_
    refine sqV (.int .i64 (gapErr l xs ys)) rfl rfl rfl ?_
    refine r_yes rfl rfl ?_
    refine sqV (.int .i64 g2) rfl rfl rfl ?_
    refine r_yes rfl rfl ?_
    refine sqV (.int .i64 (gapErr2 l xs ys)) rfl rfl rfl ?_
    refine r_yes rfl rfl ?_
    refine r_call (f := 18) (args := #[Value.int .i64 gv, Value.int .i64 (gapErr l xs ys), Value.int .i64 g2, Value.int .i64 (gapErr2 l xs ys)]) (w' := w24) rfl rfl (x_call (vs := [Value.int .i64 gv, Value.int .i64 (gapErr l xs ys), Value.int .i64 g2, Value.int .i64 (gapErr2 l xs ys)]) (enter18 _ _) rfl rfl) (told_t gv (gapErr l xs ys) g2 (gapErr2 l xs ys) w24 (gapErr_eq h0) (fun h => by obtain ⟨q1, q2, q3, q4⟩ := hg2A h; exact gap_same hgd q1 q2 q3 (hgA (by rw [gapErr_eq h0]; exact h)) q4) (fun h => hgz (by rw [gapErr_eq h0]; exact h))) ?_
    rintro v_ w27 ⟨rfl, hM28⟩
    replace hM28 := hM25.grow hM28.kept
    refine sqV (.bool true) rfl rfl rfl ?_
    refine sqV (.bool true) rfl rfl rfl ?_
    refine r_yes rfl rfl ?_
    refine sqV (.slice A1 m1 c1) rfl rfl rfl ?_
    refine r_yes rfl rfl ?_
    refine sqV (.int .i64 (clErr l bs limit)) rfl rfl rfl ?_
    refine r_yes rfl rfl ?_
    refine sqV (.slice A2 m2 c2) rfl rfl rfl ?_
    refine r_yes rfl rfl ?_
    refine sqV (.int .i64 (firstN [checkB2 l bs, (if outN limit 0 774192 = true then 2 else 0)])) rfl rfl rfl ?_
    refine r_yes rfl rfl ?_
    refine r_call (f := 19) (args := #[Value.slice A1 m1 c1, Value.int .i64 (clErr l bs limit), Value.slice A2 m2 c2, Value.int .i64 (firstN [checkB2 l bs, (if outN limit 0 774192 = true then 2 else 0)])]) (w' := w27) rfl rfl (x_call (vs := [Value.slice A1 m1 c1, Value.int .i64 (clErr l bs limit), Value.slice A2 m2 c2, Value.int .i64 (firstN [checkB2 l bs, (if outN limit 0 774192 = true then 2 else 0)])]) (enter19 _ _) rfl rfl) (lists_t A1 A2 m1 c1 m2 c2 (clErr l bs limit) (firstN [checkB2 l bs, (if outN limit 0 774192 = true then 2 else 0)]) ss1 ss2 w27 (h1W _ (Mem.right (L := L2) hM28).holds) (h2W _ (Mem.left (L := L2) hM28).holds) hm1 hr1 (clErr_first h0) (fun _ => hxx) (fun h => absurd h2 h)) ?_
    rintro v_ w29 ⟨rfl, hM30⟩
    replace hM30 := hM28.grow hM30.kept
    refine sqV (.bool true) rfl rfl rfl ?_
    refine sqV (.bool true) rfl rfl rfl ?_
    refine r_yes rfl rfl ?_
    refine sqV (.int .i64 (prsErr (xssOf ss2) (xssOf ro))) rfl rfl rfl ?_
    refine r_yes rfl rfl ?_
    refine sqV (.int .i64 (prsErr (xssOf ss2) (xssOf ro))) rfl rfl rfl ?_
    refine r_yes rfl rfl ?_
    refine sqV (.bool ((prsErr (xssOf ss2) (xssOf ro)) == (prsErr (xssOf ss2) (xssOf ro)))) rfl rfl rfl ?_
    refine sqV (.bool ((prsErr (xssOf ss2) (xssOf ro)) == (prsErr (xssOf ss2) (xssOf ro)))) rfl rfl rfl ?_
    refine sqV (.bool ((prsErr (xssOf ss2) (xssOf ro)) == (prsErr (xssOf ss2) (xssOf ro)))) rfl rfl rfl ?_
    rcases Bool.eq_false_or_eq_true ((prsErr (xssOf ss2) (xssOf ro)) == (prsErr (xssOf ss2) (xssOf ro))) with q0 | q0
    ·refine wpR_sub [(23, Value.int .i64 (prsV (xssOf ss2) (xssOf ro) 0)), (24, Value.int .i64 (prsV (xssOf ss2) (xssOf ro) 1)), (25, Value.int .i64 (prsV (xssOf ss2) (xssOf ro) 2)), (27, Value.int .i64 (prsV (xssOf ss2) (xssOf ro) 0)), (28, Value.int .i64 (prsV (xssOf ss2) (xssOf ro) 1)), (29, Value.int .i64 (prsV (xssOf ss2) (xssOf ro) 2)), (114, Value.bool true)] ⟨rfl, rfl, rfl, rfl, rfl, rfl, congrArg (fun z => some (Value.bool z)) q0, trivial⟩ ?_
     refine r_yes rfl rfl ?_
     refine sqV (.int .i64 (prsV (xssOf ss2) (xssOf ro) 0)) rfl rfl rfl ?_
     refine r_yes rfl rfl ?_
     refine sqV (.int .i64 (prsV (xssOf ss2) (xssOf ro) 0)) rfl rfl rfl ?_
     refine r_yes rfl rfl ?_
     refine sqV (.bool ((prsV (xssOf ss2) (xssOf ro) 0) == (prsV (xssOf ss2) (xssOf ro) 0))) rfl rfl rfl ?_
     refine sqV (.bool ((prsV (xssOf ss2) (xssOf ro) 0) == (prsV (xssOf ss2) (xssOf ro) 0))) rfl rfl rfl ?_
     refine sqV (.bool ((prsV (xssOf ss2) (xssOf ro) 0) == (prsV (xssOf ss2) (xssOf ro) 0))) rfl rfl rfl ?_
     rcases Bool.eq_false_or_eq_true ((prsV (xssOf ss2) (xssOf ro) 0) == (prsV (xssOf ss2) (xssOf ro) 0)) with q1 | q1
     ·refine wpR_sub [(24, Value.int .i64 (prsV (xssOf ss2) (xssOf ro) 1)), (25, Value.int .i64 (prsV (xssOf ss2) (xssOf ro) 2)), (28, Value.int .i64 (prsV (xssOf ss2) (xssOf ro) 1)), (29, Value.int .i64 (prsV (xssOf ss2) (xssOf ro) 2)), (119, Value.bool true)] ⟨rfl, rfl, rfl, rfl, congrArg (fun z => some (Value.bool z)) q1, trivial⟩ ?_
      refine r_yes rfl rfl ?_
      refine sqV (.int .i64 (prsV (xssOf ss2) (xssOf ro) 1)) rfl rfl rfl ?_
      refine r_yes rfl rfl ?_
      refine sqV (.int .i64 (prsV (xssOf ss2) (xssOf ro) 1)) rfl rfl rfl ?_
      refine r_yes rfl rfl ?_
      refine sqV (.bool ((prsV (xssOf ss2) (xssOf ro) 1) == (prsV (xssOf ss2) (xssOf ro) 1))) rfl rfl rfl ?_
      refine sqV (.bool ((prsV (xssOf ss2) (xssOf ro) 1) == (prsV (xssOf ss2) (xssOf ro) 1))) rfl rfl rfl ?_
      refine sqV (.bool ((prsV (xssOf ss2) (xssOf ro) 1) == (prsV (xssOf ss2) (xssOf ro) 1))) rfl rfl rfl ?_
      rcases Bool.eq_false_or_eq_true ((prsV (xssOf ss2) (xssOf ro) 1) == (prsV (xssOf ss2) (xssOf ro) 1)) with q2 | q2
      ·refine wpR_sub [(25, Value.int .i64 (prsV (xssOf ss2) (xssOf ro) 2)), (29, Value.int .i64 (prsV (xssOf ss2) (xssOf ro) 2)), (124, Value.bool true)] ⟨rfl, rfl, congrArg (fun z => some (Value.bool z)) q2, trivial⟩ ?_
       refine r_yes rfl rfl ?_
       refine sqV (.int .i64 (prsV (xssOf ss2) (xssOf ro) 2)) rfl rfl rfl ?_
       refine r_yes rfl rfl ?_
       refine sqV (.int .i64 (prsV (xssOf ss2) (xssOf ro) 2)) rfl rfl rfl ?_
       refine r_yes rfl rfl ?_
       refine sqV (.bool ((prsV (xssOf ss2) (xssOf ro) 2) == (prsV (xssOf ss2) (xssOf ro) 2))) rfl rfl rfl ?_
       refine sqV (.bool ((prsV (xssOf ss2) (xssOf ro) 2) == (prsV (xssOf ss2) (xssOf ro) 2))) rfl rfl rfl ?_
       refine sqV (.bool ((prsV (xssOf ss2) (xssOf ro) 2) == (prsV (xssOf ss2) (xssOf ro) 2))) rfl rfl rfl ?_
       refine r_nil (e_then (k_ret (e_ret1 rfl rfl ?_)))
       exact ⟨_, rfl, by simp, hM30.drop⟩
      ·refine wpR_sub [(25, Value.int .i64 (prsV (xssOf ss2) (xssOf ro) 2)), (29, Value.int .i64 (prsV (xssOf ss2) (xssOf ro) 2)), (124, Value.bool false)] ⟨rfl, rfl, congrArg (fun z => some (Value.bool z)) q2, trivial⟩ ?_
       exact absurd (beq_self_eq_true _) (by rw [q2]; decide)
     ·refine wpR_sub [(24, Value.int .i64 (prsV (xssOf ss2) (xssOf ro) 1)), (25, Value.int .i64 (prsV (xssOf ss2) (xssOf ro) 2)), (28, Value.int .i64 (prsV (xssOf ss2) (xssOf ro) 1)), (29, Value.int .i64 (prsV (xssOf ss2) (xssOf ro) 2)), (119, Value.bool false)] ⟨rfl, rfl, rfl, rfl, congrArg (fun z => some (Value.bool z)) q1, trivial⟩ ?_
      exact absurd (beq_self_eq_true _) (by rw [q1]; decide)
    ·refine wpR_sub [(23, Value.int .i64 (prsV (xssOf ss2) (xssOf ro) 0)), (24, Value.int .i64 (prsV (xssOf ss2) (xssOf ro) 1)), (25, Value.int .i64 (prsV (xssOf ss2) (xssOf ro) 2)), (27, Value.int .i64 (prsV (xssOf ss2) (xssOf ro) 0)), (28, Value.int .i64 (prsV (xssOf ss2) (xssOf ro) 1)), (29, Value.int .i64 (prsV (xssOf ss2) (xssOf ro) 2)), (114, Value.bool false)] ⟨rfl, rfl, rfl, rfl, rfl, rfl, congrArg (fun z => some (Value.bool z)) q0, trivial⟩ ?_
     exact absurd (beq_self_eq_true _) (by rw [q0]; decide)
   ·refine wpR_sub [(15, Value.int .i64 gv), (16, Value.int .i64 (gapErr l xs ys)), (17, Value.int .i64 g2), (18, Value.int .i64 (gapErr2 l xs ys)), (19, Value.slice A1 m1 c1), (20, Value.int .i64 (clErr l bs limit)), (21, Value.int .i64 (firstN [checkB2 l bs, (if outN limit 0 774192 = true then 2 else 0)])), (22, Value.slice A2 m2 c2), (23, Value.int .i64 (prsV (xssOf ss2) (xssOf ro) 0)), (24, Value.int .i64 (prsV (xssOf ss2) (xssOf ro) 1)), (25, Value.int .i64 (prsV (xssOf ss2) (xssOf ro) 2)), (26, Value.int .i64 (prsErr (xssOf ss2) (xssOf ro))), (27, Value.int .i64 (prsV (xssOf ss2) (xssOf ro) 0)), (28, Value.int .i64 (prsV (xssOf ss2) (xssOf ro) 1)), (29, Value.int .i64 (prsV (xssOf ss2) (xssOf ro) 2)), (30, Value.int .i64 (prsErr (xssOf ss2) (xssOf ro))), (95, Value.bool false)] ⟨rfl, rfl, rfl, rfl, rfl, rfl, rfl, rfl, rfl, rfl, rfl, rfl, rfl, rfl, rfl, rfl, congrArg (fun z => some (Value.bool z)) g0, trivial⟩ ?_
    exact absurd (beq_iff_eq.2 (checkB_eq h0)) (by rw [g0]; decide)
  ·try simp only [sqC] at h2
   refine k_skip (e_then (k_seq (k_region ?_)))
   have hcf : clErr l bs limit ≠ 0 := by rw [clErr_first h0]; exact h2
   have hss1 : ss1 = [] := h1z (hcf)
   have hm1 : m1 ≤ 1099511627776 := by rw [hss1] at hml; simp at hml; omega
   have hr1 : ∀ r ∈ ss1, r.xs.length ≤ 1099511627776 := by rw [hss1]; simp
   refine sqV (.slice none 0 0) rfl rfl rfl ?_
   refine sqV (.slice Ao no co) rfl rfl rfl ?_
   refine r_call (f := 15) (args := #[Value.slice none 0 0, Value.slice Ao no co]) (w' := w16) rfl rfl (x_call (vs := [Value.slice none 0 0, Value.slice Ao no co]) (enter15 _ _) rfl rfl) (pairs_s w16 none 0 0 [] (rowsAt_nil _).1 (rowsAt_nil _).2 Ao no co ro (ho.up hM17).1 (ho.up hM17).2 (by decide) (by omega) (by decide) (by omega)) ?_
   rintro v_ w34 ⟨rfl, hM35⟩
   replace hM35 := hM17.grow hM35.kept
   refine sqV (.tuple #[.int .i64 (prsV (xssOf []) (xssOf ro) 0), .int .i64 (prsV (xssOf []) (xssOf ro) 1), .int .i64 (prsV (xssOf []) (xssOf ro) 2), .int .i64 (prsErr (xssOf []) (xssOf ro))]) rfl rfl rfl ?_
   refine sqV (.int .i64 (prsV (xssOf []) (xssOf ro) 0)) rfl rfl rfl ?_
   refine sqV (.int .i64 (prsV (xssOf []) (xssOf ro) 1)) rfl rfl rfl ?_
   refine sqV (.int .i64 (prsV (xssOf []) (xssOf ro) 2)) rfl rfl rfl ?_
   refine sqV (.int .i64 (prsErr (xssOf []) (xssOf ro))) rfl rfl rfl ?_
   refine sqV (.int .i64 (prsV (xssOf []) (xssOf ro) 0)) rfl rfl rfl ?_
   refine sqV (.int .i64 (prsV (xssOf []) (xssOf ro) 1)) rfl rfl rfl ?_
   refine sqV (.int .i64 (prsV (xssOf []) (xssOf ro) 2)) rfl rfl rfl ?_
   refine sqV (.int .i64 (prsErr (xssOf []) (xssOf ro))) rfl rfl rfl ?_
   refine r_nil (e_then (k_seq (k_region (sqV (.slice none 0 0) rfl rfl rfl ?_))))
   refine sqV (.slice Ao no co) rfl rfl rfl ?_
   refine r_call (f := 16) (args := #[Value.slice none 0 0, Value.slice Ao no co]) (w' := w34) rfl rfl (x_call (vs := [Value.slice none 0 0, Value.slice Ao no co]) (enter16 _ _) rfl rfl) (pairsR_s w34 none 0 0 [] (rowsAt_nil _).1 (rowsAt_nil _).2 Ao no co ro (ho.up hM35).1 (ho.up hM35).2 (by decide) (by omega) (by decide) (by omega)) ?_
   rintro v_ w36 ⟨rfl, hM37⟩
   replace hM37 := hM35.grow hM37.kept
   refine sqV (.tuple #[.int .i64 (prsV (xssOf []) (xssOf ro) 0), .int .i64 (prsV (xssOf []) (xssOf ro) 1), .int .i64 (prsV (xssOf []) (xssOf ro) 2), .int .i64 (prsErr (xssOf []) (xssOf ro))]) rfl rfl rfl ?_
   refine sqV (.int .i64 (prsV (xssOf []) (xssOf ro) 0)) rfl rfl rfl ?_
   refine sqV (.int .i64 (prsV (xssOf []) (xssOf ro) 1)) rfl rfl rfl ?_
   refine sqV (.int .i64 (prsV (xssOf []) (xssOf ro) 2)) rfl rfl rfl ?_
   refine sqV (.int .i64 (prsErr (xssOf []) (xssOf ro))) rfl rfl rfl ?_
   refine sqV (.int .i64 (prsV (xssOf []) (xssOf ro) 0)) rfl rfl rfl ?_
   refine sqV (.int .i64 (prsV (xssOf []) (xssOf ro) 1)) rfl rfl rfl ?_
   refine sqV (.int .i64 (prsV (xssOf []) (xssOf ro) 2)) rfl rfl rfl ?_
   refine sqV (.int .i64 (prsErr (xssOf []) (xssOf ro))) rfl rfl rfl ?_
   refine r_nil (e_then (k_seq (k_region (sqV (.slice Al nl cl) rfl rfl rfl ?_))))
   refine sqV (.slice Ab nb cb) rfl rfl rfl ?_
   refine r_call (f := 17) (args := #[Value.slice Al nl cl, Value.slice Ab nb cb]) (w' := w36) rfl rfl (x_call (vs := [Value.slice Al nl cl, Value.slice Ab nb cb]) (enter17 _ _) rfl rfl) (checkBonds_s Al Ab nl cl nb cb l bs w36 (hl.up hM37) (hb.up hM37)) ?_
   rintro v_ w38 ⟨rfl, hM39⟩
   replace hM39 := hM37.grow hM39.kept
   refine sqV (.int .i64 (checkB2 l bs)) rfl rfl rfl ?_
   refine sqV (.bool ((checkB l bs) == (checkB2 l bs))) rfl rfl rfl ?_
   refine sqV (.bool ((checkB l bs) == (checkB2 l bs))) rfl rfl rfl ?_
   rcases Bool.eq_false_or_eq_true ((checkB l bs) == (checkB2 l bs)) with g0 | g0
   ·refine wpR_sub [(15, Value.int .i64 gv), (16, Value.int .i64 (gapErr l xs ys)), (17, Value.int .i64 g2), (18, Value.int .i64 (gapErr2 l xs ys)), (19, Value.slice A1 m1 c1), (20, Value.int .i64 (clErr l bs limit)), (21, Value.int .i64 (firstN [checkB2 l bs, (if outN limit 0 774192 = true then 2 else 0)])), (22, Value.slice none 0 0), (23, Value.int .i64 (prsV (xssOf []) (xssOf ro) 0)), (24, Value.int .i64 (prsV (xssOf []) (xssOf ro) 1)), (25, Value.int .i64 (prsV (xssOf []) (xssOf ro) 2)), (26, Value.int .i64 (prsErr (xssOf []) (xssOf ro))), (27, Value.int .i64 (prsV (xssOf []) (xssOf ro) 0)), (28, Value.int .i64 (prsV (xssOf []) (xssOf ro) 1)), (29, Value.int .i64 (prsV (xssOf []) (xssOf ro) 2)), (30, Value.int .i64 (prsErr (xssOf []) (xssOf ro))), (95, Value.bool true)] ⟨rfl, rfl, rfl, rfl, rfl, rfl, rfl, rfl, rfl, rfl, rfl, rfl, rfl, rfl, rfl, rfl, congrArg (fun z => some (Value.bool z)) g0, trivial⟩ ?_
    refine r_yes rfl rfl ?_
    refine sqV (.int .i64 gv) rfl rfl rfl ?_
    refine r_yes rfl rfl ?_
    refine sqV (.int .i64 (gapErr l xs ys)) rfl rfl rfl ?_
    refine r_yes rfl rfl ?_
    refine sqV (.int .i64 g2) rfl rfl rfl ?_
    refine r_yes rfl rfl ?_
    refine sqV (.int .i64 (gapErr2 l xs ys)) rfl rfl rfl ?_
    refine r_yes rfl rfl ?_
    refine r_call (f := 18) (args := #[Value.int .i64 gv, Value.int .i64 (gapErr l xs ys), Value.int .i64 g2, Value.int .i64 (gapErr2 l xs ys)]) (w' := w38) rfl rfl (x_call (vs := [Value.int .i64 gv, Value.int .i64 (gapErr l xs ys), Value.int .i64 g2, Value.int .i64 (gapErr2 l xs ys)]) (enter18 _ _) rfl rfl) (told_t gv (gapErr l xs ys) g2 (gapErr2 l xs ys) w38 (gapErr_eq h0) (fun h => by obtain ⟨q1, q2, q3, q4⟩ := hg2A h; exact gap_same hgd q1 q2 q3 (hgA (by rw [gapErr_eq h0]; exact h)) q4) (fun h => hgz (by rw [gapErr_eq h0]; exact h))) ?_
    rintro v_ w41 ⟨rfl, hM42⟩
    replace hM42 := hM39.grow hM42.kept
    refine sqV (.bool true) rfl rfl rfl ?_
    refine sqV (.bool true) rfl rfl rfl ?_
    refine r_yes rfl rfl ?_
    refine sqV (.slice A1 m1 c1) rfl rfl rfl ?_
    refine r_yes rfl rfl ?_
    refine sqV (.int .i64 (clErr l bs limit)) rfl rfl rfl ?_
    refine r_yes rfl rfl ?_
    refine sqV (.slice none 0 0) rfl rfl rfl ?_
    refine r_yes rfl rfl ?_
    refine sqV (.int .i64 (firstN [checkB2 l bs, (if outN limit 0 774192 = true then 2 else 0)])) rfl rfl rfl ?_
    refine r_yes rfl rfl ?_
    refine r_call (f := 19) (args := #[Value.slice A1 m1 c1, Value.int .i64 (clErr l bs limit), Value.slice none 0 0, Value.int .i64 (firstN [checkB2 l bs, (if outN limit 0 774192 = true then 2 else 0)])]) (w' := w41) rfl rfl (x_call (vs := [Value.slice A1 m1 c1, Value.int .i64 (clErr l bs limit), Value.slice none 0 0, Value.int .i64 (firstN [checkB2 l bs, (if outN limit 0 774192 = true then 2 else 0)])]) (enter19 _ _) rfl rfl) (lists_t A1 none m1 c1 0 0 (clErr l bs limit) (firstN [checkB2 l bs, (if outN limit 0 774192 = true then 2 else 0)]) ss1 [] w41 (h1W _ hM42.tail.holds) (rowsAt_nil _) hm1 hr1 (clErr_first h0) (fun h => absurd h h2) (fun _ => hss1)) ?_
    rintro v_ w43 ⟨rfl, hM44⟩
    replace hM44 := hM42.grow hM44.kept
    refine sqV (.bool true) rfl rfl rfl ?_
    refine sqV (.bool true) rfl rfl rfl ?_
    refine r_yes rfl rfl ?_
    refine sqV (.int .i64 (prsErr (xssOf []) (xssOf ro))) rfl rfl rfl ?_
    refine r_yes rfl rfl ?_
    refine sqV (.int .i64 (prsErr (xssOf []) (xssOf ro))) rfl rfl rfl ?_
    refine r_yes rfl rfl ?_
    refine sqV (.bool ((prsErr (xssOf []) (xssOf ro)) == (prsErr (xssOf []) (xssOf ro)))) rfl rfl rfl ?_
    refine sqV (.bool ((prsErr (xssOf []) (xssOf ro)) == (prsErr (xssOf []) (xssOf ro)))) rfl rfl rfl ?_
    refine sqV (.bool ((prsErr (xssOf []) (xssOf ro)) == (prsErr (xssOf []) (xssOf ro)))) rfl rfl rfl ?_
    rcases Bool.eq_false_or_eq_true ((prsErr (xssOf []) (xssOf ro)) == (prsErr (xssOf []) (xssOf ro))) with q0 | q0
    ·refine wpR_sub [(23, Value.int .i64 (prsV (xssOf []) (xssOf ro) 0)), (24, Value.int .i64 (prsV (xssOf []) (xssOf ro) 1)), (25, Value.int .i64 (prsV (xssOf []) (xssOf ro) 2)), (27, Value.int .i64 (prsV (xssOf []) (xssOf ro) 0)), (28, Value.int .i64 (prsV (xssOf []) (xssOf ro) 1)), (29, Value.int .i64 (prsV (xssOf []) (xssOf ro) 2)), (114, Value.bool true)] ⟨rfl, rfl, rfl, rfl, rfl, rfl, congrArg (fun z => some (Value.bool z)) q0, trivial⟩ ?_
     refine r_yes rfl rfl ?_
     refine sqV (.int .i64 (prsV (xssOf []) (xssOf ro) 0)) rfl rfl rfl ?_
     refine r_yes rfl rfl ?_
     refine sqV (.int .i64 (prsV (xssOf []) (xssOf ro) 0)) rfl rfl rfl ?_
     refine r_yes rfl rfl ?_
     refine sqV (.bool ((prsV (xssOf []) (xssOf ro) 0) == (prsV (xssOf []) (xssOf ro) 0))) rfl rfl rfl ?_
     refine sqV (.bool ((prsV (xssOf []) (xssOf ro) 0) == (prsV (xssOf []) (xssOf ro) 0))) rfl rfl rfl ?_
     refine sqV (.bool ((prsV (xssOf []) (xssOf ro) 0) == (prsV (xssOf []) (xssOf ro) 0))) rfl rfl rfl ?_
     rcases Bool.eq_false_or_eq_true ((prsV (xssOf []) (xssOf ro) 0) == (prsV (xssOf []) (xssOf ro) 0)) with q1 | q1
     ·refine wpR_sub [(24, Value.int .i64 (prsV (xssOf []) (xssOf ro) 1)), (25, Value.int .i64 (prsV (xssOf []) (xssOf ro) 2)), (28, Value.int .i64 (prsV (xssOf []) (xssOf ro) 1)), (29, Value.int .i64 (prsV (xssOf []) (xssOf ro) 2)), (119, Value.bool true)] ⟨rfl, rfl, rfl, rfl, congrArg (fun z => some (Value.bool z)) q1, trivial⟩ ?_
      refine r_yes rfl rfl ?_
      refine sqV (.int .i64 (prsV (xssOf []) (xssOf ro) 1)) rfl rfl rfl ?_
      refine r_yes rfl rfl ?_
      refine sqV (.int .i64 (prsV (xssOf []) (xssOf ro) 1)) rfl rfl rfl ?_
      refine r_yes rfl rfl ?_
      refine sqV (.bool ((prsV (xssOf []) (xssOf ro) 1) == (prsV (xssOf []) (xssOf ro) 1))) rfl rfl rfl ?_
      refine sqV (.bool ((prsV (xssOf []) (xssOf ro) 1) == (prsV (xssOf []) (xssOf ro) 1))) rfl rfl rfl ?_
      refine sqV (.bool ((prsV (xssOf []) (xssOf ro) 1) == (prsV (xssOf []) (xssOf ro) 1))) rfl rfl rfl ?_
      rcases Bool.eq_false_or_eq_true ((prsV (xssOf []) (xssOf ro) 1) == (prsV (xssOf []) (xssOf ro) 1)) with q2 | q2
      ·refine wpR_sub [(25, Value.int .i64 (prsV (xssOf []) (xssOf ro) 2)), (29, Value.int .i64 (prsV (xssOf []) (xssOf ro) 2)), (124, Value.bool true)] ⟨rfl, rfl, congrArg (fun z => some (Value.bool z)) q2, trivial⟩ ?_
       refine r_yes rfl rfl ?_
       refine sqV (.int .i64 (prsV (xssOf []) (xssOf ro) 2)) rfl rfl rfl ?_
       refine r_yes rfl rfl ?_
       refine sqV (.int .i64 (prsV (xssOf []) (xssOf ro) 2)) rfl rfl rfl ?_
       refine r_yes rfl rfl ?_
       refine sqV (.bool ((prsV (xssOf []) (xssOf ro) 2) == (prsV (xssOf []) (xssOf ro) 2))) rfl rfl rfl ?_
       refine sqV (.bool ((prsV (xssOf []) (xssOf ro) 2) == (prsV (xssOf []) (xssOf ro) 2))) rfl rfl rfl ?_
       refine sqV (.bool ((prsV (xssOf []) (xssOf ro) 2) == (prsV (xssOf []) (xssOf ro) 2))) rfl rfl rfl ?_
       refine r_nil (sqE [(12, .bool ((prsV (xssOf []) (xssOf ro) 2) == (prsV (xssOf []) (xssOf ro) 2)))] rfl (e_then (k_ret (e_ret1 rfl rfl ?_))))
       exact ⟨_, rfl, by simp, hM44.drop⟩
      ·refine wpR_sub [(25, Value.int .i64 (prsV (xssOf []) (xssOf ro) 2)), (29, Value.int .i64 (prsV (xssOf []) (xssOf ro) 2)), (124, Value.bool false)] ⟨rfl, rfl, congrArg (fun z => some (Value.bool z)) q2, trivial⟩ ?_
       exact absurd (beq_self_eq_true _) (by rw [q2]; decide)
     ·refine wpR_sub [(24, Value.int .i64 (prsV (xssOf []) (xssOf ro) 1)), (25, Value.int .i64 (prsV (xssOf []) (xssOf ro) 2)), (28, Value.int .i64 (prsV (xssOf []) (xssOf ro) 1)), (29, Value.int .i64 (prsV (xssOf []) (xssOf ro) 2)), (119, Value.bool false)] ⟨rfl, rfl, rfl, rfl, congrArg (fun z => some (Value.bool z)) q1, trivial⟩ ?_
      exact absurd (beq_self_eq_true _) (by rw [q1]; decide)
    ·refine wpR_sub [(23, Value.int .i64 (prsV (xssOf []) (xssOf ro) 0)), (24, Value.int .i64 (prsV (xssOf []) (xssOf ro) 1)), (25, Value.int .i64 (prsV (xssOf []) (xssOf ro) 2)), (27, Value.int .i64 (prsV (xssOf []) (xssOf ro) 0)), (28, Value.int .i64 (prsV (xssOf []) (xssOf ro) 1)), (29, Value.int .i64 (prsV (xssOf []) (xssOf ro) 2)), (114, Value.bool false)] ⟨rfl, rfl, rfl, rfl, rfl, rfl, congrArg (fun z => some (Value.bool z)) q0, trivial⟩ ?_
     exact absurd (beq_self_eq_true _) (by rw [q0]; decide)
   ·refine wpR_sub [(15, Value.int .i64 gv), (16, Value.int .i64 (gapErr l xs ys)), (17, Value.int .i64 g2), (18, Value.int .i64 (gapErr2 l xs ys)), (19, Value.slice A1 m1 c1), (20, Value.int .i64 (clErr l bs limit)), (21, Value.int .i64 (firstN [checkB2 l bs, (if outN limit 0 774192 = true then 2 else 0)])), (22, Value.slice none 0 0), (23, Value.int .i64 (prsV (xssOf []) (xssOf ro) 0)), (24, Value.int .i64 (prsV (xssOf []) (xssOf ro) 1)), (25, Value.int .i64 (prsV (xssOf []) (xssOf ro) 2)), (26, Value.int .i64 (prsErr (xssOf []) (xssOf ro))), (27, Value.int .i64 (prsV (xssOf []) (xssOf ro) 0)), (28, Value.int .i64 (prsV (xssOf []) (xssOf ro) 1)), (29, Value.int .i64 (prsV (xssOf []) (xssOf ro) 2)), (30, Value.int .i64 (prsErr (xssOf []) (xssOf ro))), (95, Value.bool false)] ⟨rfl, rfl, rfl, rfl, rfl, rfl, rfl, rfl, rfl, rfl, rfl, rfl, rfl, rfl, rfl, rfl, congrArg (fun z => some (Value.bool z)) g0, trivial⟩ ?_
    exact absurd (beq_iff_eq.2 (checkB_eq h0)) (by rw [g0]; decide)
 ·try simp only [sqC] at h0
  refine k_skip (e_then (k_seq (k_region ?_)))
  have hbad := clErr_bad (bs := bs) (limit := limit) h0
  refine sqV (.slice Al nl cl) rfl rfl rfl ?_
  refine sqV (.slice Aa xs.length ca) rfl rfl rfl ?_
  refine sqV (.slice Ay ys.length cy) rfl rfl rfl ?_
  refine r_call (f := 8) (args := #[Value.slice Al nl cl, Value.slice Aa xs.length ca, Value.slice Ay ys.length cy]) (w' := w1) rfl rfl (x_call (vs := [Value.slice Al nl cl, Value.slice Aa xs.length ca, Value.slice Ay ys.length cy]) (enter8 _ _) rfl rfl) (gap_s Al Aa Ay nl cl ca cy l xs ys w1 (hl.up hM2) (ha.up hM2) (hy.up hM2) (by omega) (by omega)) ?_
  rintro v_ w48 ⟨gv, ge, rfl, rfl, hgz, hgA, hM49⟩
  replace hM49 := hM2.grow hM49.kept
  refine sqV (.tuple #[.int .i64 gv, .int .i64 (gapErr l xs ys)]) rfl rfl rfl ?_
  refine sqV (.int .i64 gv) rfl rfl rfl ?_
  refine sqV (.int .i64 (gapErr l xs ys)) rfl rfl rfl ?_
  refine sqV (.int .i64 gv) rfl rfl rfl ?_
  refine sqV (.int .i64 (gapErr l xs ys)) rfl rfl rfl ?_
  refine r_nil (e_then (k_seq (k_region (sqV (.int .i64 (checkL l)) rfl rfl rfl ?_))))
  refine sqV (.int .i64 0) rfl rfl rfl ?_
  refine sqV (.int .i64 (checkL l)) rfl rfl rfl ?_
  refine r_nil (e_then (k_seq (k_seq (k_region (sqV (.int .i64 (checkL l)) rfl rfl rfl ?_)))))
  refine sqV (.bool ((checkL l) == 0)) rfl rfl rfl ?_
  refine r_nil (e_then (k_cond_false rfl (congrArg Value.bool (by simp [h0])) ?_))
  refine k_skip (e_then (k_seq (k_region (sqV (.slice Al nl cl) rfl rfl rfl ?_))))
  refine sqV (.slice Ab nb cb) rfl rfl rfl ?_
  refine sqV (.int .i64 limit) rfl rfl rfl ?_
  refine r_call (f := 6) (args := #[Value.slice Al nl cl, Value.slice Ab nb cb, Value.int .i64 limit]) (w' := w48) rfl rfl (x_call (vs := [Value.slice Al nl cl, Value.slice Ab nb cb, Value.int .i64 limit]) (enter6 _ _) rfl rfl) (cluster_t Al Ab nl cl nb cb l bs limit w48 (hl.up hM49) (hb.up hM49)) ?_
  rintro v_ w50 ⟨A1, m1, c1, ss1, L1, rfl, h1W, h1z, h1A, hM51⟩
  replace hM51 : Mem w No w50 L1 := by simpa using Mem.call0 hM49.drop hM51
  have hml := (h1W _ hM51.holds).1.len
  refine sqV (.tuple #[.slice A1 m1 c1, .int .i64 (clErr l bs limit)]) rfl rfl rfl ?_
  refine sqV (.slice A1 m1 c1) rfl rfl rfl ?_
  refine sqV (.int .i64 (clErr l bs limit)) rfl rfl rfl ?_
  refine sqV (.slice A1 m1 c1) rfl rfl rfl ?_
  refine sqV (.int .i64 (clErr l bs limit)) rfl rfl rfl ?_
  refine r_nil (sqE [(0, .slice Al nl cl), (1, .slice Ab nb cb), (2, .int .i64 limit), (5, .slice Ao no co), (14, .int .i64 (checkL l)), (15, .int .i64 gv), (16, .int .i64 (gapErr l xs ys)), (17, .int .i64 0), (18, .int .i64 (checkL l)), (19, .slice A1 m1 c1), (20, .int .i64 (clErr l bs limit))] rfl (e_then (k_seq (k_region (sqV (.int .i64 (checkL l)) rfl rfl rfl ?_)))))
  refine sqV (.int .i64 limit) rfl rfl rfl ?_
  refine r_call (f := 13) (args := #[Value.int .i64 limit]) (w' := w50) rfl rfl (x_call (vs := [Value.int .i64 limit]) (enter13 _ _) rfl rfl) (limitFault_s limit w50) ?_
  rintro v_ w52 ⟨rfl, hM53⟩
  replace hM53 := hM51.grow hM53.kept
  refine r_new (fun b => .slice (some ⟨b, 0, none⟩) 2 2) (.cells #[Value.int .i64 (checkL l), Value.int .i64 (if outN limit 0 774192 = true then 2 else 0)] 26 (0, 0)) hM53 (by kernel_rfl) rfl rfl ?_
  intro b56 w54 hM55 hb56
  replace hM55 : Mem w No w54 ((b56, .cells #[Value.int .i64 (checkL l), Value.int .i64 (if outN limit 0 774192 = true then 2 else 0)] 26 (0, 0)) :: L1) := hM55
  refine r_call (f := 12) (args := #[Value.slice (some ⟨b56, 0, none⟩) 2 2]) (w' := w54) rfl rfl (x_call (vs := [Value.slice (some ⟨b56, 0, none⟩) 2 2]) (enter12 _ _) rfl rfl) (first_s (some ⟨b56, 0, none⟩) 2 2 [checkL l, (if outN limit 0 774192 = true then 2 else 0)] w54 (OwnR.rdI (OwnR.lit 26 1 b56 2 _ (by decide) rfl) ⟨by simp, by simpa using hM55.get 0 rfl⟩) (by decide)) ?_
  rintro v_ w57 ⟨rfl, hM58⟩
  replace hM58 := hM55.grow hM58.kept
  refine sqV (.int .i64 (firstN [checkL l, (if outN limit 0 774192 = true then 2 else 0)])) rfl rfl rfl ?_
  refine r_nil (e_then (k_seq (k_region (sqV (.slice none 0 0) rfl rfl rfl ?_))))
  refine r_nil (e_then (k_seq (k_seq (k_region (sqV (.int .i64 (firstN [checkL l, (if outN limit 0 774192 = true then 2 else 0)])) rfl rfl rfl ?_)))))
  refine sqV (.bool ((firstN [checkL l, (if outN limit 0 774192 = true then 2 else 0)]) == 0)) rfl rfl rfl ?_
  refine r_nil (e_then (k_cond_false rfl (congrArg Value.bool (by rw [hbad.2.2]; simp [h0])) ?_))
  refine k_skip (e_then (k_seq (k_region ?_)))
  have hss1 : ss1 = [] := h1z (by rw [hbad.1]; exact h0)
  have hm1 : m1 ≤ 1099511627776 := by rw [hss1] at hml; simp at hml; omega
  have hr1 : ∀ r ∈ ss1, r.xs.length ≤ 1099511627776 := by rw [hss1]; simp
  refine sqV (.slice none 0 0) rfl rfl rfl ?_
  refine sqV (.slice Ao no co) rfl rfl rfl ?_
  refine r_call (f := 15) (args := #[Value.slice none 0 0, Value.slice Ao no co]) (w' := w57) rfl rfl (x_call (vs := [Value.slice none 0 0, Value.slice Ao no co]) (enter15 _ _) rfl rfl) (pairs_s w57 none 0 0 [] (rowsAt_nil _).1 (rowsAt_nil _).2 Ao no co ro (ho.up hM58).1 (ho.up hM58).2 (by decide) (by omega) (by decide) (by omega)) ?_
  rintro v_ w59 ⟨rfl, hM60⟩
  replace hM60 := hM58.grow hM60.kept
  refine sqV (.tuple #[.int .i64 (prsV (xssOf []) (xssOf ro) 0), .int .i64 (prsV (xssOf []) (xssOf ro) 1), .int .i64 (prsV (xssOf []) (xssOf ro) 2), .int .i64 (prsErr (xssOf []) (xssOf ro))]) rfl rfl rfl ?_
  refine sqV (.int .i64 (prsV (xssOf []) (xssOf ro) 0)) rfl rfl rfl ?_
  refine sqV (.int .i64 (prsV (xssOf []) (xssOf ro) 1)) rfl rfl rfl ?_
  refine sqV (.int .i64 (prsV (xssOf []) (xssOf ro) 2)) rfl rfl rfl ?_
  refine sqV (.int .i64 (prsErr (xssOf []) (xssOf ro))) rfl rfl rfl ?_
  refine sqV (.int .i64 (prsV (xssOf []) (xssOf ro) 0)) rfl rfl rfl ?_
  refine sqV (.int .i64 (prsV (xssOf []) (xssOf ro) 1)) rfl rfl rfl ?_
  refine sqV (.int .i64 (prsV (xssOf []) (xssOf ro) 2)) rfl rfl rfl ?_
  refine sqV (.int .i64 (prsErr (xssOf []) (xssOf ro))) rfl rfl rfl ?_
  refine r_nil (sqE [(0, .slice Al nl cl), (1, .slice Ab nb cb), (5, .slice Ao no co), (14, .int .i64 (checkL l)), (15, .int .i64 gv), (16, .int .i64 (gapErr l xs ys)), (17, .int .i64 0), (18, .int .i64 (checkL l)), (19, .slice A1 m1 c1), (20, .int .i64 (clErr l bs limit)), (21, .int .i64 (firstN [checkL l, (if outN limit 0 774192 = true then 2 else 0)])), (22, .slice none 0 0), (23, .int .i64 (prsV (xssOf []) (xssOf ro) 0)), (24, .int .i64 (prsV (xssOf []) (xssOf ro) 1)), (25, .int .i64 (prsV (xssOf []) (xssOf ro) 2)), (26, .int .i64 (prsErr (xssOf []) (xssOf ro)))] rfl (e_then (k_seq (k_region (sqV (.slice none 0 0) rfl rfl rfl ?_)))))
  refine sqV (.slice Ao no co) rfl rfl rfl ?_
  refine r_call (f := 16) (args := #[Value.slice none 0 0, Value.slice Ao no co]) (w' := w59) rfl rfl (x_call (vs := [Value.slice none 0 0, Value.slice Ao no co]) (enter16 _ _) rfl rfl) (pairsR_s w59 none 0 0 [] (rowsAt_nil _).1 (rowsAt_nil _).2 Ao no co ro (ho.up hM60).1 (ho.up hM60).2 (by decide) (by omega) (by decide) (by omega)) ?_
  rintro v_ w61 ⟨rfl, hM62⟩
  replace hM62 := hM60.grow hM62.kept
  refine sqV (.tuple #[.int .i64 (prsV (xssOf []) (xssOf ro) 0), .int .i64 (prsV (xssOf []) (xssOf ro) 1), .int .i64 (prsV (xssOf []) (xssOf ro) 2), .int .i64 (prsErr (xssOf []) (xssOf ro))]) rfl rfl rfl ?_
  refine sqV (.int .i64 (prsV (xssOf []) (xssOf ro) 0)) rfl rfl rfl ?_
  refine sqV (.int .i64 (prsV (xssOf []) (xssOf ro) 1)) rfl rfl rfl ?_
  refine sqV (.int .i64 (prsV (xssOf []) (xssOf ro) 2)) rfl rfl rfl ?_
  refine sqV (.int .i64 (prsErr (xssOf []) (xssOf ro))) rfl rfl rfl ?_
  refine sqV (.int .i64 (prsV (xssOf []) (xssOf ro) 0)) rfl rfl rfl ?_
  refine sqV (.int .i64 (prsV (xssOf []) (xssOf ro) 1)) rfl rfl rfl ?_
  refine sqV (.int .i64 (prsV (xssOf []) (xssOf ro) 2)) rfl rfl rfl ?_
  refine sqV (.int .i64 (prsErr (xssOf []) (xssOf ro))) rfl rfl rfl ?_
  refine r_nil (e_then (k_seq (k_region (sqV (.slice Al nl cl) rfl rfl rfl ?_))))
  refine sqV (.slice Ab nb cb) rfl rfl rfl ?_
  refine r_call (f := 17) (args := #[Value.slice Al nl cl, Value.slice Ab nb cb]) (w' := w61) rfl rfl (x_call (vs := [Value.slice Al nl cl, Value.slice Ab nb cb]) (enter17 _ _) rfl rfl) (checkBonds_s Al Ab nl cl nb cb l bs w61 (hl.up hM62) (hb.up hM62)) ?_
  rintro v_ w63 ⟨rfl, hM64⟩
  replace hM64 := hM62.grow hM64.kept
  refine sqV (.int .i64 (checkL l)) rfl rfl rfl ?_
  refine sqV (.bool ((checkB l bs) == (checkL l))) rfl rfl rfl ?_
  refine sqV (.bool ((checkB l bs) == (checkL l))) rfl rfl rfl ?_
  rcases Bool.eq_false_or_eq_true ((checkB l bs) == (checkL l)) with g0 | g0
  ·refine wpR_sub [(15, Value.int .i64 gv), (16, Value.int .i64 (gapErr l xs ys)), (17, Value.int .i64 0), (18, Value.int .i64 (checkL l)), (19, Value.slice A1 m1 c1), (20, Value.int .i64 (clErr l bs limit)), (21, Value.int .i64 (firstN [checkL l, (if outN limit 0 774192 = true then 2 else 0)])), (22, Value.slice none 0 0), (23, Value.int .i64 (prsV (xssOf []) (xssOf ro) 0)), (24, Value.int .i64 (prsV (xssOf []) (xssOf ro) 1)), (25, Value.int .i64 (prsV (xssOf []) (xssOf ro) 2)), (26, Value.int .i64 (prsErr (xssOf []) (xssOf ro))), (27, Value.int .i64 (prsV (xssOf []) (xssOf ro) 0)), (28, Value.int .i64 (prsV (xssOf []) (xssOf ro) 1)), (29, Value.int .i64 (prsV (xssOf []) (xssOf ro) 2)), (30, Value.int .i64 (prsErr (xssOf []) (xssOf ro))), (95, Value.bool true)] ⟨rfl, rfl, rfl, rfl, rfl, rfl, rfl, rfl, rfl, rfl, rfl, rfl, rfl, rfl, rfl, rfl, congrArg (fun z => some (Value.bool z)) g0, trivial⟩ ?_
   refine r_yes rfl rfl ?_
   refine sqV (.int .i64 gv) rfl rfl rfl ?_
   refine r_yes rfl rfl ?_
   refine sqV (.int .i64 (gapErr l xs ys)) rfl rfl rfl ?_
   refine r_yes rfl rfl ?_
   refine sqV (.int .i64 0) rfl rfl rfl ?_
   refine r_yes rfl rfl ?_
   refine sqV (.int .i64 (checkL l)) rfl rfl rfl ?_
   refine r_yes rfl rfl ?_
   refine r_call (f := 18) (args := #[Value.int .i64 gv, Value.int .i64 (gapErr l xs ys), Value.int .i64 0, Value.int .i64 (checkL l)]) (w' := w63) rfl rfl (x_call (vs := [Value.int .i64 gv, Value.int .i64 (gapErr l xs ys), Value.int .i64 0, Value.int .i64 (checkL l)]) (enter18 _ _) rfl rfl) (told_t gv (gapErr l xs ys) 0 (checkL l) w63 (gapErr_bad h0) (fun h => absurd h h0) (fun _ => hgz (by rw [gapErr_bad h0]; exact h0))) ?_
   rintro v_ w66 ⟨rfl, hM67⟩
   replace hM67 := hM64.grow hM67.kept
   refine sqV (.bool true) rfl rfl rfl ?_
   refine sqV (.bool true) rfl rfl rfl ?_
   refine r_yes rfl rfl ?_
   refine sqV (.slice A1 m1 c1) rfl rfl rfl ?_
   refine r_yes rfl rfl ?_
   refine sqV (.int .i64 (clErr l bs limit)) rfl rfl rfl ?_
   refine r_yes rfl rfl ?_
   refine sqV (.slice none 0 0) rfl rfl rfl ?_
   refine r_yes rfl rfl ?_
   refine sqV (.int .i64 (firstN [checkL l, (if outN limit 0 774192 = true then 2 else 0)])) rfl rfl rfl ?_
   refine r_yes rfl rfl ?_
   refine r_call (f := 19) (args := #[Value.slice A1 m1 c1, Value.int .i64 (clErr l bs limit), Value.slice none 0 0, Value.int .i64 (firstN [checkL l, (if outN limit 0 774192 = true then 2 else 0)])]) (w' := w66) rfl rfl (x_call (vs := [Value.slice A1 m1 c1, Value.int .i64 (clErr l bs limit), Value.slice none 0 0, Value.int .i64 (firstN [checkL l, (if outN limit 0 774192 = true then 2 else 0)])]) (enter19 _ _) rfl rfl) (lists_t A1 none m1 c1 0 0 (clErr l bs limit) (firstN [checkL l, (if outN limit 0 774192 = true then 2 else 0)]) ss1 [] w66 (h1W _ hM67.tail.holds) (rowsAt_nil _) hm1 hr1 (by rw [hbad.1, hbad.2.2]) (fun h => absurd h (by rw [hbad.2.2]; exact h0)) (fun _ => hss1)) ?_
   rintro v_ w68 ⟨rfl, hM69⟩
   replace hM69 := hM67.grow hM69.kept
   refine sqV (.bool true) rfl rfl rfl ?_
   refine sqV (.bool true) rfl rfl rfl ?_
   refine r_yes rfl rfl ?_
   refine sqV (.int .i64 (prsErr (xssOf []) (xssOf ro))) rfl rfl rfl ?_
   refine r_yes rfl rfl ?_
   refine sqV (.int .i64 (prsErr (xssOf []) (xssOf ro))) rfl rfl rfl ?_
   refine r_yes rfl rfl ?_
   refine sqV (.bool ((prsErr (xssOf []) (xssOf ro)) == (prsErr (xssOf []) (xssOf ro)))) rfl rfl rfl ?_
   refine sqV (.bool ((prsErr (xssOf []) (xssOf ro)) == (prsErr (xssOf []) (xssOf ro)))) rfl rfl rfl ?_
   refine sqV (.bool ((prsErr (xssOf []) (xssOf ro)) == (prsErr (xssOf []) (xssOf ro)))) rfl rfl rfl ?_
   rcases Bool.eq_false_or_eq_true ((prsErr (xssOf []) (xssOf ro)) == (prsErr (xssOf []) (xssOf ro))) with q0 | q0
   ·refine wpR_sub [(23, Value.int .i64 (prsV (xssOf []) (xssOf ro) 0)), (24, Value.int .i64 (prsV (xssOf []) (xssOf ro) 1)), (25, Value.int .i64 (prsV (xssOf []) (xssOf ro) 2)), (27, Value.int .i64 (prsV (xssOf []) (xssOf ro) 0)), (28, Value.int .i64 (prsV (xssOf []) (xssOf ro) 1)), (29, Value.int .i64 (prsV (xssOf []) (xssOf ro) 2)), (114, Value.bool true)] ⟨rfl, rfl, rfl, rfl, rfl, rfl, congrArg (fun z => some (Value.bool z)) q0, trivial⟩ ?_
    refine r_yes rfl rfl ?_
    refine sqV (.int .i64 (prsV (xssOf []) (xssOf ro) 0)) rfl rfl rfl ?_
    refine r_yes rfl rfl ?_
    refine sqV (.int .i64 (prsV (xssOf []) (xssOf ro) 0)) rfl rfl rfl ?_
    refine r_yes rfl rfl ?_
    refine sqV (.bool ((prsV (xssOf []) (xssOf ro) 0) == (prsV (xssOf []) (xssOf ro) 0))) rfl rfl rfl ?_
    refine sqV (.bool ((prsV (xssOf []) (xssOf ro) 0) == (prsV (xssOf []) (xssOf ro) 0))) rfl rfl rfl ?_
    refine sqV (.bool ((prsV (xssOf []) (xssOf ro) 0) == (prsV (xssOf []) (xssOf ro) 0))) rfl rfl rfl ?_
    rcases Bool.eq_false_or_eq_true ((prsV (xssOf []) (xssOf ro) 0) == (prsV (xssOf []) (xssOf ro) 0)) with q1 | q1
    ·refine wpR_sub [(24, Value.int .i64 (prsV (xssOf []) (xssOf ro) 1)), (25, Value.int .i64 (prsV (xssOf []) (xssOf ro) 2)), (28, Value.int .i64 (prsV (xssOf []) (xssOf ro) 1)), (29, Value.int .i64 (prsV (xssOf []) (xssOf ro) 2)), (119, Value.bool true)] ⟨rfl, rfl, rfl, rfl, congrArg (fun z => some (Value.bool z)) q1, trivial⟩ ?_
     refine r_yes rfl rfl ?_
     refine sqV (.int .i64 (prsV (xssOf []) (xssOf ro) 1)) rfl rfl rfl ?_
     refine r_yes rfl rfl ?_
     refine sqV (.int .i64 (prsV (xssOf []) (xssOf ro) 1)) rfl rfl rfl ?_
     refine r_yes rfl rfl ?_
     refine sqV (.bool ((prsV (xssOf []) (xssOf ro) 1) == (prsV (xssOf []) (xssOf ro) 1))) rfl rfl rfl ?_
     refine sqV (.bool ((prsV (xssOf []) (xssOf ro) 1) == (prsV (xssOf []) (xssOf ro) 1))) rfl rfl rfl ?_
     refine sqV (.bool ((prsV (xssOf []) (xssOf ro) 1) == (prsV (xssOf []) (xssOf ro) 1))) rfl rfl rfl ?_
     rcases Bool.eq_false_or_eq_true ((prsV (xssOf []) (xssOf ro) 1) == (prsV (xssOf []) (xssOf ro) 1)) with q2 | q2
     ·refine wpR_sub [(25, Value.int .i64 (prsV (xssOf []) (xssOf ro) 2)), (29, Value.int .i64 (prsV (xssOf []) (xssOf ro) 2)), (124, Value.bool true)] ⟨rfl, rfl, congrArg (fun z => some (Value.bool z)) q2, trivial⟩ ?_
      refine r_yes rfl rfl ?_
      refine sqV (.int .i64 (prsV (xssOf []) (xssOf ro) 2)) rfl rfl rfl ?_
      refine r_yes rfl rfl ?_
      refine sqV (.int .i64 (prsV (xssOf []) (xssOf ro) 2)) rfl rfl rfl ?_
      refine r_yes rfl rfl ?_
      refine sqV (.bool ((prsV (xssOf []) (xssOf ro) 2) == (prsV (xssOf []) (xssOf ro) 2))) rfl rfl rfl ?_
      refine sqV (.bool ((prsV (xssOf []) (xssOf ro) 2) == (prsV (xssOf []) (xssOf ro) 2))) rfl rfl rfl ?_
      refine sqV (.bool ((prsV (xssOf []) (xssOf ro) 2) == (prsV (xssOf []) (xssOf ro) 2))) rfl rfl rfl ?_
      refine r_nil (e_then (k_ret (e_ret1 rfl rfl ?_)))
      exact ⟨_, rfl, by simp, hM69.drop⟩
     ·refine wpR_sub [(25, Value.int .i64 (prsV (xssOf []) (xssOf ro) 2)), (29, Value.int .i64 (prsV (xssOf []) (xssOf ro) 2)), (124, Value.bool false)] ⟨rfl, rfl, congrArg (fun z => some (Value.bool z)) q2, trivial⟩ ?_
      exact absurd (beq_self_eq_true _) (by rw [q2]; decide)
    ·refine wpR_sub [(24, Value.int .i64 (prsV (xssOf []) (xssOf ro) 1)), (25, Value.int .i64 (prsV (xssOf []) (xssOf ro) 2)), (28, Value.int .i64 (prsV (xssOf []) (xssOf ro) 1)), (29, Value.int .i64 (prsV (xssOf []) (xssOf ro) 2)), (119, Value.bool false)] ⟨rfl, rfl, rfl, rfl, congrArg (fun z => some (Value.bool z)) q1, trivial⟩ ?_
     exact absurd (beq_self_eq_true _) (by rw [q1]; decide)
   ·refine wpR_sub [(23, Value.int .i64 (prsV (xssOf []) (xssOf ro) 0)), (24, Value.int .i64 (prsV (xssOf []) (xssOf ro) 1)), (25, Value.int .i64 (prsV (xssOf []) (xssOf ro) 2)), (27, Value.int .i64 (prsV (xssOf []) (xssOf ro) 0)), (28, Value.int .i64 (prsV (xssOf []) (xssOf ro) 1)), (29, Value.int .i64 (prsV (xssOf []) (xssOf ro) 2)), (114, Value.bool false)] ⟨rfl, rfl, rfl, rfl, rfl, rfl, congrArg (fun z => some (Value.bool z)) q0, trivial⟩ ?_
    exact absurd (beq_self_eq_true _) (by rw [q0]; decide)
  ·refine wpR_sub [(15, Value.int .i64 gv), (16, Value.int .i64 (gapErr l xs ys)), (17, Value.int .i64 0), (18, Value.int .i64 (checkL l)), (19, Value.slice A1 m1 c1), (20, Value.int .i64 (clErr l bs limit)), (21, Value.int .i64 (firstN [checkL l, (if outN limit 0 774192 = true then 2 else 0)])), (22, Value.slice none 0 0), (23, Value.int .i64 (prsV (xssOf []) (xssOf ro) 0)), (24, Value.int .i64 (prsV (xssOf []) (xssOf ro) 1)), (25, Value.int .i64 (prsV (xssOf []) (xssOf ro) 2)), (26, Value.int .i64 (prsErr (xssOf []) (xssOf ro))), (27, Value.int .i64 (prsV (xssOf []) (xssOf ro) 0)), (28, Value.int .i64 (prsV (xssOf []) (xssOf ro) 1)), (29, Value.int .i64 (prsV (xssOf []) (xssOf ro) 2)), (30, Value.int .i64 (prsErr (xssOf []) (xssOf ro))), (95, Value.bool false)] ⟨rfl, rfl, rfl, rfl, rfl, rfl, rfl, rfl, rfl, rfl, rfl, rfl, rfl, rfl, rfl, rfl, congrArg (fun z => some (Value.bool z)) g0, trivial⟩ ?_
   exact absurd (beq_iff_eq.2 hbad.2.1) (by rw [g0]; decide)


end Go.Proofs.Ytddacakmafdgdaa
end
section
/- The row's side: slices of the arguments as they are read. -/
set_option linter.unusedVariables false
set_option linter.unusedSimpArgs false
namespace Go.Kn
open Go.RowKit Go.ChangeShapes Go.WideShapes Go.ChangeAt Go.Deep Go.Proofs.Ytddacakmafdgdaa
section
variable {H : Type} {enc : TypeId × Value → H} {P : Program} {w : World} {base : Nat} {spare : Nat → Bool} {held : Bool}
theorem open_rd {α : Type} [Inhabited α] {en : α → List Value} {sz fuel : Nat} {t e : TypeId} {v : Value} {z : DataW H × List MemPlace} (ht : P.underlying t = some (.slice e)) (hc : P.cellsOf e = sz)
    (hel : ∀ (n : Nat) (cs' : List Value) (y : DataW H × List MemPlace), DataW.trod enc P w base spare held n e cs' = some y → ∃ x : α, cs' = en x ∧ (en x).length = sz)
    (h : DataW.trod enc P w base spare held fuel t [v] = some z) : ∃ (A : Option Addr) (n c : Nat) (l : List α), v = .slice A n c ∧ RdE en sz w A n l ∧ n ≤ c ∧ c ≤ maxLen := by
  rcases open_slice ht h with ⟨h1, _⟩ | ⟨a, len, cap, m, n, D, Pl, h1, hb, hl, hm, hmm, _, hx⟩
  · injection h1 with h1 _
    subst h1
    exact ⟨none, 0, 0, [], rfl, ⟨rfl, by simp, by omega, fun k x i v hk => by simp at hk⟩, Nat.le_refl _, by simp⟩
  · injection h1 with h1 _
    subst h1
    have hlm : len ≤ m := by rw [hmm]; split <;> omega
    obtain ⟨X, hX⟩ := choose_lt (n := len) (α := α) (p := fun i x => (en x).length = sz ∧ ∀ j u, (en x)[j]? = some u → w.cell? ((a.add (i * sz)).add j) = some u) (fun i hi => by
      obtain ⟨cs', h2, h3⟩ := hx i (by omega)
      obtain ⟨x, rfl, h4⟩ := hel n cs' _ h3
      obtain ⟨_, _, h6⟩ := World.cells?_some h2
      exact ⟨x, h4, fun j u hu => by
        have hj := (List.getElem?_eq_some_iff.1 hu).1
        rw [hc] at h6
        have := h6 j (by omega)
        rw [this]; exact hu⟩)
    refine ⟨some a, len, cap, (List.range len).map X, rfl, ⟨by simp, fun x hx => ?_, fun _ => rfl, fun k x i u hk hi => ?_⟩, hl, hm⟩
    · obtain ⟨i, hi, rfl⟩ := List.mem_map.1 hx
      exact (hX i (List.mem_range.1 hi)).1
    · rw [List.getElem?_map] at hk
      obtain ⟨i', hi', rfl⟩ := Option.map_eq_some_iff.1 hk
      have hk2 := List.getElem?_eq_some_iff.1 hi'
      simp at hk2
      obtain ⟨hk3, rfl⟩ := hk2
      have := (hX k hk3).2 i u hi
      rw [add_add] at this
      exact this
end
end Go.Kn
end
section
/- The arguments' elements. -/
set_option linter.unusedVariables false
set_option linter.unusedSimpArgs false
namespace Go.Proofs.Ytddacakmafdgdaa
open Go.RowKit Go.ChangeShapes Go.WideShapes Go.ChangeAt Go.Deep Go.Kn
section
variable {H : Type} {enc : TypeId × Value → H} {w : World} {base : Nat} {spare : Nat → Bool} {held : Bool}
theorem one_at {cs : List Value} {o : Nat} {u : Value} (h : (cs.drop o).take 1 = [u]) : cs[o]? = some u := by
  have := congrArg (fun l => l[0]?) h
  simpa [List.getElem?_take, List.getElem?_drop] using this
theorem like_el (n : Nat) (cs : List Value) (y : DataW H × List MemPlace) (h : DataW.trod enc Try.prog w base spare held n 64 cs = some y) : ∃ x : List Int, cs = intsE x ∧ (intsE x).length = 14 := by
  obtain ⟨xs, m, _, _, hl, hxl, hf⟩ := DataW.trod_struct Try.underlying64 h
  have hl14 : cs.length = 14 := by rw [hl]; kernel_rfl
  have hc3 : Try.prog.cellsOf tInt = 1 := by kernel_rfl
  have hc52 : Try.prog.cellsOf 52 = 12 := by kernel_rfl
  have hu3 : Try.prog.underlying tInt = some (.int .i64) := by kernel_rfl
  have hint : ∀ (m : Nat) (cs' : List Value) (z : DataW H × List MemPlace), DataW.trod enc Try.prog w base spare held m tInt cs' = some z → ∃ k : Int, cs' = [.int .i64 k] := fun m cs' z hz => by
    obtain ⟨k, hk, _⟩ := DataW.trod_int hu3 hz
    exact ⟨k, hk⟩
  have h0 : ∃ k : Int, cs[0]? = some (.int .i64 k) := by
    have h1 : DataW.trod enc Try.prog w base spare held m tInt ((cs.drop 0).take (Try.prog.cellsOf tInt)) = xs[0]? := hf 0 _ rfl
    have h2 : xs[0]? = some (xs[0]'(by rw [hxl]; decide)) := by simp
    rw [h2] at h1
    obtain ⟨k, hk⟩ := hint _ _ _ h1
    rw [hc3] at hk
    exact ⟨k, one_at hk⟩
  have h1 : ∃ k : Int, cs[1]? = some (.int .i64 k) := by
    have h1 : DataW.trod enc Try.prog w base spare held m tInt ((cs.drop 1).take (Try.prog.cellsOf tInt)) = xs[1]? := hf 1 _ rfl
    have h2 : xs[1]? = some (xs[1]'(by rw [hxl]; decide)) := by simp
    rw [h2] at h1
    obtain ⟨k, hk⟩ := hint _ _ _ h1
    rw [hc3] at hk
    exact ⟨k, one_at hk⟩
  have hv : ∀ i, i < 12 → ∃ k : Int, cs[2 + i]? = some (.int .i64 k) := by
    have h1 : DataW.trod enc Try.prog w base spare held m 52 ((cs.drop 2).take (Try.prog.cellsOf 52)) = xs[2]? := hf 2 _ rfl
    have h2 : xs[2]? = some (xs[2]'(by rw [hxl]; decide)) := by simp
    rw [h2] at h1
    obtain ⟨zs, m', _, _, _, hzl, hg⟩ := DataW.trod_array Try.underlying52 h1
    intro i hi
    have h3 : DataW.trod enc Try.prog w base spare held m' tInt ((((cs.drop 2).take (Try.prog.cellsOf 52)).drop (i * Try.prog.cellsOf tInt)).take (Try.prog.cellsOf tInt)) = zs[i]? := hg i hi
    have h4 : zs[i]? = some (zs[i]'(by omega)) := by simp
    rw [h4] at h3
    obtain ⟨k, hk⟩ := hint _ _ _ h3
    rw [hc3, hc52, Nat.mul_one] at hk
    refine ⟨k, ?_⟩
    have h5 := one_at hk
    rw [List.getElem?_take] at h5
    rw [if_pos (by omega), List.getElem?_drop] at h5
    simpa using h5
  have hall : ∀ i, i < 14 → ∃ k : Int, cs[i]? = some (.int .i64 k) := by
    intro i hi
    by_cases hi0 : i = 0
    · subst hi0; exact h0
    · by_cases hi1 : i = 1
      · subst hi1; exact h1
      · obtain ⟨k, hk⟩ := hv (i - 2) (by omega)
        exact ⟨k, by rw [show 2 + (i - 2) = i by omega] at hk; exact hk⟩
  obtain ⟨f, hfn⟩ := choose_lt (n := 14) (α := Int) hall
  refine ⟨(List.range 14).map f, ?_, by simp⟩
  apply List.ext_getElem?
  intro i
  by_cases hi : i < 14
  · rw [hfn i hi]; simp [intsE, hi]
  · rw [List.getElem?_eq_none (by omega), List.getElem?_eq_none (by simp; omega)]
theorem bond_el (n : Nat) (cs : List Value) (y : DataW H × List MemPlace) (h : DataW.trod enc Try.prog w base spare held n 35 cs = some y) : ∃ x : Bond3, cs = bondE x ∧ (bondE x).length = 3 := by
  obtain ⟨xs, m, _, _, hl, hxl, hf⟩ := DataW.trod_struct Try.underlying35 h
  have hl3 : cs.length = 3 := by rw [hl]; kernel_rfl
  have hc3 : Try.prog.cellsOf tInt = 1 := by kernel_rfl
  have hc4 : Try.prog.cellsOf 4 = 1 := by kernel_rfl
  have hu3 : Try.prog.underlying tInt = some (.int .i64) := by kernel_rfl
  have hu4 : Try.prog.underlying 4 = some .bool := by kernel_rfl
  obtain ⟨a, ha⟩ : ∃ k : Int, cs[0]? = some (.int .i64 k) := by
    have h1 : DataW.trod enc Try.prog w base spare held m tInt ((cs.drop 0).take (Try.prog.cellsOf tInt)) = xs[0]? := hf 0 _ rfl
    have h2 : xs[0]? = some (xs[0]'(by rw [hxl]; decide)) := by simp
    rw [h2] at h1
    obtain ⟨k, hk, _⟩ := DataW.trod_int hu3 h1
    rw [hc3] at hk
    exact ⟨k, one_at hk⟩
  obtain ⟨b, hb⟩ : ∃ k : Int, cs[1]? = some (.int .i64 k) := by
    have h1 : DataW.trod enc Try.prog w base spare held m tInt ((cs.drop 1).take (Try.prog.cellsOf tInt)) = xs[1]? := hf 1 _ rfl
    have h2 : xs[1]? = some (xs[1]'(by rw [hxl]; decide)) := by simp
    rw [h2] at h1
    obtain ⟨k, hk, _⟩ := DataW.trod_int hu3 h1
    rw [hc3] at hk
    exact ⟨k, one_at hk⟩
  obtain ⟨u, hu⟩ : ∃ k : Bool, cs[2]? = some (.bool k) := by
    have h1 : DataW.trod enc Try.prog w base spare held m 4 ((cs.drop 2).take (Try.prog.cellsOf 4)) = xs[2]? := hf 2 _ rfl
    have h2 : xs[2]? = some (xs[2]'(by rw [hxl]; decide)) := by simp
    rw [h2] at h1
    obtain ⟨k, hk, _⟩ := DataW.trod_bool hu4 h1
    rw [hc4] at hk
    exact ⟨k, one_at hk⟩
  refine ⟨⟨a, b, u⟩, ?_, rfl⟩
  apply List.ext_getElem?
  intro i
  rcases i with _ | _ | _ | i
  · simpa using ha
  · simpa using hb
  · simpa using hu
  · rw [List.getElem?_eq_none (by omega), List.getElem?_eq_none (by simp)]
end
instance : Inhabited Bond3 := ⟨⟨0, 0, false⟩⟩
end Go.Proofs.Ytddacakmafdgdaa
end
section
/-
  FOR A PROOF OF AN '..UptoSaid': WHAT THE BOUND GIVES. Copy it as <Name>Bulk.lean (put your seat's Name for Ytddacakmafdgdaa, the bound of 'uptoSmall' for 1048576), name it in GOCLAIM.json's 'order' behind <Name>Rows. By an AI agent, Sun Nov 15 2026. No person has read it. No macro, syntax, notation, axiom, sorry.
-/
namespace Go.Proofs.Ytddacakmafdgdaa.bulks

theorem one_le {H : Type} (d : DataW H) : 1 ≤ Rows.uptoBulk d := by
  cases d with
  | lit l => cases l <;> simp [Rows.uptoBulk]
  | nil => simp [Rows.uptoBulk]
  | ptr d => simp [Rows.uptoBulk]
  | slice elems spare => simp [Rows.uptoBulk]
  | agg parts => simp [Rows.uptoBulk]
  | iface t d => simp [Rows.uptoBulk]
  | map entries => simp [Rows.uptoBulk]
  | held h => simp [Rows.uptoBulk]

/-- a part's bulk is at most the whole's -/
theorem part_le {H : Type} {d : DataW H} {l : List (DataW H)} (h : d ∈ l) : Rows.uptoBulk d ≤ Rows.uptoBulkAll l := by
  induction l with
  | nil => cases h
  | cons x r ih =>
    simp only [Rows.uptoBulkAll]
    cases List.mem_cons.1 h with
    | inl e => subst e; omega
    | inr e => have := ih e; omega

theorem append {H : Type} (l r : List (DataW H)) : Rows.uptoBulkAll (l ++ r) = Rows.uptoBulkAll l + Rows.uptoBulkAll r := by
  induction l with
  | nil => simp [Rows.uptoBulkAll]
  | cons x l ih => simp only [List.cons_append, Rows.uptoBulkAll, ih]; omega

/-- so many values at the most -/
theorem length_le {H : Type} (l : List (DataW H)) : l.length ≤ Rows.uptoBulkAll l := by
  induction l with
  | nil => simp [Rows.uptoBulkAll]
  | cons x r ih => have := one_le x; simp only [Rows.uptoBulkAll, List.length_cons]; omega

/-- a slice's places, and what they hold -/
theorem slice_le {H : Type} (elems spare : List (DataW H)) : elems.length + spare.length + 1 ≤ Rows.uptoBulk (.slice elems spare) := by
  have h1 := length_le elems
  have h2 := length_le spare
  simp only [Rows.uptoBulk]
  omega
theorem slice_elems {H : Type} (elems spare : List (DataW H)) : Rows.uptoBulkAll elems + 1 ≤ Rows.uptoBulk (.slice elems spare) := by
  simp only [Rows.uptoBulk]
  omega

/-- a string's letters -/
theorem string_eq {H : Type} (bytes : List UInt8) : Rows.uptoBulk (DataW.lit (H := H) (.string bytes)) = bytes.length + 1 := by
  simp [Rows.uptoBulk]

/-- THE BOUND, as the builder hands it over ('hk') -/
theorem bound {H : Type} {l : List (DataW H)} (hk : Rows.uptoSmall H l = true) : Rows.uptoBulkAll l ≤ 1048576 := by
  simpa [Rows.uptoSmall] using hk

/-- ROOM: a slice of n elements of b bytes, grown by append: below the 2^48 bytes that append, make and a Builder bear. Here n up to 2^21, b up to 4,096: put your own numbers. -/
theorem room {n b : Nat} (hn : n ≤ 2097152) (hb : b ≤ 4096) : (n + n / 4 + 192) * b ≤ 281474976710656 := by
  have h : (n + n / 4 + 192) * b ≤ 2621632 * 4096 := Nat.mul_le_mul (by omega) hb
  omega

end Go.Proofs.Ytddacakmafdgdaa.bulks
end
section
/- The row's side: arguments of the second form: lengths by the bound; slices of slices. -/
set_option linter.unusedVariables false
set_option linter.unusedSimpArgs false
namespace Go.Kn
open Go.RowKit Go.ChangeShapes Go.WideShapes Go.ChangeAt Go.Deep Go.Proofs Go.Proofs.Ytddacakmafdgdaa
section
variable {H : Type} {enc : TypeId × Value → H} {P : Program} {w : World} {base : Nat} {spare : Nat → Bool} {held : Bool}
theorem open_rdP {α : Type} [Inhabited α] {p : α → DataW H → Prop} {en : α → List Value} {sz fuel : Nat} {t e : TypeId} {v : Value} {z : DataW H × List MemPlace} (ht : P.underlying t = some (.slice e)) (hc : P.cellsOf e = sz)
    (hel : ∀ (n : Nat) (cs' : List Value) (y : DataW H × List MemPlace), DataW.trod enc P w base spare held n e cs' = some y → ∃ x : α, cs' = en x ∧ (en x).length = sz ∧ p x y.1)
    (h : DataW.trod enc P w base spare held fuel t [v] = some z) : ∃ (A : Option Addr) (n c : Nat) (l : List α), v = .slice A n c ∧ RdE en sz w A n l ∧ ∃ ds sp, (z.1 = .nil ∧ ds = [] ∨ z.1 = .slice ds sp) ∧ ds.length = n ∧ ∀ (i : Nat) x d, l[i]? = some x → ds[i]? = some d → p x d := by
  rcases open_slice ht h with ⟨h1, hz⟩ | ⟨a, len, cap, m, n, D, Pl, h1, hb, hl, hm, hmm, hz, hx⟩
  · injection h1 with h1 _
    subst h1
    exact ⟨none, 0, 0, [], rfl, ⟨rfl, by simp, by omega, fun k x i v hk => by simp at hk⟩, [], [], .inl ⟨by rw [hz], rfl⟩, rfl, fun i x d h => by simp at h⟩
  · injection h1 with h1 _
    subst h1
    have hlm : len ≤ m := by rw [hmm]; split <;> omega
    obtain ⟨X, hX⟩ := choose_lt (n := len) (α := α) (p := fun i x => (en x).length = sz ∧ p x (D i) ∧ ∀ j u, (en x)[j]? = some u → w.cell? ((a.add (i * sz)).add j) = some u) (fun i hi => by
      obtain ⟨cs', h2, h3⟩ := hx i (by omega)
      obtain ⟨x, rfl, h4, h5⟩ := hel n cs' _ h3
      obtain ⟨_, _, h6⟩ := World.cells?_some h2
      exact ⟨x, h4, h5, fun j u hu => by
        have hj := (List.getElem?_eq_some_iff.1 hu).1
        rw [hc] at h6
        have := h6 j (by omega)
        rw [this]; exact hu⟩)
    refine ⟨some a, len, cap, (List.range len).map X, rfl, ⟨by simp, fun x hx => ?_, fun _ => rfl, fun k x i u hk hi => ?_⟩, _, _, .inr (by rw [hz]), by simp, fun i x d h1 h2 => ?_⟩
    · obtain ⟨i, hi, rfl⟩ := List.mem_map.1 hx
      exact (hX i (List.mem_range.1 hi)).1
    · rw [List.getElem?_map] at hk
      obtain ⟨i', hi', rfl⟩ := Option.map_eq_some_iff.1 hk
      have hk2 := List.getElem?_eq_some_iff.1 hi'
      simp at hk2
      obtain ⟨hk3, rfl⟩ := hk2
      have := (hX k hk3).2.2 i u hi
      rw [add_add] at this
      exact this
    · rw [List.getElem?_map] at h1 h2
      obtain ⟨i', hi', rfl⟩ := Option.map_eq_some_iff.1 h1
      obtain ⟨i2, hi2, rfl⟩ := Option.map_eq_some_iff.1 h2
      have hk2 := List.getElem?_eq_some_iff.1 hi'
      simp at hk2
      obtain ⟨hk3, rfl⟩ := hk2
      rw [hi'] at hi2
      injection hi2 with hi2
      subst hi2
      exact (hX i hk3).2.1
theorem bulk_len {z : DataW H} {ds sp : List (DataW H)} {n : Nat} (h : z = .nil ∧ ds = [] ∨ z = .slice ds sp) (hn : ds.length = n) : n ≤ Rows.uptoBulk z := by
  rcases h with ⟨rfl, rfl⟩ | rfl
  · simp at hn; omega
  · have := bulks.slice_le ds sp; omega
theorem int_el (h3 : P.underlying tInt = some (.int .i64)) (n : Nat) (cs : List Value) (y : DataW H × List MemPlace) (h : DataW.trod enc P w base spare held n tInt cs = some y) : ∃ x : Int, cs = intE x ∧ (intE x).length = 1 ∧ True := by
  obtain ⟨k, hk, _⟩ := DataW.trod_int h3 h
  exact ⟨k, hk, rfl, trivial⟩
theorem open_ints {fuel : Nat} {t : TypeId} {v : Value} {z : DataW H × List MemPlace} (h3 : P.underlying tInt = some (.int .i64)) (hc : P.cellsOf tInt = 1) (ht : P.underlying t = some (.slice tInt)) (h : DataW.trod enc P w base spare held fuel t [v] = some z) : ∃ (A : Option Addr) (c : Nat) (l : List Int), v = .slice A l.length c ∧ RdE intE 1 w A l.length l ∧ l.length ≤ Rows.uptoBulk z.1 := by
  obtain ⟨A, n, c, l, rfl, hr, ds, sp, hz, hd, _⟩ := open_rdP (p := fun _ _ => True) ht hc (int_el h3) h
  have hl := hr.len
  subst hl
  exact ⟨A, c, l, rfl, hr, bulk_len hz hd⟩
instance : Inhabited SRow := ⟨⟨none, 0, []⟩⟩
/-- a row as it is read -/
def RowD (w : World) (r : SRow) (d : DataW H) : Prop := RdE intE 1 w r.A r.xs.length r.xs ∧ r.xs.length ≤ Rows.uptoBulk d
theorem ints_el {t : TypeId} (h3 : P.underlying tInt = some (.int .i64)) (hc : P.cellsOf tInt = 1) (ht : P.underlying t = some (.slice tInt)) (n : Nat) (cs : List Value) (y : DataW H × List MemPlace) (h : DataW.trod enc P w base spare held n t cs = some y) : ∃ r : SRow, cs = encR r ∧ (encR r).length = 1 ∧ RowD w r y.1 := by
  have h1 : ∃ v, cs = [v] := by
    rcases open_slice ht h with ⟨h1, _⟩ | ⟨a, len, cap, m, n, D, Pl, h1, _⟩
    · exact ⟨_, h1⟩
    · exact ⟨_, h1⟩
  obtain ⟨v, rfl⟩ := h1
  obtain ⟨A, c, l, rfl, hr, hb⟩ := open_ints h3 hc ht h
  exact ⟨⟨A, c, l⟩, rfl, rfl, hr, hb⟩
theorem rows_bulk {w : World} : ∀ (l : List SRow) (ds : List (DataW H)), ds.length = l.length → (∀ (i : Nat) x d, l[i]? = some x → ds[i]? = some d → RowD w x d) → (allXs l).length ≤ Rows.uptoBulkAll ds
  | [], _, _, _ => by simp [allXs]
  | a :: t, [], h, _ => by simp at h
  | a :: t, d :: ds, h, hp => by
    have h1 := rows_bulk t ds (by simpa using h) (fun i x d hx hd => hp (i + 1) x d (by simpa using hx) (by simpa using hd))
    have h2 := (hp 0 a d rfl rfl).2
    simp only [allXs, List.flatMap_cons, List.length_append, Rows.uptoBulkAll] at h1 ⊢
    omega
theorem open_rows {fuel : Nat} {t e : TypeId} {v : Value} {z : DataW H × List MemPlace} (h3 : P.underlying tInt = some (.int .i64)) (hc : P.cellsOf tInt = 1) (he : P.underlying e = some (.slice tInt)) (hce : P.cellsOf e = 1) (ht : P.underlying t = some (.slice e)) (h : DataW.trod enc P w base spare held fuel t [v] = some z) : ∃ (A : Option Addr) (n c : Nat) (l : List SRow), v = .slice A n c ∧ RdE encR 1 w A n l ∧ (∀ r ∈ l, RdE intE 1 w r.A r.xs.length r.xs) ∧ n ≤ Rows.uptoBulk z.1 ∧ (allXs l).length ≤ Rows.uptoBulk z.1 := by
  obtain ⟨A, n, c, l, rfl, hr, ds, sp, hz, hd, hp⟩ := open_rdP (p := RowD w) ht hce (ints_el h3 hc he) h
  have hl := hr.len
  refine ⟨A, n, c, l, rfl, hr, fun r hm => ?_, bulk_len hz hd, ?_⟩
  · obtain ⟨i, hi⟩ := List.mem_iff_getElem?.1 hm
    have hlt := (List.getElem?_eq_some_iff.1 hi).1
    exact (hp i r (ds[i]'(by omega)) hi (by simp)).1
  · have := rows_bulk l ds (by omega) hp
    rcases hz with ⟨e1, rfl⟩ | e1
    · simp only [Rows.uptoBulkAll] at this; omega
    · rw [e1]
      have h2 := bulks.slice_elems ds sp
      omega
end
end Go.Kn
end
