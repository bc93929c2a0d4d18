/- Parts of the proof, laid together: He, Hu, Hf, Hv, Hg, Hw, Hy, ShS, Hx. -/
import Derived.Test.YtddacakmafdgdaaJg5
import Derived.Shelf.SlSortCmp.Whole1
import Derived.Shelf.SlSortCmp.NoneTotal
import Derived.Ground.SlsfProg
import Derived.Test.YtddacakmafdgdaaProg
section
/- He: what Go functions of this seat come to, printed by walk.py over the engine. -/
set_option linter.unusedVariables false
set_option linter.unusedSimpArgs false
set_option maxRecDepth 100000
namespace Go.Proofs.Ytddacakmafdgdaa
open Go.RowKit Go.Kn

theorem total_s (w : World) (At : Option Addr) (m c : Nat) (rows : List SRow) (ht : RdE encR 1 w At m rows) (hes : ∀ r ∈ rows, RdE intE 1 w r.A r.xs.length r.xs) (hsz : (allXs rows).length ≤ 1099511627776) (hm : m ≤ 1099511627776) :
  Calls Try.prog 42 #[Value.slice At m c] w fun e w' => ∃ r, e = .returned r ∧ r = .int .i64 ((allXs rows).length : Int) ∧ Mem w No w' [] := by
 refine calls_k (args := [Value.slice At m c]) 18 [(0, Value.slice At m c)] Try.func42 rfl rfl ⟨rfl, trivial⟩ ?_
 have hM := Mem.nil w No
 have htl := ht.len
 refine k_seq (k_region (sqV (.int .i64 0) rfl rfl rfl ?_))
 refine r_nil (e_then (k_seq (k_region (sqV (.int .i64 0) rfl rfl rfl ?_))))
 refine r_nil (e_then (k_seq (k_seq (k_region (sqV (.slice At m c) rfl rfl rfl ?_)))))
 refine sqV (.int .i64 (m : Int)) rfl rfl (x_len rfl rfl) ?_
 refine sqV (.int .i64 0) rfl rfl rfl ?_
 refine r_nil (e_then (k_block (k_loop (σ := Nat) (fun k => [(3, .int .i64 ((allXs (rows.take k)).length : Int)), (6, .slice At m c), (7, .int .i64 (m : Int)), (8, .int .i64 (k : Int))]) (fun k w_ => Mem w No w_ [] ∧ k ≤ m) (fun k => m - k) 0 (sqS rfl) ⟨hM, Nat.zero_le _⟩ ?_)))
 rintro k w1 ⟨hM2, hk⟩
 refine sqK [(3, .int .i64 ((allXs (rows.take k)).length : Int)), (6, .slice At m c), (7, .int .i64 (m : Int)), (8, .int .i64 (k : Int))] rfl (k_seq (k_region (sqV (.bool (decide ((k : Int) < (m : Int)))) rfl rfl rfl ?_)))
 refine r_nil (sqE [(3, .int .i64 ((allXs (rows.take k)).length : Int)), (6, .slice At m c), (7, .int .i64 (m : Int)), (8, .int .i64 (k : Int)), (9, .bool (decide ((k : Int) < (m : Int))))] rfl (e_then (k_seq ?_)))
 refine k_cond rfl rfl (fun h => ?_) (fun h => ?_)
 ·try simp only [sqC] at h
  refine k_skip (e_then (k_seq (k_block (k_seq (k_region ?_)))))
  obtain ⟨r_, hr_⟩ : ∃ r, rows[k]? = some r := ⟨rows[k]'(by omega), by simp⟩
  have hr_m := List.mem_of_getElem? hr_
  have hr_x := xss_get hr_
  have hsn := allXs_snoc hr_
  have hle := allXs_le (es := rows) (k + 1)
  rw [hsn, List.length_append] at hle
  refine sqV (.pointer (some ((adr At).add (k * 1)))) rfl rfl (x_indexAddrN (i := k) (sz := 1) ht.here (by omega) rfl rfl rfl rfl) ?_
  refine sqV (.slice r_.A r_.xs.length r_.c) rfl rfl (x_load ((ht.up hM2).first hr_ rfl) rfl rfl) ?_
  refine sqV (.slice r_.A r_.xs.length r_.c) rfl rfl rfl ?_
  refine r_nil (e_then (k_region (sqV (.int .i64 ((allXs (rows.take k)).length : Int)) rfl rfl rfl ?_)))
  refine sqV (.slice r_.A r_.xs.length r_.c) rfl rfl rfl ?_
  refine sqV (.int .i64 (r_.xs.length : Int)) rfl rfl (x_len rfl rfl) ?_
  refine sqV (.int .i64 ((allXs (rows.take (k + 1))).length : Int)) rfl rfl (x_addE (by rw [hsn, List.length_append]; omega) (by omega) (by rw [hsn, List.length_append]; omega) rfl rfl) ?_
  refine sqV (.int .i64 ((allXs (rows.take (k + 1))).length : Int)) rfl rfl rfl ?_
  refine r_nil (e_blk (e_then (k_region (sqV (.int .i64 ((k : Int) + 1)) rfl rfl (x_addE rfl (by omega) (by omega) rfl rfl) ?_))))
  refine sqV (.int .i64 ((k : Int) + 1)) rfl rfl rfl ?_
  refine r_nil ?_
  refine e_loop (k + 1) (sqS rfl) ?_ ?_
  ·exact ⟨hM2, by omega⟩
  ·(try dsimp only); omega
 ·try simp only [sqC] at h
  refine k_exit (e_then_exit (e_loop_exit (e_blk_exit (e_then (k_seq (k_region ?_))))))
  have hkm : rows.take k = rows := List.take_of_length_le (by omega)
  refine sqV (.int .i64 ((allXs (rows.take k)).length : Int)) rfl rfl rfl ?_
  refine sqV (.int .i64 ((allXs (rows.take k)).length : Int)) rfl rfl rfl ?_
  refine r_nil (sqE [(2, .int .i64 ((allXs (rows.take k)).length : Int))] rfl (e_then (k_ret (e_ret1 rfl rfl ?_))))
  exact ⟨_, rfl, by rw [hkm], hM2⟩

theorem numbered_s (w : World) (At : Option Addr) (m c : Nat) (rows : List SRow) (ht : RdE encR 1 w At m rows) (hes : ∀ r ∈ rows, RdE intE 1 w r.A r.xs.length r.xs) (hsz : (allXs rows).length ≤ 1099511627776) (hm : m ≤ 1099511627776) :
  Calls Try.prog 43 #[Value.slice At m c] w fun e w' => ∃ r, e = .returned r ∧ ∃ mv no, r = .tuple #[mv, .int .i64 no] ∧ no = numErr (xssOf rows) ∧ (no = 0 → ∃ bm, mv = .map (some bm) ∧ Mem w No w' [(bm, mapO (esOf (plAll (xssOf rows))) (plAll (xssOf rows)).length)]) ∧ Mem w No w' [] := by
 refine calls_k (args := [Value.slice At m c]) 38 [(0, Value.slice At m c)] Try.func43 rfl rfl ⟨rfl, trivial⟩ ?_
 have hM := Mem.nil w No
 have htl := ht.len
 have hxl : (xssOf rows).length = m := by simpa [xssOf] using htl
 refine k_seq (k_region (sqV (.map none) rfl rfl rfl ?_))
 refine sqV (.int .i64 0) rfl rfl rfl ?_
 refine r_nil (e_then (k_seq (k_region (r_new (fun b => .map (some b)) (mapO [] 0) hM (by kernel_rfl) rfl rfl ?_))))
 intro bo w1 hM2 hbo
 replace hM2 : Mem w No w1 [(bo, mapO [] 0)] := hM2
 refine sqV (.map (some bo)) rfl rfl rfl ?_
 refine r_nil (e_then (k_seq (k_seq (k_region (sqV (.slice At m c) rfl rfl rfl ?_)))))
 refine sqV (.int .i64 (m : Int)) rfl rfl (x_len rfl rfl) ?_
 refine sqV (.int .i64 0) rfl rfl rfl ?_
 refine r_nil (e_then (k_block (k_loop (σ := Nat) (fun i => [(4, .map (some bo)), (12, .slice At m c), (13, .int .i64 (m : Int)), (14, .int .i64 (i : Int))]) (fun i w_ => Mem w No w_ [(bo, mapO (esOf (plTo (xssOf rows) i 0)) (plTo (xssOf rows) i 0).length)] ∧ i ≤ m ∧ ((plTo (xssOf rows) i 0).map (·.1)).Nodup) (fun i => m - i) 0 (sqS rfl) ⟨by rw [plTo_00]; exact hM2, Nat.zero_le _, by rw [plTo_00]; simp⟩ ?_)))
 rintro i w3 ⟨hM4, hi, hnd⟩
 refine sqK [(4, .map (some bo)), (12, .slice At m c), (13, .int .i64 (m : Int)), (14, .int .i64 (i : Int))] rfl (k_seq (k_region (sqV (.bool (decide ((i : Int) < (m : Int)))) rfl rfl rfl ?_)))
 refine r_nil (sqE [(4, .map (some bo)), (12, .slice At m c), (13, .int .i64 (m : Int)), (14, .int .i64 (i : Int)), (15, .bool (decide ((i : Int) < (m : Int))))] rfl (e_then (k_seq ?_)))
 refine k_cond rfl rfl (fun h => ?_) (fun h => ?_)
 ·try simp only [sqC] at h
  refine k_skip (e_then (k_seq (k_block (k_seq (k_region ?_)))))
  obtain ⟨r_, hr_⟩ : ∃ r, rows[i]? = some r := ⟨rows[i]'(by omega), by simp⟩
  have hr_m := List.mem_of_getElem? hr_
  have hr_x := xss_get hr_
  have hsn := allXs_snoc hr_
  have hle := allXs_le (es := rows) (i + 1)
  rw [hsn, List.length_append] at hle
  refine sqV (.int .i64 (i : Int)) rfl rfl rfl ?_
  refine sqV (.pointer (some ((adr At).add (i * 1)))) rfl rfl (x_indexAddrN (i := i) (sz := 1) ht.here (by omega) rfl rfl rfl rfl) ?_
  refine sqV (.slice r_.A r_.xs.length r_.c) rfl rfl (x_load ((ht.up hM4).first hr_ rfl) rfl rfl) ?_
  refine sqV (.int .i64 (i : Int)) rfl rfl rfl ?_
  refine sqV (.slice r_.A r_.xs.length r_.c) rfl rfl rfl ?_
  refine r_nil (e_then (k_seq (k_region (sqV (.slice r_.A r_.xs.length r_.c) rfl rfl rfl ?_))))
  refine sqV (.int .i64 (r_.xs.length : Int)) rfl rfl (x_len rfl rfl) ?_
  refine sqV (.int .i64 0) rfl rfl rfl ?_
  refine r_nil (e_then (k_block (k_loop (σ := Nat) (fun k => [(4, .map (some bo)), (5, .int .i64 (i : Int)), (12, .slice At m c), (13, .int .i64 (m : Int)), (14, .int .i64 (i : Int)), (19, .slice r_.A r_.xs.length r_.c), (20, .int .i64 (r_.xs.length : Int)), (21, .int .i64 (k : Int))]) (fun k w_ => Mem w No w_ [(bo, mapO (esOf (plTo (xssOf rows) i k)) (plTo (xssOf rows) i k).length)] ∧ k ≤ r_.xs.length ∧ ((plTo (xssOf rows) i k).map (·.1)).Nodup) (fun k => r_.xs.length - k) 0 (sqS rfl) ⟨hM4, Nat.zero_le _, hnd⟩ ?_)))
  rintro k w5 ⟨hM6, hk, hnd⟩
  refine sqK [(4, .map (some bo)), (5, .int .i64 (i : Int)), (12, .slice At m c), (13, .int .i64 (m : Int)), (14, .int .i64 (i : Int)), (19, .slice r_.A r_.xs.length r_.c), (20, .int .i64 (r_.xs.length : Int)), (21, .int .i64 (k : Int))] rfl (k_seq (k_region (sqV (.bool (decide ((k : Int) < (r_.xs.length : Int)))) rfl rfl rfl ?_)))
  refine r_nil (e_then (k_seq ?_))
  refine k_cond rfl rfl (fun h2 => ?_) (fun h2 => ?_)
  ·try simp only [sqC] at h2
   refine k_skip (e_then (k_seq (k_block (k_seq (k_region ?_)))))
   obtain ⟨y, hy⟩ : ∃ y, r_.xs[k]? = some y := ⟨r_.xs[k]'(by omega), by simp⟩
   refine sqV (.pointer (some ((adr r_.A).add (k * 1)))) rfl rfl (x_indexAddrN (i := k) (sz := 1) (hes r_ hr_m).here (by omega) rfl rfl rfl rfl) ?_
   refine sqV (.int .i64 y) rfl rfl (x_loadEInt ((hes r_ hr_m).up hM6) hy rfl rfl) ?_
   refine sqV (.int .i64 y) rfl rfl rfl ?_
   refine r_nil (sqE [(4, .map (some bo)), (5, .int .i64 (i : Int)), (8, .int .i64 y), (12, .slice At m c), (13, .int .i64 (m : Int)), (14, .int .i64 (i : Int)), (19, .slice r_.A r_.xs.length r_.c), (20, .int .i64 (r_.xs.length : Int)), (21, .int .i64 (k : Int))] rfl (e_then (k_seq (k_seq (k_region (sqV (.map (some bo)) rfl rfl rfl ?_))))))
   refine sqV (.int .i64 y) rfl rfl rfl ?_
   refine sqV (.tuple #[.int .i64 (nv (plTo (xssOf rows) i k) y), .bool ((numOf (plTo (xssOf rows) i k) y).isSome)]) rfl rfl (x_lookupNum (hM6.get 0 rfl) rfl rfl rfl rfl rfl) ?_
   refine sqV (.tuple #[.int .i64 (nv (plTo (xssOf rows) i k) y), .bool ((numOf (plTo (xssOf rows) i k) y).isSome)]) rfl rfl rfl ?_
   refine sqV (.int .i64 (nv (plTo (xssOf rows) i k) y)) rfl rfl rfl ?_
   refine sqV (.bool ((numOf (plTo (xssOf rows) i k) y).isSome)) rfl rfl rfl ?_
   refine sqV (.int .i64 (nv (plTo (xssOf rows) i k) y)) rfl rfl rfl ?_
   refine sqV (.bool ((numOf (plTo (xssOf rows) i k) y).isSome)) rfl rfl rfl ?_
   refine r_nil (e_then (k_seq (k_region (sqV (.bool ((numOf (plTo (xssOf rows) i k) y).isSome)) rfl rfl rfl ?_))))
   refine r_nil (e_then ?_)
   refine k_cond rfl rfl (fun h3 => ?_) (fun h3 => ?_)
   ·try simp only [sqC] at h3
    refine k_seq (k_region ?_)
    have h6 : numErr (xssOf rows) = 6 := plTo_dup hr_x hy (by rcases Classical.em (y ∈ ((plTo (xssOf rows) i k).map (·.1))) with h9 | h9; exact h9; rw [num_none.2 h9] at h3; cases h3)
    refine sqV (.map none) rfl rfl rfl ?_
    refine sqV (.int .i64 6) rfl rfl rfl ?_
    refine r_nil (e_then (k_ret (e_then_ret (e_blk_ret (e_then_ret (e_loop_ret (e_blk_ret (e_blk_ret (e_then_ret (e_loop_ret (e_blk_ret (e_then_ret (e_ret2 rfl rfl rfl ?_)))))))))))))
    exact ⟨_, rfl, _, _, rfl, h6.symm, fun h9 => absurd h9 (by decide), hM6.drop⟩
   ·try simp only [sqC] at h3
    refine k_skip (e_then (k_region ?_))
    have h9 : numOf (plTo (xssOf rows) i k) y = none := by cases h10 : numOf (plTo (xssOf rows) i k) y with | none => rfl | some z => rw [h10] at h3; cases h3
    have hmg := esOf_none (num_none.1 h9)
    refine sqV (.map (some bo)) rfl rfl rfl ?_
    refine sqV (.int .i64 y) rfl rfl rfl ?_
    refine sqV (.int .i64 (i : Int)) rfl rfl rfl ?_
    refine r_mapNew (k := y) hM6 0 rfl hmg rfl rfl rfl rfl rfl rfl ?_
    intro w7 hM8
    replace hM8 : Mem w No w7 [(bo, mapO (esOf (plTo (xssOf rows) i k) ++ [(⟨y, .int .i64 (i : Int), (plTo (xssOf rows) i k).length⟩ : Ent)]) ((plTo (xssOf rows) i k).length + 1))] := hM8
    refine r_nil (sqE [(4, .map (some bo)), (5, .int .i64 (i : Int)), (12, .slice At m c), (13, .int .i64 (m : Int)), (14, .int .i64 (i : Int)), (19, .slice r_.A r_.xs.length r_.c), (20, .int .i64 (r_.xs.length : Int)), (21, .int .i64 (k : Int))] rfl (e_blk (e_then (k_region (sqV (.int .i64 ((k : Int) + 1)) rfl rfl (x_addE rfl (by omega) (by omega) rfl rfl) ?_)))))
    refine sqV (.int .i64 ((k : Int) + 1)) rfl rfl rfl ?_
    refine r_nil ?_
    refine e_loop (k + 1) (sqS rfl) ?_ ?_
    ·exact ⟨by rw [plTo_step hr_x hy, esOf_snoc, List.length_append]; exact hM8, by omega, plTo_nodup_step hr_x hy hnd (num_none.1 h9)⟩
    ·(try dsimp only); omega
  ·try simp only [sqC] at h2
   refine k_exit (e_then_exit (e_loop_exit (e_blk_exit (e_blk (e_then (k_region (sqV (.int .i64 ((i : Int) + 1)) rfl rfl (x_addE rfl (by omega) (by omega) rfl rfl) ?_)))))))
   refine sqV (.int .i64 ((i : Int) + 1)) rfl rfl rfl ?_
   refine r_nil ?_
   refine e_loop (i + 1) (sqS rfl) ?_ ?_
   ·exact ⟨by rw [← plTo_row hr_x (k := k) (by omega)]; exact hM6, by omega, by rw [← plTo_row hr_x (k := k) (by omega)]; exact hnd⟩
   ·(try dsimp only); omega
 ·try simp only [sqC] at h
  refine k_exit (e_then_exit (e_loop_exit (e_blk_exit (e_then (k_seq (k_region ?_))))))
  have him : i = (xssOf rows).length := by omega
  rw [him] at hM4 hnd
  refine sqV (.map (some bo)) rfl rfl rfl ?_
  refine sqV (.map (some bo)) rfl rfl rfl ?_
  refine sqV (.int .i64 0) rfl rfl rfl ?_
  refine r_nil (e_then (k_ret (e_ret2 rfl rfl rfl ?_)))
  exact ⟨_, rfl, _, _, rfl, (num_ok hnd).symm, fun _ => ⟨bo, rfl, hM4⟩, hM4.drop⟩

theorem pairs_s (w : World) (Aa : Option Addr) (na ca : Nat) (ra : List SRow) (hta : RdE encR 1 w Aa na ra) (hea : ∀ r ∈ ra, RdE intE 1 w r.A r.xs.length r.xs) (Ab : Option Addr) (nb cb : Nat) (rb : List SRow) (htb : RdE encR 1 w Ab nb rb) (heb : ∀ r ∈ rb, RdE intE 1 w r.A r.xs.length r.xs) (hsa : (allXs ra).length ≤ 1099511627776) (hsb : (allXs rb).length ≤ 1099511627776) (hna : na ≤ 1099511627776) (hnb : nb ≤ 1099511627776) :
  Calls Try.prog 15 #[Value.slice Aa na ca, Value.slice Ab nb cb] w fun e w' => ∃ r, e = .returned r ∧ r = prsOut (xssOf ra) (xssOf rb) ∧ Mem w No w' [] := by
 refine calls_k (args := [Value.slice Aa na ca, Value.slice Ab nb cb]) 106 [(0, Value.slice Aa na ca), (1, Value.slice Ab nb cb)] Try.func15 rfl rfl ⟨rfl, rfl, trivial⟩ ?_
 have hM := Mem.nil w No
 have hfa := flat_rows ra
 have hfb := flat_rows rb
 have hal := hta.len
 have hbl := htb.len
 refine k_seq (k_region (sqV (.int .i64 0) rfl rfl rfl ?_))
 refine sqV (.int .i64 0) rfl rfl rfl ?_
 refine sqV (.int .i64 0) rfl rfl rfl ?_
 refine sqV (.int .i64 0) rfl rfl rfl ?_
 refine r_nil (sqE [(0, .slice Aa na ca), (1, .slice Ab nb cb), (4, .int .i64 0), (5, .int .i64 0), (6, .int .i64 0)] rfl (e_then (k_seq (k_seq (k_region (sqV (.slice Aa na ca) rfl rfl rfl ?_))))))
 refine r_call (f := 42) (args := #[Value.slice Aa na ca]) (w' := w) rfl rfl (x_call (vs := [Value.slice Aa na ca]) (enter42 _ _) rfl rfl) (total_s w Aa na ca ra (hta.up hM) (fun r hr => (hea r hr).up hM) hsa hna) ?_
 rintro v_ w1 ⟨rfl, hM2⟩
 replace hM2 := hM.grow hM2.kept
 refine sqV (.bool (decide (((allXs ra).length : Int) > 300))) rfl rfl rfl ?_
 refine sqV (.bool (decide (((allXs ra).length : Int) > 300))) rfl rfl rfl ?_
 rcases Bool.eq_false_or_eq_true (decide (((allXs ra).length : Int) > 300)) with g0 | g0
 ·refine wpR_sub [(0, Value.slice Aa na ca), (1, Value.slice Ab nb cb), (4, Value.int .i64 0), (5, Value.int .i64 0), (6, Value.int .i64 0), (22, Value.bool true)] ⟨rfl, rfl, rfl, rfl, rfl, congrArg (fun z => some (Value.bool z)) g0, trivial⟩ ?_
  have hlg : 300 < (flat (xssOf ra)).length ∨ 300 < (flat (xssOf rb)).length := .inl (by rw [hfa]; have := of_decide_eq_true g0; omega)
  refine r_no rfl rfl (by decide) rfl ?_
  refine r_no rfl rfl (by decide) rfl ?_
  refine r_no rfl rfl (by decide) rfl ?_
  refine sqV (.bool true) rfl rfl rfl ?_
  refine r_nil (e_then (k_cond_true rfl rfl ?_))
  refine k_seq (k_region (sqV (.int .i64 0) rfl rfl rfl ?_))
  refine sqV (.int .i64 0) rfl rfl rfl ?_
  refine sqV (.int .i64 0) rfl rfl rfl ?_
  refine sqV (.int .i64 4) rfl rfl rfl ?_
  refine r_nil (e_then (k_ret (e_then_ret (e_ret4 rfl rfl rfl rfl rfl ?_))))
  exact ⟨_, rfl, (prs_bad (prs_large hlg) (by decide)).symm, hM2.drop⟩
 ·refine wpR_sub [(0, Value.slice Aa na ca), (1, Value.slice Ab nb cb), (4, Value.int .i64 0), (5, Value.int .i64 0), (6, Value.int .i64 0), (22, Value.bool false)] ⟨rfl, rfl, rfl, rfl, rfl, congrArg (fun z => some (Value.bool z)) g0, trivial⟩ ?_
  refine r_yes rfl rfl ?_
  refine sqV (.slice Ab nb cb) rfl rfl rfl ?_
  refine r_yes rfl rfl ?_
  refine r_call (f := 42) (args := #[Value.slice Ab nb cb]) (w' := w1) rfl rfl (x_call (vs := [Value.slice Ab nb cb]) (enter42 _ _) rfl rfl) (total_s w1 Ab nb cb rb (htb.up hM2) (fun r hr => (heb r hr).up hM2) hsb hnb) ?_
  rintro v_ w4 ⟨rfl, hM5⟩
  replace hM5 := hM2.grow hM5.kept
  refine r_yes rfl rfl ?_
  refine sqV (.bool (decide (((allXs rb).length : Int) > 300))) rfl rfl rfl ?_
  refine sqV (.bool (decide (((allXs rb).length : Int) > 300))) rfl rfl rfl ?_
  refine r_nil (e_then ?_)
  refine k_cond rfl rfl (fun h1 => ?_) (fun h1 => ?_)
  ·try simp only [sqC] at h1
   refine k_seq (k_region ?_)
   have hlg : 300 < (flat (xssOf ra)).length ∨ 300 < (flat (xssOf rb)).length := .inr (by rw [hfb]; omega)
   refine sqV (.int .i64 0) rfl rfl rfl ?_
   refine sqV (.int .i64 0) rfl rfl rfl ?_
   refine sqV (.int .i64 0) rfl rfl rfl ?_
   refine sqV (.int .i64 4) rfl rfl rfl ?_
   refine r_nil (sqE [(4, .int .i64 0), (5, .int .i64 0), (6, .int .i64 0), (7, .int .i64 4)] rfl (e_then (k_ret (e_then_ret (e_ret4 rfl rfl rfl rfl rfl ?_)))))
   exact ⟨_, rfl, (prs_bad (prs_large hlg) (by decide)).symm, hM5.drop⟩
  ·try simp only [sqC] at h1
   refine k_skip (e_then (k_seq (k_region ?_)))
   have hlg : ¬ (300 < (flat (xssOf ra)).length ∨ 300 < (flat (xssOf rb)).length) := by rw [hfa, hfb]; simp at g0; omega
   have hMold := hM5
   refine sqV (.slice Aa na ca) rfl rfl rfl ?_
   refine r_call (f := 43) (args := #[Value.slice Aa na ca]) (w' := w4) rfl rfl (x_call (vs := [Value.slice Aa na ca]) (enter43 _ _) rfl rfl) (numbered_s w4 Aa na ca ra (hta.up hM5) (fun r hr => (hea r hr).up hM5) hsa hna) ?_
   rintro v_ w6 ⟨mv, no, rfl, hno, hok, hM7⟩
   replace hM7 := hM5.grow hM7.kept
   refine sqV (.tuple #[mv, .int .i64 no]) rfl rfl rfl ?_
   refine sqV (mv) rfl rfl rfl ?_
   refine sqV (.int .i64 no) rfl rfl rfl ?_
   refine sqV (mv) rfl rfl rfl ?_
   refine sqV (.int .i64 no) rfl rfl rfl ?_
   refine r_nil (e_then (k_seq (k_seq (k_region (sqV (.int .i64 no) rfl rfl rfl ?_)))))
   refine sqV (.bool (no != 0)) rfl rfl rfl ?_
   refine r_nil (e_then ?_)
   refine k_cond rfl rfl (fun h2 => ?_) (fun h2 => ?_)
   ·try simp only [sqC] at h2
    refine k_seq (k_region ?_)
    have he6 : prsErr (xssOf ra) (xssOf rb) = no := by rw [hno] at h2 ⊢; exact prs_a hlg h2
    refine sqV (.int .i64 no) rfl rfl rfl ?_
    refine sqV (.int .i64 0) rfl rfl rfl ?_
    refine sqV (.int .i64 0) rfl rfl rfl ?_
    refine sqV (.int .i64 0) rfl rfl rfl ?_
    refine sqV (.int .i64 no) rfl rfl rfl ?_
    refine r_nil (e_then (k_ret (e_then_ret (e_ret4 rfl rfl rfl rfl rfl ?_))))
    exact ⟨_, rfl, (prs_bad he6 h2).symm, hM7.drop⟩
   ·try simp only [sqC] at h2
    refine k_skip (e_then (k_seq (k_region ?_)))
    obtain ⟨ba, hmv, hMr⟩ := hok h2
    rw [h2] at hno
    have hnA := num_nodup hno.symm
    obtain ⟨P, hP⟩ : ∃ P, P = plAll (xssOf ra) := ⟨_, rfl⟩
    rw [← hP] at hMr hnA
    have hP3 : P.length ≤ 300 := by rw [hP, plAll_len]; omega
    have hM8 : Mem w No w6 [(ba, mapO (esOf P) P.length)] := by simpa using Mem.call0 hMold hMr
    refine wpR_sub [(1, Value.slice Ab nb cb), (4, Value.int .i64 0), (5, Value.int .i64 0), (6, Value.int .i64 0), (8, Value.map (some ba)), (9, Value.int .i64 no), (33, Value.bool (no != 0))] ⟨rfl, rfl, rfl, rfl, congrArg some hmv, rfl, rfl, trivial⟩ ?_
    have hMold2 := hM8
    refine sqV (.slice Ab nb cb) rfl rfl rfl ?_
    refine r_call (f := 43) (args := #[Value.slice Ab nb cb]) (w' := w6) rfl rfl (x_call (vs := [Value.slice Ab nb cb]) (enter43 _ _) rfl rfl) (numbered_s w6 Ab nb cb rb (htb.up hM8) (fun r hr => (heb r hr).up hM8) hsb hnb) ?_
    rintro v_ w9 ⟨mv2, no2, rfl, hno2, hok2, hM10⟩
    replace hM10 := hM8.grow hM10.kept
    refine sqV (.tuple #[mv2, .int .i64 no2]) rfl rfl rfl ?_
    refine sqV (mv2) rfl rfl rfl ?_
    refine sqV (.int .i64 no2) rfl rfl rfl ?_
    refine sqV (mv2) rfl rfl rfl ?_
    refine sqV (.int .i64 no2) rfl rfl rfl ?_
    refine r_nil (sqE [(4, .int .i64 0), (5, .int .i64 0), (6, .int .i64 0), (8, .map (some ba)), (9, .int .i64 no2), (10, mv2)] rfl (e_then (k_seq (k_seq (k_region (sqV (.int .i64 no2) rfl rfl rfl ?_))))))
    refine sqV (.bool (no2 != 0)) rfl rfl rfl ?_
    refine r_nil (e_then ?_)
    refine k_cond rfl rfl (fun h3 => ?_) (fun h3 => ?_)
    ·try simp only [sqC] at h3
     refine k_seq (k_region ?_)
     have he6 : prsErr (xssOf ra) (xssOf rb) = no2 := by rw [hno2]; exact prs_b hlg hno.symm
     refine sqV (.int .i64 no2) rfl rfl rfl ?_
     refine sqV (.int .i64 0) rfl rfl rfl ?_
     refine sqV (.int .i64 0) rfl rfl rfl ?_
     refine sqV (.int .i64 0) rfl rfl rfl ?_
     refine sqV (.int .i64 no2) rfl rfl rfl ?_
     refine r_nil (e_then (k_ret (e_then_ret (e_ret4 rfl rfl rfl rfl rfl ?_))))
     exact ⟨_, rfl, (prs_bad he6 h3).symm, hM10.drop⟩
    ·try simp only [sqC] at h3
     refine k_skip (e_then (k_seq (k_seq (k_region ?_))))
     obtain ⟨bb, hmv2, hMr2⟩ := hok2 h3
     rw [h3] at hno2
     have hnB := num_nodup hno2.symm
     obtain ⟨Q, hQ⟩ : ∃ Q, Q = plAll (xssOf rb) := ⟨_, rfl⟩
     rw [← hQ] at hMr2 hnB
     have he0 : prsErr (xssOf ra) (xssOf rb) = 0 := by rw [prs_b hlg hno.symm]; exact hno2.symm
     have hM11 : Mem w No w9 [(bb, mapO (esOf Q) Q.length), (ba, mapO (esOf P) P.length)] := by simpa using Mem.call0 hMold2 hMr2
     refine wpR_sub [(4, Value.int .i64 0), (5, Value.int .i64 0), (6, Value.int .i64 0), (8, Value.map (some ba)), (9, Value.int .i64 no2), (10, Value.map (some bb)), (41, Value.bool (no2 != 0))] ⟨rfl, rfl, rfl, rfl, rfl, congrArg some hmv2, rfl, trivial⟩ ?_
     refine sqV (.map (some ba)) rfl rfl rfl ?_
     refine r_range hM11 1 rfl rfl rfl rfl ?_
     intro b1 w12 hM13 hb1
     replace hM13 : Mem w No w12 [(b1, .mapIter (some ba) P.length #[] P.length), (bb, mapO (esOf Q) Q.length), (ba, mapO (esOf P) P.length)] := hM13
     refine r_nil (e_then (k_block (wpK_sub [(4, Value.int .i64 ((cO P Q 0 #[] : Nat) : Int)), (5, Value.int .i64 ((cO P Q 1 #[] : Nat) : Int)), (6, Value.int .i64 ((cO P Q 2 #[] : Nat) : Int)), (8, Value.map (some ba)), (10, Value.map (some bb)), (44, Value.pointer (some ⟨b1, 0, none⟩))] ⟨congrArg (fun z : Nat => some (Value.int .i64 (z : Int))) (cO_0 (P := P) (Q := Q) (j := 0)).symm, congrArg (fun z : Nat => some (Value.int .i64 (z : Int))) (cO_0 (P := P) (Q := Q) (j := 1)).symm, congrArg (fun z : Nat => some (Value.int .i64 (z : Int))) (cO_0 (P := P) (Q := Q) (j := 2)).symm, rfl, rfl, rfl, trivial⟩ ?_)))
     refine k_loop (σ := Array Nat) (fun seen => [(4, .int .i64 ((cO P Q 0 seen : Nat) : Int)), (5, .int .i64 ((cO P Q 1 seen : Nat) : Int)), (6, .int .i64 ((cO P Q 2 seen : Nat) : Int)), (8, .map (some ba)), (10, .map (some bb)), (44, .pointer (some ⟨b1, 0, none⟩))]) (fun seen w_ => Mem w No w_ [(b1, .mapIter (some ba) P.length seen P.length), (bb, mapO (esOf Q) Q.length), (ba, mapO (esOf P) P.length)]) (fun seen => psum P seen) #[] (sqS rfl) hM13 ?_
     rintro seen w14 hM15
     refine sqK [(4, .int .i64 ((cO P Q 0 seen : Nat) : Int)), (5, .int .i64 ((cO P Q 1 seen : Nat) : Int)), (6, .int .i64 ((cO P Q 2 seen : Nat) : Int)), (8, .map (some ba)), (10, .map (some bb)), (44, .pointer (some ⟨b1, 0, none⟩))] rfl (k_seq (k_region ?_))
     refine r_next hM15 0 2 rfl rfl (esOf_born) rfl rfl (fun hall w16 hM17 => ?_) (fun e_ he_ hns w16 hM17 => ?_)
     ·skip
      have hall1 := esOf_seen hall
      refine sqV (.bool false) rfl rfl rfl ?_
      refine r_nil (sqE [(4, .int .i64 ((cO P Q 0 seen : Nat) : Int)), (5, .int .i64 ((cO P Q 1 seen : Nat) : Int)), (6, .int .i64 ((cO P Q 2 seen : Nat) : Int)), (8, .map (some ba)), (10, .map (some bb)), (44, .pointer (some ⟨b1, 0, none⟩)), (46, .bool false)] rfl (e_then (k_seq (k_cond_false rfl rfl ?_))))
      refine k_exit (e_then_exit (e_loop_exit (e_blk_exit (e_then (k_seq (k_region (sqV (.int .i64 ((cO P Q 0 seen : Nat) : Int)) rfl rfl rfl ?_)))))))
      refine sqV (.int .i64 ((cO P Q 1 seen : Nat) : Int)) rfl rfl rfl ?_
      refine sqV (.int .i64 ((cO P Q 2 seen : Nat) : Int)) rfl rfl rfl ?_
      refine sqV (.int .i64 ((cO P Q 0 seen : Nat) : Int)) rfl rfl rfl ?_
      refine sqV (.int .i64 ((cO P Q 1 seen : Nat) : Int)) rfl rfl rfl ?_
      refine sqV (.int .i64 ((cO P Q 2 seen : Nat) : Int)) rfl rfl rfl ?_
      refine sqV (.int .i64 0) rfl rfl rfl ?_
      refine r_nil (e_then (k_ret (e_ret4 rfl rfl rfl rfl rfl ?_)))
      exact ⟨_, rfl, by rw [prs_ok he0, ← hP, ← hQ, cO_all hall1, cO_all hall1, cO_all hall1], hM17.drop⟩
     ·obtain ⟨a, p, hp, rfl⟩ := esOf_mem he_
      replace hM17 : Mem w No w16 [(b1, .mapIter (some ba) P.length (seen.push a) P.length), (bb, mapO (esOf Q) Q.length), (ba, mapO (esOf P) P.length)] := hM17
      refine sqV (.bool true) rfl rfl rfl ?_
      refine r_nil (e_then (k_seq (k_cond_true rfl rfl ?_)))
      refine k_skip (e_then (k_block (k_seq (k_region (sqV (.tuple #[.int .i64 p.1, .int .i64 (p.2 : Int)]) rfl rfl (x_entry (hM17.get 0 rfl) (hM17.get 2 rfl) he_ esOf_bnd rfl) ?_)))))
      refine sqV (.int .i64 p.1) rfl rfl rfl ?_
      refine sqV (.int .i64 (p.2 : Int)) rfl rfl rfl ?_
      refine sqV (.int .i64 p.1) rfl rfl rfl ?_
      refine sqV (.int .i64 (p.2 : Int)) rfl rfl rfl ?_
      refine r_nil (e_then (k_seq (k_region (sqV (.map (some ba)) rfl rfl rfl ?_))))
      refine r_range hM17 2 rfl rfl rfl rfl ?_
      intro b2 w18 hM19 hb2
      replace hM19 : Mem w No w18 [(b2, .mapIter (some ba) P.length #[] P.length), (b1, .mapIter (some ba) P.length (seen.push a) P.length), (bb, mapO (esOf Q) Q.length), (ba, mapO (esOf P) P.length)] := hM19
      refine r_nil (sqE [(4, .int .i64 ((cO P Q 0 seen : Nat) : Int)), (5, .int .i64 ((cO P Q 1 seen : Nat) : Int)), (6, .int .i64 ((cO P Q 2 seen : Nat) : Int)), (8, .map (some ba)), (10, .map (some bb)), (11, .int .i64 p.1), (12, .int .i64 (p.2 : Int)), (44, .pointer (some ⟨b1, 0, none⟩)), (51, .pointer (some ⟨b2, 0, none⟩))] rfl (e_then (k_block (wpK_sub [(4, Value.int .i64 ((cO P Q 0 seen + cI P Q 0 p #[] : Nat) : Int)), (5, Value.int .i64 ((cO P Q 1 seen + cI P Q 1 p #[] : Nat) : Int)), (6, Value.int .i64 ((cO P Q 2 seen + cI P Q 2 p #[] : Nat) : Int)), (8, Value.map (some ba)), (10, Value.map (some bb)), (11, Value.int .i64 p.1), (12, Value.int .i64 (p.2 : Int)), (44, Value.pointer (some ⟨b1, 0, none⟩)), (51, Value.pointer (some ⟨b2, 0, none⟩))] ⟨congrArg (fun z : Nat => some (Value.int .i64 ((cO P Q 0 seen + z : Nat) : Int))) (cI_0 (P := P) (Q := Q) (j := 0) (p := p)).symm, congrArg (fun z : Nat => some (Value.int .i64 ((cO P Q 1 seen + z : Nat) : Int))) (cI_0 (P := P) (Q := Q) (j := 1) (p := p)).symm, congrArg (fun z : Nat => some (Value.int .i64 ((cO P Q 2 seen + z : Nat) : Int))) (cI_0 (P := P) (Q := Q) (j := 2) (p := p)).symm, rfl, rfl, rfl, rfl, rfl, rfl, trivial⟩ ?_))))
      refine k_loop (σ := Array Nat) (fun seen2 => [(4, .int .i64 ((cO P Q 0 seen + cI P Q 0 p seen2 : Nat) : Int)), (5, .int .i64 ((cO P Q 1 seen + cI P Q 1 p seen2 : Nat) : Int)), (6, .int .i64 ((cO P Q 2 seen + cI P Q 2 p seen2 : Nat) : Int)), (8, .map (some ba)), (10, .map (some bb)), (11, .int .i64 p.1), (12, .int .i64 (p.2 : Int)), (44, .pointer (some ⟨b1, 0, none⟩)), (51, .pointer (some ⟨b2, 0, none⟩))]) (fun seen2 w_ => Mem w No w_ [(b2, .mapIter (some ba) P.length seen2 P.length), (b1, .mapIter (some ba) P.length (seen.push a) P.length), (bb, mapO (esOf Q) Q.length), (ba, mapO (esOf P) P.length)]) (fun seen2 => psum P seen2) #[] (sqS rfl) hM19 ?_
      rintro seen2 w20 hM21
      refine sqK [(4, .int .i64 ((cO P Q 0 seen + cI P Q 0 p seen2 : Nat) : Int)), (5, .int .i64 ((cO P Q 1 seen + cI P Q 1 p seen2 : Nat) : Int)), (6, .int .i64 ((cO P Q 2 seen + cI P Q 2 p seen2 : Nat) : Int)), (8, .map (some ba)), (10, .map (some bb)), (11, .int .i64 p.1), (12, .int .i64 (p.2 : Int)), (44, .pointer (some ⟨b1, 0, none⟩)), (51, .pointer (some ⟨b2, 0, none⟩))] rfl (k_seq (k_region ?_))
      refine r_next hM21 0 3 rfl rfl (esOf_born) rfl rfl (fun hall w22 hM23 => ?_) (fun e_ he_ hns w22 hM23 => ?_)
      ·skip
       have hall2 := esOf_seen hall
       refine sqV (.bool false) rfl rfl rfl ?_
       refine r_nil (e_then (k_seq (k_cond_false rfl rfl ?_)))
       refine k_exit (e_then_exit (e_loop_exit (e_blk_exit (e_blk ?_))))
       refine e_loop (seen.push a) ⟨congrArg (fun z : Nat => some (Value.int .i64 (z : Int))) (cO_next (j := 0) hp hns hall2), congrArg (fun z : Nat => some (Value.int .i64 (z : Int))) (cO_next (j := 1) hp hns hall2), congrArg (fun z : Nat => some (Value.int .i64 (z : Int))) (cO_next (j := 2) hp hns hall2), rfl, rfl, rfl, trivial⟩ ?_ ?_
       ·exact (hM23.pick [1, 2, 3] _ (by decide) rfl)
       ·exact psum_lt hp hns
      ·obtain ⟨b, q, hq, rfl⟩ := esOf_mem he_
       replace hM23 : Mem w No w22 [(b2, .mapIter (some ba) P.length (seen2.push b) P.length), (b1, .mapIter (some ba) P.length (seen.push a) P.length), (bb, mapO (esOf Q) Q.length), (ba, mapO (esOf P) P.length)] := hM23
       have hns2 := hns
       have hcO0 := cO_le (Q := Q) (j := 0) (seen := seen) hP3
       have hcO1 := cO_le (Q := Q) (j := 1) (seen := seen) hP3
       have hcO2 := cO_le (Q := Q) (j := 2) (seen := seen) hP3
       have hcI0 := cI_le (Q := Q) (j := 0) (p := p) (seen := seen2) hP3
       have hcI1 := cI_le (Q := Q) (j := 1) (p := p) (seen := seen2) hP3
       have hcI2 := cI_le (Q := Q) (j := 2) (p := p) (seen := seen2) hP3
       refine sqV (.bool true) rfl rfl rfl ?_
       refine r_nil (e_then (k_seq (k_cond_true rfl rfl ?_)))
       refine k_skip (e_then (k_block (k_seq (k_region (sqV (.tuple #[.int .i64 q.1, .int .i64 (q.2 : Int)]) rfl rfl (x_entry (hM23.get 0 rfl) (hM23.get 3 rfl) he_ esOf_bnd rfl) ?_)))))
       refine sqV (.int .i64 q.1) rfl rfl rfl ?_
       refine sqV (.int .i64 (q.2 : Int)) rfl rfl rfl ?_
       refine sqV (.int .i64 q.1) rfl rfl rfl ?_
       refine sqV (.int .i64 (q.2 : Int)) rfl rfl rfl ?_
       refine r_nil (e_then (k_seq (k_region (sqV (.map (some bb)) rfl rfl rfl ?_))))
       refine sqV (.int .i64 p.1) rfl rfl rfl ?_
       refine sqV (.tuple #[.int .i64 (nv Q p.1), .bool ((numOf Q p.1).isSome)]) rfl rfl (x_lookupNum (hM23.get 2 rfl) rfl rfl rfl rfl rfl) ?_
       refine sqV (.tuple #[.int .i64 (nv Q p.1), .bool ((numOf Q p.1).isSome)]) rfl rfl rfl ?_
       refine sqV (.int .i64 (nv Q p.1)) rfl rfl rfl ?_
       refine sqV (.bool ((numOf Q p.1).isSome)) rfl rfl rfl ?_
       refine sqV (.int .i64 (nv Q p.1)) rfl rfl rfl ?_
       refine sqV (.bool ((numOf Q p.1).isSome)) rfl rfl rfl ?_
       refine r_nil (sqE [(4, .int .i64 ((cO P Q 0 seen + cI P Q 0 p seen2 : Nat) : Int)), (5, .int .i64 ((cO P Q 1 seen + cI P Q 1 p seen2 : Nat) : Int)), (6, .int .i64 ((cO P Q 2 seen + cI P Q 2 p seen2 : Nat) : Int)), (8, .map (some ba)), (10, .map (some bb)), (11, .int .i64 p.1), (12, .int .i64 (p.2 : Int)), (13, .int .i64 q.1), (14, .int .i64 (q.2 : Int)), (15, .int .i64 (nv Q p.1)), (16, .bool ((numOf Q p.1).isSome)), (44, .pointer (some ⟨b1, 0, none⟩)), (51, .pointer (some ⟨b2, 0, none⟩))] rfl (e_then (k_seq (k_region (sqV (.map (some bb)) rfl rfl rfl ?_)))))
       refine sqV (.int .i64 q.1) rfl rfl rfl ?_
       refine sqV (.tuple #[.int .i64 (nv Q q.1), .bool ((numOf Q q.1).isSome)]) rfl rfl (x_lookupNum (hM23.get 2 rfl) rfl rfl rfl rfl rfl) ?_
       refine sqV (.tuple #[.int .i64 (nv Q q.1), .bool ((numOf Q q.1).isSome)]) rfl rfl rfl ?_
       refine sqV (.int .i64 (nv Q q.1)) rfl rfl rfl ?_
       refine sqV (.bool ((numOf Q q.1).isSome)) rfl rfl rfl ?_
       refine sqV (.int .i64 (nv Q q.1)) rfl rfl rfl ?_
       refine sqV (.bool ((numOf Q q.1).isSome)) rfl rfl rfl ?_
       refine r_nil (e_then (k_seq (k_seq (k_region (sqV (.int .i64 p.1) rfl rfl rfl ?_)))))
       refine sqV (.int .i64 q.1) rfl rfl rfl ?_
       refine sqV (.bool (decide (p.1 ≥ q.1))) rfl rfl rfl ?_
       refine sqV (.bool (decide (p.1 ≥ q.1))) rfl rfl rfl ?_
       rcases Bool.eq_false_or_eq_true (decide (p.1 ≥ q.1)) with g1 | g1
       ·refine wpR_sub [(4, Value.int .i64 ((cO P Q 0 seen + cI P Q 0 p seen2 : Nat) : Int)), (5, Value.int .i64 ((cO P Q 1 seen + cI P Q 1 p seen2 : Nat) : Int)), (6, Value.int .i64 ((cO P Q 2 seen + cI P Q 2 p seen2 : Nat) : Int)), (8, Value.map (some ba)), (10, Value.map (some bb)), (11, Value.int .i64 p.1), (12, Value.int .i64 (p.2 : Int)), (14, Value.int .i64 (q.2 : Int)), (15, Value.int .i64 (nv Q p.1)), (16, Value.bool ((numOf Q p.1).isSome)), (17, Value.int .i64 (nv Q q.1)), (18, Value.bool ((numOf Q q.1).isSome)), (44, Value.pointer (some ⟨b1, 0, none⟩)), (51, Value.pointer (some ⟨b2, 0, none⟩)), (72, Value.bool true)] ⟨rfl, rfl, rfl, rfl, rfl, rfl, rfl, rfl, rfl, rfl, rfl, rfl, rfl, rfl, congrArg (fun z => some (Value.bool z)) g1, trivial⟩ ?_
        have hnl : ¬ p.1 < q.1 := by simpa using g1
        refine r_no rfl rfl (by decide) rfl ?_
        refine r_no rfl rfl (by decide) rfl ?_
        refine sqV (.bool true) rfl rfl rfl ?_
        refine sqV (.bool true) rfl rfl rfl ?_
        refine r_no rfl rfl (by decide) rfl ?_
        refine r_no rfl rfl (by decide) rfl ?_
        refine sqV (.bool true) rfl rfl rfl ?_
        refine r_nil (e_then (k_cond_true rfl rfl ?_))
        refine k_exit (e_then_exit (e_blk_exit ?_))
        refine e_loop (seen2.push b) ⟨congrArg (fun z : Nat => some (Value.int .i64 ((cO P Q 0 seen + z : Nat) : Int))) (cI_no hq hns2 (cnd_lt hnl 0)).symm, congrArg (fun z : Nat => some (Value.int .i64 ((cO P Q 1 seen + z : Nat) : Int))) (cI_no hq hns2 (cnd_lt hnl 1)).symm, congrArg (fun z : Nat => some (Value.int .i64 ((cO P Q 2 seen + z : Nat) : Int))) (cI_no hq hns2 (cnd_lt hnl 2)).symm, rfl, rfl, rfl, rfl, rfl, rfl, trivial⟩ ?_ ?_
        ·exact hM23
        ·exact psum_lt hq hns2
       ·refine wpR_sub [(4, Value.int .i64 ((cO P Q 0 seen + cI P Q 0 p seen2 : Nat) : Int)), (5, Value.int .i64 ((cO P Q 1 seen + cI P Q 1 p seen2 : Nat) : Int)), (6, Value.int .i64 ((cO P Q 2 seen + cI P Q 2 p seen2 : Nat) : Int)), (8, Value.map (some ba)), (10, Value.map (some bb)), (11, Value.int .i64 p.1), (12, Value.int .i64 (p.2 : Int)), (14, Value.int .i64 (q.2 : Int)), (15, Value.int .i64 (nv Q p.1)), (16, Value.bool ((numOf Q p.1).isSome)), (17, Value.int .i64 (nv Q q.1)), (18, Value.bool ((numOf Q q.1).isSome)), (44, Value.pointer (some ⟨b1, 0, none⟩)), (51, Value.pointer (some ⟨b2, 0, none⟩)), (72, Value.bool false)] ⟨rfl, rfl, rfl, rfl, rfl, rfl, rfl, rfl, rfl, rfl, rfl, rfl, rfl, rfl, congrArg (fun z => some (Value.bool z)) g1, trivial⟩ ?_
        have hlt : p.1 < q.1 := by simpa using g1
        refine r_yes rfl rfl ?_
        refine sqV (.bool ((numOf Q p.1).isSome)) rfl rfl rfl ?_
        refine r_yes rfl rfl ?_
        refine sqV (.bool (!((numOf Q p.1).isSome))) rfl rfl rfl ?_
        refine sqV (.bool (!((numOf Q p.1).isSome))) rfl rfl rfl ?_
        refine sqV (.bool (!((numOf Q p.1).isSome))) rfl rfl rfl ?_
        rcases Bool.eq_false_or_eq_true (!((numOf Q p.1).isSome)) with g2 | g2
        ·refine wpR_sub [(4, Value.int .i64 ((cO P Q 0 seen + cI P Q 0 p seen2 : Nat) : Int)), (5, Value.int .i64 ((cO P Q 1 seen + cI P Q 1 p seen2 : Nat) : Int)), (6, Value.int .i64 ((cO P Q 2 seen + cI P Q 2 p seen2 : Nat) : Int)), (8, Value.map (some ba)), (10, Value.map (some bb)), (11, Value.int .i64 p.1), (12, Value.int .i64 (p.2 : Int)), (14, Value.int .i64 (q.2 : Int)), (15, Value.int .i64 (nv Q p.1)), (17, Value.int .i64 (nv Q q.1)), (18, Value.bool ((numOf Q q.1).isSome)), (44, Value.pointer (some ⟨b1, 0, none⟩)), (51, Value.pointer (some ⟨b2, 0, none⟩)), (76, Value.bool true)] ⟨rfl, rfl, rfl, rfl, rfl, rfl, rfl, rfl, rfl, rfl, rfl, rfl, rfl, congrArg (fun z => some (Value.bool z)) g2, trivial⟩ ?_
         have hip : (numOf Q p.1).isSome = false := by simpa using g2
         refine r_no rfl rfl (by decide) rfl ?_
         refine r_no rfl rfl (by decide) rfl ?_
         refine sqV (.bool true) rfl rfl rfl ?_
         refine r_nil (e_then (k_cond_true rfl rfl ?_))
         refine k_exit (e_then_exit (e_blk_exit ?_))
         refine e_loop (seen2.push b) ⟨congrArg (fun z : Nat => some (Value.int .i64 ((cO P Q 0 seen + z : Nat) : Int))) (cI_no hq hns2 (cnd_p hip 0)).symm, congrArg (fun z : Nat => some (Value.int .i64 ((cO P Q 1 seen + z : Nat) : Int))) (cI_no hq hns2 (cnd_p hip 1)).symm, congrArg (fun z : Nat => some (Value.int .i64 ((cO P Q 2 seen + z : Nat) : Int))) (cI_no hq hns2 (cnd_p hip 2)).symm, rfl, rfl, rfl, rfl, rfl, rfl, trivial⟩ ?_ ?_
         ·exact hM23
         ·exact psum_lt hq hns2
        ·refine wpR_sub [(4, Value.int .i64 ((cO P Q 0 seen + cI P Q 0 p seen2 : Nat) : Int)), (5, Value.int .i64 ((cO P Q 1 seen + cI P Q 1 p seen2 : Nat) : Int)), (6, Value.int .i64 ((cO P Q 2 seen + cI P Q 2 p seen2 : Nat) : Int)), (8, Value.map (some ba)), (10, Value.map (some bb)), (11, Value.int .i64 p.1), (12, Value.int .i64 (p.2 : Int)), (14, Value.int .i64 (q.2 : Int)), (15, Value.int .i64 (nv Q p.1)), (17, Value.int .i64 (nv Q q.1)), (18, Value.bool ((numOf Q q.1).isSome)), (44, Value.pointer (some ⟨b1, 0, none⟩)), (51, Value.pointer (some ⟨b2, 0, none⟩)), (76, Value.bool false)] ⟨rfl, rfl, rfl, rfl, rfl, rfl, rfl, rfl, rfl, rfl, rfl, rfl, rfl, congrArg (fun z => some (Value.bool z)) g2, trivial⟩ ?_
         have hip : (numOf Q p.1).isSome = true := by simpa using g2
         refine r_yes rfl rfl ?_
         refine sqV (.bool ((numOf Q q.1).isSome)) rfl rfl rfl ?_
         refine r_yes rfl rfl ?_
         refine sqV (.bool (!((numOf Q q.1).isSome))) rfl rfl rfl ?_
         refine sqV (.bool (!((numOf Q q.1).isSome))) rfl rfl rfl ?_
         refine r_nil (sqE [(4, .int .i64 ((cO P Q 0 seen + cI P Q 0 p seen2 : Nat) : Int)), (5, .int .i64 ((cO P Q 1 seen + cI P Q 1 p seen2 : Nat) : Int)), (6, .int .i64 ((cO P Q 2 seen + cI P Q 2 p seen2 : Nat) : Int)), (8, .map (some ba)), (10, .map (some bb)), (11, .int .i64 p.1), (12, .int .i64 (p.2 : Int)), (14, .int .i64 (q.2 : Int)), (15, .int .i64 (nv Q p.1)), (17, .int .i64 (nv Q q.1)), (44, .pointer (some ⟨b1, 0, none⟩)), (51, .pointer (some ⟨b2, 0, none⟩)), (79, .bool (!((numOf Q q.1).isSome)))] rfl (e_then ?_))
         refine k_cond rfl rfl (fun g3 => ?_) (fun g3 => ?_)
         ·try simp only [sqC] at g3
          refine k_exit (e_then_exit (e_blk_exit ?_))
          have hiq : (numOf Q q.1).isSome = false := by simpa using g3
          refine e_loop (seen2.push b) ⟨congrArg (fun z : Nat => some (Value.int .i64 ((cO P Q 0 seen + z : Nat) : Int))) (cI_no hq hns2 (cnd_q hiq 0)).symm, congrArg (fun z : Nat => some (Value.int .i64 ((cO P Q 1 seen + z : Nat) : Int))) (cI_no hq hns2 (cnd_q hiq 1)).symm, congrArg (fun z : Nat => some (Value.int .i64 ((cO P Q 2 seen + z : Nat) : Int))) (cI_no hq hns2 (cnd_q hiq 2)).symm, rfl, rfl, rfl, rfl, rfl, rfl, trivial⟩ ?_ ?_
          ·exact hM23
          ·exact psum_lt hq hns2
         ·try simp only [sqC] at g3
          refine k_skip (e_then (k_block (k_seq (k_region ?_))))
          have hiq : (numOf Q q.1).isSome = true := by simpa using g3
          refine sqV (.int .i64 (p.2 : Int)) rfl rfl rfl ?_
          refine sqV (.int .i64 (q.2 : Int)) rfl rfl rfl ?_
          refine sqV (.bool ((p.2 : Int) == (q.2 : Int))) rfl rfl rfl ?_
          refine sqV (.bool ((p.2 : Int) == (q.2 : Int))) rfl rfl rfl ?_
          rcases Bool.eq_false_or_eq_true ((p.2 : Int) == (q.2 : Int)) with g4 | g4
          ·refine wpR_sub [(4, Value.int .i64 ((cO P Q 0 seen + cI P Q 0 p seen2 : Nat) : Int)), (5, Value.int .i64 ((cO P Q 1 seen + cI P Q 1 p seen2 : Nat) : Int)), (6, Value.int .i64 ((cO P Q 2 seen + cI P Q 2 p seen2 : Nat) : Int)), (8, Value.map (some ba)), (10, Value.map (some bb)), (11, Value.int .i64 p.1), (12, Value.int .i64 (p.2 : Int)), (14, Value.int .i64 (q.2 : Int)), (15, Value.int .i64 (nv Q p.1)), (17, Value.int .i64 (nv Q q.1)), (44, Value.pointer (some ⟨b1, 0, none⟩)), (51, Value.pointer (some ⟨b2, 0, none⟩)), (84, Value.bool true)] ⟨rfl, rfl, rfl, rfl, rfl, rfl, rfl, rfl, rfl, rfl, rfl, rfl, congrArg (fun z => some (Value.bool z)) g4, trivial⟩ ?_
           refine r_yes rfl rfl ?_
           refine sqV (.int .i64 (nv Q p.1)) rfl rfl rfl ?_
           refine r_yes rfl rfl ?_
           refine sqV (.int .i64 (nv Q q.1)) rfl rfl rfl ?_
           refine r_yes rfl rfl ?_
           refine sqV (.bool ((nv Q p.1) == (nv Q q.1))) rfl rfl rfl ?_
           refine sqV (.bool ((nv Q p.1) == (nv Q q.1))) rfl rfl rfl ?_
           refine sqV (.bool ((nv Q p.1) == (nv Q q.1))) rfl rfl rfl ?_
           refine r_nil (e_then ?_)
           refine k_cond rfl rfl (fun g5 => ?_) (fun g5 => ?_)
           ·try simp only [sqC] at g5
            refine k_region ?_
            have hkk := knd_0 (Q := Q) (z := p) (y := q) ((same1_i (p := p) (q := q)).trans (by simpa using g4)) ((same2_nv hip hiq).trans (decide_eq_true (by simpa using g5)))
            have hk0 := (cnd_in (Q := Q) (p := p) (q := q) hlt hip hiq 0).trans hkk.1
            have hk1 := (cnd_in (Q := Q) (p := p) (q := q) hlt hip hiq 1).trans hkk.2.1
            have hk2 := (cnd_in (Q := Q) (p := p) (q := q) hlt hip hiq 2).trans hkk.2.2
            refine sqV (.int .i64 ((cO P Q 0 seen + cI P Q 0 p seen2 : Nat) : Int)) rfl rfl rfl ?_
            refine sqV (.int .i64 ((cO P Q 0 seen + cI P Q 0 p (seen2.push b) : Nat) : Int)) rfl rfl (x_addE (by rw [cI_yes hq hns2 hk0]; omega) (by omega) (by rw [cI_yes hq hns2 hk0]; omega) rfl rfl) ?_
            refine sqV (.int .i64 ((cO P Q 0 seen + cI P Q 0 p (seen2.push b) : Nat) : Int)) rfl rfl rfl ?_
            refine r_nil (e_blk (e_blk ?_))
            refine e_loop (seen2.push b) ⟨rfl, congrArg (fun z : Nat => some (Value.int .i64 ((cO P Q 1 seen + z : Nat) : Int))) (cI_no hq hns2 hk1).symm, congrArg (fun z : Nat => some (Value.int .i64 ((cO P Q 2 seen + z : Nat) : Int))) (cI_no hq hns2 hk2).symm, rfl, rfl, rfl, rfl, rfl, rfl, trivial⟩ ?_ ?_
            ·exact hM23
            ·exact psum_lt hq hns2
           ·try simp only [sqC] at g5
            refine k_seq (k_region ?_)
            have hkk := knd_1 (Q := Q) (z := p) (y := q) ((same1_i (p := p) (q := q)).trans (by simpa using g4)) ((same2_nv hip hiq).trans (decide_eq_false (by simpa using g5)))
            have hk0 := (cnd_in (Q := Q) (p := p) (q := q) hlt hip hiq 0).trans hkk.1
            have hk1 := (cnd_in (Q := Q) (p := p) (q := q) hlt hip hiq 1).trans hkk.2.1
            have hk2 := (cnd_in (Q := Q) (p := p) (q := q) hlt hip hiq 2).trans hkk.2.2
            refine sqV (.int .i64 (p.2 : Int)) rfl rfl rfl ?_
            refine sqV (.int .i64 (q.2 : Int)) rfl rfl rfl ?_
            refine sqV (.bool ((p.2 : Int) == (q.2 : Int))) rfl rfl rfl ?_
            refine sqV (.bool ((p.2 : Int) == (q.2 : Int))) rfl rfl rfl ?_
            refine r_nil (e_then (k_cond_true rfl (congrArg Value.bool (g4)) ?_))
            refine k_region (sqV (.int .i64 ((cO P Q 1 seen + cI P Q 1 p seen2 : Nat) : Int)) rfl rfl rfl ?_)
            refine sqV (.int .i64 ((cO P Q 1 seen + cI P Q 1 p (seen2.push b) : Nat) : Int)) rfl rfl (x_addE (by rw [cI_yes hq hns2 hk1]; omega) (by omega) (by rw [cI_yes hq hns2 hk1]; omega) rfl rfl) ?_
            refine sqV (.int .i64 ((cO P Q 1 seen + cI P Q 1 p (seen2.push b) : Nat) : Int)) rfl rfl rfl ?_
            refine r_nil (sqE [(4, .int .i64 ((cO P Q 0 seen + cI P Q 0 p seen2 : Nat) : Int)), (5, .int .i64 ((cO P Q 1 seen + cI P Q 1 p (seen2.push b) : Nat) : Int)), (6, .int .i64 ((cO P Q 2 seen + cI P Q 2 p seen2 : Nat) : Int)), (8, .map (some ba)), (10, .map (some bb)), (11, .int .i64 p.1), (12, .int .i64 (p.2 : Int)), (44, .pointer (some ⟨b1, 0, none⟩)), (51, .pointer (some ⟨b2, 0, none⟩))] rfl (e_blk (e_blk ?_)))
            refine e_loop (seen2.push b) ⟨congrArg (fun z : Nat => some (Value.int .i64 ((cO P Q 0 seen + z : Nat) : Int))) (cI_no hq hns2 hk0).symm, rfl, congrArg (fun z : Nat => some (Value.int .i64 ((cO P Q 2 seen + z : Nat) : Int))) (cI_no hq hns2 hk2).symm, rfl, rfl, rfl, rfl, rfl, rfl, trivial⟩ ?_ ?_
            ·exact hM23
            ·exact psum_lt hq hns2
          ·refine wpR_sub [(4, Value.int .i64 ((cO P Q 0 seen + cI P Q 0 p seen2 : Nat) : Int)), (5, Value.int .i64 ((cO P Q 1 seen + cI P Q 1 p seen2 : Nat) : Int)), (6, Value.int .i64 ((cO P Q 2 seen + cI P Q 2 p seen2 : Nat) : Int)), (8, Value.map (some ba)), (10, Value.map (some bb)), (11, Value.int .i64 p.1), (12, Value.int .i64 (p.2 : Int)), (14, Value.int .i64 (q.2 : Int)), (15, Value.int .i64 (nv Q p.1)), (17, Value.int .i64 (nv Q q.1)), (44, Value.pointer (some ⟨b1, 0, none⟩)), (51, Value.pointer (some ⟨b2, 0, none⟩)), (84, Value.bool false)] ⟨rfl, rfl, rfl, rfl, rfl, rfl, rfl, rfl, rfl, rfl, rfl, rfl, congrArg (fun z => some (Value.bool z)) g4, trivial⟩ ?_
           refine r_no rfl rfl (by decide) rfl ?_
           refine r_no rfl rfl (by decide) rfl ?_
           refine r_no rfl rfl (by decide) rfl ?_
           refine sqV (.bool false) rfl rfl rfl ?_
           refine sqV (.bool false) rfl rfl rfl ?_
           refine r_nil (e_then (k_cond_false rfl rfl ?_))
           refine k_seq (k_region (sqV (.int .i64 (p.2 : Int)) rfl rfl rfl ?_))
           refine sqV (.int .i64 (q.2 : Int)) rfl rfl rfl ?_
           refine sqV (.bool ((p.2 : Int) == (q.2 : Int))) rfl rfl rfl ?_
           refine sqV (.bool ((p.2 : Int) == (q.2 : Int))) rfl rfl rfl ?_
           refine r_nil (e_then (k_cond_false rfl (congrArg Value.bool (g4)) ?_))
           refine k_seq (k_region (sqV (.int .i64 (nv Q p.1)) rfl rfl rfl ?_))
           refine sqV (.int .i64 (nv Q q.1)) rfl rfl rfl ?_
           refine sqV (.bool ((nv Q p.1) == (nv Q q.1))) rfl rfl rfl ?_
           refine sqV (.bool ((nv Q p.1) == (nv Q q.1))) rfl rfl rfl ?_
           refine r_nil (e_then ?_)
           refine k_cond rfl rfl (fun g5 => ?_) (fun g5 => ?_)
           ·try simp only [sqC] at g5
            refine k_region ?_
            have hkk := knd_2 (Q := Q) (z := p) (y := q) ((same1_i (p := p) (q := q)).trans (by simpa using g4)) ((same2_nv hip hiq).trans (decide_eq_true (by simpa using g5)))
            have hk0 := (cnd_in (Q := Q) (p := p) (q := q) hlt hip hiq 0).trans hkk.1
            have hk1 := (cnd_in (Q := Q) (p := p) (q := q) hlt hip hiq 1).trans hkk.2.1
            have hk2 := (cnd_in (Q := Q) (p := p) (q := q) hlt hip hiq 2).trans hkk.2.2
            refine sqV (.int .i64 ((cO P Q 2 seen + cI P Q 2 p seen2 : Nat) : Int)) rfl rfl rfl ?_
            refine sqV (.int .i64 ((cO P Q 2 seen + cI P Q 2 p (seen2.push b) : Nat) : Int)) rfl rfl (x_addE (by rw [cI_yes hq hns2 hk2]; omega) (by omega) (by rw [cI_yes hq hns2 hk2]; omega) rfl rfl) ?_
            refine sqV (.int .i64 ((cO P Q 2 seen + cI P Q 2 p (seen2.push b) : Nat) : Int)) rfl rfl rfl ?_
            refine r_nil (sqE [(4, .int .i64 ((cO P Q 0 seen + cI P Q 0 p seen2 : Nat) : Int)), (5, .int .i64 ((cO P Q 1 seen + cI P Q 1 p seen2 : Nat) : Int)), (6, .int .i64 ((cO P Q 2 seen + cI P Q 2 p (seen2.push b) : Nat) : Int)), (8, .map (some ba)), (10, .map (some bb)), (11, .int .i64 p.1), (12, .int .i64 (p.2 : Int)), (44, .pointer (some ⟨b1, 0, none⟩)), (51, .pointer (some ⟨b2, 0, none⟩))] rfl (e_blk (e_blk ?_)))
            refine e_loop (seen2.push b) ⟨congrArg (fun z : Nat => some (Value.int .i64 ((cO P Q 0 seen + z : Nat) : Int))) (cI_no hq hns2 hk0).symm, congrArg (fun z : Nat => some (Value.int .i64 ((cO P Q 1 seen + z : Nat) : Int))) (cI_no hq hns2 hk1).symm, rfl, rfl, rfl, rfl, rfl, rfl, rfl, trivial⟩ ?_ ?_
            ·exact hM23
            ·exact psum_lt hq hns2
           ·try simp only [sqC] at g5
            refine k_skip (e_blk (e_blk ?_))
            have hkk := knd_n (Q := Q) (z := p) (y := q) ((same1_i (p := p) (q := q)).trans (by simpa using g4)) ((same2_nv hip hiq).trans (decide_eq_false (by simpa using g5)))
            have hk0 := (cnd_in (Q := Q) (p := p) (q := q) hlt hip hiq 0).trans hkk.1
            have hk1 := (cnd_in (Q := Q) (p := p) (q := q) hlt hip hiq 1).trans hkk.2.1
            have hk2 := (cnd_in (Q := Q) (p := p) (q := q) hlt hip hiq 2).trans hkk.2.2
            refine e_loop (seen2.push b) ⟨congrArg (fun z : Nat => some (Value.int .i64 ((cO P Q 0 seen + z : Nat) : Int))) (cI_no hq hns2 hk0).symm, congrArg (fun z : Nat => some (Value.int .i64 ((cO P Q 1 seen + z : Nat) : Int))) (cI_no hq hns2 hk1).symm, congrArg (fun z : Nat => some (Value.int .i64 ((cO P Q 2 seen + z : Nat) : Int))) (cI_no hq hns2 hk2).symm, rfl, rfl, rfl, rfl, rfl, rfl, trivial⟩ ?_ ?_
            ·exact hM23
            ·exact psum_lt hq hns2


end Go.Proofs.Ytddacakmafdgdaa
end
section
/- The places of two lists of Ids, as the reference gathers them. -/
set_option linter.unusedVariables false
set_option linter.unusedSimpArgs false
namespace Go.Kn
open Go.RowKit Go.Proofs.Ytddacakmafdgdaa
def setV (vs : Nat → Value) (n : Nat) (v : Value) : Nat → Value := fun q => if q = n then v else vs q
theorem setV_self {vs : Nat → Value} {n : Nat} : setV vs n (vs n) = vs := by
  funext q; unfold setV; split
  · rename_i h; rw [h]
  · rfl
theorem setV_at {vs : Nat → Value} {n : Nat} {v : Value} : setV vs n v n = v := by simp [setV]
theorem setV_set {vs : Nat → Value} {n : Nat} {v v' : Value} : (fun q => if q = n then v' else setV vs n v q) = setV vs n v' := by
  funext q; unfold setV; split <;> simp_all
abbrev rowsOf (A B : Option Addr) (ca cb : Nat) (xs ys : List Int) : List SRow := [⟨A, ca, xs⟩, ⟨B, cb, ys⟩]
theorem rows2_cell {w : World} {bx n : Nat} {A B : Option Addr} {ca cb : Nat} {xs ys : List Int} {e : TypeId} {r : SRow} (h : w.heap[bx]? = some (.cells #[.slice A xs.length ca, .slice B ys.length cb] e (0, 0))) (hr : (rowsOf A B ca cb xs ys)[n]? = some r) : w.cell? ⟨bx, n, none⟩ = some (.slice r.A r.xs.length r.c) := by
  rw [cell_of_row w bx n _ _ _ h]
  rcases n with _ | _ | n
  · simp at hr; subst hr; rfl
  · simp at hr; subst hr; rfl
  · simp at hr
abbrev atsV (l : List (List Int)) (xs : List Int) : List Value := (natsI (xs.map (atPos l))).map (.int .i64)
theorem ats_snoc {l : List (List Int)} {xs : List Int} {k : Nat} {y : Int} {v : Value} {L : Hp} (hy : xs[k]? = some y) (ho : atOk l y = true) (h : OwnR tInt 1 v (k + 1) (atsV l (xs.take k) ++ [.int .i64 (atI l y)]) L) : OwnR tInt 1 v (k + 1) (atsV l (xs.take (k + 1))) L := by
  rw [atI_ok ho] at h
  unfold atsV at *
  rw [take_snoc' hy]
  simpa [natsI] using h
theorem ok_snoc {l : List (List Int)} {xs : List Int} {k : Nat} {y : Int} (hy : xs[k]? = some y) (ho : atOk l y = true) (h : ∀ z ∈ xs.take k, atOk l z = true) : ∀ z ∈ xs.take (k + 1), atOk l z = true := by
  intro z hz
  rw [take_snoc' hy] at hz
  rcases List.mem_append.1 hz with hz | hz
  · exact h z hz
  · simp at hz; subst hz; exact ho
/-- how far the two rows are -/
structure Fin2 (l : List (List Int)) (xs ys : List Int) (n : Nat) (vs : Nat → Value) (Lr : Hp) : Prop where
  nil : ∀ i, n ≤ i → i < 2 → vs i = .slice none 0 0
  none : n = 0 → Lr = []
  one : n = 1 → OwnR tInt 1 (vs 0) xs.length (atsV l xs) Lr ∧ ∀ z ∈ xs, atOk l z = true
  two : n = 2 → ∃ L0 L1, Lr = L1 ++ L0 ∧ OwnR tInt 1 (vs 0) xs.length (atsV l xs) L0 ∧ OwnR tInt 1 (vs 1) ys.length (atsV l ys) L1 ∧ ∀ z ∈ xs ++ ys, atOk l z = true
theorem fin2_0 (l : List (List Int)) (xs ys : List Int) : Fin2 l xs ys 0 (fun _ => .slice none 0 0) [] := ⟨fun _ _ _ => rfl, fun _ => rfl, fun h => absurd h (by decide), fun h => absurd h (by decide)⟩
theorem fin2_step {l : List (List Int)} {xs ys : List Int} {A B : Option Addr} {ca cb n : Nat} {vs : Nat → Value} {Lr Lg : Hp} {r : SRow} {v : Value} (h : Fin2 l xs ys n vs Lr) (hr : (rowsOf A B ca cb xs ys)[n]? = some r) (ho : OwnR tInt 1 v r.xs.length (atsV l r.xs) Lg) (hok : ∀ z ∈ r.xs, atOk l z = true) : Fin2 l xs ys (n + 1) (setV vs n v) (Lg ++ Lr) := by
  rcases n with _ | _ | n
  · simp at hr; subst hr
    have := h.none rfl
    subst this
    refine ⟨fun i h1 h2 => ?_, fun h => absurd h (by decide), fun _ => ⟨by rw [List.append_nil]; exact ho, hok⟩, fun h => absurd h (by decide)⟩
    have : i = 1 := by omega
    subst this
    exact h.nil 1 (by omega) (by omega)
  · simp at hr; subst hr
    obtain ⟨h1, h2⟩ := h.one rfl
    refine ⟨fun i h1 h2 => by omega, fun h => absurd h (by decide), fun h => absurd h (by decide), fun _ => ⟨Lr, Lg, rfl, h1, ho, fun z hz => ?_⟩⟩
    rcases List.mem_append.1 hz with hz | hz
    · exact h2 z hz
    · exact hok z hz
  · simp at hr
theorem fin2_bad {l : List (List Int)} {xs ys : List Int} {A B : Option Addr} {ca cb n k : Nat} {r : SRow} {y : Int} (hr : (rowsOf A B ca cb xs ys)[n]? = some r) (hy : r.xs[k]? = some y) (h : atOk l y = false) : gapErr2 l xs ys = 7 := by
  have hym := List.mem_of_getElem? hy
  rcases n with _ | _ | n
  · simp at hr; subst hr; exact gapErr2_2 (List.mem_append_left _ hym) h
  · simp at hr; subst hr; exact gapErr2_2 (List.mem_append_right _ hym) h
  · simp at hr
end Go.Kn
end
section
/- Hf: what Go functions of this seat come to, printed by walk.py over the engine. -/
set_option linter.unusedVariables false
set_option linter.unusedSimpArgs false
set_option maxRecDepth 100000
namespace Go.Proofs.Ytddacakmafdgdaa
open Go.RowKit Go.Kn

theorem gapR_s (Al Aa Ab : Option Addr) (n cl ca cb : Nat) (l : List (List Int)) (xs ys : List Int) (w : World) (hl : RdE intsE 14 w Al n l) (hgd : Kn.Good l) (ha : RdE intE 1 w Aa xs.length xs) (hb : RdE intE 1 w Ab ys.length ys) (h1 : xs.length ≤ 1048576) (h2 : ys.length ≤ 1048576) :
  Calls Try.prog 11 #[Value.slice Al n cl, Value.slice Aa xs.length ca, Value.slice Ab ys.length cb] w fun e w' => ∃ r, e = .returned r ∧ ∃ g no, r = .tuple #[.int .i64 g, .int .i64 no] ∧ no = gapErr2 l xs ys ∧ (no ≠ 0 → g = 0) ∧ (no = 0 → xs ≠ [] ∧ ys ≠ [] ∧ (∀ z ∈ xs ++ ys, atOk l z = true) ∧ GapPs l (xs.map (atPos l)) (ys.map (atPos l)) g) ∧ Mem w No w' [] := by
 refine calls_k (args := [Value.slice Al n cl, Value.slice Aa xs.length ca, Value.slice Ab ys.length cb]) 58 [(0, Value.slice Al n cl), (1, Value.slice Aa xs.length ca), (2, Value.slice Ab ys.length cb)] Try.func11 rfl rfl ⟨rfl, rfl, rfl, trivial⟩ ?_
 have hM := Mem.nil w No
 have hll := hl.len
 have hn3 : n ≤ 300 := by have := hgd.len; omega
 have hes : ∀ e ∈ rowsOf Aa Ab ca cb xs ys, RdE intE 1 w e.A e.xs.length e.xs := by intro e he; simp at he; rcases he with rfl | rfl; exact ha; exact hb
 have hlen2 : ∀ e ∈ rowsOf Aa Ab ca cb xs ys, e.xs.length ≤ 1048576 := by intro e he; simp at he; rcases he with rfl | rfl; exact h1; exact h2
 refine k_seq (k_region ?_)
 skip
 refine sqV (.int .i64 0) rfl rfl rfl ?_
 refine sqV (.int .i64 0) rfl rfl rfl ?_
 refine r_nil (e_then (k_seq (k_region (r_alloc hM (z := Value.agg #[Value.slice none 0 0, Value.slice none 0 0]) rfl rfl ?_))))
 intro b3 w1 hM2 hb3
 replace hM2 : Mem w No w1 [(b3, .cells #[Value.slice none 0 0, Value.slice none 0 0] 71 (0, 0))] := hM2
 refine r_nil (e_then (k_seq (k_seq (k_region (sqV (.slice Aa xs.length ca) rfl rfl rfl ?_)))))
 refine sqV (.slice Ab ys.length cb) rfl rfl rfl ?_
 refine r_new (fun b => .slice (some ⟨b, 0, none⟩) 2 2) (.cells #[Value.slice Aa xs.length ca, Value.slice Ab ys.length cb] 30 (0, 0)) hM2 (by kernel_rfl) rfl rfl ?_
 intro b6 w4 hM5 hb6
 replace hM5 : Mem w No w4 [(b6, .cells #[Value.slice Aa xs.length ca, Value.slice Ab ys.length cb] 30 (0, 0)), (b3, .cells #[Value.slice none 0 0, Value.slice none 0 0] 71 (0, 0))] := hM5
 refine sqV (.int .i64 2) rfl rfl (x_len rfl rfl) ?_
 refine sqV (.int .i64 0) rfl rfl rfl ?_
 refine r_nil (e_then (k_block (k_loop (σ := Nat × (Nat → Value) × Hp) (fun ⟨m, vs, Lr⟩ => [(0, .slice Al n cl), (1, .slice Aa xs.length ca), (2, .slice Ab ys.length cb), (8, .pointer (some ⟨b3, 0, none⟩)), (16, .slice (some ⟨b6, 0, none⟩) 2 2), (17, .int .i64 2), (18, .int .i64 (m : Int))]) (fun ⟨m, vs, Lr⟩ w_ => Mem w No w_ ((b6, .cells #[.slice Aa xs.length ca, .slice Ab ys.length cb] 30 (0, 0)) :: (b3, .cells (rowC 2 (fun v => v) vs) 71 (0, 0)) :: Lr) ∧ m ≤ 2 ∧ Fin2 l xs ys m vs Lr) (fun ⟨m, vs, Lr⟩ => 2 - m) (0, fun _ => .slice none 0 0, []) (sqS rfl) ⟨hM5, by omega, fin2_0 l xs ys⟩ ?_)))
 rintro ⟨m, vs, Lr⟩ w7 ⟨hM8, hm, hfin⟩
 refine sqK [(0, .slice Al n cl), (1, .slice Aa xs.length ca), (2, .slice Ab ys.length cb), (8, .pointer (some ⟨b3, 0, none⟩)), (16, .slice (some ⟨b6, 0, none⟩) 2 2), (17, .int .i64 2), (18, .int .i64 (m : Int))] rfl (k_seq (k_region (sqV (.bool (decide ((m : Int) < 2))) rfl rfl rfl ?_)))
 refine r_nil (sqE [(0, .slice Al n cl), (1, .slice Aa xs.length ca), (2, .slice Ab ys.length cb), (8, .pointer (some ⟨b3, 0, none⟩)), (16, .slice (some ⟨b6, 0, none⟩) 2 2), (17, .int .i64 2), (18, .int .i64 (m : Int)), (19, .bool (decide ((m : Int) < 2)))] rfl (e_then (k_seq ?_)))
 refine k_cond rfl rfl (fun h => ?_) (fun h => ?_)
 ·try simp only [sqC] at h
  refine k_skip (e_then (k_seq (k_block (k_seq (k_region ?_)))))
  obtain ⟨r_, hr_⟩ : ∃ r, (rowsOf Aa Ab ca cb xs ys)[m]? = some r := ⟨(rowsOf Aa Ab ca cb xs ys)[m]'(by simp; omega), by simp⟩
  have hr_m := List.mem_of_getElem? hr_
  have hr_l := hlen2 r_ hr_m
  refine sqV (.int .i64 (m : Int)) rfl rfl rfl ?_
  refine sqV (.pointer (some ⟨b6, m, none⟩)) rfl rfl (x_indexAddrL (i := m) (sz := 1) (by omega) rfl rfl rfl rfl (by omega)) ?_
  refine sqV (.slice r_.A r_.xs.length r_.c) rfl rfl (x_load (rows2_cell (hM8.get 0 rfl) hr_) rfl rfl) ?_
  refine sqV (.int .i64 (m : Int)) rfl rfl rfl ?_
  refine sqV (.slice r_.A r_.xs.length r_.c) rfl rfl rfl ?_
  refine r_nil (e_then (k_seq (k_region (sqV (.slice r_.A r_.xs.length r_.c) rfl rfl rfl ?_))))
  refine sqV (.int .i64 (r_.xs.length : Int)) rfl rfl (x_len rfl rfl) ?_
  refine sqV (.int .i64 0) rfl rfl rfl ?_
  refine r_nil (e_then (k_block (k_loop (σ := Nat × Value × Hp) (fun ⟨k, v, Lg⟩ => [(0, .slice Al n cl), (1, .slice Aa xs.length ca), (2, .slice Ab ys.length cb), (8, .pointer (some ⟨b3, 0, none⟩)), (9, .int .i64 (m : Int)), (16, .slice (some ⟨b6, 0, none⟩) 2 2), (17, .int .i64 2), (18, .int .i64 (m : Int)), (23, .slice r_.A r_.xs.length r_.c), (24, .int .i64 (r_.xs.length : Int)), (25, .int .i64 (k : Int))]) (fun ⟨k, v, Lg⟩ w_ => Mem w No w_ ((b6, .cells #[.slice Aa xs.length ca, .slice Ab ys.length cb] 30 (0, 0)) :: (b3, .cells (rowC 2 (fun v => v) (setV vs m v)) 71 (0, 0)) :: (Lg ++ Lr)) ∧ k ≤ r_.xs.length ∧ OwnR tInt 1 v k (atsV l (r_.xs.take k)) Lg ∧ ∀ z ∈ r_.xs.take k, atOk l z = true) (fun ⟨k, v, Lg⟩ => r_.xs.length - k) (0, vs m, []) (sqS rfl) ⟨by rw [setV_self]; exact hM8, Nat.zero_le _, by rw [hfin.nil m (Nat.le_refl _) (by omega)]; exact OwnR.nil _ _, by simp⟩ ?_)))
  rintro ⟨k, v, Lg⟩ w9 ⟨hM10, hk, hr, hok⟩
  refine sqK [(0, .slice Al n cl), (1, .slice Aa xs.length ca), (2, .slice Ab ys.length cb), (8, .pointer (some ⟨b3, 0, none⟩)), (9, .int .i64 (m : Int)), (16, .slice (some ⟨b6, 0, none⟩) 2 2), (17, .int .i64 2), (18, .int .i64 (m : Int)), (23, .slice r_.A r_.xs.length r_.c), (24, .int .i64 (r_.xs.length : Int)), (25, .int .i64 (k : Int))] rfl (k_seq (k_region (sqV (.bool (decide ((k : Int) < (r_.xs.length : Int)))) rfl rfl rfl ?_)))
  refine r_nil (e_then (k_seq ?_))
  refine k_cond rfl rfl (fun h3 => ?_) (fun h3 => ?_)
  ·try simp only [sqC] at h3
   refine k_skip (e_then (k_seq (k_block (k_seq (k_region ?_)))))
   obtain ⟨y, hy⟩ : ∃ y, r_.xs[k]? = some y := ⟨r_.xs[k]'(by omega), by simp⟩
   refine sqV (.pointer (some ((adr r_.A).add (k * 1)))) rfl rfl (x_indexAddrN (i := k) (sz := 1) (hes r_ hr_m).here (by omega) rfl rfl rfl rfl) ?_
   refine sqV (.int .i64 y) rfl rfl (x_loadEInt ((hes r_ hr_m).up hM10) hy rfl rfl) ?_
   refine sqV (.int .i64 y) rfl rfl rfl ?_
   refine r_nil (sqE [(0, .slice Al n cl), (1, .slice Aa xs.length ca), (2, .slice Ab ys.length cb), (8, .pointer (some ⟨b3, 0, none⟩)), (9, .int .i64 (m : Int)), (12, .int .i64 y), (16, .slice (some ⟨b6, 0, none⟩) 2 2), (17, .int .i64 2), (18, .int .i64 (m : Int)), (23, .slice r_.A r_.xs.length r_.c), (24, .int .i64 (r_.xs.length : Int)), (25, .int .i64 (k : Int))] rfl (e_then (k_seq (k_region (sqV (.slice Al n cl) rfl rfl rfl ?_)))))
   refine sqV (.int .i64 y) rfl rfl rfl ?_
   refine r_call (f := 31) (args := #[Value.slice Al n cl, Value.int .i64 y]) (w' := w9) rfl rfl (x_call (vs := [Value.slice Al n cl, Value.int .i64 y]) (enter31 _ _) rfl rfl) (likeAt_s Al n cl l y w9 (hl.up hM10) hgd.sorted hn3) ?_
   rintro v_ w11 ⟨rfl, hM12⟩
   replace hM12 := hM10.grow hM12.kept
   refine sqV (.int .i64 (atI l y)) rfl rfl rfl ?_
   refine r_nil (e_then (k_seq (k_seq (k_region (sqV (.int .i64 (atI l y)) rfl rfl rfl ?_)))))
   refine sqV (.bool (decide ((atI l y) < 0))) rfl rfl rfl ?_
   refine r_nil (e_then ?_)
   refine k_cond rfl rfl (fun h4 => ?_) (fun h4 => ?_)
   ·try simp only [sqC] at h4
    refine k_seq (k_region (sqV (.int .i64 0) rfl rfl rfl ?_))
    refine sqV (.int .i64 7) rfl rfl rfl ?_
    refine r_nil (e_then (k_ret (e_then_ret (e_blk_ret (e_then_ret (e_loop_ret (e_blk_ret (e_blk_ret (e_then_ret (e_loop_ret (e_blk_ret (e_then_ret (e_ret2 rfl rfl rfl ?_)))))))))))))
    exact ⟨_, rfl, _, _, rfl, (fin2_bad hr_ hy (atI_neg.1 h4)).symm, fun _ => rfl, fun h0 => absurd h0 (by decide), hM12.drop⟩
   ·try simp only [sqC] at h4
    refine k_skip (e_then (k_region ?_))
    have hoy : atOk l y = true := by cases h9 : atOk l y with | true => rfl | false => have := atI_neg.2 h9; omega
    refine sqV (.int .i64 (m : Int)) rfl rfl rfl ?_
    refine sqV (.int .i64 (m : Int)) rfl rfl rfl ?_
    refine sqV (.pointer (some ⟨b3, m, none⟩)) rfl rfl (x_indexAddrB (i := m) (sz := 1) (by omega) rfl rfl rfl rfl (by omega)) ?_
    refine sqV (v) rfl rfl (x_load (hM12.cell 1 rfl (by rw [rowC_get (by omega), setV_at])) rfl rfl) ?_
    refine sqV (.int .i64 (atI l y)) rfl rfl rfl ?_
    refine r_new (fun b => .slice (some ⟨b, 0, none⟩) 1 1) (.cells #[Value.int .i64 (atI l y)] 3 (0, 0)) hM12 (by kernel_rfl) rfl rfl ?_
    intro b15 w13 hM14 hb15
    replace hM14 : Mem w No w13 ((b15, .cells #[Value.int .i64 (atI l y)] 3 (0, 0)) :: (b6, .cells #[Value.slice Aa xs.length ca, Value.slice Ab ys.length cb] 30 (0, 0)) :: (b3, .cells (rowC 2 (fun v => v) (setV vs m v)) 71 (0, 0)) :: (Lg ++ Lr)) := hM14
    refine r_append (bytes := 8) (z := .int .i64 0) (A := some ⟨b15, 0, none⟩) (m := 1) (c := 1) (news := [Value.int .i64 (atI l y)]) hr (hM14.perm (List.perm_append_comm_assoc ([(b15, .cells #[Value.int .i64 (atI l y)] 3 (0, 0)), (b6, .cells #[Value.slice Aa xs.length ca, Value.slice Ab ys.length cb] 30 (0, 0)), (b3, .cells (rowC 2 (fun v => v) (setV vs m v)) 71 (0, 0))] : Hp) Lg Lr)) (fun _ => rfl) (rfl) (hM14.cells 0 rfl) (by simp [Value.oneCell']) (by omega) (by kernel_rfl) (by kernel_rfl) rfl (by decide) (by decide) rfl rfl rfl ?_
    intro v9 L9 w16 hr9 hM17
    replace hM17 := (hM17).perm (List.perm_append_comm_assoc L9 ([(b15, .cells #[Value.int .i64 (atI l y)] 3 (0, 0)), (b6, .cells #[Value.slice Aa xs.length ca, Value.slice Ab ys.length cb] 30 (0, 0)), (b3, .cells (rowC 2 (fun v => v) (setV vs m v)) 71 (0, 0))] : Hp) Lr)
    have hone_v9 := hr9.one
    replace hM17 : Mem w No w16 ((b15, .cells #[Value.int .i64 (atI l y)] 3 (0, 0)) :: (b6, .cells #[Value.slice Aa xs.length ca, Value.slice Ab ys.length cb] 30 (0, 0)) :: (b3, .cells (rowC 2 (fun v => v) (setV vs m v)) 71 (0, 0)) :: (L9 ++ Lr)) := hM17
    refine sqV (.pointer (some ⟨b3, m, none⟩)) rfl rfl (x_indexAddrB (i := m) (sz := 1) (by omega) rfl rfl rfl rfl (by omega)) ?_
    refine r_store (v := v9) hM17 2 rfl (by rw [rowC_size]; omega) (by first | rfl | assumption) rfl rfl rfl rfl ?_
    intro w18 hM19
    replace hM19 : Mem w No w18 ((b15, .cells #[Value.int .i64 (atI l y)] 3 (0, 0)) :: (b6, .cells #[Value.slice Aa xs.length ca, Value.slice Ab ys.length cb] 30 (0, 0)) :: (b3, .cells ((rowC 2 (fun v => v) (setV vs m v)).setIfInBounds m (v9)) 71 (0, 0)) :: (L9 ++ Lr)) := hM19
    refine r_nil (sqE [(0, .slice Al n cl), (1, .slice Aa xs.length ca), (2, .slice Ab ys.length cb), (8, .pointer (some ⟨b3, 0, none⟩)), (9, .int .i64 (m : Int)), (16, .slice (some ⟨b6, 0, none⟩) 2 2), (17, .int .i64 2), (18, .int .i64 (m : Int)), (23, .slice r_.A r_.xs.length r_.c), (24, .int .i64 (r_.xs.length : Int)), (25, .int .i64 (k : Int))] rfl (e_blk (e_then (k_region ?_))))
    rw [rowV_set (by omega), setV_set] at hM19
    have hM20 : Mem w No w18 ((b15, .cells #[Value.int .i64 (atI l y)] 3 (0, 0)) :: (b6, .cells #[Value.slice Aa xs.length ca, Value.slice Ab ys.length cb] 30 (0, 0)) :: (b3, .cells (rowC 2 (fun v => v) (setV vs m v9)) 71 (0, 0)) :: (L9 ++ Lr)) := hM19
    refine sqV (.int .i64 ((k : Int) + 1)) rfl rfl (x_addE rfl (by omega) (by omega) rfl rfl) ?_
    refine sqV (.int .i64 ((k : Int) + 1)) rfl rfl rfl ?_
    refine r_nil ?_
    refine e_loop (k + 1, v9, L9) (sqS rfl) ?_ ?_
    ·exact ⟨(hM20.pickT [(b15, .cells #[Value.int .i64 (atI l y)] 3 (0, 0)), (b6, .cells #[Value.slice Aa xs.length ca, Value.slice Ab ys.length cb] 30 (0, 0)), (b3, .cells (rowC 2 (fun v => v) (setV vs m v9)) 71 (0, 0))] (L9 ++ Lr) rfl [1, 2] _ (by decide) rfl), by omega, ats_snoc hy hoy hr9, ok_snoc hy hoy hok⟩
    ·(try dsimp only); omega
  ·try simp only [sqC] at h3
   refine k_exit (e_then_exit (e_loop_exit (e_blk_exit (e_blk (e_then (k_region ?_))))))
   have hkl : r_.xs.take k = r_.xs := List.take_of_length_le (by omega)
   have hkx : k = r_.xs.length := by omega
   rw [hkl, hkx] at hr
   rw [hkl] at hok
   refine sqV (.int .i64 ((m : Int) + 1)) rfl rfl (x_addE rfl (by omega) (by omega) rfl rfl) ?_
   refine sqV (.int .i64 ((m : Int) + 1)) rfl rfl rfl ?_
   refine r_nil ?_
   refine e_loop (m + 1, setV vs m v, Lg ++ Lr) (sqS rfl) ?_ ?_
   ·exact ⟨hM10, by omega, fin2_step hfin hr_ hr hok⟩
   ·(try dsimp only); omega
 ·try simp only [sqC] at h
  refine k_exit (e_then_exit (e_loop_exit (e_blk_exit (e_then (k_seq (k_seq (k_region ?_)))))))
  have hm2 : m = 2 := by omega
  obtain ⟨L0, L1, rfl, ho0, ho1, hoks⟩ := hfin.two hm2
  refine sqV (.slice Aa xs.length ca) rfl rfl rfl ?_
  refine sqV (.int .i64 (xs.length : Int)) rfl rfl (x_len rfl rfl) ?_
  refine sqV (.bool ((xs.length : Int) == 0)) rfl rfl rfl ?_
  refine sqV (.bool ((xs.length : Int) == 0)) rfl rfl rfl ?_
  rcases Bool.eq_false_or_eq_true ((xs.length : Int) == 0) with g1 | g1
  ·refine wpR_sub [(0, Value.slice Al n cl), (2, Value.slice Ab ys.length cb), (8, Value.pointer (some ⟨b3, 0, none⟩)), (47, Value.bool true)] ⟨rfl, rfl, rfl, congrArg (fun z => some (Value.bool z)) g1, trivial⟩ ?_
   refine r_no rfl rfl (by decide) rfl ?_
   refine r_no rfl rfl (by decide) rfl ?_
   refine r_no rfl rfl (by decide) rfl ?_
   refine sqV (.bool true) rfl rfl rfl ?_
   refine r_nil (e_then (k_cond_true rfl rfl ?_))
   refine k_seq (k_region (sqV (.int .i64 0) rfl rfl rfl ?_))
   refine sqV (.int .i64 7) rfl rfl rfl ?_
   refine r_nil (sqE [(6, .int .i64 0), (7, .int .i64 7)] rfl (e_then (k_ret (e_then_ret (e_ret2 rfl rfl rfl ?_)))))
   exact ⟨_, rfl, _, _, rfl, (gapErr2_3 (.inl (List.eq_nil_of_length_eq_zero (by simpa using g1)))).symm, fun _ => rfl, fun h0 => absurd h0 (by decide), hM8.drop⟩
  ·refine wpR_sub [(0, Value.slice Al n cl), (2, Value.slice Ab ys.length cb), (8, Value.pointer (some ⟨b3, 0, none⟩)), (47, Value.bool false)] ⟨rfl, rfl, rfl, congrArg (fun z => some (Value.bool z)) g1, trivial⟩ ?_
   refine r_yes rfl rfl ?_
   refine sqV (.slice Ab ys.length cb) rfl rfl rfl ?_
   refine r_yes rfl rfl ?_
   refine sqV (.int .i64 (ys.length : Int)) rfl rfl (x_len rfl rfl) ?_
   refine r_yes rfl rfl ?_
   refine sqV (.bool ((ys.length : Int) == 0)) rfl rfl rfl ?_
   refine sqV (.bool ((ys.length : Int) == 0)) rfl rfl rfl ?_
   refine r_nil (e_then ?_)
   refine k_cond rfl rfl (fun h5 => ?_) (fun h5 => ?_)
   ·try simp only [sqC] at h5
    refine k_seq (k_region (sqV (.int .i64 0) rfl rfl rfl ?_))
    refine sqV (.int .i64 7) rfl rfl rfl ?_
    refine r_nil (e_then (k_ret (e_then_ret (e_ret2 rfl rfl rfl ?_))))
    exact ⟨_, rfl, _, _, rfl, (gapErr2_3 (.inr (List.eq_nil_of_length_eq_zero (by simpa using h5)))).symm, fun _ => rfl, fun h0 => absurd h0 (by decide), hM8.drop⟩
   ·try simp only [sqC] at h5
    refine k_skip (e_then (k_seq (k_region ?_)))
    have hxn : xs ≠ [] := by rintro rfl; simp at g1
    have hyn : ys ≠ [] := by rintro rfl; simp at h5
    have he0 := gapErr2_0 hoks (by rintro (e | e); exact hxn e; exact hyn e)
    obtain ⟨A0, c0, hv0, _, _, _⟩ := ho0.slice
    obtain ⟨A1, c1, hv1, _, _, _⟩ := ho1.slice
    have hok1 : ∀ p ∈ xs.map (atPos l), p < n := by intro p hp; obtain ⟨z, hz, rfl⟩ := List.mem_map.1 hp; rw [← hll]; exact place_lt hgd.sorted (hoks z (List.mem_append_left _ hz))
    have hok2 : ∀ p ∈ ys.map (atPos l), p < n := by intro p hp; obtain ⟨z, hz, rfl⟩ := List.mem_map.1 hp; rw [← hll]; exact place_lt hgd.sorted (hoks z (List.mem_append_right _ hz))
    refine sqV (.slice Al n cl) rfl rfl rfl ?_
    refine sqV (.pointer (some ⟨b3, 0, none⟩)) rfl rfl (x_indexAddrB (i := 0) (sz := 1) (by omega) rfl rfl rfl rfl (by omega)) ?_
    refine sqV (.slice A0 xs.length c0) rfl rfl (by rw [← hv0]; exact x_load (hM8.cell 1 rfl (rowC_get (by omega))) rfl rfl) ?_
    refine sqV (.pointer (some ⟨b3, 1, none⟩)) rfl rfl (x_indexAddrB (i := 1) (sz := 1) (by omega) rfl rfl rfl rfl (by omega)) ?_
    refine sqV (.slice A1 ys.length c1) rfl rfl (by rw [← hv1]; exact x_load (hM8.cell 1 rfl (rowC_get (by omega))) rfl rfl) ?_
    rw [hv0] at ho0
    rw [hv1] at ho1
    refine r_call (f := 35) (args := #[Value.slice Al n cl, Value.slice A0 xs.length c0, Value.slice A1 ys.length c1]) (w' := w7) rfl rfl (x_call (vs := [Value.slice Al n cl, Value.slice A0 xs.length c0, Value.slice A1 ys.length c1]) (enter35 _ _) rfl rfl) (gapOfP_s Al A0 A1 n cl xs.length c0 ys.length c1 l (xs.map (atPos l)) (ys.map (atPos l)) w7 (hl.up hM8) hgd (ho0.rdI (Mem.right (L := L1) (L' := L0) hM8.tail.tail).holds) (ho1.rdI (Mem.left (L := L1) (L' := L0) hM8.tail.tail).holds) hok1 hok2 (by omega) (by omega)) ?_
    rintro v_ w22 ⟨g, rfl, hg, hM23⟩
    replace hM23 := hM8.grow hM23.kept
    refine sqV (.int .i64 g) rfl rfl rfl ?_
    refine sqV (.int .i64 0) rfl rfl rfl ?_
    refine r_nil (e_then (k_ret (e_ret2 rfl rfl rfl ?_)))
    exact ⟨_, rfl, _, _, rfl, he0.symm, fun h0 => absurd rfl h0, fun _ => ⟨hxn, hyn, hoks, hg⟩, hM23.drop⟩


end Go.Proofs.Ytddacakmafdgdaa
end
section
/- Two lists of groups, as the reference numbers them. -/
set_option linter.unusedVariables false
set_option linter.unusedSimpArgs false
namespace Go.Kn
open Go.RowKit Go.Proofs.Ytddacakmafdgdaa
structure GRow where
  A : Option Addr
  c : Nat
  rows : List SRow
abbrev grps (A B : Option Addr) (ca cb : Nat) (ra rb : List SRow) : List GRow := [⟨A, ca, ra⟩, ⟨B, cb, rb⟩]
theorem grps_cell {w : World} {bx n na nb : Nat} {A B : Option Addr} {ca cb : Nat} {ra rb : List SRow} {e : TypeId} {g : GRow} (h : w.heap[bx]? = some (.cells #[.slice A na ca, .slice B nb cb] e (0, 0))) (ha : ra.length = na) (hb : rb.length = nb) (hr : (grps A B ca cb ra rb)[n]? = some g) : w.cell? ⟨bx, n, none⟩ = some (.slice g.A g.rows.length g.c) := by
  rw [cell_of_row w bx n _ _ _ h]
  subst ha; subst hb
  rcases n with _ | _ | n
  · simp at hr; subst hr; rfl
  · simp at hr; subst hr; rfl
  · simp at hr
def lg (g : GRow) : Prop := 300 < (flat (xssOf g.rows)).length
/-- maps that are made, lists that are counted -/
structure FinA (ra rb : List SRow) (n : Nat) (ms : Nat → Value) (Lr : Hp) : Prop where
  zero : n = 0 → Lr = []
  one : n = 1 → ∃ ba, ms 0 = .map (some ba) ∧ Lr = [(ba, mapO [] 0)] ∧ ¬ 300 < (flat (xssOf ra)).length
  two : n = 2 → ∃ ba bb, ms 0 = .map (some ba) ∧ ms 1 = .map (some bb) ∧ Lr = [(bb, mapO [] 0), (ba, mapO [] 0)] ∧ ¬ (300 < (flat (xssOf ra)).length ∨ 300 < (flat (xssOf rb)).length)
theorem finA_0 (ra rb : List SRow) : FinA ra rb 0 (fun _ => .map none) [] := ⟨fun _ => rfl, fun h => absurd h (by decide), fun h => absurd h (by decide)⟩
theorem finA_step {ra rb : List SRow} {A B : Option Addr} {ca cb n bo : Nat} {ms : Nat → Value} {Lr : Hp} {g : GRow} (h : FinA ra rb n ms Lr) (hr : (grps A B ca cb ra rb)[n]? = some g) (hl : ¬ lg g) : FinA ra rb (n + 1) (setV ms n (.map (some bo))) ((bo, mapO [] 0) :: Lr) := by
  rcases n with _ | _ | n
  · simp at hr; subst hr
    have := h.zero rfl
    subst this
    exact ⟨fun h => absurd h (by decide), fun _ => ⟨bo, rfl, rfl, hl⟩, fun h => absurd h (by decide)⟩
  · simp at hr; subst hr
    obtain ⟨ba, h1, rfl, h2⟩ := h.one rfl
    exact ⟨fun h => absurd h (by decide), fun h => absurd h (by decide), fun _ => ⟨ba, bo, h1, rfl, rfl, fun h => h.elim h2 hl⟩⟩
  · simp at hr
theorem finA_bad {ra rb : List SRow} {A B : Option Addr} {ca cb n : Nat} {g : GRow} (hr : (grps A B ca cb ra rb)[n]? = some g) (hl : lg g) : prsErr (xssOf ra) (xssOf rb) = 4 := by
  rcases n with _ | _ | n
  · simp at hr; subst hr; exact prs_large (.inl hl)
  · simp at hr; subst hr; exact prs_large (.inr hl)
  · simp at hr
/-- the two maps -/
def maps2 (mb : Nat → Nat) (es : Nat → List (Int × Nat)) : Hp := [(mb 1, mapO (esOf (es 1)) (es 1).length), (mb 0, mapO (esOf (es 0)) (es 0).length)]
def setE (es : Nat → List (Int × Nat)) (n : Nat) (v : List (Int × Nat)) : Nat → List (Int × Nat) := fun q => if q = n then v else es q
theorem maps2_get {p q : Nat × Obj} {mb : Nat → Nat} {es : Nat → List (Int × Nat)} {m : Nat} (hm : m < 2) : (p :: q :: maps2 mb es)[2 + (1 - m)]? = some (mb m, mapO (esOf (es m)) (es m).length) := by
  rcases m with _ | _ | m
  · rfl
  · rfl
  · omega
theorem maps2_set {p q : Nat × Obj} {mb : Nat → Nat} {es : Nat → List (Int × Nat)} {m i : Nat} {x : Int} (hm : m < 2) : (p :: q :: maps2 mb es).set (2 + (1 - m)) (mb m, mapO (esOf (es m) ++ [(⟨x, .int .i64 (i : Int), (es m).length⟩ : Ent)]) ((es m).length + 1)) = p :: q :: maps2 mb (setE es m (es m ++ [(x, i)])) := by
  rcases m with _ | _ | m
  · simp [maps2, setE, esOf_snoc]
  · simp [maps2, setE, esOf_snoc]
  · omega
theorem setE_at {es : Nat → List (Int × Nat)} {n : Nat} {v : List (Int × Nat)} : setE es n v n = v := by simp [setE]
theorem setE_set {es : Nat → List (Int × Nat)} {n : Nat} {v v' : List (Int × Nat)} : setE (setE es n v) n v' = setE es n v' := by
  funext q; unfold setE; split <;> rfl
theorem setE_self {es : Nat → List (Int × Nat)} {n : Nat} {v : List (Int × Nat)} (h : es n = v) : setE es n v = es := by
  funext q; unfold setE; split
  · rename_i e; rw [e, h]
  · rfl
structure FinB (ra rb : List SRow) (n : Nat) (es : Nat → List (Int × Nat)) : Prop where
  nil : ∀ i, n ≤ i → i < 2 → es i = []
  one : 0 < n → es 0 = plAll (xssOf ra) ∧ ((es 0).map (·.1)).Nodup
  two : 1 < n → es 1 = plAll (xssOf rb) ∧ ((es 1).map (·.1)).Nodup
theorem finB_0 (ra rb : List SRow) : FinB ra rb 0 (fun _ => []) := ⟨fun _ _ _ => rfl, fun h => by omega, fun h => by omega⟩
theorem finB_step {ra rb : List SRow} {A B : Option Addr} {ca cb n : Nat} {es : Nat → List (Int × Nat)} {g : GRow} {v : List (Int × Nat)} (h : FinB ra rb n es) (hr : (grps A B ca cb ra rb)[n]? = some g) (hv : v = plAll (xssOf g.rows)) (hn : (v.map (·.1)).Nodup) : FinB ra rb (n + 1) (setE es n v) := by
  subst hv
  rcases n with _ | _ | n
  · simp at hr; subst hr
    refine ⟨fun i h1 h2 => ?_, fun _ => ⟨rfl, hn⟩, fun h => by omega⟩
    have : i = 1 := by omega
    subst this
    exact h.nil 1 (by omega) (by omega)
  · simp at hr; subst hr
    exact ⟨fun i h1 h2 => by omega, fun _ => h.one (by omega), fun _ => ⟨rfl, hn⟩⟩
  · simp at hr
theorem finB_bad {ra rb : List SRow} {A B : Option Addr} {ca cb n : Nat} {g : GRow} (hr : (grps A B ca cb ra rb)[n]? = some g) (hg : ¬ (300 < (flat (xssOf ra)).length ∨ 300 < (flat (xssOf rb)).length)) (h : numErr (xssOf g.rows) = 6) : prsErr (xssOf ra) (xssOf rb) = 6 := by
  rcases n with _ | _ | n
  · simp at hr; subst hr; exact prs_6 hg (.inl h)
  · simp at hr; subst hr; exact prs_6 hg (.inr h)
  · simp at hr
theorem prs_zero {xa xb : List (List Int)} (hg : ¬ (300 < (flat xa).length ∨ 300 < (flat xb).length)) (ha : ((plAll xa).map (·.1)).Nodup) (hb : ((plAll xb).map (·.1)).Nodup) : prsErr xa xb = 0 := by
  rw [prs_b hg (num_ok ha)]; exact num_ok hb
theorem RdE.takeN {α : Type} {enc : α → List Value} {sz : Nat} {w : World} {A : Option Addr} {n : Nat} {l : List α} (h : RdE enc sz w A n l) (k : Nat) (hk : k ≤ n) : RdE enc sz w A k (l.take k) :=
  ⟨by rw [List.length_take, h.len]; omega, fun x hx => h.size x (List.mem_of_mem_take hx), fun hp => h.here (by omega), fun j x i v hj hi => by
    rw [List.getElem?_take] at hj
    split at hj
    · exact h.cell j x i v hj hi
    · cases hj⟩
abbrev fsts (zs : List (Int × Nat)) : List Int := zs.map fun z => z.1
theorem fsts_get {zs : List (Int × Nat)} {i : Nat} {z : Int × Nat} (h : zs[i]? = some z) : (fsts zs)[i]? = some z.1 := by simp [fsts, h]
theorem fsts_take {zs : List (Int × Nat)} {i k : Nat} {z : Int × Nat} (h : zs[k]? = some z) (hk : k < i) : ((fsts zs).take i)[k]? = some z.1 := by rw [List.getElem?_take_of_lt hk]; exact fsts_get h
theorem both_mem {P Q zs : List (Int × Nat)} (h : zs.Perm (P.filter (isIn Q))) {z : Int × Nat} (hz : z ∈ zs) : z ∈ P ∧ (numOf Q z.1).isSome = true := by
  have := List.mem_filter.1 (h.mem_iff.1 hz)
  exact ⟨this.1, by simpa [isIn] using this.2⟩
end Go.Kn
end
section
/- Hg: what Go functions of this seat come to, printed by walk.py over the engine. -/
set_option linter.unusedVariables false
set_option linter.unusedSimpArgs false
set_option maxRecDepth 100000
namespace Go.Proofs.Ytddacakmafdgdaa
open Go.RowKit Go.Kn

theorem pairsR_s (w : World) (Aa : Option Addr) (na ca : Nat) (ra : List SRow) (hta : RdE encR 1 w Aa na ra) (hea : ∀ r ∈ ra, RdE intE 1 w r.A r.xs.length r.xs) (Ab : Option Addr) (nb cb : Nat) (rb : List SRow) (htb : RdE encR 1 w Ab nb rb) (heb : ∀ r ∈ rb, RdE intE 1 w r.A r.xs.length r.xs) (hsa : (allXs ra).length ≤ 1099511627776) (hsb : (allXs rb).length ≤ 1099511627776) (hna : na ≤ 1099511627776) (hnb : nb ≤ 1099511627776) :
  Calls Try.prog 16 #[Value.slice Aa na ca, Value.slice Ab nb cb] w fun e w' => ∃ r, e = .returned r ∧ r = prsOut (xssOf ra) (xssOf rb) ∧ Mem w No w' [] := by
 refine calls_k (args := [Value.slice Aa na ca, Value.slice Ab nb cb]) 169 [(0, Value.slice Aa na ca), (1, Value.slice Ab nb cb)] Try.func16 rfl rfl ⟨rfl, rfl, trivial⟩ ?_
 have hM := Mem.nil w No
 have hfa := flat_rows ra
 have hfb := flat_rows rb
 have hal := hta.len
 have hbl := htb.len
 have hgr : ∀ g ∈ grps Aa Ab ca cb ra rb, RdE encR 1 w g.A g.rows.length g.rows ∧ (∀ r ∈ g.rows, RdE intE 1 w r.A r.xs.length r.xs) ∧ (allXs g.rows).length ≤ 1099511627776 ∧ g.rows.length ≤ 1099511627776 := by intro g hg; simp at hg; rcases hg with rfl | rfl; exact ⟨hal ▸ hta, hea, hsa, by show ra.length ≤ _; omega⟩; exact ⟨hbl ▸ htb, heb, hsb, by show rb.length ≤ _; omega⟩
 refine k_seq (k_region (sqV (.int .i64 0) rfl rfl rfl ?_))
 refine sqV (.int .i64 0) rfl rfl rfl ?_
 refine sqV (.int .i64 0) rfl rfl rfl ?_
 refine sqV (.int .i64 0) rfl rfl rfl ?_
 refine r_nil (e_then (k_seq (k_region (r_alloc hM (z := Value.agg #[Value.map none, Value.map none]) rfl rfl ?_))))
 intro b3 w1 hM2 hb3
 replace hM2 : Mem w No w1 [(b3, .cells #[Value.map none, Value.map none] 84 (0, 0))] := hM2
 refine r_nil (e_then (k_seq (k_seq (k_region (sqV (.slice Aa na ca) rfl rfl rfl ?_)))))
 refine sqV (.slice Ab nb cb) rfl rfl rfl ?_
 refine r_new (fun b => .slice (some ⟨b, 0, none⟩) 2 2) (.cells #[Value.slice Aa na ca, Value.slice Ab nb cb] 25 (0, 0)) hM2 (by kernel_rfl) rfl rfl ?_
 intro b6 w4 hM5 hb6
 replace hM5 : Mem w No w4 [(b6, .cells #[Value.slice Aa na ca, Value.slice Ab nb cb] 25 (0, 0)), (b3, .cells #[Value.map none, Value.map none] 84 (0, 0))] := hM5
 refine sqV (.int .i64 2) rfl rfl (x_len rfl rfl) ?_
 refine sqV (.int .i64 0) rfl rfl rfl ?_
 refine r_nil (e_then (k_block (k_loop (σ := Nat × (Nat → Value) × Hp) (fun ⟨m, ms, Lr⟩ => [(0, .slice Aa na ca), (1, .slice Ab nb cb), (4, .int .i64 0), (5, .int .i64 0), (6, .int .i64 0), (8, .pointer (some ⟨b3, 0, none⟩)), (34, .slice (some ⟨b6, 0, none⟩) 2 2), (35, .int .i64 2), (36, .int .i64 (m : Int))]) (fun ⟨m, ms, Lr⟩ w_ => Mem w No w_ ((b6, .cells #[.slice Aa na ca, .slice Ab nb cb] 25 (0, 0)) :: (b3, .cells (rowC 2 (fun v => v) ms) 84 (0, 0)) :: Lr) ∧ m ≤ 2 ∧ FinA ra rb m ms Lr) (fun ⟨m, ms, Lr⟩ => 2 - m) (0, fun _ => .map none, []) (sqS rfl) ⟨hM5, by omega, finA_0 ra rb⟩ ?_)))
 rintro ⟨m, ms, Lr⟩ w7 ⟨hM8, hm, hfin⟩
 refine sqK [(0, .slice Aa na ca), (1, .slice Ab nb cb), (4, .int .i64 0), (5, .int .i64 0), (6, .int .i64 0), (8, .pointer (some ⟨b3, 0, none⟩)), (34, .slice (some ⟨b6, 0, none⟩) 2 2), (35, .int .i64 2), (36, .int .i64 (m : Int))] rfl (k_seq (k_region (sqV (.bool (decide ((m : Int) < 2))) rfl rfl rfl ?_)))
 refine r_nil (sqE [(0, .slice Aa na ca), (1, .slice Ab nb cb), (4, .int .i64 0), (5, .int .i64 0), (6, .int .i64 0), (8, .pointer (some ⟨b3, 0, none⟩)), (34, .slice (some ⟨b6, 0, none⟩) 2 2), (35, .int .i64 2), (36, .int .i64 (m : Int)), (37, .bool (decide ((m : Int) < 2)))] rfl (e_then (k_seq ?_)))
 refine k_cond rfl rfl (fun h => ?_) (fun h => ?_)
 ·try simp only [sqC] at h
  refine k_skip (e_then (k_seq (k_block (k_seq (k_region ?_)))))
  obtain ⟨g_, hg_⟩ : ∃ g, (grps Aa Ab ca cb ra rb)[m]? = some g := ⟨(grps Aa Ab ca cb ra rb)[m]'(by simp; omega), by simp⟩
  obtain ⟨hgt, hge, hgs, hgl⟩ := hgr g_ (List.mem_of_getElem? hg_)
  have hgf := flat_rows g_.rows
  refine sqV (.int .i64 (m : Int)) rfl rfl rfl ?_
  refine sqV (.pointer (some ⟨b6, m, none⟩)) rfl rfl (x_indexAddrL (i := m) (sz := 1) (by omega) rfl rfl rfl rfl (by omega)) ?_
  refine sqV (.slice g_.A g_.rows.length g_.c) rfl rfl (x_load (grps_cell (hM8.get 0 rfl) hal hbl hg_) rfl rfl) ?_
  refine sqV (.int .i64 (m : Int)) rfl rfl rfl ?_
  refine sqV (.slice g_.A g_.rows.length g_.c) rfl rfl rfl ?_
  refine r_nil (e_then (k_seq (k_region (sqV (.int .i64 (m : Int)) rfl rfl rfl ?_))))
  refine r_new (fun b => .map (some b)) (mapO [] 0) hM8 (by kernel_rfl) rfl rfl ?_
  intro bo w9 hM10 hbo
  replace hM10 : Mem w No w9 ((bo, mapO [] 0) :: (b6, .cells #[Value.slice Aa na ca, Value.slice Ab nb cb] 25 (0, 0)) :: (b3, .cells (rowC 2 (fun v => v) ms) 84 (0, 0)) :: Lr) := hM10
  refine sqV (.pointer (some ⟨b3, m, none⟩)) rfl rfl (x_indexAddrB (i := m) (sz := 1) (by omega) rfl rfl rfl rfl (by omega)) ?_
  refine r_store (v := Value.map (some bo)) hM10 2 rfl (by rw [rowC_size]; omega) (by first | rfl | assumption) rfl rfl rfl rfl ?_
  intro w11 hM12
  replace hM12 : Mem w No w11 ((bo, mapO [] 0) :: (b6, .cells #[Value.slice Aa na ca, Value.slice Ab nb cb] 25 (0, 0)) :: (b3, .cells ((rowC 2 (fun v => v) ms).setIfInBounds m (Value.map (some bo))) 84 (0, 0)) :: Lr) := hM12
  refine r_nil (e_then (k_seq (k_region ?_)))
  rw [rowV_set (by omega)] at hM12
  have hM13 : Mem w No w11 ((bo, mapO [] 0) :: (b6, .cells #[Value.slice Aa na ca, Value.slice Ab nb cb] 25 (0, 0)) :: (b3, .cells (rowC 2 (fun v => v) (setV ms m (.map (some bo)))) 84 (0, 0)) :: Lr) := hM12
  refine sqV (.int .i64 0) rfl rfl rfl ?_
  refine r_nil (e_then (k_seq (k_seq (k_region (sqV (.slice g_.A g_.rows.length g_.c) rfl rfl rfl ?_)))))
  refine sqV (.int .i64 (g_.rows.length : Int)) rfl rfl (x_len rfl rfl) ?_
  refine sqV (.int .i64 0) rfl rfl rfl ?_
  refine r_nil (sqE [(0, .slice Aa na ca), (1, .slice Ab nb cb), (4, .int .i64 0), (5, .int .i64 0), (6, .int .i64 0), (8, .pointer (some ⟨b3, 0, none⟩)), (11, .int .i64 0), (34, .slice (some ⟨b6, 0, none⟩) 2 2), (35, .int .i64 2), (36, .int .i64 (m : Int)), (44, .slice g_.A g_.rows.length g_.c), (45, .int .i64 (g_.rows.length : Int)), (46, .int .i64 0)] rfl (e_then (k_block (k_loop (σ := Nat) (fun k => [(0, .slice Aa na ca), (1, .slice Ab nb cb), (4, .int .i64 0), (5, .int .i64 0), (6, .int .i64 0), (8, .pointer (some ⟨b3, 0, none⟩)), (11, .int .i64 ((allXs (g_.rows.take k)).length : Int)), (34, .slice (some ⟨b6, 0, none⟩) 2 2), (35, .int .i64 2), (36, .int .i64 (m : Int)), (44, .slice g_.A g_.rows.length g_.c), (45, .int .i64 (g_.rows.length : Int)), (46, .int .i64 (k : Int))]) (fun k w_ => Mem w No w_ ((bo, mapO [] 0) :: (b6, .cells #[.slice Aa na ca, .slice Ab nb cb] 25 (0, 0)) :: (b3, .cells (rowC 2 (fun v => v) (setV ms m (.map (some bo)))) 84 (0, 0)) :: Lr) ∧ k ≤ g_.rows.length) (fun k => g_.rows.length - k) 0 (sqS rfl) ⟨hM13, Nat.zero_le _⟩ ?_))))
  rintro k w14 ⟨hM15, hk⟩
  refine sqK [(0, .slice Aa na ca), (1, .slice Ab nb cb), (4, .int .i64 0), (5, .int .i64 0), (6, .int .i64 0), (8, .pointer (some ⟨b3, 0, none⟩)), (11, .int .i64 ((allXs (g_.rows.take k)).length : Int)), (34, .slice (some ⟨b6, 0, none⟩) 2 2), (35, .int .i64 2), (36, .int .i64 (m : Int)), (44, .slice g_.A g_.rows.length g_.c), (45, .int .i64 (g_.rows.length : Int)), (46, .int .i64 (k : Int))] rfl (k_seq (k_region (sqV (.bool (decide ((k : Int) < (g_.rows.length : Int)))) rfl rfl rfl ?_)))
  refine r_nil (e_then (k_seq ?_))
  refine k_cond rfl rfl (fun h2 => ?_) (fun h2 => ?_)
  ·try simp only [sqC] at h2
   refine k_skip (e_then (k_seq (k_block (k_seq (k_region ?_)))))
   obtain ⟨r_, hr_⟩ : ∃ r, g_.rows[k]? = some r := ⟨g_.rows[k]'(by omega), by simp⟩
   have hr_m := List.mem_of_getElem? hr_
   have hr_x := xss_get hr_
   have hsn := allXs_snoc hr_
   have hle := allXs_le (es := g_.rows) (k + 1)
   rw [hsn, List.length_append] at hle
   refine sqV (.pointer (some ((adr g_.A).add (k * 1)))) rfl rfl (x_indexAddrN (i := k) (sz := 1) hgt.here (by omega) rfl rfl rfl rfl) ?_
   refine sqV (.slice r_.A r_.xs.length r_.c) rfl rfl (x_load ((hgt.up hM15).first hr_ rfl) rfl rfl) ?_
   refine sqV (.slice r_.A r_.xs.length r_.c) rfl rfl rfl ?_
   refine r_nil (e_then (k_region (sqV (.int .i64 ((allXs (g_.rows.take k)).length : Int)) rfl rfl rfl ?_)))
   refine sqV (.slice r_.A r_.xs.length r_.c) rfl rfl rfl ?_
   refine sqV (.int .i64 (r_.xs.length : Int)) rfl rfl (x_len rfl rfl) ?_
   refine sqV (.int .i64 ((allXs (g_.rows.take (k + 1))).length : Int)) rfl rfl (x_addE (by rw [hsn, List.length_append]; omega) (by omega) (by rw [hsn, List.length_append]; omega) rfl rfl) ?_
   refine sqV (.int .i64 ((allXs (g_.rows.take (k + 1))).length : Int)) rfl rfl rfl ?_
   refine r_nil (e_blk (e_then (k_region (sqV (.int .i64 ((k : Int) + 1)) rfl rfl (x_addE rfl (by omega) (by omega) rfl rfl) ?_))))
   refine sqV (.int .i64 ((k : Int) + 1)) rfl rfl rfl ?_
   refine r_nil (sqE [(0, .slice Aa na ca), (1, .slice Ab nb cb), (4, .int .i64 0), (5, .int .i64 0), (6, .int .i64 0), (8, .pointer (some ⟨b3, 0, none⟩)), (11, .int .i64 ((allXs (g_.rows.take (k + 1))).length : Int)), (34, .slice (some ⟨b6, 0, none⟩) 2 2), (35, .int .i64 2), (36, .int .i64 (m : Int)), (44, .slice g_.A g_.rows.length g_.c), (45, .int .i64 (g_.rows.length : Int)), (46, .int .i64 ((k : Int) + 1))] rfl ?_)
   refine e_loop (k + 1) (sqS rfl) ?_ ?_
   ·exact ⟨hM15, by omega⟩
   ·(try dsimp only); omega
  ·try simp only [sqC] at h2
   refine k_exit (e_then_exit (e_loop_exit (e_blk_exit (e_then (k_seq (k_region ?_))))))
   have hkm : g_.rows.take k = g_.rows := List.take_of_length_le (by omega)
   refine wpR_sub [(0, Value.slice Aa na ca), (1, Value.slice Ab nb cb), (4, Value.int .i64 0), (5, Value.int .i64 0), (6, Value.int .i64 0), (8, Value.pointer (some ⟨b3, 0, none⟩)), (11, Value.int .i64 ((allXs g_.rows).length : Int)), (34, Value.slice (some ⟨b6, 0, none⟩) 2 2), (35, Value.int .i64 2), (36, Value.int .i64 (m : Int)), (44, Value.slice g_.A g_.rows.length g_.c), (45, Value.int .i64 (g_.rows.length : Int)), (46, Value.int .i64 (k : Int)), (47, Value.bool (decide ((k : Int) < (g_.rows.length : Int))))] ⟨rfl, rfl, rfl, rfl, rfl, rfl, congrArg (fun z => some (Value.int .i64 ((allXs z).length : Int))) hkm, rfl, rfl, rfl, rfl, rfl, rfl, rfl, trivial⟩ ?_
   refine sqV (.int .i64 ((allXs g_.rows).length : Int)) rfl rfl rfl ?_
   refine sqV (.bool (decide (((allXs g_.rows).length : Int) > 300))) rfl rfl rfl ?_
   refine r_nil (e_then ?_)
   refine k_cond rfl rfl (fun h3 => ?_) (fun h3 => ?_)
   ·try simp only [sqC] at h3
    refine k_seq (k_region ?_)
    have hlg : lg g_ := by unfold lg; rw [hgf]; omega
    refine sqV (.int .i64 0) rfl rfl rfl ?_
    refine sqV (.int .i64 0) rfl rfl rfl ?_
    refine sqV (.int .i64 0) rfl rfl rfl ?_
    refine sqV (.int .i64 4) rfl rfl rfl ?_
    refine r_nil (e_then (k_ret (e_blk_ret (e_then_ret (e_loop_ret (e_blk_ret (e_then_ret (e_ret4 rfl rfl rfl rfl rfl ?_))))))))
    exact ⟨_, rfl, (prs_bad (finA_bad hg_ hlg) (by decide)).symm, hM15.drop⟩
   ·try simp only [sqC] at h3
    refine k_skip (e_blk (e_then (k_region ?_)))
    have hlg : ¬ lg g_ := by unfold lg; rw [hgf]; omega
    refine sqV (.int .i64 ((m : Int) + 1)) rfl rfl (x_addE rfl (by omega) (by omega) rfl rfl) ?_
    refine sqV (.int .i64 ((m : Int) + 1)) rfl rfl rfl ?_
    refine r_nil ?_
    refine e_loop (m + 1, setV ms m (.map (some bo)), (bo, mapO [] 0) :: Lr) (sqS rfl) ?_ ?_
    ·exact ⟨hM15.perm ((List.Perm.swap _ _ _).trans (List.Perm.cons _ (List.Perm.swap _ _ _))), by omega, finA_step hfin hg_ hlg⟩
    ·(try dsimp only); omega
 ·try simp only [sqC] at h
  refine k_exit (e_then_exit (e_loop_exit (e_blk_exit (e_then (k_seq (k_seq (k_region ?_)))))))
  have hm2 : m = 2 := by omega
  obtain ⟨ba0, bb0, hq0, hq1, hLr, hlg⟩ := hfin.two hm2
  obtain ⟨mb, hmbd⟩ : ∃ mb : Nat → Nat, mb = fun q => if q = 0 then ba0 else bb0 := ⟨_, rfl⟩
  have hmb : ∀ q, q < 2 → ms q = .map (some (mb q)) := by intro q hq; rcases q with _ | _ | q; rw [hmbd]; exact hq0; rw [hmbd]; exact hq1; omega
  have hMB : ∀ {W : World} {p q x : Nat × Obj}, Mem w No W (p :: x :: q :: [(bb0, mapO [] 0), (ba0, mapO [] 0)]) → Mem w No W (p :: q :: maps2 mb (fun _ => [])) := by intro W p q x h; rw [hmbd]; exact h.perm (List.Perm.refl _) |>.pickT [p, x, q] [(bb0, mapO [] 0), (ba0, mapO [] 0)] rfl [0, 2] _ (by decide) rfl
  have hM16 : Mem w No w7 [(b6, .cells #[Value.slice Aa na ca, Value.slice Ab nb cb] 25 (0, 0)), (b3, .cells (rowC 2 (fun v => v) ms) 84 (0, 0)), (bb0, mapO [] 0), (ba0, mapO [] 0)] := by rw [hLr] at hM8; exact hM8
  refine sqV (.slice Aa na ca) rfl rfl rfl ?_
  refine sqV (.slice Ab nb cb) rfl rfl rfl ?_
  refine r_new (fun b => .slice (some ⟨b, 0, none⟩) 2 2) (.cells #[Value.slice Aa na ca, Value.slice Ab nb cb] 25 (0, 0)) hM16 (by kernel_rfl) rfl rfl ?_
  intro b19 w17 hM18 hb19
  replace hM18 : Mem w No w17 [(b19, .cells #[Value.slice Aa na ca, Value.slice Ab nb cb] 25 (0, 0)), (b6, .cells #[Value.slice Aa na ca, Value.slice Ab nb cb] 25 (0, 0)), (b3, .cells (rowC 2 (fun v => v) ms) 84 (0, 0)), (bb0, mapO [] 0), (ba0, mapO [] 0)] := hM18
  refine sqV (.int .i64 2) rfl rfl (x_len rfl rfl) ?_
  refine sqV (.int .i64 0) rfl rfl rfl ?_
  refine r_nil (sqE [(4, .int .i64 0), (5, .int .i64 0), (6, .int .i64 0), (8, .pointer (some ⟨b3, 0, none⟩)), (60, .slice (some ⟨b19, 0, none⟩) 2 2), (61, .int .i64 2), (62, .int .i64 0)] rfl (e_then (k_block (k_loop (σ := Nat × (Nat → List (Int × Nat))) (fun ⟨m, es⟩ => [(4, .int .i64 0), (5, .int .i64 0), (6, .int .i64 0), (8, .pointer (some ⟨b3, 0, none⟩)), (60, .slice (some ⟨b19, 0, none⟩) 2 2), (61, .int .i64 2), (62, .int .i64 (m : Int))]) (fun ⟨m, es⟩ w_ => Mem w No w_ ((b19, .cells #[.slice Aa na ca, .slice Ab nb cb] 25 (0, 0)) :: (b3, .cells (rowC 2 (fun v => v) ms) 84 (0, 0)) :: (maps2 mb es)) ∧ m ≤ 2 ∧ FinB ra rb m es) (fun ⟨m, es⟩ => 2 - m) (0, fun _ => []) (sqS rfl) ⟨hMB hM18, by omega, finB_0 ra rb⟩ ?_))))
  rintro ⟨m, es⟩ w20 ⟨hM21, hm, hfb2⟩
  refine sqK [(4, .int .i64 0), (5, .int .i64 0), (6, .int .i64 0), (8, .pointer (some ⟨b3, 0, none⟩)), (60, .slice (some ⟨b19, 0, none⟩) 2 2), (61, .int .i64 2), (62, .int .i64 (m : Int))] rfl (k_seq (k_region (sqV (.bool (decide ((m : Int) < 2))) rfl rfl rfl ?_)))
  refine r_nil (e_then (k_seq ?_))
  refine k_cond rfl rfl (fun h => ?_) (fun h => ?_)
  ·try simp only [sqC] at h
   refine k_skip (e_then (k_seq (k_block (k_seq (k_region ?_)))))
   obtain ⟨g_, hg_⟩ : ∃ g, (grps Aa Ab ca cb ra rb)[m]? = some g := ⟨(grps Aa Ab ca cb ra rb)[m]'(by simp; omega), by simp⟩
   obtain ⟨hgt, hge, hgs, hgl⟩ := hgr g_ (List.mem_of_getElem? hg_)
   have hgf := flat_rows g_.rows
   refine sqV (.int .i64 (m : Int)) rfl rfl rfl ?_
   refine sqV (.pointer (some ⟨b19, m, none⟩)) rfl rfl (x_indexAddrL (i := m) (sz := 1) (by omega) rfl rfl rfl rfl (by omega)) ?_
   refine sqV (.slice g_.A g_.rows.length g_.c) rfl rfl (x_load (grps_cell (hM21.get 0 rfl) hal hbl hg_) rfl rfl) ?_
   refine sqV (.int .i64 (m : Int)) rfl rfl rfl ?_
   refine sqV (.slice g_.A g_.rows.length g_.c) rfl rfl rfl ?_
   refine r_nil (e_then (k_seq (k_region (sqV (.slice g_.A g_.rows.length g_.c) rfl rfl rfl ?_))))
   refine sqV (.int .i64 (g_.rows.length : Int)) rfl rfl (x_len rfl rfl) ?_
   refine sqV (.int .i64 0) rfl rfl rfl ?_
   refine r_nil (e_then (k_block (k_loop (σ := Nat) (fun i => [(4, .int .i64 0), (5, .int .i64 0), (6, .int .i64 0), (8, .pointer (some ⟨b3, 0, none⟩)), (14, .int .i64 (m : Int)), (60, .slice (some ⟨b19, 0, none⟩) 2 2), (61, .int .i64 2), (62, .int .i64 (m : Int)), (67, .slice g_.A g_.rows.length g_.c), (68, .int .i64 (g_.rows.length : Int)), (69, .int .i64 (i : Int))]) (fun i w_ => Mem w No w_ ((b19, .cells #[.slice Aa na ca, .slice Ab nb cb] 25 (0, 0)) :: (b3, .cells (rowC 2 (fun v => v) ms) 84 (0, 0)) :: (maps2 mb (setE es m (plTo (xssOf g_.rows) i 0)))) ∧ i ≤ g_.rows.length ∧ ((plTo (xssOf g_.rows) i 0).map (·.1)).Nodup) (fun i => g_.rows.length - i) 0 (sqS rfl) ⟨by rw [plTo_00, setE_self (hfb2.nil m (Nat.le_refl _) (by omega))]; exact hM21, Nat.zero_le _, by rw [plTo_00]; simp⟩ ?_)))
   rintro i w22 ⟨hM23, hi, hnd⟩
   refine sqK [(4, .int .i64 0), (5, .int .i64 0), (6, .int .i64 0), (8, .pointer (some ⟨b3, 0, none⟩)), (14, .int .i64 (m : Int)), (60, .slice (some ⟨b19, 0, none⟩) 2 2), (61, .int .i64 2), (62, .int .i64 (m : Int)), (67, .slice g_.A g_.rows.length g_.c), (68, .int .i64 (g_.rows.length : Int)), (69, .int .i64 (i : Int))] rfl (k_seq (k_region (sqV (.bool (decide ((i : Int) < (g_.rows.length : Int)))) rfl rfl rfl ?_)))
   refine r_nil (sqE [(4, .int .i64 0), (5, .int .i64 0), (6, .int .i64 0), (8, .pointer (some ⟨b3, 0, none⟩)), (14, .int .i64 (m : Int)), (60, .slice (some ⟨b19, 0, none⟩) 2 2), (61, .int .i64 2), (62, .int .i64 (m : Int)), (67, .slice g_.A g_.rows.length g_.c), (68, .int .i64 (g_.rows.length : Int)), (69, .int .i64 (i : Int)), (70, .bool (decide ((i : Int) < (g_.rows.length : Int))))] rfl (e_then (k_seq ?_)))
   refine k_cond rfl rfl (fun h4 => ?_) (fun h4 => ?_)
   ·try simp only [sqC] at h4
    refine k_skip (e_then (k_seq (k_block (k_seq (k_region ?_)))))
    obtain ⟨r_, hr_⟩ : ∃ r, g_.rows[i]? = some r := ⟨g_.rows[i]'(by omega), by simp⟩
    have hr_m := List.mem_of_getElem? hr_
    have hr_x := xss_get hr_
    have hsn := allXs_snoc hr_
    have hle := allXs_le (es := g_.rows) (i + 1)
    rw [hsn, List.length_append] at hle
    refine sqV (.int .i64 (i : Int)) rfl rfl rfl ?_
    refine sqV (.pointer (some ((adr g_.A).add (i * 1)))) rfl rfl (x_indexAddrN (i := i) (sz := 1) hgt.here (by omega) rfl rfl rfl rfl) ?_
    refine sqV (.slice r_.A r_.xs.length r_.c) rfl rfl (x_load ((hgt.up hM23).first hr_ rfl) rfl rfl) ?_
    refine sqV (.int .i64 (i : Int)) rfl rfl rfl ?_
    refine sqV (.slice r_.A r_.xs.length r_.c) rfl rfl rfl ?_
    refine r_nil (e_then (k_seq (k_region (sqV (.slice r_.A r_.xs.length r_.c) rfl rfl rfl ?_))))
    refine sqV (.int .i64 (r_.xs.length : Int)) rfl rfl (x_len rfl rfl) ?_
    refine sqV (.int .i64 0) rfl rfl rfl ?_
    refine r_nil (e_then (k_block (k_loop (σ := Nat) (fun k => [(4, .int .i64 0), (5, .int .i64 0), (6, .int .i64 0), (8, .pointer (some ⟨b3, 0, none⟩)), (14, .int .i64 (m : Int)), (16, .int .i64 (i : Int)), (60, .slice (some ⟨b19, 0, none⟩) 2 2), (61, .int .i64 2), (62, .int .i64 (m : Int)), (67, .slice g_.A g_.rows.length g_.c), (68, .int .i64 (g_.rows.length : Int)), (69, .int .i64 (i : Int)), (74, .slice r_.A r_.xs.length r_.c), (75, .int .i64 (r_.xs.length : Int)), (76, .int .i64 (k : Int))]) (fun k w_ => Mem w No w_ ((b19, .cells #[.slice Aa na ca, .slice Ab nb cb] 25 (0, 0)) :: (b3, .cells (rowC 2 (fun v => v) ms) 84 (0, 0)) :: (maps2 mb (setE es m (plTo (xssOf g_.rows) i k)))) ∧ k ≤ r_.xs.length ∧ ((plTo (xssOf g_.rows) i k).map (·.1)).Nodup) (fun k => r_.xs.length - k) 0 (sqS rfl) ⟨hM23, Nat.zero_le _, hnd⟩ ?_)))
    rintro k w24 ⟨hM25, hk, hnd⟩
    refine sqK [(4, .int .i64 0), (5, .int .i64 0), (6, .int .i64 0), (8, .pointer (some ⟨b3, 0, none⟩)), (14, .int .i64 (m : Int)), (16, .int .i64 (i : Int)), (60, .slice (some ⟨b19, 0, none⟩) 2 2), (61, .int .i64 2), (62, .int .i64 (m : Int)), (67, .slice g_.A g_.rows.length g_.c), (68, .int .i64 (g_.rows.length : Int)), (69, .int .i64 (i : Int)), (74, .slice r_.A r_.xs.length r_.c), (75, .int .i64 (r_.xs.length : Int)), (76, .int .i64 (k : Int))] rfl (k_seq (k_region (sqV (.bool (decide ((k : Int) < (r_.xs.length : Int)))) rfl rfl rfl ?_)))
    refine r_nil (e_then (k_seq ?_))
    refine k_cond rfl rfl (fun h2 => ?_) (fun h2 => ?_)
    ·try simp only [sqC] at h2
     refine k_skip (e_then (k_seq (k_block (k_seq (k_region ?_)))))
     obtain ⟨y, hy⟩ : ∃ y, r_.xs[k]? = some y := ⟨r_.xs[k]'(by omega), by simp⟩
     refine sqV (.pointer (some ((adr r_.A).add (k * 1)))) rfl rfl (x_indexAddrN (i := k) (sz := 1) (hge r_ hr_m).here (by omega) rfl rfl rfl rfl) ?_
     refine sqV (.int .i64 y) rfl rfl (x_loadEInt ((hge r_ hr_m).up hM25) hy rfl rfl) ?_
     refine sqV (.int .i64 y) rfl rfl rfl ?_
     refine r_nil (sqE [(4, .int .i64 0), (5, .int .i64 0), (6, .int .i64 0), (8, .pointer (some ⟨b3, 0, none⟩)), (14, .int .i64 (m : Int)), (16, .int .i64 (i : Int)), (19, .int .i64 y), (60, .slice (some ⟨b19, 0, none⟩) 2 2), (61, .int .i64 2), (62, .int .i64 (m : Int)), (67, .slice g_.A g_.rows.length g_.c), (68, .int .i64 (g_.rows.length : Int)), (69, .int .i64 (i : Int)), (74, .slice r_.A r_.xs.length r_.c), (75, .int .i64 (r_.xs.length : Int)), (76, .int .i64 (k : Int))] rfl (e_then (k_seq (k_seq (k_region (sqV (.int .i64 (m : Int)) rfl rfl rfl ?_))))))
     refine sqV (.pointer (some ⟨b3, m, none⟩)) rfl rfl (x_indexAddrB (i := m) (sz := 1) (by omega) rfl rfl rfl rfl (by omega)) ?_
     refine sqV (.map (some (mb m))) rfl rfl (by rw [← hmb m (by omega)]; exact x_load (hM25.cell 1 rfl (rowC_get (by omega))) rfl rfl) ?_
     have hgm := hM25.get (2 + (1 - m)) (maps2_get (es := (setE es m (plTo (xssOf g_.rows) i k))) (by omega))
     rw [setE_at] at hgm
     refine sqV (.int .i64 y) rfl rfl rfl ?_
     refine sqV (.tuple #[.int .i64 (nv (plTo (xssOf g_.rows) i k) y), .bool ((numOf (plTo (xssOf g_.rows) i k) y).isSome)]) rfl rfl (x_lookupNum hgm rfl rfl rfl rfl rfl) ?_
     refine sqV (.tuple #[.int .i64 (nv (plTo (xssOf g_.rows) i k) y), .bool ((numOf (plTo (xssOf g_.rows) i k) y).isSome)]) rfl rfl rfl ?_
     refine sqV (.int .i64 (nv (plTo (xssOf g_.rows) i k) y)) rfl rfl rfl ?_
     refine sqV (.bool ((numOf (plTo (xssOf g_.rows) i k) y).isSome)) rfl rfl rfl ?_
     refine sqV (.int .i64 (nv (plTo (xssOf g_.rows) i k) y)) rfl rfl rfl ?_
     refine sqV (.bool ((numOf (plTo (xssOf g_.rows) i k) y).isSome)) rfl rfl rfl ?_
     refine r_nil (e_then (k_seq (k_region (sqV (.bool ((numOf (plTo (xssOf g_.rows) i k) y).isSome)) rfl rfl rfl ?_))))
     refine r_nil (e_then ?_)
     refine k_cond rfl rfl (fun h3 => ?_) (fun h3 => ?_)
     ·try simp only [sqC] at h3
      refine k_seq (k_region ?_)
      have h6 : numErr (xssOf g_.rows) = 6 := plTo_dup hr_x hy (by rcases Classical.em (y ∈ ((plTo (xssOf g_.rows) i k).map (·.1))) with h9 | h9; exact h9; rw [num_none.2 h9] at h3; cases h3)
      refine sqV (.int .i64 0) rfl rfl rfl ?_
      refine sqV (.int .i64 0) rfl rfl rfl ?_
      refine sqV (.int .i64 0) rfl rfl rfl ?_
      refine sqV (.int .i64 6) rfl rfl rfl ?_
      refine r_nil (e_then (k_ret (e_then_ret (e_blk_ret (e_then_ret (e_loop_ret (e_blk_ret (e_blk_ret (e_then_ret (e_loop_ret (e_blk_ret (e_blk_ret (e_then_ret (e_loop_ret (e_blk_ret (e_then_ret (e_ret4 rfl rfl rfl rfl rfl ?_)))))))))))))))))
      exact ⟨_, rfl, (prs_bad (finB_bad hg_ hlg h6) (by decide)).symm, hM25.drop⟩
     ·try simp only [sqC] at h3
      refine k_skip (e_then (k_region ?_))
      have h9 : numOf (plTo (xssOf g_.rows) i k) y = none := by cases h10 : numOf (plTo (xssOf g_.rows) i k) y with | none => rfl | some z => rw [h10] at h3; cases h3
      have hmg := esOf_none (num_none.1 h9)
      refine sqV (.int .i64 (m : Int)) rfl rfl rfl ?_
      refine sqV (.pointer (some ⟨b3, m, none⟩)) rfl rfl (x_indexAddrB (i := m) (sz := 1) (by omega) rfl rfl rfl rfl (by omega)) ?_
      refine sqV (.map (some (mb m))) rfl rfl (by rw [← hmb m (by omega)]; exact x_load (hM25.cell 1 rfl (rowC_get (by omega))) rfl rfl) ?_
      refine sqV (.int .i64 y) rfl rfl rfl ?_
      refine sqV (.int .i64 (i : Int)) rfl rfl rfl ?_
      refine r_mapNew (k := y) (v := .int .i64 (i : Int)) hM25 (2 + (1 - m)) (maps2_get (es := (setE es m (plTo (xssOf g_.rows) i k))) (by omega)) (by rw [setE_at]; exact hmg) rfl rfl rfl rfl rfl rfl ?_
      intro w26 hM27
      rw [maps2_set (i := i) (by omega), setE_set, setE_at, ← plTo_step hr_x hy] at hM27
      replace hM27 : Mem w No w26 ((b19, .cells #[Value.slice Aa na ca, Value.slice Ab nb cb] 25 (0, 0)) :: (b3, .cells (rowC 2 (fun v => v) ms) 84 (0, 0)) :: (maps2 mb (setE es m (plTo (xssOf g_.rows) i (k + 1))))) := hM27
      refine r_nil (sqE [(4, .int .i64 0), (5, .int .i64 0), (6, .int .i64 0), (8, .pointer (some ⟨b3, 0, none⟩)), (14, .int .i64 (m : Int)), (16, .int .i64 (i : Int)), (60, .slice (some ⟨b19, 0, none⟩) 2 2), (61, .int .i64 2), (62, .int .i64 (m : Int)), (67, .slice g_.A g_.rows.length g_.c), (68, .int .i64 (g_.rows.length : Int)), (69, .int .i64 (i : Int)), (74, .slice r_.A r_.xs.length r_.c), (75, .int .i64 (r_.xs.length : Int)), (76, .int .i64 (k : Int))] rfl (e_blk (e_then (k_region (sqV (.int .i64 ((k : Int) + 1)) rfl rfl (x_addE rfl (by omega) (by omega) rfl rfl) ?_)))))
      refine sqV (.int .i64 ((k : Int) + 1)) rfl rfl rfl ?_
      refine r_nil ?_
      refine e_loop (k + 1) (sqS rfl) ?_ ?_
      ·exact ⟨hM27, by omega, plTo_nodup_step hr_x hy hnd (num_none.1 h9)⟩
      ·(try dsimp only); omega
    ·try simp only [sqC] at h2
     refine k_exit (e_then_exit (e_loop_exit (e_blk_exit (e_blk (e_then (k_region (sqV (.int .i64 ((i : Int) + 1)) rfl rfl (x_addE rfl (by omega) (by omega) rfl rfl) ?_)))))))
     refine sqV (.int .i64 ((i : Int) + 1)) rfl rfl rfl ?_
     refine r_nil ?_
     refine e_loop (i + 1) (sqS rfl) ?_ ?_
     ·exact ⟨by rw [← plTo_row hr_x (k := k) (by omega)]; exact hM25, by omega, by rw [← plTo_row hr_x (k := k) (by omega)]; exact hnd⟩
     ·(try dsimp only); omega
   ·try simp only [sqC] at h4
    refine k_exit (e_then_exit (e_loop_exit (e_blk_exit (e_blk (e_then (k_region ?_))))))
    have hil : i = (xssOf g_.rows).length := by simp [xssOf]; omega
    rw [hil] at hM23 hnd
    refine sqV (.int .i64 ((m : Int) + 1)) rfl rfl (x_addE rfl (by omega) (by omega) rfl rfl) ?_
    refine sqV (.int .i64 ((m : Int) + 1)) rfl rfl rfl ?_
    refine r_nil ?_
    refine e_loop (m + 1, setE es m (plAll (xssOf g_.rows))) (sqS rfl) ?_ ?_
    ·exact ⟨hM23, by omega, finB_step hfb2 hg_ rfl hnd⟩
    ·(try dsimp only); omega
  ·try simp only [sqC] at h
   refine k_exit (e_then_exit (e_loop_exit (e_blk_exit (e_then (k_seq (k_region ?_))))))
   have hm2 : m = 2 := by omega
   subst hm2
   obtain ⟨hes0, hnA⟩ := hfb2.one (by omega)
   obtain ⟨hes1, hnB⟩ := hfb2.two (by omega)
   obtain ⟨P, hP0⟩ : ∃ P, P = es 0 := ⟨_, rfl⟩
   obtain ⟨Q, hQ0⟩ : ∃ Q, Q = es 1 := ⟨_, rfl⟩
   have hP : P = plAll (xssOf ra) := hP0.trans hes0
   have hQ : Q = plAll (xssOf rb) := hQ0.trans hes1
   rw [← hP0] at hnA
   rw [← hQ0] at hnB
   have he0 : prsErr (xssOf ra) (xssOf rb) = 0 := prs_zero hlg (hP ▸ hnA) (hQ ▸ hnB)
   have hP3 : P.length ≤ 300 := by rw [hP, plAll_len]; omega
   obtain ⟨ba, hba⟩ : ∃ q, q = mb 0 := ⟨_, rfl⟩
   obtain ⟨bb, hbb⟩ : ∃ q, q = mb 1 := ⟨_, rfl⟩
   have hm0 : ms 0 = .map (some ba) := by rw [hba]; exact hmb 0 (by omega)
   have hm1 : ms 1 = .map (some bb) := by rw [hbb]; exact hmb 1 (by omega)
   have hMx := hM21.tail
   rw [maps2, ← hP0, ← hQ0, ← hba, ← hbb] at hMx
   have hM28 : Mem w No w20 [(b3, .cells (rowC 2 (fun v => v) ms) 84 (0, 0)), (bb, mapO (esOf Q) Q.length), (ba, mapO (esOf P) P.length)] := hMx
   refine sqV (.slice none 0 0) rfl rfl rfl ?_
   refine r_nil (sqE [(4, .int .i64 0), (5, .int .i64 0), (6, .int .i64 0), (8, .pointer (some ⟨b3, 0, none⟩)), (22, .slice none 0 0)] rfl (e_then (k_seq (k_seq (k_region (sqV (.pointer (some ⟨b3, 0, none⟩)) rfl rfl (x_indexAddrB (i := 0) (sz := 1) (by omega) rfl rfl rfl rfl (by omega)) ?_))))))
   refine sqV (.map (some ba)) rfl rfl (by rw [← hm0]; exact x_load (hM28.cell 0 rfl (rowC_get (by omega))) rfl rfl) ?_
   refine r_range hM28 2 rfl rfl rfl rfl ?_
   intro b1 w29 hM30 hb1
   replace hM30 : Mem w No w29 [(b1, .mapIter (some ba) P.length #[] P.length), (b3, .cells (rowC 2 (fun v => v) ms) 84 (0, 0)), (bb, mapO (esOf Q) Q.length), (ba, mapO (esOf P) P.length)] := hM30
   refine r_nil (e_then (k_block (k_loop (σ := Array Nat × List (Int × Nat) × Value × Hp) (fun ⟨seen, zs, v, Lz⟩ => [(4, .int .i64 0), (5, .int .i64 0), (6, .int .i64 0), (8, .pointer (some ⟨b3, 0, none⟩)), (22, v), (99, .pointer (some ⟨b1, 0, none⟩))]) (fun ⟨seen, zs, v, Lz⟩ w_ => Mem w No w_ ((b1, .mapIter (some ba) P.length seen P.length) :: (b3, .cells (rowC 2 (fun v => v) ms) 84 (0, 0)) :: (bb, mapO (esOf Q) Q.length) :: (ba, mapO (esOf P) P.length) :: Lz) ∧ Both P Q seen zs ∧ OwnR tInt 1 v zs.length ((fsts zs).map (.int .i64)) Lz) (fun ⟨seen, zs, v, Lz⟩ => psum P seen) (#[], [], .slice none 0 0, []) (sqS rfl) ⟨by simpa using hM30, both_0, OwnR.nil _ _⟩ ?_)))
   rintro ⟨seen, zs, v, Lz⟩ w31 ⟨hM32, hbo, hv⟩
   refine sqK [(4, .int .i64 0), (5, .int .i64 0), (6, .int .i64 0), (8, .pointer (some ⟨b3, 0, none⟩)), (22, v), (99, .pointer (some ⟨b1, 0, none⟩))] rfl (k_seq (k_region ?_))
   refine r_next hM32 0 3 rfl rfl (esOf_born) rfl rfl (fun hall w33 hM34 => ?_) (fun e_ he_ hns w33 hM34 => ?_)
   ·skip
    have hall1 := esOf_seen hall
    have hbth := both_all hbo hall1
    have hblen := both_len hbo
    obtain ⟨Az, cz, hvz, hzc, hzm_, hAz⟩ := hv.slice
    rw [hvz] at hv
    have hvr := hv
    have hz3 : zs.length ≤ 300 := by omega
    refine wpR_sub [(4, Value.int .i64 0), (5, Value.int .i64 0), (6, Value.int .i64 0), (8, Value.pointer (some ⟨b3, 0, none⟩)), (22, Value.slice Az zs.length cz), (99, Value.pointer (some ⟨b1, 0, none⟩)), (100, Value.tuple #[Value.bool false])] ⟨rfl, rfl, rfl, rfl, congrArg some hvz, rfl, rfl, trivial⟩ ?_
    have hM35 : Mem w No w33 ((b3, .cells (rowC 2 (fun v => v) ms) 84 (0, 0)) :: (bb, mapO (esOf Q) Q.length) :: (ba, mapO (esOf P) P.length) :: Lz) := hM34.tail
    refine sqR [(4, .int .i64 ((triS (knd Q 0) zs 0 : Nat) : Int)), (5, .int .i64 ((triS (knd Q 1) zs 0 : Nat) : Int)), (6, .int .i64 ((triS (knd Q 2) zs 0 : Nat) : Int)), (8, .pointer (some ⟨b3, 0, none⟩)), (22, .slice Az zs.length cz), (99, .pointer (some ⟨b1, 0, none⟩)), (100, .tuple #[.bool false])] rfl (sqV (.bool false) rfl rfl rfl ?_)
    refine r_nil (e_then (k_seq (k_cond_false rfl rfl ?_)))
    refine k_exit (e_then_exit (e_loop_exit (e_blk_exit (e_then (k_seq (k_seq (k_region (sqV (.slice Az zs.length cz) rfl rfl rfl ?_))))))))
    refine sqV (.int .i64 (zs.length : Int)) rfl rfl (x_len rfl rfl) ?_
    refine sqV (.int .i64 0) rfl rfl rfl ?_
    refine r_nil (e_then (k_block (k_loop (σ := Nat) (fun i => [(4, .int .i64 ((triS (knd Q 0) zs i : Nat) : Int)), (5, .int .i64 ((triS (knd Q 1) zs i : Nat) : Int)), (6, .int .i64 ((triS (knd Q 2) zs i : Nat) : Int)), (8, .pointer (some ⟨b3, 0, none⟩)), (22, .slice Az zs.length cz), (116, .slice Az zs.length cz), (117, .int .i64 (zs.length : Int)), (118, .int .i64 (i : Int))]) (fun i w_ => Mem w No w_ ((b3, .cells (rowC 2 (fun v => v) ms) 84 (0, 0)) :: (bb, mapO (esOf Q) Q.length) :: (ba, mapO (esOf P) P.length) :: Lz) ∧ i ≤ zs.length) (fun i => zs.length - i) 0 (sqS rfl) ⟨hM35, Nat.zero_le _⟩ ?_)))
    rintro i w36 ⟨hM37, hi⟩
    refine sqK [(4, .int .i64 ((triS (knd Q 0) zs i : Nat) : Int)), (5, .int .i64 ((triS (knd Q 1) zs i : Nat) : Int)), (6, .int .i64 ((triS (knd Q 2) zs i : Nat) : Int)), (8, .pointer (some ⟨b3, 0, none⟩)), (22, .slice Az zs.length cz), (116, .slice Az zs.length cz), (117, .int .i64 (zs.length : Int)), (118, .int .i64 (i : Int))] rfl (k_seq (k_region (sqV (.bool (decide ((i : Int) < (zs.length : Int)))) rfl rfl rfl ?_)))
    refine r_nil (sqE [(4, .int .i64 ((triS (knd Q 0) zs i : Nat) : Int)), (5, .int .i64 ((triS (knd Q 1) zs i : Nat) : Int)), (6, .int .i64 ((triS (knd Q 2) zs i : Nat) : Int)), (8, .pointer (some ⟨b3, 0, none⟩)), (22, .slice Az zs.length cz), (116, .slice Az zs.length cz), (117, .int .i64 (zs.length : Int)), (118, .int .i64 (i : Int)), (119, .bool (decide ((i : Int) < (zs.length : Int))))] rfl (e_then (k_seq ?_)))
    refine k_cond rfl rfl (fun h7 => ?_) (fun h7 => ?_)
    ·try simp only [sqC] at h7
     refine k_skip (e_then (k_seq (k_block (k_seq (k_region ?_)))))
     obtain ⟨z, hz⟩ : ∃ z, zs[i]? = some z := ⟨zs[i]'(by omega), by simp⟩
     have hzm := both_mem hbth (List.mem_of_getElem? hz)
     obtain ⟨Az2, hAz2⟩ : ∃ A, A = Az := ⟨_, rfl⟩
     have hvr1 := hvr.rdI (w := w36) (Mem.right (L := [_, _, _]) (L' := Lz) hM37).holds
     have hz2 := hvr1.takeN i (by omega)
     rw [← hAz2] at hz2
     refine sqV (.int .i64 (i : Int)) rfl rfl rfl ?_
     refine sqV (.pointer (some ((adr Az).add (i * 1)))) rfl rfl (x_indexAddrN (i := i) (sz := 1) hvr1.here (by omega) rfl rfl rfl rfl) ?_
     refine sqV (.int .i64 z.1) rfl rfl (x_loadEInt hvr1 (fsts_get hz) rfl rfl) ?_
     refine sqV (.int .i64 (i : Int)) rfl rfl rfl ?_
     refine sqV (.int .i64 z.1) rfl rfl rfl ?_
     refine r_nil (e_then (k_seq (k_region (sqV (.slice Az zs.length cz) rfl rfl rfl ?_))))
     refine sqV (.int .i64 (i : Int)) rfl rfl rfl ?_
     refine sqV (.slice Az2 i cz) rfl rfl (by rw [hAz2]; exact x_sliceHigh (by omega) rfl rfl rfl rfl) ?_
     refine wpR_sub [(4, Value.int .i64 ((triC Q zs 0 i 0 z : Nat) : Int)), (5, Value.int .i64 ((triC Q zs 1 i 0 z : Nat) : Int)), (6, Value.int .i64 ((triC Q zs 2 i 0 z : Nat) : Int)), (8, Value.pointer (some ⟨b3, 0, none⟩)), (22, Value.slice Az zs.length cz), (26, Value.int .i64 (i : Int)), (27, Value.int .i64 z.1), (116, Value.slice Az zs.length cz), (117, Value.int .i64 (zs.length : Int)), (118, Value.int .i64 (i : Int)), (123, Value.slice Az zs.length cz), (124, Value.int .i64 (i : Int)), (125, Value.slice Az2 i cz)] ⟨congrArg (fun z : Nat => some (Value.int .i64 (z : Int))) triC_0.symm, congrArg (fun z : Nat => some (Value.int .i64 (z : Int))) triC_0.symm, congrArg (fun z : Nat => some (Value.int .i64 (z : Int))) triC_0.symm, rfl, rfl, rfl, rfl, rfl, rfl, rfl, rfl, rfl, rfl, trivial⟩ ?_
     refine sqV (.int .i64 (i : Int)) rfl rfl (x_len rfl rfl) ?_
     refine sqV (.int .i64 0) rfl rfl rfl ?_
     refine r_nil (e_then (k_block (k_loop (σ := Nat) (fun k => [(4, .int .i64 ((triC Q zs 0 i k z : Nat) : Int)), (5, .int .i64 ((triC Q zs 1 i k z : Nat) : Int)), (6, .int .i64 ((triC Q zs 2 i k z : Nat) : Int)), (8, .pointer (some ⟨b3, 0, none⟩)), (22, .slice Az zs.length cz), (27, .int .i64 z.1), (116, .slice Az zs.length cz), (117, .int .i64 (zs.length : Int)), (118, .int .i64 (i : Int)), (125, .slice Az2 i cz), (126, .int .i64 (i : Int)), (127, .int .i64 (k : Int))]) (fun k w_ => Mem w No w_ ((b3, .cells (rowC 2 (fun v => v) ms) 84 (0, 0)) :: (bb, mapO (esOf Q) Q.length) :: (ba, mapO (esOf P) P.length) :: Lz) ∧ k ≤ i) (fun k => i - k) 0 (sqS rfl) ⟨hM37, Nat.zero_le _⟩ ?_)))
     rintro k w38 ⟨hM39, hk⟩
     refine sqK [(4, .int .i64 ((triC Q zs 0 i k z : Nat) : Int)), (5, .int .i64 ((triC Q zs 1 i k z : Nat) : Int)), (6, .int .i64 ((triC Q zs 2 i k z : Nat) : Int)), (8, .pointer (some ⟨b3, 0, none⟩)), (22, .slice Az zs.length cz), (27, .int .i64 z.1), (116, .slice Az zs.length cz), (117, .int .i64 (zs.length : Int)), (118, .int .i64 (i : Int)), (125, .slice Az2 i cz), (126, .int .i64 (i : Int)), (127, .int .i64 (k : Int))] rfl (k_seq (k_region (sqV (.bool (decide ((k : Int) < (i : Int)))) rfl rfl rfl ?_)))
     refine r_nil (e_then (k_seq ?_))
     refine k_cond rfl rfl (fun h8 => ?_) (fun h8 => ?_)
     ·try simp only [sqC] at h8
      refine k_skip (e_then (k_seq (k_block (k_seq (k_region ?_)))))
      obtain ⟨y, hy⟩ : ∃ y, zs[k]? = some y := ⟨zs[k]'(by omega), by simp⟩
      have hym := both_mem hbth (List.mem_of_getElem? hy)
      have ht0 := triC_le (Q := Q) (j := 0) (k := k) (z := z) hz3 (show i ≤ 300 by omega)
      have ht1 := triC_le (Q := Q) (j := 1) (k := k) (z := z) hz3 (show i ≤ 300 by omega)
      have ht2 := triC_le (Q := Q) (j := 2) (k := k) (z := z) hz3 (show i ≤ 300 by omega)
      refine sqV (.pointer (some ((adr Az2).add (k * 1)))) rfl rfl (x_indexAddrN (i := k) (sz := 1) hz2.here (by omega) rfl rfl rfl rfl) ?_
      refine sqV (.int .i64 y.1) rfl rfl (x_loadEInt (by have h9 := (hvr.rdI (w := w38) (Mem.right (L := [_, _, _]) (L' := Lz) hM39).holds).takeN i (by omega); rw [← hAz2] at h9; exact h9) (fsts_take hy (by omega)) rfl rfl) ?_
      refine sqV (.int .i64 y.1) rfl rfl rfl ?_
      refine r_nil (sqE [(4, .int .i64 ((triC Q zs 0 i k z : Nat) : Int)), (5, .int .i64 ((triC Q zs 1 i k z : Nat) : Int)), (6, .int .i64 ((triC Q zs 2 i k z : Nat) : Int)), (8, .pointer (some ⟨b3, 0, none⟩)), (22, .slice Az zs.length cz), (27, .int .i64 z.1), (29, .int .i64 y.1), (116, .slice Az zs.length cz), (117, .int .i64 (zs.length : Int)), (118, .int .i64 (i : Int)), (125, .slice Az2 i cz), (126, .int .i64 (i : Int)), (127, .int .i64 (k : Int))] rfl (e_then (k_seq ?_)))
      refine k_drawP mixed [0, 1, 0, 7, 0, 16, 0, 112, 255, 0, 512, 0, 3584, 0, 8192, 0, 57344, 130560, 511, 524287] [some (Value.pointer (some ⟨b3, 0, none⟩)), some (Value.map (some ba)), some (Value.int .i64 z.1), some (Value.int .i64 (nv P z.1)), some (Value.pointer (some ⟨b3, 0, none⟩)), some (Value.map (some ba)), some (Value.int .i64 y.1), some (Value.int .i64 (nv P y.1)), some (Value.bool ((nv P z.1) == (nv P y.1))), some (Value.pointer (some ⟨b3, 1, none⟩)), some (Value.map (some bb)), some (Value.int .i64 z.1), some (Value.int .i64 (nv Q z.1)), some (Value.pointer (some ⟨b3, 1, none⟩)), some (Value.map (some bb)), some (Value.int .i64 y.1), some (Value.int .i64 (nv Q y.1)), some (Value.bool ((nv Q z.1) == (nv Q y.1))), some (Value.bool ((nv P z.1) == (nv P y.1)))] (by kernel_rfl) 19 [] rfl rfl (by kernel_rfl) rfl (fun D V w_ => Mem w No w_ ((b3, .cells (rowC 2 (fun v => v) ms) 84 (0, 0)) :: (bb, mapO (esOf Q) Q.length) :: (ba, mapO (esOf P) P.length) :: Lz)) (fun V => hM39.drew) trivial ?_ ?_
      ·refine ⟨?_, ?_, ?_, ?_, ?_, ?_, ?_, ?_, ?_, ?_, ?_, ?_, ?_, ?_, ?_, ?_, ?_, ?_, ?_, trivial⟩
       ·intro D V w_ hd hi hM_
        refine sqG [(8, .pointer (some ⟨b3, 0, none⟩))] rfl rfl rfl ?_
        exact run_val (.pointer (some ⟨b3, 0, none⟩)) (x_indexAddrB (i := 0) (sz := 1) (by omega) rfl rfl rfl rfl (by omega)) ⟨sqT, hM_⟩
       ·intro D V w_ hd hi hM_
        refine sqG [(131, .pointer (some ⟨b3, 0, none⟩))] rfl rfl rfl ?_
        exact run_val (.map (some ba)) (by rw [← hm0]; exact x_load (hM_.cell 0 rfl (rowC_get (by omega))) rfl rfl) ⟨sqT, hM_⟩
       ·intro D V w_ hd hi hM_
        refine sqG [(27, .int .i64 z.1)] rfl rfl rfl ?_
        exact run_val (.int .i64 z.1) (rfl) ⟨sqT, hM_⟩
       ·intro D V w_ hd hi hM_
        refine sqG [(132, .map (some ba)), (133, .int .i64 z.1)] rfl rfl rfl ?_
        exact run_val (.int .i64 (nv P z.1)) (x_lookupNv (hM_.get 2 rfl) rfl rfl rfl rfl rfl) ⟨sqT, hM_⟩
       ·intro D V w_ hd hi hM_
        refine sqG [(8, .pointer (some ⟨b3, 0, none⟩))] rfl rfl rfl ?_
        exact run_val (.pointer (some ⟨b3, 0, none⟩)) (x_indexAddrB (i := 0) (sz := 1) (by omega) rfl rfl rfl rfl (by omega)) ⟨sqT, hM_⟩
       ·intro D V w_ hd hi hM_
        refine sqG [(135, .pointer (some ⟨b3, 0, none⟩))] rfl rfl rfl ?_
        exact run_val (.map (some ba)) (by rw [← hm0]; exact x_load (hM_.cell 0 rfl (rowC_get (by omega))) rfl rfl) ⟨sqT, hM_⟩
       ·intro D V w_ hd hi hM_
        refine sqG [(29, .int .i64 y.1)] rfl rfl rfl ?_
        exact run_val (.int .i64 y.1) (rfl) ⟨sqT, hM_⟩
       ·intro D V w_ hd hi hM_
        refine sqG [(136, .map (some ba)), (137, .int .i64 y.1)] rfl rfl rfl ?_
        exact run_val (.int .i64 (nv P y.1)) (x_lookupNv (hM_.get 2 rfl) rfl rfl rfl rfl rfl) ⟨sqT, hM_⟩
       ·intro D V w_ hd hi hM_
        refine sqG [(134, .int .i64 (nv P z.1)), (138, .int .i64 (nv P y.1))] rfl rfl rfl ?_
        exact run_val (.bool ((nv P z.1) == (nv P y.1))) (rfl) ⟨sqT, hM_⟩
       ·intro D V w_ hd hi hM_
        refine sqG [(8, .pointer (some ⟨b3, 0, none⟩))] rfl rfl rfl ?_
        exact run_val (.pointer (some ⟨b3, 1, none⟩)) (x_indexAddrB (i := 1) (sz := 1) (by omega) rfl rfl rfl rfl (by omega)) ⟨sqT, hM_⟩
       ·intro D V w_ hd hi hM_
        refine sqG [(140, .pointer (some ⟨b3, 1, none⟩))] rfl rfl rfl ?_
        exact run_val (.map (some bb)) (by rw [← hm1]; exact x_load (hM_.cell 0 rfl (rowC_get (by omega))) rfl rfl) ⟨sqT, hM_⟩
       ·intro D V w_ hd hi hM_
        refine sqG [(27, .int .i64 z.1)] rfl rfl rfl ?_
        exact run_val (.int .i64 z.1) (rfl) ⟨sqT, hM_⟩
       ·intro D V w_ hd hi hM_
        refine sqG [(141, .map (some bb)), (142, .int .i64 z.1)] rfl rfl rfl ?_
        exact run_val (.int .i64 (nv Q z.1)) (x_lookupNv (hM_.get 1 rfl) rfl rfl rfl rfl rfl) ⟨sqT, hM_⟩
       ·intro D V w_ hd hi hM_
        refine sqG [(8, .pointer (some ⟨b3, 0, none⟩))] rfl rfl rfl ?_
        exact run_val (.pointer (some ⟨b3, 1, none⟩)) (x_indexAddrB (i := 1) (sz := 1) (by omega) rfl rfl rfl rfl (by omega)) ⟨sqT, hM_⟩
       ·intro D V w_ hd hi hM_
        refine sqG [(144, .pointer (some ⟨b3, 1, none⟩))] rfl rfl rfl ?_
        exact run_val (.map (some bb)) (by rw [← hm1]; exact x_load (hM_.cell 0 rfl (rowC_get (by omega))) rfl rfl) ⟨sqT, hM_⟩
       ·intro D V w_ hd hi hM_
        refine sqG [(29, .int .i64 y.1)] rfl rfl rfl ?_
        exact run_val (.int .i64 y.1) (rfl) ⟨sqT, hM_⟩
       ·intro D V w_ hd hi hM_
        refine sqG [(145, .map (some bb)), (146, .int .i64 y.1)] rfl rfl rfl ?_
        exact run_val (.int .i64 (nv Q y.1)) (x_lookupNv (hM_.get 1 rfl) rfl rfl rfl rfl rfl) ⟨sqT, hM_⟩
       ·intro D V w_ hd hi hM_
        refine sqG [(143, .int .i64 (nv Q z.1)), (147, .int .i64 (nv Q y.1))] rfl rfl rfl ?_
        exact run_val (.bool ((nv Q z.1) == (nv Q y.1))) (rfl) ⟨sqT, hM_⟩
       ·intro D V w_ hd hi hM_
        refine sqG [(139, .bool ((nv P z.1) == (nv P y.1)))] rfl rfl rfl ?_
        exact run_val (.bool ((nv P z.1) == (nv P y.1))) (rfl) ⟨sqT, hM_⟩
      intro D V w40 hall hM41
      refine sqR [(4, .int .i64 ((triC Q zs 0 i k z : Nat) : Int)), (5, .int .i64 ((triC Q zs 1 i k z : Nat) : Int)), (6, .int .i64 ((triC Q zs 2 i k z : Nat) : Int)), (8, .pointer (some ⟨b3, 0, none⟩)), (22, .slice Az zs.length cz), (27, .int .i64 z.1), (30, .bool ((nv P z.1) == (nv P y.1))), (116, .slice Az zs.length cz), (117, .int .i64 (zs.length : Int)), (118, .int .i64 (i : Int)), (125, .slice Az2 i cz), (126, .int .i64 (i : Int)), (127, .int .i64 (k : Int)), (148, .bool ((nv Q z.1) == (nv Q y.1)))] rfl (sqV (.bool ((nv Q z.1) == (nv Q y.1))) rfl rfl rfl ?_)
      refine r_nil (e_then (k_block (k_seq (k_region (sqV (.bool ((nv P z.1) == (nv P y.1))) rfl rfl rfl ?_)))))
      refine sqV (.bool ((nv P z.1) == (nv P y.1))) rfl rfl rfl ?_
      rcases Bool.eq_false_or_eq_true ((nv P z.1) == (nv P y.1)) with g4 | g4
      ·refine wpR_sub [(4, Value.int .i64 ((triC Q zs 0 i k z : Nat) : Int)), (5, Value.int .i64 ((triC Q zs 1 i k z : Nat) : Int)), (6, Value.int .i64 ((triC Q zs 2 i k z : Nat) : Int)), (8, Value.pointer (some ⟨b3, 0, none⟩)), (22, Value.slice Az zs.length cz), (27, Value.int .i64 z.1), (30, Value.bool ((nv P z.1) == (nv P y.1))), (31, Value.bool ((nv Q z.1) == (nv Q y.1))), (116, Value.slice Az zs.length cz), (117, Value.int .i64 (zs.length : Int)), (118, Value.int .i64 (i : Int)), (125, Value.slice Az2 i cz), (126, Value.int .i64 (i : Int)), (127, Value.int .i64 (k : Int)), (151, Value.bool true)] ⟨rfl, rfl, rfl, rfl, rfl, rfl, rfl, rfl, rfl, rfl, rfl, rfl, rfl, rfl, congrArg (fun z => some (Value.bool z)) g4, trivial⟩ ?_
       refine r_yes rfl rfl ?_
       refine sqV (.bool ((nv Q z.1) == (nv Q y.1))) rfl rfl rfl ?_
       refine sqV (.bool ((nv Q z.1) == (nv Q y.1))) rfl rfl rfl ?_
       refine sqV (.bool ((nv Q z.1) == (nv Q y.1))) rfl rfl rfl ?_
       refine r_nil (e_then ?_)
       refine k_cond rfl rfl (fun g5 => ?_) (fun g5 => ?_)
       ·try simp only [sqC] at g5
        refine k_region ?_
        have hkk := knd_0 (Q := Q) (z := z) (y := y) ((same1_i (p := z) (q := y)).trans (by rw [← nv_some hnA hzm.1, ← nv_some hnA hym.1]; exact decide_eq_true (by simpa using g4))) ((same2_nv hzm.2 hym.2).trans (decide_eq_true (by simpa using g5)))
        have hk0 := hkk.1
        have hk1 := hkk.2.1
        have hk2 := hkk.2.2
        refine sqV (.int .i64 ((triC Q zs 0 i k z : Nat) : Int)) rfl rfl rfl ?_
        refine sqV (.int .i64 ((triC Q zs 0 i (k + 1) z : Nat) : Int)) rfl rfl (x_addE (by rw [triC_yes hy hk0]; omega) (by omega) (by rw [triC_yes hy hk0]; omega) rfl rfl) ?_
        refine sqV (.int .i64 ((triC Q zs 0 i (k + 1) z : Nat) : Int)) rfl rfl rfl ?_
        refine r_nil (e_blk (e_blk (e_then (k_region (sqV (.int .i64 ((k : Int) + 1)) rfl rfl (x_addE rfl (by omega) (by omega) rfl rfl) ?_)))))
        refine sqV (.int .i64 ((k : Int) + 1)) rfl rfl rfl ?_
        refine r_nil (sqE [(4, .int .i64 ((triC Q zs 0 i (k + 1) z : Nat) : Int)), (5, .int .i64 ((triC Q zs 1 i k z : Nat) : Int)), (6, .int .i64 ((triC Q zs 2 i k z : Nat) : Int)), (8, .pointer (some ⟨b3, 0, none⟩)), (22, .slice Az zs.length cz), (27, .int .i64 z.1), (116, .slice Az zs.length cz), (117, .int .i64 (zs.length : Int)), (118, .int .i64 (i : Int)), (125, .slice Az2 i cz), (126, .int .i64 (i : Int)), (127, .int .i64 ((k : Int) + 1))] rfl ?_)
        refine e_loop (k + 1) ⟨rfl, congrArg (fun z : Nat => some (Value.int .i64 (z : Int))) (triC_no hy hk1).symm, congrArg (fun z : Nat => some (Value.int .i64 (z : Int))) (triC_no hy hk2).symm, rfl, rfl, rfl, rfl, rfl, rfl, rfl, rfl, rfl, trivial⟩ ?_ ?_
        ·exact ⟨hM41, by omega⟩
        ·(try dsimp only); omega
       ·try simp only [sqC] at g5
        refine k_seq (k_region ?_)
        have hkk := knd_1 (Q := Q) (z := z) (y := y) ((same1_i (p := z) (q := y)).trans (by rw [← nv_some hnA hzm.1, ← nv_some hnA hym.1]; exact decide_eq_true (by simpa using g4))) ((same2_nv hzm.2 hym.2).trans (decide_eq_false (by simpa using g5)))
        have hk0 := hkk.1
        have hk1 := hkk.2.1
        have hk2 := hkk.2.2
        refine sqV (.bool ((nv P z.1) == (nv P y.1))) rfl rfl rfl ?_
        refine sqV (.bool ((nv P z.1) == (nv P y.1))) rfl rfl rfl ?_
        refine r_nil (e_then (k_cond_true rfl (congrArg Value.bool (g4)) ?_))
        refine k_region (sqV (.int .i64 ((triC Q zs 1 i k z : Nat) : Int)) rfl rfl rfl ?_)
        refine sqV (.int .i64 ((triC Q zs 1 i (k + 1) z : Nat) : Int)) rfl rfl (x_addE (by rw [triC_yes hy hk1]; omega) (by omega) (by rw [triC_yes hy hk1]; omega) rfl rfl) ?_
        refine sqV (.int .i64 ((triC Q zs 1 i (k + 1) z : Nat) : Int)) rfl rfl rfl ?_
        refine r_nil (e_blk (e_blk (e_then (k_region (sqV (.int .i64 ((k : Int) + 1)) rfl rfl (x_addE rfl (by omega) (by omega) rfl rfl) ?_)))))
        refine sqV (.int .i64 ((k : Int) + 1)) rfl rfl rfl ?_
        refine r_nil ?_
        refine e_loop (k + 1) ⟨congrArg (fun z : Nat => some (Value.int .i64 (z : Int))) (triC_no hy hk0).symm, rfl, congrArg (fun z : Nat => some (Value.int .i64 (z : Int))) (triC_no hy hk2).symm, rfl, rfl, rfl, rfl, rfl, rfl, rfl, rfl, rfl, trivial⟩ ?_ ?_
        ·exact ⟨hM41, by omega⟩
        ·(try dsimp only); omega
      ·refine wpR_sub [(4, Value.int .i64 ((triC Q zs 0 i k z : Nat) : Int)), (5, Value.int .i64 ((triC Q zs 1 i k z : Nat) : Int)), (6, Value.int .i64 ((triC Q zs 2 i k z : Nat) : Int)), (8, Value.pointer (some ⟨b3, 0, none⟩)), (22, Value.slice Az zs.length cz), (27, Value.int .i64 z.1), (30, Value.bool ((nv P z.1) == (nv P y.1))), (31, Value.bool ((nv Q z.1) == (nv Q y.1))), (116, Value.slice Az zs.length cz), (117, Value.int .i64 (zs.length : Int)), (118, Value.int .i64 (i : Int)), (125, Value.slice Az2 i cz), (126, Value.int .i64 (i : Int)), (127, Value.int .i64 (k : Int)), (151, Value.bool false)] ⟨rfl, rfl, rfl, rfl, rfl, rfl, rfl, rfl, rfl, rfl, rfl, rfl, rfl, rfl, congrArg (fun z => some (Value.bool z)) g4, trivial⟩ ?_
       refine r_no rfl rfl (by decide) rfl ?_
       refine sqV (.bool false) rfl rfl rfl ?_
       refine sqV (.bool false) rfl rfl rfl ?_
       refine r_nil (sqE [(4, .int .i64 ((triC Q zs 0 i k z : Nat) : Int)), (5, .int .i64 ((triC Q zs 1 i k z : Nat) : Int)), (6, .int .i64 ((triC Q zs 2 i k z : Nat) : Int)), (8, .pointer (some ⟨b3, 0, none⟩)), (22, .slice Az zs.length cz), (27, .int .i64 z.1), (30, .bool ((nv P z.1) == (nv P y.1))), (31, .bool ((nv Q z.1) == (nv Q y.1))), (116, .slice Az zs.length cz), (117, .int .i64 (zs.length : Int)), (118, .int .i64 (i : Int)), (125, .slice Az2 i cz), (126, .int .i64 (i : Int)), (127, .int .i64 (k : Int)), (149, .bool false)] rfl (e_then (k_cond_false rfl rfl ?_)))
       refine k_seq (k_region (sqV (.bool ((nv P z.1) == (nv P y.1))) rfl rfl rfl ?_))
       refine sqV (.bool ((nv P z.1) == (nv P y.1))) rfl rfl rfl ?_
       refine r_nil (e_then (k_cond_false rfl (congrArg Value.bool (g4)) ?_))
       refine k_seq (k_region (sqV (.bool ((nv Q z.1) == (nv Q y.1))) rfl rfl rfl ?_))
       refine sqV (.bool ((nv Q z.1) == (nv Q y.1))) rfl rfl rfl ?_
       refine r_nil (e_then ?_)
       refine k_cond rfl rfl (fun g5 => ?_) (fun g5 => ?_)
       ·try simp only [sqC] at g5
        refine k_region ?_
        have hkk := knd_2 (Q := Q) (z := z) (y := y) ((same1_i (p := z) (q := y)).trans (by rw [← nv_some hnA hzm.1, ← nv_some hnA hym.1]; exact decide_eq_false (by simpa using g4))) ((same2_nv hzm.2 hym.2).trans (decide_eq_true (by simpa using g5)))
        have hk0 := hkk.1
        have hk1 := hkk.2.1
        have hk2 := hkk.2.2
        refine sqV (.int .i64 ((triC Q zs 2 i k z : Nat) : Int)) rfl rfl rfl ?_
        refine sqV (.int .i64 ((triC Q zs 2 i (k + 1) z : Nat) : Int)) rfl rfl (x_addE (by rw [triC_yes hy hk2]; omega) (by omega) (by rw [triC_yes hy hk2]; omega) rfl rfl) ?_
        refine sqV (.int .i64 ((triC Q zs 2 i (k + 1) z : Nat) : Int)) rfl rfl rfl ?_
        refine r_nil (e_blk (e_blk (e_then (k_region (sqV (.int .i64 ((k : Int) + 1)) rfl rfl (x_addE rfl (by omega) (by omega) rfl rfl) ?_)))))
        refine sqV (.int .i64 ((k : Int) + 1)) rfl rfl rfl ?_
        refine r_nil (sqE [(4, .int .i64 ((triC Q zs 0 i k z : Nat) : Int)), (5, .int .i64 ((triC Q zs 1 i k z : Nat) : Int)), (6, .int .i64 ((triC Q zs 2 i (k + 1) z : Nat) : Int)), (8, .pointer (some ⟨b3, 0, none⟩)), (22, .slice Az zs.length cz), (27, .int .i64 z.1), (116, .slice Az zs.length cz), (117, .int .i64 (zs.length : Int)), (118, .int .i64 (i : Int)), (125, .slice Az2 i cz), (126, .int .i64 (i : Int)), (127, .int .i64 ((k : Int) + 1))] rfl ?_)
        refine e_loop (k + 1) ⟨congrArg (fun z : Nat => some (Value.int .i64 (z : Int))) (triC_no hy hk0).symm, congrArg (fun z : Nat => some (Value.int .i64 (z : Int))) (triC_no hy hk1).symm, rfl, rfl, rfl, rfl, rfl, rfl, rfl, rfl, rfl, rfl, trivial⟩ ?_ ?_
        ·exact ⟨hM41, by omega⟩
        ·(try dsimp only); omega
       ·try simp only [sqC] at g5
        refine k_skip (e_blk (e_blk (e_then (k_region ?_))))
        have hkk := knd_n (Q := Q) (z := z) (y := y) ((same1_i (p := z) (q := y)).trans (by rw [← nv_some hnA hzm.1, ← nv_some hnA hym.1]; exact decide_eq_false (by simpa using g4))) ((same2_nv hzm.2 hym.2).trans (decide_eq_false (by simpa using g5)))
        have hk0 := hkk.1
        have hk1 := hkk.2.1
        have hk2 := hkk.2.2
        refine sqV (.int .i64 ((k : Int) + 1)) rfl rfl (x_addE rfl (by omega) (by omega) rfl rfl) ?_
        refine sqV (.int .i64 ((k : Int) + 1)) rfl rfl rfl ?_
        refine r_nil ?_
        refine e_loop (k + 1) ⟨congrArg (fun z : Nat => some (Value.int .i64 (z : Int))) (triC_no hy hk0).symm, congrArg (fun z : Nat => some (Value.int .i64 (z : Int))) (triC_no hy hk1).symm, congrArg (fun z : Nat => some (Value.int .i64 (z : Int))) (triC_no hy hk2).symm, rfl, rfl, rfl, rfl, rfl, rfl, rfl, rfl, rfl, trivial⟩ ?_ ?_
        ·exact ⟨hM41, by omega⟩
        ·(try dsimp only); omega
     ·try simp only [sqC] at h8
      refine k_exit (e_then_exit (e_loop_exit (e_blk_exit (e_blk (e_then (k_region ?_))))))
      have hki : k = i := by omega
      refine sqV (.int .i64 ((i : Int) + 1)) rfl rfl (x_addE rfl (by omega) (by omega) rfl rfl) ?_
      refine sqV (.int .i64 ((i : Int) + 1)) rfl rfl rfl ?_
      refine r_nil ?_
      refine e_loop (i + 1) ⟨congrArg (fun z : Nat => some (Value.int .i64 (z : Int))) (by rw [hki]; exact triC_row hz), congrArg (fun z : Nat => some (Value.int .i64 (z : Int))) (by rw [hki]; exact triC_row hz), congrArg (fun z : Nat => some (Value.int .i64 (z : Int))) (by rw [hki]; exact triC_row hz), rfl, rfl, rfl, rfl, rfl, trivial⟩ ?_ ?_
      ·exact ⟨hM39, by omega⟩
      ·(try dsimp only); omega
    ·try simp only [sqC] at h7
     refine k_exit (e_then_exit (e_loop_exit (e_blk_exit (e_then (k_seq (k_region ?_))))))
     have hil : i = zs.length := by omega
     refine sqV (.int .i64 ((triS (knd Q 0) zs i : Nat) : Int)) rfl rfl rfl ?_
     refine sqV (.int .i64 ((triS (knd Q 1) zs i : Nat) : Int)) rfl rfl rfl ?_
     refine sqV (.int .i64 ((triS (knd Q 2) zs i : Nat) : Int)) rfl rfl rfl ?_
     refine sqV (.int .i64 ((triS (knd Q 0) zs i : Nat) : Int)) rfl rfl rfl ?_
     refine sqV (.int .i64 ((triS (knd Q 1) zs i : Nat) : Int)) rfl rfl rfl ?_
     refine sqV (.int .i64 ((triS (knd Q 2) zs i : Nat) : Int)) rfl rfl rfl ?_
     refine sqV (.int .i64 0) rfl rfl rfl ?_
     refine r_nil (e_then (k_ret (e_ret4 rfl rfl rfl rfl rfl ?_)))
     exact ⟨_, rfl, by rw [hil, prs_ok he0, ← hP, ← hQ, pairs_common hnA hbth, pairs_common hnA hbth, pairs_common hnA hbth], hM37.drop⟩
   ·obtain ⟨a, p, hp, rfl⟩ := esOf_mem he_
    replace hM34 : Mem w No w33 ((b1, .mapIter (some ba) P.length (seen.push a) P.length) :: (b3, .cells (rowC 2 (fun v => v) ms) 84 (0, 0)) :: (bb, mapO (esOf Q) Q.length) :: (ba, mapO (esOf P) P.length) :: Lz) := hM34
    have hblen := both_len hbo
    refine sqV (.bool true) rfl rfl rfl ?_
    refine r_nil (sqE [(4, .int .i64 0), (5, .int .i64 0), (6, .int .i64 0), (8, .pointer (some ⟨b3, 0, none⟩)), (22, v), (99, .pointer (some ⟨b1, 0, none⟩)), (101, .bool true)] rfl (e_then (k_seq (k_cond_true rfl rfl ?_))))
    refine k_skip (e_then (k_block (k_seq (k_region (sqV (.tuple #[.int .i64 p.1, .int .i64 (p.2 : Int)]) rfl rfl (x_entry (hM34.get 0 rfl) (hM34.get 3 rfl) he_ esOf_bnd rfl) ?_)))))
    refine sqV (.int .i64 p.1) rfl rfl rfl ?_
    refine sqV (.int .i64 p.1) rfl rfl rfl ?_
    refine r_nil (e_then (k_seq (k_region (sqV (.pointer (some ⟨b3, 1, none⟩)) rfl rfl (x_indexAddrB (i := 1) (sz := 1) (by omega) rfl rfl rfl rfl (by omega)) ?_))))
    refine sqV (.map (some bb)) rfl rfl (by rw [← hm1]; exact x_load (hM34.cell 1 rfl (rowC_get (by omega))) rfl rfl) ?_
    refine sqV (.int .i64 p.1) rfl rfl rfl ?_
    refine sqV (.tuple #[.int .i64 (nv Q p.1), .bool ((numOf Q p.1).isSome)]) rfl rfl (x_lookupNum (hM34.get 2 rfl) rfl rfl rfl rfl rfl) ?_
    refine sqV (.tuple #[.int .i64 (nv Q p.1), .bool ((numOf Q p.1).isSome)]) rfl rfl rfl ?_
    refine sqV (.int .i64 (nv Q p.1)) rfl rfl rfl ?_
    refine sqV (.bool ((numOf Q p.1).isSome)) rfl rfl rfl ?_
    refine sqV (.int .i64 (nv Q p.1)) rfl rfl rfl ?_
    refine sqV (.bool ((numOf Q p.1).isSome)) rfl rfl rfl ?_
    refine r_nil (e_then (k_seq (k_region (sqV (.bool ((numOf Q p.1).isSome)) rfl rfl rfl ?_))))
    refine r_nil (e_then ?_)
    refine k_cond rfl rfl (fun h6 => ?_) (fun h6 => ?_)
    ·try simp only [sqC] at h6
     refine k_region ?_
     have hM43 : Mem w No w33 ((b1, .mapIter (some ba) P.length (seen.push a) P.length) :: (b3, .cells (rowC 2 (fun v => v) ms) 84 (0, 0)) :: (bb, mapO (esOf Q) Q.length) :: (ba, mapO (esOf P) P.length) :: (Lz ++ [])) := by simpa using hM34
     refine sqV (v) rfl rfl rfl ?_
     refine sqV (.int .i64 p.1) rfl rfl rfl ?_
     refine r_new (fun b => .slice (some ⟨b, 0, none⟩) 1 1) (.cells #[Value.int .i64 p.1] 3 (0, 0)) hM43 (by kernel_rfl) rfl rfl ?_
     intro b46 w44 hM45 hb46
     replace hM45 : Mem w No w44 ((b46, .cells #[Value.int .i64 p.1] 3 (0, 0)) :: (b1, .mapIter (some ba) P.length (seen.push a) P.length) :: (b3, .cells (rowC 2 (fun v => v) ms) 84 (0, 0)) :: (bb, mapO (esOf Q) Q.length) :: (ba, mapO (esOf P) P.length) :: (Lz ++ [])) := hM45
     refine r_append (bytes := 8) (z := .int .i64 0) (A := some ⟨b46, 0, none⟩) (m := 1) (c := 1) (news := [Value.int .i64 p.1]) hv (hM45.perm (List.perm_append_comm_assoc ([(b46, .cells #[Value.int .i64 p.1] 3 (0, 0)), (b1, .mapIter (some ba) P.length (seen.push a) P.length), (b3, .cells (rowC 2 (fun v => v) ms) 84 (0, 0)), (bb, mapO (esOf Q) Q.length), (ba, mapO (esOf P) P.length)] : Hp) Lz ([]))) (fun _ => rfl) (rfl) (hM45.cells 0 rfl) (by simp [Value.oneCell']) (by omega) (by kernel_rfl) (by kernel_rfl) rfl (by decide) (by decide) rfl rfl rfl ?_
     intro v9 L9 w47 hr9 hM48
     replace hM48 := (hM48).perm (List.perm_append_comm_assoc L9 ([(b46, .cells #[Value.int .i64 p.1] 3 (0, 0)), (b1, .mapIter (some ba) P.length (seen.push a) P.length), (b3, .cells (rowC 2 (fun v => v) ms) 84 (0, 0)), (bb, mapO (esOf Q) Q.length), (ba, mapO (esOf P) P.length)] : Hp) ([]))
     have hone_v9 := hr9.one
     replace hM48 : Mem w No w47 ((b46, .cells #[Value.int .i64 p.1] 3 (0, 0)) :: (b1, .mapIter (some ba) P.length (seen.push a) P.length) :: (b3, .cells (rowC 2 (fun v => v) ms) 84 (0, 0)) :: (bb, mapO (esOf Q) Q.length) :: (ba, mapO (esOf P) P.length) :: (L9 ++ ([]))) := hM48
     have hM49 : Mem w No w47 ((b1, .mapIter (some ba) P.length (seen.push a) P.length) :: (b3, .cells (rowC 2 (fun v => v) ms) 84 (0, 0)) :: (bb, mapO (esOf Q) Q.length) :: (ba, mapO (esOf P) P.length) :: L9) := by have h9 := hM48.tail; rw [List.append_nil] at h9; exact h9
     refine sqV (v9) rfl rfl rfl ?_
     refine r_nil (sqE [(4, .int .i64 0), (5, .int .i64 0), (6, .int .i64 0), (8, .pointer (some ⟨b3, 0, none⟩)), (22, v9), (99, .pointer (some ⟨b1, 0, none⟩))] rfl (e_blk ?_))
     refine e_loop (seen.push a, zs ++ [p], v9, L9) (sqS rfl) ?_ ?_
     ·exact ⟨hM49, both_yes hbo hp hns h6, by simpa using hr9⟩
     ·exact psum_lt hp hns
    ·try simp only [sqC] at h6
     refine k_skip (e_blk ?_)
     refine e_loop (seen.push a, zs, v, Lz) (sqS rfl) ?_ ?_
     ·exact ⟨hM34, both_no hbo hp hns (by simpa using h6), hv⟩
     ·exact psum_lt hp hns


end Go.Proofs.Ytddacakmafdgdaa
end
section
/- The reference's clustering, by numbers of groups: plain facts. -/
set_option linter.unusedVariables false
set_option linter.unusedSimpArgs false
namespace Go.Kn
open Go.RowKit Go.Proofs.Ytddacakmafdgdaa
section
variable {K : List Nat} {i k x y : Nat}
theorem sidx_lt (h : K.Pairwise (· < ·)) (hi : K[i]? = some x) (hk : K[k]? = some y) : x < y ↔ i < k := by
  obtain ⟨h1, rfl⟩ := List.getElem?_eq_some_iff.1 hi
  obtain ⟨h2, rfl⟩ := List.getElem?_eq_some_iff.1 hk
  constructor
  · intro hlt
    rcases Nat.lt_trichotomy i k with h3 | h3 | h3
    · exact h3
    · subst h3; omega
    · have := List.pairwise_iff_getElem.1 h k i h2 h1 h3; omega
  · exact fun h3 => List.pairwise_iff_getElem.1 h i k h1 h2 h3
theorem sidx_eq (h : K.Pairwise (· < ·)) (hi : K[i]? = some x) (hk : K[k]? = some y) : x = y ↔ i = k := by
  have h1 := sidx_lt h hi hk
  have h2 := sidx_lt h hk hi
  omega
theorem idx_at (h : K.Pairwise (· < ·)) (hi : K[i]? = some x) : K.idxOf x = i := by
  have hm := List.mem_of_getElem? hi
  have h2 : K[K.idxOf x]? = some x := by
    rw [List.getElem?_eq_getElem (List.idxOf_lt_length_of_mem hm)]
    rw [List.getElem_idxOf]
  exact (sidx_eq h h2 hi).1 rfl
end
def gK (K : List Nat) (G : Nat → Nat → Int) : Nat → Nat → Int := fun x y => G (K.idxOf x) (K.idxOf y)
def aK (K : List Nat) (A : Nat → Nat → Bool) : Nat → Nat → Bool := fun x y => A (K.idxOf x) (K.idxOf y)
/-- the tables by numbers -/
structure TabI (l : List (List Int)) (n : Nat) (K : List Nat) (f : Nat → Nat) (ns : List (Nat × Nat)) (G : Nat → Nat → Int) (A : Nat → Nat → Bool) : Prop where
  tab : TabK l n f ns (gK K G) (aK K A)
  srt : K.Pairwise (· < ·)
  lt : ∀ x ∈ K, x < n
  keys : ∀ x, isKey n f x → x ∈ K
  le : ∀ p, p < n → f p ≤ p
  idem : ∀ p, p < n → f (f p) = f p
section
variable {l : List (List Int)} {n : Nat} {K : List Nat} {f : Nat → Nat} {ns : List (Nat × Nat)} {G : Nat → Nat → Int} {A : Nat → Nat → Bool} {limit : Int} {i k a b x y : Nat}
theorem gK_at (h : K.Pairwise (· < ·)) (hi : K[i]? = some x) (hk : K[k]? = some y) : gK K G x y = G i k := by unfold gK; rw [idx_at h hi, idx_at h hk]
theorem aK_at (h : K.Pairwise (· < ·)) (hi : K[i]? = some x) (hk : K[k]? = some y) : aK K A x y = A i k := by unfold aK; rw [idx_at h hi, idx_at h hk]
/-- a candidate by numbers -/
def CandI (K : List Nat) (f : Nat → Nat) (G : Nat → Nat → Int) (A : Nat → Nat → Bool) (limit : Int) (i k : Nat) : Prop := ∃ x y, K[i]? = some x ∧ K[k]? = some y ∧ f x = x ∧ f y = y ∧ A i k = false ∧ G i k ≤ limit
def BestI (K : List Nat) (f : Nat → Nat) (G : Nat → Nat → Int) (A : Nat → Nat → Bool) (limit : Int) (D : Nat → Nat → Prop) : Option (Nat × Nat) → Prop
  | none => ∀ i k, D i k → ¬ CandI K f G A limit i k
  | some (a, b) => D a b ∧ CandI K f G A limit a b ∧ ∀ i k, D i k → CandI K f G A limit i k → G a b < G i k ∨ (G a b = G i k ∧ (a < i ∨ (a = i ∧ b ≤ k)))
def upR (m i k : Nat) (p q : Nat) : Prop := p < q ∧ q < m ∧ (p < i ∨ (p = i ∧ q < k))
variable {m : Nat} {o : Option (Nat × Nat)} {D E : Nat → Nat → Prop}
theorem bestI_congr (h : BestI K f G A limit D o) (hD : ∀ i j, D i j ↔ E i j) : BestI K f G A limit E o := by
  have : D = E := by funext i j; exact propext (hD i j)
  rw [← this]; exact h
theorem bestI_0 : BestI K f G A limit (upR m 0 1) none := fun i k hd => by unfold upR at hd; omega
theorem bestI_row (h : BestI K f G A limit (upR m i k) o) (hk : m ≤ k) : BestI K f G A limit (upR m (i + 1) (i + 2)) o := bestI_congr h (fun p q => by unfold upR; omega)
theorem bestI_no (h : BestI K f G A limit (upR m i k) o) (hno : ¬ CandI K f G A limit i k) : BestI K f G A limit (upR m i (k + 1)) o := by
  have hnew : ∀ p q, upR m i (k + 1) p q → ¬ upR m i k p q → p = i ∧ q = k := by intro p q hd hold; unfold upR at hd hold; omega
  have hmono : ∀ p q, upR m i k p q → upR m i (k + 1) p q := by intro p q; unfold upR; omega
  cases o with
  | none =>
    intro p q hd hc
    by_cases hold : upR m i k p q
    · exact h p q hold hc
    · obtain ⟨rfl, rfl⟩ := hnew p q hd hold; exact hno hc
  | some ab =>
    obtain ⟨a, b⟩ := ab
    obtain ⟨h1, h2, h3⟩ := h
    refine ⟨hmono _ _ h1, h2, fun p q hd hc => ?_⟩
    by_cases hold : upR m i k p q
    · exact h3 p q hold hc
    · obtain ⟨rfl, rfl⟩ := hnew p q hd hold; exact absurd hc hno
theorem bestI_yes (hik : i < k) (hkm : k < m) (h : BestI K f G A limit (upR m i k) o) (hc : CandI K f G A limit i k) (hb : ∀ a b, o = some (a, b) → G i k < G a b) : BestI K f G A limit (upR m i (k + 1)) (some (i, k)) := by
  refine ⟨by unfold upR; omega, hc, fun p q hd hc2 => ?_⟩
  by_cases hold : upR m i k p q
  · left
    cases o with
    | none => exact absurd hc2 (h p q hold)
    | some ab =>
      obtain ⟨a, b⟩ := ab
      have := hb a b rfl
      have := h.2.2 p q hold hc2
      omega
  · have : p = i ∧ q = k := by unfold upR at hd hold; omega
    obtain ⟨rfl, rfl⟩ := this
    right; exact ⟨rfl, .inr ⟨rfl, Nat.le_refl _⟩⟩
theorem bestI_keep (h : BestI K f G A limit (upR m i k) (some (a, b))) (hg : G a b ≤ G i k) : BestI K f G A limit (upR m i (k + 1)) (some (a, b)) := by
  have hnew : ∀ p q, upR m i (k + 1) p q → ¬ upR m i k p q → p = i ∧ q = k := by intro p q hd hold; unfold upR at hd hold; omega
  have hmono : ∀ p q, upR m i k p q → upR m i (k + 1) p q := by intro p q; unfold upR; omega
  obtain ⟨h1, h2, h3⟩ := h
  refine ⟨hmono _ _ h1, h2, fun p q hd hc => ?_⟩
  by_cases hold : upR m i k p q
  · exact h3 p q hold hc
  · obtain ⟨rfl, rfl⟩ := hnew p q hd hold
    have hb : a < p ∨ (a = p ∧ b ≤ q) := by unfold upR at h1; omega
    by_cases he : G a b = G p q
    · exact .inr ⟨he, hb⟩
    · left; omega
/-- all pairs have been looked at -/
theorem bestI_all (h : BestI K f G A limit (upR m i k) o) (hi : m ≤ i) : BestI K f G A limit (fun p q => p < q ∧ q < m) o := bestI_congr h (fun p q => by unfold upR; omega)
theorem alive_idx (hT : TabI l n K f ns G A) {u : Nat} (hj : (keysOf n f)[i]? = some u) : ∃ j : Nat, K[j]? = some u ∧ f u = u := by
  have hk := mem_keysOf.1 (List.mem_of_getElem? hj)
  obtain ⟨j, hj⟩ := List.mem_iff_getElem?.1 (hT.keys u hk)
  exact ⟨j, hj, hk.2⟩
theorem best_of (hT : TabI l n K f ns G A) (h : BestI K f G A limit (fun p q => p < q ∧ q < K.length) o) :
    ∃ x y least, Best (gK K G) (aK K A) limit (keysOf n f) (upP (keysOf n f).length (keysOf n f).length 0) x y least ∧ match o with | none => least = limit + 1 | some (a, b) => K[a]? = some x ∧ K[b]? = some y ∧ least = G a b ∧ least ≤ limit := by
  have conv : ∀ i j u v, upP (keysOf n f).length (keysOf n f).length 0 i j → Cand (gK K G) (aK K A) limit (keysOf n f) i j u v → ∃ p q : Nat, K[p]? = some u ∧ K[q]? = some v ∧ (p < q ∧ q < K.length) ∧ CandI K f G A limit p q ∧ gK K G u v = G p q := by
    intro i j u v hd ⟨h1, h2, h3, h4⟩
    obtain ⟨p, hp, hup⟩ := alive_idx hT h1
    obtain ⟨q, hq, hvq⟩ := alive_idx hT h2
    have huv : u < v := (sidx_lt (keysOf_sorted n f) h1 h2).2 (by unfold upP at hd; omega)
    have hpq := (sidx_lt hT.srt hp hq).1 huv
    rw [aK_at hT.srt hp hq] at h3
    rw [gK_at hT.srt hp hq] at h4
    exact ⟨p, q, hp, hq, ⟨hpq, (List.getElem?_eq_some_iff.1 hq).1⟩, ⟨u, v, hp, hq, hup, hvq, h3, h4⟩, gK_at hT.srt hp hq⟩
  cases o with
  | none =>
    refine ⟨0, 0, limit + 1, .inl ⟨rfl, fun i j u v hd hc => ?_⟩, rfl⟩
    obtain ⟨p, q, _, _, hd2, hc2, _⟩ := conv i j u v hd hc
    exact h p q hd2 hc2
  | some ab =>
    obtain ⟨a, b⟩ := ab
    obtain ⟨⟨hab, hbm⟩, hc, hmin⟩ := h
    obtain ⟨x, y, hx, hy, hfx, hfy, ha, hg⟩ := hc
    have hxk : isKey n f x := ⟨hT.lt x (List.mem_of_getElem? hx), hfx⟩
    have hyk : isKey n f y := ⟨hT.lt y (List.mem_of_getElem? hy), hfy⟩
    obtain ⟨i0, hi0⟩ := List.mem_iff_getElem?.1 (mem_keysOf.2 hxk)
    obtain ⟨j0, hj0⟩ := List.mem_iff_getElem?.1 (mem_keysOf.2 hyk)
    have hxy : x < y := (sidx_lt hT.srt hx hy).2 hab
    have hij := (sidx_lt (keysOf_sorted n f) hi0 hj0).1 hxy
    have hjl := (List.getElem?_eq_some_iff.1 hj0).1
    refine ⟨x, y, G a b, .inr ⟨i0, j0, by unfold upP; omega, ⟨hi0, hj0, by rw [aK_at hT.srt hx hy]; exact ha, by rw [gK_at hT.srt hx hy]; exact hg⟩, (gK_at hT.srt hx hy).symm, fun i j u v hd hcd => ?_⟩, hx, hy, rfl, hg⟩
    obtain ⟨p, q, hp, hq, hd2, hc2, hgv⟩ := conv i j u v hd hcd
    obtain ⟨h1, h2, _, _⟩ := hcd
    rw [gK_at hT.srt hx hy, hgv]
    rcases hmin p q hd2 hc2 with h3 | ⟨h3, h4⟩
    · exact .inl h3
    · refine .inr ⟨h3, ?_⟩
      have e1 := sidx_lt hT.srt hx hp
      have e2 := sidx_lt (keysOf_sorted n f) hi0 h1
      have e3 := sidx_eq hT.srt hx hp
      have e4 := sidx_eq (keysOf_sorted n f) hi0 h1
      have e5 := sidx_lt hT.srt hq hy
      have e6 := sidx_lt (keysOf_sorted n f) h2 hj0
      omega
/-- the tables behind a join -/
theorem tabI_merge (hT : TabI l n K f ns G A) (hab : a < b) (hx : K[a]? = some x) (hy : K[b]? = some y) (hfx : f x = x) (hfy : f y = y) : TabI l n K (joinF x y f) ns (mgG a b G K.length) (mgA a b A K.length) := by
  have hxy : x < y := (sidx_lt hT.srt hx hy).2 hab
  have hxk : isKey n f x := ⟨hT.lt x (List.mem_of_getElem? hx), hfx⟩
  have hyk : isKey n f y := ⟨hT.lt y (List.mem_of_getElem? hy), hfy⟩
  have hM := tabK_merge hT.tab hxy hxk hyk
  have key : ∀ p q, isKey n (joinF x y f) p → isKey n (joinF x y f) q → p ≠ q → gK K (mgG a b G K.length) p q = mgG x y (gK K G) n p q ∧ aK K (mgA a b A K.length) p q = mgA x y (aK K A) n p q := by
    intro p q hp hq hpq
    obtain ⟨hp1, hpy⟩ := key_join hxy hxk hyk hp
    obtain ⟨hq1, hqy⟩ := key_join hxy hxk hyk hq
    obtain ⟨i, hi⟩ := List.mem_iff_getElem?.1 (hT.keys p hp1)
    obtain ⟨k, hk⟩ := List.mem_iff_getElem?.1 (hT.keys q hq1)
    rw [gK_at hT.srt hi hk, aK_at hT.srt hi hk]
    have hil := (List.getElem?_eq_some_iff.1 hi).1
    have hkl := (List.getElem?_eq_some_iff.1 hk).1
    have hne : a ≠ b := by omega
    have hnexy : x ≠ y := by omega
    by_cases e1 : p = x
    · subst e1
      have eia := (sidx_eq hT.srt hi hx).1 rfl
      subst eia
      have hki : k ≠ i := fun e => hpq ((sidx_eq hT.srt hi hk).2 e.symm)
      have h1 := (mgG_row (g := G) hne hki K.length).1
      have h2 := (mgG_row (g := gK K G) hnexy (fun e => hpq e.symm : q ≠ p) n).1
      have h3 := (mgA_row (a := A) hne hki K.length).1
      have h4 := (mgA_row (a := aK K A) hnexy (fun e => hpq e.symm : q ≠ p) n).1
      rw [if_pos hkl] at h1 h3
      rw [if_pos hq1.1] at h2 h4
      rw [h1, h2, h3, h4, gK_at hT.srt hx hk, gK_at hT.srt hy hk, aK_at hT.srt hx hk, aK_at hT.srt hy hk]
      exact ⟨rfl, rfl⟩
    · have hia : i ≠ a := fun e => e1 ((sidx_eq hT.srt hi hx).2 e)
      by_cases e2 : q = x
      · subst e2
        have eka := (sidx_eq hT.srt hk hx).1 rfl
        subst eka
        have h1 := (mgG_row (g := G) hne hia K.length).2
        have h2 := (mgG_row (g := gK K G) hnexy hpq n).2
        have h3 := (mgA_row (a := A) hne hia K.length).2
        have h4 := (mgA_row (a := aK K A) hnexy hpq n).2
        rw [if_pos hil] at h1 h3
        rw [if_pos hp1.1] at h2 h4
        rw [h1, h2, h3, h4, gK_at hT.srt hx hi, gK_at hT.srt hy hi, aK_at hT.srt hx hi, aK_at hT.srt hy hi]
        exact ⟨rfl, rfl⟩
      · have hka : k ≠ a := fun e => e2 ((sidx_eq hT.srt hk hx).2 e)
        rw [mgG_off hia hka, mgA_off hia hka, mgG_off e1 e2, mgA_off e1 e2, gK_at hT.srt hi hk, aK_at hT.srt hi hk]
        exact ⟨rfl, rfl⟩
  refine ⟨⟨fun p q hp hq hpq v => ?_, fun p q hp hq hpq => ?_⟩, hT.srt, hT.lt, fun p hp => hT.keys p (key_join hxy hxk hyk hp).1, fun p hp => ?_, fun p hp => ?_⟩
  · rw [(key p q hp hq hpq).1]; exact hM.gap p q hp hq hpq v
  · rw [(key p q hp hq hpq).2]; exact hM.apart p q hp hq hpq
  · have := hT.le p hp
    rw [joinF_eq hxy]
    split <;> omega
  · have h1 := hT.idem p hp
    rw [joinF_eq hxy p]
    split
    · rw [joinF_eq hxy, hfx, if_neg (by omega)]
    · rename_i h2
      rw [joinF_eq hxy, h1, if_neg h2]
end
end Go.Kn
end
section
/- Hy: what Go functions of this seat come to, printed by walk.py over the engine. -/
set_option linter.unusedVariables false
set_option linter.unusedSimpArgs false
set_option maxRecDepth 100000
namespace Go.Proofs.Ytddacakmafdgdaa
open Go.RowKit Go.Kn

theorem cmpA_s (A1 A2 : Option Addr) (n1 c1 n2 c2 : Nat) (xs ys : List Int) (x y : Int) (w : World) (h1 : RdE intE 1 w A1 n1 xs) (h2 : RdE intE 1 w A2 n2 ys) (hx : xs[0]? = some x) (hy : ys[0]? = some y) (hx0 : 0 ≤ x) (hx1 : x ≤ 1000000) (hy0 : 0 ≤ y) (hy1 : y ≤ 1000000) (hn1 : 0 < n1) (hn2 : 0 < n2) :
  Calls Try.prog 38 #[Value.slice A1 n1 c1, Value.slice A2 n2 c2] w fun e w' => ∃ r, e = .returned r ∧ r = .int .i64 (x - y) ∧ w' = w.drew := by
 refine calls_k (args := [Value.slice A1 n1 c1, Value.slice A2 n2 c2]) 12 [(0, Value.slice A1 n1 c1), (1, Value.slice A2 n2 c2)] Try.func38 rfl rfl ⟨rfl, rfl, trivial⟩ ?_
 have hM := Mem.nil w No
 refine k_seq (k_region (sqV (.int .i64 0) rfl rfl rfl ?_))
 refine r_nil (e_then (k_seq ?_))
 refine k_drawP mixed [0, 1, 3, 0, 8, 24, 63, 127] [some (Value.slice A1 n1 c1), some (Value.pointer (some ((adr A1).add (0 * 1)))), some (Value.int .i64 x), some (Value.slice A2 n2 c2), some (Value.pointer (some ((adr A2).add (0 * 1)))), some (Value.int .i64 y)] (by kernel_rfl) 6 [] rfl rfl (by kernel_rfl) rfl (fun D V w_ => w_ = w.drew) (fun V => rfl) trivial ?_ ?_
 ·refine ⟨?_, ?_, ?_, ?_, ?_, ?_, trivial⟩
  ·intro D V w_ hd hi hM_
   refine sqG [(0, .slice A1 n1 c1)] rfl rfl rfl ?_
   exact run_val (.slice A1 n1 c1) (rfl) ⟨sqT, hM_⟩
  ·intro D V w_ hd hi hM_
   refine sqG [(5, .slice A1 n1 c1)] rfl rfl rfl ?_
   exact run_val (.pointer (some ((adr A1).add (0 * 1)))) (x_indexAddrN (i := 0) (sz := 1) h1.here (by omega) rfl rfl rfl rfl) ⟨sqT, hM_⟩
  ·intro D V w_ hd hi hM_
   refine sqG [(6, .pointer (some ((adr A1).add (0 * 1))))] rfl rfl rfl ?_
   exact run_val (.int .i64 x) (by subst hM_; exact x_load (h1.first hx rfl) rfl rfl) ⟨sqT, hM_⟩
  ·intro D V w_ hd hi hM_
   refine sqG [(1, .slice A2 n2 c2)] rfl rfl rfl ?_
   exact run_val (.slice A2 n2 c2) (rfl) ⟨sqT, hM_⟩
  ·intro D V w_ hd hi hM_
   refine sqG [(8, .slice A2 n2 c2)] rfl rfl rfl ?_
   exact run_val (.pointer (some ((adr A2).add (0 * 1)))) (x_indexAddrN (i := 0) (sz := 1) h2.here (by omega) rfl rfl rfl rfl) ⟨sqT, hM_⟩
  ·intro D V w_ hd hi hM_
   refine sqG [(9, .pointer (some ((adr A2).add (0 * 1))))] rfl rfl rfl ?_
   exact run_val (.int .i64 y) (by subst hM_; exact x_load (h2.first hy rfl) rfl rfl) ⟨sqT, hM_⟩
 intro D V w1 hall hM2
 refine sqR [(7, .int .i64 x), (10, .int .i64 y)] rfl (sqV (.int .i64 (x - y)) rfl rfl (x_subE rfl (by omega) (by omega) rfl rfl) ?_)
 refine sqV (.int .i64 (x - y)) rfl rfl rfl ?_
 refine r_nil (e_then (k_ret (e_ret1 rfl rfl ?_)))
 exact ⟨_, rfl, rfl, hM2⟩

theorem cmpB_s (A1 A2 : Option Addr) (n1 c1 n2 c2 : Nat) (xs ys : List Int) (x y : Int) (w : World) (h1 : RdE intE 1 w A1 n1 xs) (h2 : RdE intE 1 w A2 n2 ys) (hx : xs[0]? = some x) (hy : ys[0]? = some y) (hx0 : 0 ≤ x) (hx1 : x ≤ 1000000) (hy0 : 0 ≤ y) (hy1 : y ≤ 1000000) (hn1 : 0 < n1) (hn2 : 0 < n2) :
  Calls Try.prog 41 #[Value.slice A1 n1 c1, Value.slice A2 n2 c2] w fun e w' => ∃ r, e = .returned r ∧ r = .int .i64 (x - y) ∧ w' = w.drew := by
 refine calls_k (args := [Value.slice A1 n1 c1, Value.slice A2 n2 c2]) 12 [(0, Value.slice A1 n1 c1), (1, Value.slice A2 n2 c2)] Try.func41 rfl rfl ⟨rfl, rfl, trivial⟩ ?_
 have hM := Mem.nil w No
 refine k_seq (k_region (sqV (.int .i64 0) rfl rfl rfl ?_))
 refine r_nil (e_then (k_seq ?_))
 refine k_drawP mixed [0, 1, 3, 0, 8, 24, 63, 127] [some (Value.slice A1 n1 c1), some (Value.pointer (some ((adr A1).add (0 * 1)))), some (Value.int .i64 x), some (Value.slice A2 n2 c2), some (Value.pointer (some ((adr A2).add (0 * 1)))), some (Value.int .i64 y)] (by kernel_rfl) 6 [] rfl rfl (by kernel_rfl) rfl (fun D V w_ => w_ = w.drew) (fun V => rfl) trivial ?_ ?_
 ·refine ⟨?_, ?_, ?_, ?_, ?_, ?_, trivial⟩
  ·intro D V w_ hd hi hM_
   refine sqG [(0, .slice A1 n1 c1)] rfl rfl rfl ?_
   exact run_val (.slice A1 n1 c1) (rfl) ⟨sqT, hM_⟩
  ·intro D V w_ hd hi hM_
   refine sqG [(5, .slice A1 n1 c1)] rfl rfl rfl ?_
   exact run_val (.pointer (some ((adr A1).add (0 * 1)))) (x_indexAddrN (i := 0) (sz := 1) h1.here (by omega) rfl rfl rfl rfl) ⟨sqT, hM_⟩
  ·intro D V w_ hd hi hM_
   refine sqG [(6, .pointer (some ((adr A1).add (0 * 1))))] rfl rfl rfl ?_
   exact run_val (.int .i64 x) (by subst hM_; exact x_load (h1.first hx rfl) rfl rfl) ⟨sqT, hM_⟩
  ·intro D V w_ hd hi hM_
   refine sqG [(1, .slice A2 n2 c2)] rfl rfl rfl ?_
   exact run_val (.slice A2 n2 c2) (rfl) ⟨sqT, hM_⟩
  ·intro D V w_ hd hi hM_
   refine sqG [(8, .slice A2 n2 c2)] rfl rfl rfl ?_
   exact run_val (.pointer (some ((adr A2).add (0 * 1)))) (x_indexAddrN (i := 0) (sz := 1) h2.here (by omega) rfl rfl rfl rfl) ⟨sqT, hM_⟩
  ·intro D V w_ hd hi hM_
   refine sqG [(9, .pointer (some ((adr A2).add (0 * 1))))] rfl rfl rfl ?_
   exact run_val (.int .i64 y) (by subst hM_; exact x_load (h2.first hy rfl) rfl rfl) ⟨sqT, hM_⟩
 intro D V w1 hall hM2
 refine sqR [(7, .int .i64 x), (10, .int .i64 y)] rfl (sqV (.int .i64 (x - y)) rfl rfl (x_subE rfl (by omega) (by omega) rfl rfl) ?_)
 refine sqV (.int .i64 (x - y)) rfl rfl rfl ?_
 refine r_nil (sqE [(4, .int .i64 (x - y))] rfl (e_then (k_ret (e_ret1 rfl rfl ?_))))
 exact ⟨_, rfl, rfl, hM2⟩

theorem equalB_s (A1 A2 : Option Addr) (n1 c1 n2 c2 : Nat) (xs ys : List Int) (w : World) (h1 : RdE intE 1 w A1 n1 xs) (h2 : RdE intE 1 w A2 n2 ys) (hn : n1 ≤ 1099511627776) :
  Calls Try.prog 47 #[Value.slice A1 n1 c1, Value.slice A2 n2 c2] w fun e w' => ∃ r, e = .returned r ∧ ∃ b_, r = .bool b_ ∧ (xs = ys → b_ = true) ∧ Mem w No w' [] := by
 refine calls_k (args := [Value.slice A1 n1 c1, Value.slice A2 n2 c2]) 26 [(0, Value.slice A1 n1 c1), (1, Value.slice A2 n2 c2)] Try.func47 rfl rfl ⟨rfl, rfl, trivial⟩ ?_
 have hM := Mem.nil w No
 have hl1 := h1.len
 have hl2 := h2.len
 refine k_seq (k_region (sqV (.bool false) rfl rfl rfl ?_))
 refine r_nil (e_then (k_seq (k_seq (k_region (sqV (.slice A1 n1 c1) rfl rfl rfl ?_)))))
 refine sqV (.int .i64 (n1 : Int)) rfl rfl (x_len rfl rfl) ?_
 refine sqV (.slice A2 n2 c2) rfl rfl rfl ?_
 refine sqV (.int .i64 (n2 : Int)) rfl rfl (x_len rfl rfl) ?_
 refine sqV (.bool ((n1 : Int) != (n2 : Int))) rfl rfl rfl ?_
 refine r_nil (e_then ?_)
 refine k_cond rfl rfl (fun h => ?_) (fun h => ?_)
 ·try simp only [sqC] at h
  refine k_seq (k_region (sqV (.bool false) rfl rfl rfl ?_))
  refine r_nil (e_then (k_ret (e_then_ret (e_ret1 rfl rfl ?_))))
  exact ⟨_, rfl, _, rfl, fun e => absurd (by rw [← hl1, ← hl2, e]) h, hM⟩
 ·try simp only [sqC] at h
  refine k_skip (e_then (k_seq (k_seq (k_region ?_))))
  have hnn : n1 = n2 := by omega
  refine sqV (.slice A1 n1 c1) rfl rfl rfl ?_
  refine sqV (.int .i64 (n1 : Int)) rfl rfl (x_len rfl rfl) ?_
  refine sqV (.int .i64 0) rfl rfl rfl ?_
  refine r_nil (sqE [(0, .slice A1 n1 c1), (1, .slice A2 n2 c2), (12, .int .i64 (n1 : Int)), (13, .int .i64 0)] rfl (e_then (k_block (k_loop (σ := Nat) (fun k => [(0, .slice A1 n1 c1), (1, .slice A2 n2 c2), (12, .int .i64 (n1 : Int)), (13, .int .i64 (k : Int))]) (fun k w_ => Mem w No w_ [] ∧ k ≤ n1) (fun k => n1 - k) 0 (sqS rfl) ⟨hM, Nat.zero_le _⟩ ?_))))
  rintro k w1 ⟨hM2, hk⟩
  refine sqK [(0, .slice A1 n1 c1), (1, .slice A2 n2 c2), (12, .int .i64 (n1 : Int)), (13, .int .i64 (k : Int))] rfl (k_seq (k_region (sqV (.bool (decide ((k : Int) < (n1 : Int)))) rfl rfl rfl ?_)))
  refine r_nil (e_then (k_seq ?_))
  refine k_cond rfl rfl (fun h3 => ?_) (fun h3 => ?_)
  ·try simp only [sqC] at h3
   refine k_skip (e_then (k_seq (k_block (k_seq (k_region ?_)))))
   obtain ⟨x, hx⟩ : ∃ z, xs[k]? = some z := ⟨xs[k]'(by omega), by simp⟩
   obtain ⟨y, hy⟩ : ∃ z, ys[k]? = some z := ⟨ys[k]'(by omega), by simp⟩
   refine sqV (.int .i64 (k : Int)) rfl rfl rfl ?_
   refine sqV (.int .i64 (k : Int)) rfl rfl rfl ?_
   refine r_nil (e_then (k_seq ?_))
   refine k_drawP mixed [0, 0, 3, 7, 0, 0, 48, 112, 255] [some (Value.slice A1 n1 c1), some (Value.int .i64 (k : Int)), some (Value.pointer (some ((adr A1).add (k * 1)))), some (Value.int .i64 x), some (Value.slice A2 n2 c2), some (Value.int .i64 (k : Int)), some (Value.pointer (some ((adr A2).add (k * 1)))), some (Value.int .i64 y)] (by kernel_rfl) 8 [] rfl rfl (by kernel_rfl) rfl (fun D V w_ => Mem w No w_ []) (fun V => hM2.drew) trivial ?_ ?_
   ·refine ⟨?_, ?_, ?_, ?_, ?_, ?_, ?_, ?_, trivial⟩
    ·intro D V w_ hd hi hM_
     refine sqG [(0, .slice A1 n1 c1)] rfl rfl rfl ?_
     exact run_val (.slice A1 n1 c1) (rfl) ⟨sqT, hM_⟩
    ·intro D V w_ hd hi hM_
     refine sqG [(5, .int .i64 (k : Int))] rfl rfl rfl ?_
     exact run_val (.int .i64 (k : Int)) (rfl) ⟨sqT, hM_⟩
    ·intro D V w_ hd hi hM_
     refine sqG [(16, .slice A1 n1 c1), (17, .int .i64 (k : Int))] rfl rfl rfl ?_
     exact run_val (.pointer (some ((adr A1).add (k * 1)))) (x_indexAddrN (i := k) (sz := 1) h1.here (by omega) rfl rfl rfl rfl) ⟨sqT, hM_⟩
    ·intro D V w_ hd hi hM_
     refine sqG [(18, .pointer (some ((adr A1).add (k * 1))))] rfl rfl rfl ?_
     exact run_val (.int .i64 x) (x_loadEInt (h1.up hM_) hx rfl rfl) ⟨sqT, hM_⟩
    ·intro D V w_ hd hi hM_
     refine sqG [(1, .slice A2 n2 c2)] rfl rfl rfl ?_
     exact run_val (.slice A2 n2 c2) (rfl) ⟨sqT, hM_⟩
    ·intro D V w_ hd hi hM_
     refine sqG [(5, .int .i64 (k : Int))] rfl rfl rfl ?_
     exact run_val (.int .i64 (k : Int)) (rfl) ⟨sqT, hM_⟩
    ·intro D V w_ hd hi hM_
     refine sqG [(20, .slice A2 n2 c2), (21, .int .i64 (k : Int))] rfl rfl rfl ?_
     exact run_val (.pointer (some ((adr A2).add (k * 1)))) (x_indexAddrN (i := k) (sz := 1) h2.here (by omega) rfl rfl rfl rfl) ⟨sqT, hM_⟩
    ·intro D V w_ hd hi hM_
     refine sqG [(22, .pointer (some ((adr A2).add (k * 1))))] rfl rfl rfl ?_
     exact run_val (.int .i64 y) (x_loadEInt (h2.up hM_) hy rfl rfl) ⟨sqT, hM_⟩
   intro D V w3 hall hM4
   refine sqR [(0, .slice A1 n1 c1), (1, .slice A2 n2 c2), (12, .int .i64 (n1 : Int)), (13, .int .i64 (k : Int)), (19, .int .i64 x), (23, .int .i64 y)] rfl (sqV (.bool (x != y)) rfl rfl rfl ?_)
   refine r_nil (e_then ?_)
   refine k_cond rfl rfl (fun h4 => ?_) (fun h4 => ?_)
   ·try simp only [sqC] at h4
    refine k_seq (k_region (sqV (.bool false) rfl rfl rfl ?_))
    refine r_nil (sqE [(4, .bool false)] rfl (e_then (k_ret (e_blk_ret (e_then_ret (e_loop_ret (e_blk_ret (e_then_ret (e_ret1 rfl rfl ?_)))))))))
    exact ⟨_, rfl, _, rfl, fun e => absurd (by rw [e, hy] at hx; injection hx with hx; exact hx.symm) h4, hM4⟩
   ·try simp only [sqC] at h4
    refine k_skip (e_blk (e_then (k_region (sqV (.int .i64 ((k : Int) + 1)) rfl rfl (x_addE rfl (by omega) (by omega) rfl rfl) ?_))))
    refine sqV (.int .i64 ((k : Int) + 1)) rfl rfl rfl ?_
    refine r_nil ?_
    refine e_loop (k + 1) (sqS rfl) ?_ ?_
    ·exact ⟨hM4, by omega⟩
    ·(try dsimp only); omega
  ·try simp only [sqC] at h3
   refine k_exit (e_then_exit (e_loop_exit (e_blk_exit (e_then (k_seq (k_region (sqV (.bool true) rfl rfl rfl ?_)))))))
   refine r_nil (e_then (k_ret (e_ret1 rfl rfl ?_)))
   exact ⟨_, rfl, _, rfl, fun _ => rfl, hM2⟩

theorem equalRB_s (A1 A2 : Option Addr) (n1 c1 n2 c2 : Nat) (ra rb : List SRow) (w : World) (h1 : RdE encR 1 w A1 n1 ra) (h2 : RdE encR 1 w A2 n2 rb) (he1 : ∀ r ∈ ra, RdE intE 1 w r.A r.xs.length r.xs) (he2 : ∀ r ∈ rb, RdE intE 1 w r.A r.xs.length r.xs) (hn : n1 ≤ 1099511627776) (hm : ∀ r ∈ ra, r.xs.length ≤ 1099511627776) :
  Calls Try.prog 46 #[Value.slice A1 n1 c1, Value.slice A2 n2 c2, Value.func (.func 47) #[] #[]] w fun e w' => ∃ r, e = .returned r ∧ ∃ b_, r = .bool b_ ∧ (ra.map SRow.xs = rb.map SRow.xs → b_ = true) ∧ Mem w No w' [] := by
 refine calls_k (args := [Value.slice A1 n1 c1, Value.slice A2 n2 c2, Value.func (.func 47) #[] #[]]) 32 [(0, Value.slice A1 n1 c1), (1, Value.slice A2 n2 c2), (2, Value.func (.func 47) #[] #[])] Try.func46 rfl rfl ⟨rfl, rfl, rfl, trivial⟩ ?_
 have hM := Mem.nil w No
 have hl1 := h1.len
 have hl2 := h2.len
 refine k_seq (k_region (sqV (.bool false) rfl rfl rfl ?_))
 refine r_nil (e_then (k_seq (k_seq (k_region (sqV (.slice A1 n1 c1) rfl rfl rfl ?_)))))
 refine sqV (.int .i64 (n1 : Int)) rfl rfl (x_len rfl rfl) ?_
 refine sqV (.slice A2 n2 c2) rfl rfl rfl ?_
 refine sqV (.int .i64 (n2 : Int)) rfl rfl (x_len rfl rfl) ?_
 refine sqV (.bool ((n1 : Int) != (n2 : Int))) rfl rfl rfl ?_
 refine r_nil (sqE [(0, .slice A1 n1 c1), (1, .slice A2 n2 c2), (2, .func (.func 47) #[] #[]), (14, .bool ((n1 : Int) != (n2 : Int)))] rfl (e_then ?_))
 refine k_cond rfl rfl (fun h => ?_) (fun h => ?_)
 ·try simp only [sqC] at h
  refine k_seq (k_region (sqV (.bool false) rfl rfl rfl ?_))
  refine r_nil (e_then (k_ret (e_then_ret (e_ret1 rfl rfl ?_))))
  exact ⟨_, rfl, _, rfl, fun e => absurd (by have := congrArg List.length e; simp at this; omega) h, hM⟩
 ·try simp only [sqC] at h
  refine k_skip (e_then (k_seq (k_seq (k_region ?_))))
  have hnn : n1 = n2 := by omega
  refine sqV (.slice A1 n1 c1) rfl rfl rfl ?_
  refine sqV (.int .i64 (n1 : Int)) rfl rfl (x_len rfl rfl) ?_
  refine sqV (.int .i64 0) rfl rfl rfl ?_
  refine r_nil (e_then (k_block (k_loop (σ := Nat) (fun k => [(1, .slice A2 n2 c2), (2, .func (.func 47) #[] #[]), (15, .slice A1 n1 c1), (16, .int .i64 (n1 : Int)), (17, .int .i64 (k : Int))]) (fun k w_ => Mem w No w_ [] ∧ k ≤ n1) (fun k => n1 - k) 0 (sqS rfl) ⟨hM, Nat.zero_le _⟩ ?_)))
  rintro k w1 ⟨hM2, hk⟩
  refine sqK [(1, .slice A2 n2 c2), (2, .func (.func 47) #[] #[]), (15, .slice A1 n1 c1), (16, .int .i64 (n1 : Int)), (17, .int .i64 (k : Int))] rfl (k_seq (k_region (sqV (.bool (decide ((k : Int) < (n1 : Int)))) rfl rfl rfl ?_)))
  refine r_nil (e_then (k_seq ?_))
  refine k_cond rfl rfl (fun h3 => ?_) (fun h3 => ?_)
  ·try simp only [sqC] at h3
   refine k_skip (e_then (k_seq (k_block (k_seq (k_region ?_)))))
   obtain ⟨ua, hua⟩ : ∃ z, ra[k]? = some z := ⟨ra[k]'(by omega), by simp⟩
   have huam := List.mem_of_getElem? hua
   obtain ⟨ub, hub⟩ : ∃ z, rb[k]? = some z := ⟨rb[k]'(by omega), by simp⟩
   have hubm := List.mem_of_getElem? hub
   refine sqV (.int .i64 (k : Int)) rfl rfl rfl ?_
   refine sqV (.pointer (some ((adr A1).add (k * 1)))) rfl rfl (x_indexAddrN (i := k) (sz := 1) h1.here (by omega) rfl rfl rfl rfl) ?_
   refine sqV (.slice ua.A ua.xs.length ua.c) rfl rfl (x_load ((h1.up hM2).first hua rfl) rfl rfl) ?_
   refine sqV (.int .i64 (k : Int)) rfl rfl rfl ?_
   refine sqV (.slice ua.A ua.xs.length ua.c) rfl rfl rfl ?_
   refine r_nil (sqE [(1, .slice A2 n2 c2), (2, .func (.func 47) #[] #[]), (7, .int .i64 (k : Int)), (8, .slice ua.A ua.xs.length ua.c), (15, .slice A1 n1 c1), (16, .int .i64 (n1 : Int)), (17, .int .i64 (k : Int))] rfl (e_then (k_seq (k_region (sqV (.slice A2 n2 c2) rfl rfl rfl ?_)))))
   refine sqV (.int .i64 (k : Int)) rfl rfl rfl ?_
   refine sqV (.pointer (some ((adr A2).add (k * 1)))) rfl rfl (x_indexAddrN (i := k) (sz := 1) h2.here (by omega) rfl rfl rfl rfl) ?_
   refine sqV (.slice ub.A ub.xs.length ub.c) rfl rfl (x_load ((h2.up hM2).first hub rfl) rfl rfl) ?_
   refine sqV (.slice ub.A ub.xs.length ub.c) rfl rfl rfl ?_
   refine r_nil (e_then (k_seq (k_region (sqV (.func (.func 47) #[] #[]) rfl rfl rfl ?_))))
   refine sqV (.slice ua.A ua.xs.length ua.c) rfl rfl rfl ?_
   refine sqV (.slice ub.A ub.xs.length ub.c) rfl rfl rfl ?_
   refine r_call (f := 47) (args := #[Value.slice ua.A ua.xs.length ua.c, Value.slice ub.A ub.xs.length ub.c]) (w' := w1) rfl rfl (x_call (vs := [Value.slice ua.A ua.xs.length ua.c, Value.slice ub.A ub.xs.length ub.c]) (enter47 _ _) rfl rfl) (equalB_s ua.A ub.A ua.xs.length ua.c ub.xs.length ub.c ua.xs ub.xs w1 ((he1 ua huam).up hM2) ((he2 ub hubm).up hM2) (hm ua huam)) ?_
   rintro v_ w3 ⟨bq, rfl, hq, hM4⟩
   replace hM4 := hM2.grow hM4.kept
   refine sqV (.bool (!bq)) rfl rfl rfl ?_
   refine r_nil (e_then ?_)
   refine k_cond rfl rfl (fun h4 => ?_) (fun h4 => ?_)
   ·try simp only [sqC] at h4
    refine k_seq (k_region ?_)
    have h4' : bq = false := by simpa using h4
    refine sqV (.bool false) rfl rfl rfl ?_
    refine r_nil (e_then (k_ret (e_blk_ret (e_then_ret (e_loop_ret (e_blk_ret (e_then_ret (e_ret1 rfl rfl ?_))))))))
    exact ⟨_, rfl, _, rfl, fun e => absurd (hq (by have h9 := congrArg (fun z => z[k]?) e; simp [hua, hub] at h9; exact h9)) (by simp [h4']), hM4⟩
   ·try simp only [sqC] at h4
    refine k_skip (e_blk (e_then (k_region (sqV (.int .i64 ((k : Int) + 1)) rfl rfl (x_addE rfl (by omega) (by omega) rfl rfl) ?_))))
    refine sqV (.int .i64 ((k : Int) + 1)) rfl rfl rfl ?_
    refine r_nil (sqE [(1, .slice A2 n2 c2), (2, .func (.func 47) #[] #[]), (15, .slice A1 n1 c1), (16, .int .i64 (n1 : Int)), (17, .int .i64 ((k : Int) + 1))] rfl ?_)
    refine e_loop (k + 1) (sqS rfl) ?_ ?_
    ·exact ⟨hM4, by omega⟩
    ·(try dsimp only); omega
  ·try simp only [sqC] at h3
   refine k_exit (e_then_exit (e_loop_exit (e_blk_exit (e_then (k_seq (k_region (sqV (.bool true) rfl rfl rfl ?_)))))))
   refine r_nil (e_then (k_ret (e_ret1 rfl rfl ?_)))
   exact ⟨_, rfl, _, rfl, fun _ => rfl, hM2⟩

theorem _root_.Go.Kn.RdE.nil0 {α : Type} {enc : α → List Value} {sz : Nat} (w : World) : RdE enc sz w none 0 ([] : List α) := ⟨rfl, by simp, by omega, fun k x i v hk => by simp at hk⟩
theorem listsI_s (A1 A2 : Option Addr) (n1 c1 n2 c2 : Nat) (no f : Int) (ra rb : List SRow) (w : World) (h1 : RdE encR 1 w A1 n1 ra) (h2 : RdE encR 1 w A2 n2 rb) (he1 : ∀ r ∈ ra, RdE intE 1 w r.A r.xs.length r.xs) (he2 : ∀ r ∈ rb, RdE intE 1 w r.A r.xs.length r.xs) (hn : n1 ≤ 1099511627776) (hm : ∀ r ∈ ra, r.xs.length ≤ 1099511627776) :
  Calls Try.prog 19 #[Value.slice A1 n1 c1, Value.int .i64 no, Value.slice A2 n2 c2, Value.int .i64 f] w fun e w' => ∃ r, e = .returned r ∧ (no = f → (f = 0 → ra.map SRow.xs = rb.map SRow.xs) → (f ≠ 0 → ra = []) → r = .bool true) ∧ Mem w No w' [] := by
 refine calls_k (args := [Value.slice A1 n1 c1, Value.int .i64 no, Value.slice A2 n2 c2, Value.int .i64 f]) 19 [(0, Value.slice A1 n1 c1), (1, Value.int .i64 no), (2, Value.slice A2 n2 c2), (3, Value.int .i64 f)] Try.func19 rfl rfl ⟨rfl, rfl, rfl, rfl, trivial⟩ ?_
 have hM := Mem.nil w No
 have hl1 := h1.len
 refine k_seq (k_region (sqV (.bool false) rfl rfl rfl ?_))
 refine r_nil (e_then (k_seq (k_seq (k_region (sqV (.int .i64 f) rfl rfl rfl ?_)))))
 refine sqV (.bool (f != 0)) rfl rfl rfl ?_
 refine r_nil (e_then ?_)
 refine k_cond rfl rfl (fun h => ?_) (fun h => ?_)
 ·try simp only [sqC] at h
  refine k_region (sqV (.slice none 0 0) rfl rfl rfl ?_)
  refine r_nil (sqE [(0, .slice A1 n1 c1), (1, .int .i64 no), (2, .slice none 0 0), (3, .int .i64 f)] rfl (e_then (k_seq (k_region (sqV (.slice A1 n1 c1) rfl rfl rfl ?_)))))
  refine sqV (.slice none 0 0) rfl rfl rfl ?_
  refine r_call (f := 46) (args := #[Value.slice A1 n1 c1, Value.slice none 0 0, Value.func (.func 47) #[] #[]]) (w' := w) rfl rfl (x_call (vs := [Value.slice A1 n1 c1, Value.slice none 0 0, Value.func (.func 47) #[] #[]]) (enter46 _ _) rfl rfl) (equalRB_s A1 none n1 c1 0 0 ra [] w (h1.up hM) (RdE.nil0 w) (fun r hr => (he1 r hr).up hM) (by simp) hn hm) ?_
  rintro v_ w1 ⟨bq, rfl, hq, hM2⟩
  replace hM2 := hM.grow hM2.kept
  refine sqV (.bool bq) rfl rfl rfl ?_
  rcases Bool.eq_false_or_eq_true (bq) with g1 | g1
  ·refine wpR_sub [(1, Value.int .i64 no), (3, Value.int .i64 f), (14, Value.bool true)] ⟨rfl, rfl, congrArg (fun z => some (Value.bool z)) g1, trivial⟩ ?_
   refine r_yes rfl rfl ?_
   refine sqV (.int .i64 no) rfl rfl rfl ?_
   refine r_yes rfl rfl ?_
   refine sqV (.int .i64 f) rfl rfl rfl ?_
   refine r_yes rfl rfl ?_
   refine sqV (.bool (no == f)) rfl rfl rfl ?_
   refine sqV (.bool (no == f)) rfl rfl rfl ?_
   refine sqV (.bool (no == f)) rfl rfl rfl ?_
   refine r_nil (e_then (k_ret (e_ret1 rfl rfl ?_)))
   exact ⟨_, rfl, fun h1 _ _ => by simp [h1], hM2⟩
  ·refine wpR_sub [(1, Value.int .i64 no), (3, Value.int .i64 f), (14, Value.bool false)] ⟨rfl, rfl, congrArg (fun z => some (Value.bool z)) g1, trivial⟩ ?_
   refine r_no rfl rfl (by decide) rfl ?_
   refine r_no rfl rfl (by decide) rfl ?_
   refine r_no rfl rfl (by decide) rfl ?_
   refine sqV (.bool false) rfl rfl rfl ?_
   refine sqV (.bool false) rfl rfl rfl ?_
   refine r_nil (e_then (k_ret (e_ret1 rfl rfl ?_)))
   exact ⟨_, rfl, fun h1 h2 h3 => absurd (hq (by rw [h3 h])) (by simp [g1]), hM2⟩
 ·try simp only [sqC] at h
  refine k_skip (e_then (k_seq (k_region (sqV (.slice A1 n1 c1) rfl rfl rfl ?_))))
  refine sqV (.slice A2 n2 c2) rfl rfl rfl ?_
  refine r_call (f := 46) (args := #[Value.slice A1 n1 c1, Value.slice A2 n2 c2, Value.func (.func 47) #[] #[]]) (w' := w) rfl rfl (x_call (vs := [Value.slice A1 n1 c1, Value.slice A2 n2 c2, Value.func (.func 47) #[] #[]]) (enter46 _ _) rfl rfl) (equalRB_s A1 A2 n1 c1 n2 c2 ra rb w (h1.up hM) (h2.up hM) (fun r hr => (he1 r hr).up hM) (fun r hr => (he2 r hr).up hM) hn hm) ?_
  rintro v_ w4 ⟨bq, rfl, hq, hM5⟩
  replace hM5 := hM.grow hM5.kept
  refine sqV (.bool bq) rfl rfl rfl ?_
  rcases Bool.eq_false_or_eq_true (bq) with g1 | g1
  ·refine wpR_sub [(1, Value.int .i64 no), (3, Value.int .i64 f), (14, Value.bool true)] ⟨rfl, rfl, congrArg (fun z => some (Value.bool z)) g1, trivial⟩ ?_
   refine r_yes rfl rfl ?_
   refine sqV (.int .i64 no) rfl rfl rfl ?_
   refine r_yes rfl rfl ?_
   refine sqV (.int .i64 f) rfl rfl rfl ?_
   refine r_yes rfl rfl ?_
   refine sqV (.bool (no == f)) rfl rfl rfl ?_
   refine sqV (.bool (no == f)) rfl rfl rfl ?_
   refine sqV (.bool (no == f)) rfl rfl rfl ?_
   refine r_nil (e_then (k_ret (e_ret1 rfl rfl ?_)))
   exact ⟨_, rfl, fun h1 _ _ => by simp [h1], hM5⟩
  ·refine wpR_sub [(1, Value.int .i64 no), (3, Value.int .i64 f), (14, Value.bool false)] ⟨rfl, rfl, congrArg (fun z => some (Value.bool z)) g1, trivial⟩ ?_
   refine r_no rfl rfl (by decide) rfl ?_
   refine r_no rfl rfl (by decide) rfl ?_
   refine r_no rfl rfl (by decide) rfl ?_
   refine sqV (.bool false) rfl rfl rfl ?_
   refine sqV (.bool false) rfl rfl rfl ?_
   refine r_nil (sqE [(8, .bool false)] rfl (e_then (k_ret (e_ret1 rfl rfl ?_))))
   exact ⟨_, rfl, fun h1 h2 h3 => absurd (hq (h2 h)) (by simp [g1]), hM5⟩


end Go.Proofs.Ytddacakmafdgdaa
end
section
/-
  DERIVED: THE SHELF's CONTRACTS AT THIS DUMP, IN PLAIN WORDS (tools/lay-plain.mjs out of 'TryShelfS.lean', which tools/lay-shelf.mjs wrote): THE SAME DECLARATIONS UNDER THE SAME NAMES: 'import', 'namespace', 'open', 'def', 'theorem' AND NOTHING ELSE: no command of the shelf's: FOR A HAND-IN. Each laying: the table of numbers ('.._ren') and one theorem, a field a fact of the dump's own or the kernel's comparison; each contract: ONE APPLICATION.
-/
namespace Go.Proofs
open Go.Shelf
def Try.sortF_ren : Go.Shelf.Ren := ⟨fun | 6 => 37 | 15 => 66 | 14 => 65 | 28 => 80 | 29 => 81 | 20 => 72 | 21 => 73 | 22 => 74 | 23 => 75 | 24 => 76 | 25 => 77 | 26 => 78 | 27 => 79 | 46 => 92 | 47 => 93 | 48 => 94 | 49 => 95 | 50 => 96 | 57 => 100 | n => n, fun | 22 => 25 | 24 => 30 | 25 => 76 | 3 => 3 | 39 => 112 | 0 => 0 | 53 => 124 | 55 => 126 | 4 => 4 | 46 => 118 | 45 => 117 | 50 => 32 | 5 => 5 | 9 => 9 | 66 => 134 | 70 => 138 | 76 => 142 | 77 => 143 | n => n, fun | n => n⟩
theorem Try.sortF : Go.Proofs.SlLaysF.n6 Try.prog Try.sortF_ren := {
  mixed := by kernel_rfl
  f6 := ⟨Try.f37.name, by decide, Try.func37.trans (congrArg some (by kernel_rfl))⟩
  f14 := ⟨Try.f65.name, by decide, Try.func65.trans (congrArg some (by kernel_rfl))⟩
  f15 := Try.func66.trans (congrArg some (by kernel_rfl))
  f20 := ⟨Try.f72.name, by decide, Try.func72.trans (congrArg some (by kernel_rfl))⟩
  f21 := ⟨Try.f73.name, by decide, Try.func73.trans (congrArg some (by kernel_rfl))⟩
  f22 := ⟨Try.f74.name, by decide, Try.func74.trans (congrArg some (by kernel_rfl))⟩
  f23 := ⟨Try.f75.name, by decide, Try.func75.trans (congrArg some (by kernel_rfl))⟩
  f24 := ⟨Try.f76.name, by decide, Try.func76.trans (congrArg some (by kernel_rfl))⟩
  f25 := ⟨Try.f77.name, by decide, Try.func77.trans (congrArg some (by kernel_rfl))⟩
  f26 := ⟨Try.f78.name, by decide, Try.func78.trans (congrArg some (by kernel_rfl))⟩
  f27 := ⟨Try.f79.name, by decide, Try.func79.trans (congrArg some (by kernel_rfl))⟩
  f28 := Try.func80.trans (congrArg some (by kernel_rfl))
  f29 := Try.func81.trans (congrArg some (by kernel_rfl))
  f46 := ⟨Try.f92.name, by decide, Try.func92.trans (congrArg some (by kernel_rfl))⟩
  f47 := Try.func93.trans (congrArg some (by kernel_rfl))
  f48 := Try.func94.trans (congrArg some (by kernel_rfl))
  f49 := ⟨Try.f95.name, by decide, Try.func95.trans (congrArg some (by kernel_rfl))⟩
  f50 := ⟨Try.f96.name, by decide, Try.func96.trans (congrArg some (by kernel_rfl))⟩
  f57 := ⟨Try.f100.name, by decide, Try.func100.trans (congrArg some (by kernel_rfl))⟩
  t0 := Try.underlying0
  a0 := Try.isAgg0
  z0 := Try.sizeOf0
  v0 := Try.zeroValue0
  t3 := Try.underlying3
  a3 := Try.isAgg3
  z3 := Try.sizeOf3
  v3 := Try.zeroValue3
  t4 := Try.underlying4
  a4 := Try.isAgg4
  z4 := Try.sizeOf4
  v4 := Try.zeroValue4
  t5 := Try.underlying5
  a5 := Try.isAgg5
  z5 := Try.sizeOf5
  v5 := Try.zeroValue5
  t9 := Try.underlying9
  a9 := Try.isAgg9
  z9 := Try.sizeOf9
  v9 := Try.zeroValue9
  t22 := Try.underlying25
  a22 := Try.isAgg25
  z22 := Try.sizeOf25
  v22 := Try.zeroValue25
  a24 := Try.isAgg30
  z24 := Try.sizeOf30
  t25 := Try.underlying76
  a25 := Try.isAgg76
  z25 := Try.sizeOf76
  v25 := Try.zeroValue76
  t39 := Try.underlying112
  a39 := Try.isAgg112
  z39 := Try.sizeOf112
  v39 := Try.zeroValue112
  t45 := Try.underlying117
  a45 := Try.isAgg117
  z45 := Try.sizeOf117
  v45 := Try.zeroValue117
  t46 := Try.underlying118
  a46 := Try.isAgg118
  z46 := Try.sizeOf118
  v46 := Try.zeroValue118
  t50 := Try.underlying32
  a50 := Try.isAgg32
  z50 := Try.sizeOf32
  v50 := Try.zeroValue32
  t53 := Try.underlying124
  a53 := Try.isAgg124
  z53 := Try.sizeOf124
  v53 := Try.zeroValue124
  t55 := Try.underlying126
  a55 := Try.isAgg126
  z55 := Try.sizeOf126
  v55 := Try.zeroValue126
  t66 := Try.underlying134
  a66 := Try.isAgg134
  z66 := Try.sizeOf134
  v66 := Try.zeroValue134
  t70 := Try.underlying138
  a70 := Try.isAgg138
  z70 := Try.sizeOf138
  v70 := Try.zeroValue138
  t76 := Try.underlying142
  a76 := Try.isAgg142
  z76 := Try.sizeOf142
  v76 := Try.zeroValue142
  t77 := Try.underlying143
  a77 := Try.isAgg143
  z77 := Try.sizeOf143
  v77 := Try.zeroValue143 }
end Go.Proofs
end
section
/- Rows of places: groups as the reference has them; slices.SortFunc on them. -/
set_option linter.unusedVariables false
set_option linter.unusedSimpArgs false
namespace Go.Proofs.Ytddacakmafdgdaa
open Go.RowKit Go.Kn Go.Proofs
structure RRow where
  v : Value
  xs : List Nat
  L : Hp
abbrev natsV (xs : List Nat) : List Value := (natsI xs).map (.int .i64)
def RRow.ok (r : RRow) : Prop := OwnR tInt 1 r.v r.xs.length (natsV r.xs) r.L
def firstOf (r : RRow) : Nat := r.xs.headD 0
abbrev topV (gs : List RRow) : List Value := gs.map RRow.v
theorem first_get {r : RRow} (h : r.xs ≠ []) : (natsI r.xs)[0]? = some (firstOf r : Int) := by
  unfold firstOf
  cases hx : r.xs with
  | nil => exact absurd hx h
  | cons a t => simp [natsI]
theorem rows_holds {w : World} {gs : List RRow} (h : Kn.Holds w (gs.flatMap RRow.L)) {r : RRow} (hr : r ∈ gs) : Kn.Holds w r.L := by
  refine ⟨?_, fun p hp => h.at_ p (List.mem_flatMap.2 ⟨r, hr, hp⟩)⟩
  have hn := h.nodup
  clear h
  induction gs with
  | nil => cases hr
  | cons a t ih =>
    rw [List.flatMap_cons, List.map_append, List.nodup_append] at hn
    rcases List.mem_cons.1 hr with rfl | h2
    · exact hn.1
    · exact ih h2 hn.2.1
theorem rows_perm {gs gs' : List RRow} (h : gs.Perm gs') : (gs.flatMap RRow.L).Perm (gs'.flatMap RRow.L) := h.flatMap_right _
def cfR (gs : List RRow) (i k : Fin gs.length) : Int := (firstOf gs[i] : Int) - firstOf gs[k]
theorem ltR (gs : List RRow) (x y : Fin gs.length) : ltOf (cfR gs) x y = decide (firstOf gs[x] < firstOf gs[y]) := by
  unfold ltOf cfR
  by_cases h : firstOf gs[x] < firstOf gs[y]
  · rw [decide_eq_true h, decide_eq_true (by omega)]
  · rw [decide_eq_false h, decide_eq_false (by omega)]
theorem swo_cfR (gs : List RRow) : Go.Sort.SWO (ltOf (cfR gs)) := by
  refine ⟨fun x => ?_, fun x y z h1 h2 => ?_, fun x y z h1 h2 => ?_⟩
  · simp [ltOf, cfR]
  · unfold ltOf cfR at *; rw [decide_eq_true_eq] at h1 h2 ⊢; omega
  · unfold ltOf cfR at *; rw [decide_eq_false_iff_not] at h1 h2 ⊢; omega
theorem sortF_s (g : Nat) (hg : g = 38 ∨ g = 41) (vt : Value) (gs : List RRow) (Lt : Hp) (w : World) (hR : OwnR tInts 1 vt gs.length (topV gs) Lt) (hL : Kn.Holds w (Lt ++ gs.flatMap RRow.L)) (hok : ∀ r ∈ gs, r.ok) (hne : ∀ r ∈ gs, r.xs ≠ []) (hd : gs.Pairwise fun a b => firstOf a ≠ firstOf b) (hb : ∀ r ∈ gs, ∀ x ∈ r.xs, x ≤ 1000000) (hn : gs.length ≤ 1000000) :
    Calls Try.prog 37 #[vt, .func (.func g) #[] #[]] w fun e w' => ∃ r, e = .returned r ∧ r = .tuple #[] ∧ ∃ gs' Lt', gs'.Perm gs ∧ (gs'.Pairwise fun a b => firstOf a < firstOf b) ∧ OwnR tInts 1 vt gs.length (topV gs') Lt' ∧ Mem w (keys Lt) w' Lt' := by
  rcases Nat.eq_zero_or_pos gs.length with h0 | h0
  · have hz : gs = [] := List.eq_nil_of_length_eq_zero h0
    subst hz
    obtain ⟨A, c, rfl, _, _, _⟩ := hR.slice
    refine (AnyF.slices_SortFunc_none (P := Try.prog) (ρ := Try.sortF_ren) { Try.sortF with } A c (.func (.func g) #[] #[]) w).mono ?_
    rintro e w' ⟨rfl, rfl⟩
    exact ⟨_, rfl, rfl, [], Lt, List.Perm.nil, List.Pairwise.nil, hR, (hL.sub (L' := Lt) (by have := hL.nodup; rw [List.map_append, List.nodup_append] at this; exact this.1) (fun p hp => List.mem_append_left _ hp)).mem⟩
  · have hLt : Kn.Holds w Lt := hL.sub (by have := hL.nodup; rw [List.map_append, List.nodup_append] at this; exact this.1) (fun p hp => List.mem_append_left _ hp)
    have hLr : Kn.Holds w (gs.flatMap RRow.L) := hL.sub (by have := hL.nodup; rw [List.map_append, List.nodup_append] at this; exact this.2.1) (fun p hp => List.mem_append_right _ hp)
    rcases hR.2 with ⟨_, h1, _⟩ | ⟨b, cap, cur, rfl, h3, h4, h5, h6, hLtE⟩
    · omega
    · have : Inhabited (Fin gs.length) := ⟨⟨0, h0⟩⟩
      let enc : Fin gs.length → Value := fun i => (gs[i]).v
      have hfin : (List.finRange gs.length).map enc = topV gs := by
        apply List.ext_getElem
        · simp [topV]
        · intro i h1 h2; simp [enc, topV]
      have hR' : OwnR tInts 1 (.slice (some ⟨b, 0, none⟩) gs.length cap) gs.length ((List.finRange gs.length).map enc) Lt := by rw [hfin]; exact hR
      have hH := hR'.holds (enc := enc) hLt
      have hbk : (b, Obj.cells cur tInts (0, 0)) ∈ Lt := by rw [hLtE]; simp
      have hbh := hLt.at_ _ hbk
      have hblt : b < w.heap.size := lt_of_block hbh
      have hone : OneCell enc := fun i => (hok gs[i] (List.getElem_mem i.2)).one
      have hinj : ∀ x y : Fin gs.length, firstOf gs[x] = firstOf gs[y] → x = y := by
        intro x y he
        rcases Nat.lt_trichotomy x.1 y.1 with h | h | h
        · exact absurd he (List.pairwise_iff_getElem.1 hd x.1 y.1 x.2 y.2 h)
        · exact Fin.ext h
        · exact absurd he.symm (List.pairwise_iff_getElem.1 hd y.1 x.1 y.2 x.2 h)
      have hcmp : CmpLays1 Try.prog g #[] enc (cfR gs) b 0 (List.finRange gs.length).toArray.size w := by
        intro m os dk _ x y
        have hk := (sorted_world (enc := enc) (m := m) (os := os) (d := dk) hbh).2
        have hM : Mem w (fun k => k = b) (Sort.grow (Sort.putRow enc (Sort.ahead w m) b 0 dk) os) [] := ⟨hk, Kn.Holds.nil _, by simp [keys]⟩
        have row : ∀ i : Fin gs.length, ∃ A c, (gs[i]).v = .slice A (gs[i]).xs.length c ∧ RdE intE 1 (Sort.grow (Sort.putRow enc (Sort.ahead w m) b 0 dk) os) A (gs[i]).xs.length (natsI (gs[i]).xs) := by
          intro i
          have him : gs[i] ∈ gs := List.getElem_mem i.2
          have ho := hok gs[i] him
          unfold RRow.ok at ho
          obtain ⟨A, c, hv, _, _, hA⟩ := ho.slice
          rw [hv] at ho
          have hrd := ho.rdI (rows_holds hLr him)
          refine ⟨A, c, hv, hrd.upS hM (fun hb' => ?_)⟩
          have hpos : 0 < (gs[i]).xs.length := List.length_pos_iff.2 (hne _ him)
          rcases ho.2 with ⟨_, h2, _⟩ | ⟨b', cap', cur', h2, _, _, _, _, hLi⟩
          · omega
          · injection h2 with h2 _ _
            subst h2
            simp only [adr, Option.getD_some] at hb'
            have hnd := hL.nodup
            rw [List.map_append, List.nodup_append] at hnd
            refine hnd.2.2 b (List.mem_map.2 ⟨_, hbk, rfl⟩) b' (List.mem_map.2 ⟨(b', Obj.cells cur' tInt (0, 0)), List.mem_flatMap.2 ⟨gs[i], him, by rw [hLi]; simp⟩, rfl⟩) hb'.symm
        obtain ⟨A1, c1, hv1, hr1⟩ := row x
        obtain ⟨A2, c2, hv2, hr2⟩ := row y
        have hx1 := first_get (hne gs[x] (List.getElem_mem x.2))
        have hy1 := first_get (hne gs[y] (List.getElem_mem y.2))
        have hbx : firstOf gs[x] ≤ 1000000 := hb gs[x] (List.getElem_mem x.2) _ (by unfold firstOf; cases hq : (gs[x]).xs with | nil => exact absurd hq (hne gs[x] (List.getElem_mem x.2)) | cons a t => simp)
        have hby : firstOf gs[y] ≤ 1000000 := hb gs[y] (List.getElem_mem y.2) _ (by unfold firstOf; cases hq : (gs[y]).xs with | nil => exact absurd hq (hne gs[y] (List.getElem_mem y.2)) | cons a t => simp)
        have hlx : 0 < (gs[x]).xs.length := List.length_pos_iff.2 (hne gs[x] (List.getElem_mem x.2))
        have hly : 0 < (gs[y]).xs.length := List.length_pos_iff.2 (hne gs[y] (List.getElem_mem y.2))
        show Calls Try.prog g (#[(gs[x]).v, (gs[y]).v] ++ #[]) (Sort.grow (Sort.putRow enc (Sort.ahead w m) b 0 dk) os) _
        rw [hv1, hv2]
        have hc : Calls Try.prog g #[.slice A1 (gs[x]).xs.length c1, .slice A2 (gs[y]).xs.length c2] (Sort.grow (Sort.putRow enc (Sort.ahead w m) b 0 dk) os) fun e w' => ∃ r, e = .returned r ∧ r = .int .i64 (cfR gs x y) ∧ w' = (Sort.grow (Sort.putRow enc (Sort.ahead w m) b 0 dk) os).drew := by
          rcases hg with rfl | rfl
          · exact cmpA_s A1 A2 _ c1 _ c2 (natsI (gs[x]).xs) (natsI (gs[y]).xs) (firstOf gs[x] : Int) (firstOf gs[y] : Int) _ hr1 hr2 hx1 hy1 (by omega) (by omega) (by omega) (by omega) hlx hly
          · exact cmpB_s A1 A2 _ c1 _ c2 (natsI (gs[x]).xs) (natsI (gs[y]).xs) (firstOf gs[x] : Int) (firstOf gs[y] : Int) _ hr1 hr2 hx1 hy1 (by omega) (by omega) (by omega) (by omega) hlx hly
        refine hc.mono ?_
        rintro e w' ⟨r, rfl, rfl, rfl⟩
        exact ⟨rfl, 1, #[], by rw [Go.Sort.grow_empty]; rfl⟩
      have hc := Any.slices_SortFunc_total (P := Try.prog) (ρ := Try.sortF_ren) Try.sortF enc hone (cfR gs) (swo_cfR gs) g #[] b 0 cap (List.finRange gs.length).toArray w
        (fun args w => by rcases hg with rfl | rfl; exact enter38 args w; exact enter41 args w) hcmp hH hblt (by simp; omega) (fun x y h1 h2 => hinj x y (by rw [ltR, decide_eq_false_iff_not] at h1 h2; omega))
      have hsz : (List.finRange gs.length).toArray.size = gs.length := by simp
      rw [hsz] at hc
      refine hc.mono ?_
      rintro e w' ⟨rfl, n, os, rfl⟩
      have hms : ((List.finRange gs.length).toArray.toList.mergeSort fun x y => !(ltOf (cfR gs)) y x).Perm (List.finRange gs.length) := List.mergeSort_perm _ _
      obtain ⟨ks, hks⟩ : ∃ ks, ks = (List.finRange gs.length).toArray.toList.mergeSort fun x y => !(ltOf (cfR gs)) y x := ⟨_, rfl⟩
      rw [← hks] at hms ⊢
      obtain ⟨L', h7, h8⟩ := hR'.sorted (enc := enc) (l' := ks) (m := n) (os := os) hLt (by rw [hms.length_eq])
      refine ⟨_, rfl, rfl, ks.map fun i => gs[i], L', ?_, ?_, ?_, h8⟩
      · have h9 := hms.map (fun i : Fin gs.length => gs[i])
        refine h9.trans (List.Perm.of_eq ?_)
        apply List.ext_getElem
        · simp
        · intro i h1 h2; simp
      · have hs : ks.Pairwise fun x y => !(ltOf (cfR gs)) y x := by
          rw [hks]
          refine List.pairwise_mergeSort (fun a b c h1 h2 => ?_) (fun a b => ?_) _
          · simp only [ltR, Bool.not_eq_true', decide_eq_false_iff_not] at *; omega
          · simp only [ltR, Bool.or_eq_true, Bool.not_eq_true', decide_eq_false_iff_not]; omega
        have hnd : ks.Nodup := hms.nodup_iff.2 (List.nodup_finRange _)
        rw [List.pairwise_map]
        refine (hs.and hnd).imp fun {x y} h => ?_
        obtain ⟨h1, h2⟩ := h
        have h3 : firstOf gs[x] ≠ firstOf gs[y] := fun e => h2 (hinj x y e)
        simp only [ltR, Bool.not_eq_true', decide_eq_false_iff_not] at h1
        show firstOf gs[x] < firstOf gs[y]
        omega
      · have e : topV (ks.map fun i => gs[i]) = ks.map enc := by rw [topV, List.map_map]; rfl
        rw [e]; exact h7
end Go.Proofs.Ytddacakmafdgdaa
end
