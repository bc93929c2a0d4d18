/- Parts of the proof, laid together: Ha, Hp, Hq, KnV, Hb, KnF, KnG, Gp, Fd, Sh, KnS, Gs, Gj, Fe, Gf, KnL, Gc, Bd, Be, KnH. -/
import Derived.Test.YtddacakmafdgdaaJg1
import Derived.Maps.AppendAt
import Derived.Shelf.Small.Bits
import Derived.Shelf.Strconv.Itoa0
import Derived.Shelf.Sort.Plain
import Derived.Ground.Names2Prog
import Derived.Shelf.Slices.SearchI
import Derived.Shelf.Slices.In.SortNone
import Derived.Ground.SlsfProg
import Derived.Shelf.SlSortCmp.Insertion
import Derived.Shelf.SlSortCmp.SiftDown1
import Derived.Shelf.SlSortCmp.HeapSort1
import Derived.Shelf.SlSortCmp.Insertion1
import Derived.Shelf.SlSortCmp.Median1
import Derived.Shelf.SlSortCmp.Pivot1
import Derived.Shelf.SlSortCmp.ReverseRange1
import Derived.Shelf.SlSortCmp.PartitionEqual1
import Derived.Shelf.SlSortCmp.Partition1
import Derived.Test.YtddacakmafdgdaaProg
import Derived.Sort.Row
import Derived.Sort.Grow
section
/- Ha: what Go functions of this seat come to, printed by walk.py over the engine. -/
set_option linter.unusedVariables false
set_option linter.unusedSimpArgs false
set_option maxRecDepth 100000
namespace Go.Proofs.Ytddacakmafdgdaa
open Go.RowKit Go.Kn

theorem idOk_s (a : Int) (w : World) :
  Calls Try.prog 29 #[Value.int .i64 a] w fun e w' => ∃ r, e = .returned r ∧ r = .bool (!outN a 1 1000000) ∧ Mem w No w' [] := by
 refine calls_k (args := [Value.int .i64 a]) 9 [(0, Value.int .i64 a)] Try.func29 rfl rfl ⟨rfl, trivial⟩ ?_
 have hM := Mem.nil w No
 refine k_seq (k_region (sqV (.bool false) rfl rfl rfl ?_))
 refine r_nil (e_then (k_seq (k_region (sqV (.int .i64 a) rfl rfl rfl ?_))))
 refine sqV (.bool (decide (a ≥ 1))) rfl rfl rfl ?_
 refine sqV (.bool (decide (a ≥ 1))) rfl rfl rfl ?_
 rcases Bool.eq_false_or_eq_true (decide (a ≥ 1)) with g1 | g1
 ·refine wpR_sub [(0, Value.int .i64 a), (5, Value.bool true)] ⟨rfl, congrArg (fun z => some (Value.bool z)) g1, trivial⟩ ?_
  refine r_yes rfl rfl ?_
  refine sqV (.int .i64 a) rfl rfl rfl ?_
  refine r_yes rfl rfl ?_
  refine sqV (.bool (decide (a ≤ 1000000))) rfl rfl rfl ?_
  refine sqV (.bool (decide (a ≤ 1000000))) rfl rfl rfl ?_
  refine sqV (.bool (decide (a ≤ 1000000))) rfl rfl rfl ?_
  refine r_nil (e_then (k_ret (e_ret1 rfl rfl ?_)))
  exact ⟨_, rfl, congrArg Value.bool (by rw [Bool.eq_iff_iff]; simp [outN] at *; omega), hM⟩
 ·refine wpR_sub [(0, Value.int .i64 a), (5, Value.bool false)] ⟨rfl, congrArg (fun z => some (Value.bool z)) g1, trivial⟩ ?_
  refine r_no rfl rfl (by decide) rfl ?_
  refine r_no rfl rfl (by decide) rfl ?_
  refine sqV (.bool false) rfl rfl rfl ?_
  refine sqV (.bool false) rfl rfl rfl ?_
  refine r_nil (e_then (k_ret (e_ret1 rfl rfl ?_)))
  exact ⟨_, rfl, congrArg Value.bool (by rw [Bool.eq_iff_iff]; simp [outN] at *; omega), hM⟩

theorem vecFault_s (v : List Int) (hv : v.length = 12) (w : World) :
  Calls Try.prog 30 #[Value.agg (ints v)] w fun e w' => ∃ r, e = .returned r ∧ r = .int .i64 (vecErr v) ∧ Mem w No w' [] := by
 refine calls_k (args := [Value.agg (ints v)]) 16 [(0, Value.agg (ints v))] Try.func30 rfl rfl ⟨rfl, trivial⟩ ?_
 have hM := Mem.nil w No
 refine k_seq (k_region (r_box hM rfl rfl ?_))
 intro b3 w1 hM2 hb3
 replace hM2 : Mem w No w1 [(b3, .cells (ints v) 52 (0, 0))] := hM2
 refine sqV (.int .i64 0) rfl rfl rfl ?_
 refine r_nil (sqE [(1, .pointer (some ⟨b3, 0, none⟩))] rfl (e_then (k_seq (k_seq (k_region (sqV (.agg (ints v)) rfl rfl (x_loadRow hM2 0 rfl rfl rfl (by rw [ints_size, show v.length = 12 by omega]; rfl)) ?_))))))
 refine sqV (.int .i64 0) rfl rfl rfl ?_
 refine r_nil (e_then (k_block (k_loop (σ := Nat) (fun k => [(5, .agg (ints v)), (6, .int .i64 (k : Int))]) (fun k w_ => Mem w No w_ [(b3, .cells (ints v) 52 (0, 0))] ∧ k ≤ 12 ∧ vecOk (v.take k) = true) (fun k => 12 - k) 0 ⟨rfl, rfl, trivial⟩ ⟨hM2, by decide, rfl⟩ ?_)))
 rintro k w4 ⟨hM5, hk, hok⟩
 refine sqK [(5, .agg (ints v)), (6, .int .i64 (k : Int))] rfl (k_seq (k_region (sqV (.bool (decide ((k : Int) < 12))) rfl rfl rfl ?_)))
 refine r_nil (e_then (k_seq ?_))
 refine k_cond rfl rfl (fun h => ?_) (fun h => ?_)
 ·try simp only [sqC] at h
  refine k_skip (e_then (k_seq (k_block (k_seq (k_region (sqV (.int .i64 (v.getD k 0)) rfl rfl (x_index (by omega) (by omega) (ints_get v k (by omega)) rfl rfl rfl rfl rfl) ?_))))))
  refine sqV (.int .i64 (v.getD k 0)) rfl rfl rfl ?_
  refine r_nil (e_then (k_seq (k_region (sqV (.int .i64 (v.getD k 0)) rfl rfl rfl ?_))))
  refine sqV (.bool (decide ((v.getD k 0) < (-127)))) rfl rfl rfl ?_
  refine sqV (.bool (decide ((v.getD k 0) < (-127)))) rfl rfl rfl ?_
  rcases Bool.eq_false_or_eq_true (decide ((v.getD k 0) < (-127))) with g1 | g1
  ·refine wpR_sub [(4, Value.int .i64 (v.getD k 0)), (5, Value.agg (ints v)), (6, Value.int .i64 (k : Int)), (11, Value.bool true)] ⟨rfl, rfl, rfl, congrArg (fun z => some (Value.bool z)) g1, trivial⟩ ?_
   have h2 : v.getD k 0 < -127 ∨ 127 < v.getD k 0 := .inl (by simpa using g1)
   refine r_no rfl rfl (by decide) rfl ?_
   refine r_no rfl rfl (by decide) rfl ?_
   refine sqV (.bool true) rfl rfl rfl ?_
   refine r_nil (sqE [(5, .agg (ints v)), (6, .int .i64 (k : Int)), (14, .bool true)] rfl (e_then (k_cond_true rfl rfl ?_)))
   refine k_seq (k_region (sqV (.int .i64 2) rfl rfl rfl ?_))
   refine r_nil (e_then (k_ret (e_blk_ret (e_then_ret (e_loop_ret (e_blk_ret (e_then_ret (e_ret1 rfl rfl ?_))))))))
   exact ⟨_, rfl, by rw [vecErr, if_neg (vecOk_no hv (by omega) h2)], hM5.drop⟩
  ·refine wpR_sub [(4, Value.int .i64 (v.getD k 0)), (5, Value.agg (ints v)), (6, Value.int .i64 (k : Int)), (11, Value.bool false)] ⟨rfl, rfl, rfl, congrArg (fun z => some (Value.bool z)) g1, trivial⟩ ?_
   refine r_yes rfl rfl ?_
   refine sqV (.int .i64 (v.getD k 0)) rfl rfl rfl ?_
   refine r_yes rfl rfl ?_
   refine sqV (.bool (decide ((v.getD k 0) > 127))) rfl rfl rfl ?_
   refine sqV (.bool (decide ((v.getD k 0) > 127))) rfl rfl rfl ?_
   refine r_nil (e_then ?_)
   refine k_cond rfl rfl (fun h3 => ?_) (fun h3 => ?_)
   ·try simp only [sqC] at h3
    refine k_seq (k_region ?_)
    have h2 : v.getD k 0 < -127 ∨ 127 < v.getD k 0 := .inr h3
    refine sqV (.int .i64 2) rfl rfl rfl ?_
    refine r_nil (e_then (k_ret (e_blk_ret (e_then_ret (e_loop_ret (e_blk_ret (e_then_ret (e_ret1 rfl rfl ?_))))))))
    exact ⟨_, rfl, by rw [vecErr, if_neg (vecOk_no hv (by omega) h2)], hM5.drop⟩
   ·try simp only [sqC] at h3
    refine k_skip (e_blk (e_then (k_region ?_)))
    have h2 : -127 ≤ v.getD k 0 ∧ v.getD k 0 ≤ 127 := ⟨by simpa using g1, h3⟩
    refine sqV (.int .i64 ((k : Int) + 1)) rfl rfl (x_addE rfl (by omega) (by omega) rfl rfl) ?_
    refine sqV (.int .i64 ((k : Int) + 1)) rfl rfl rfl ?_
    refine r_nil (sqE [(5, .agg (ints v)), (6, .int .i64 ((k : Int) + 1))] rfl ?_)
    refine e_loop (k + 1) ⟨rfl, rfl, trivial⟩ ?_ ?_
    ·exact ⟨hM5, by omega, vecOk_snoc hv (by omega) hok h2⟩
    ·(try dsimp only); omega
 ·try simp only [sqC] at h
  refine k_exit (e_then_exit (e_loop_exit (e_blk_exit (e_then (k_seq (k_region (sqV (.int .i64 0) rfl rfl rfl ?_)))))))
  refine r_nil (e_then (k_ret (e_ret1 rfl rfl ?_)))
  exact ⟨_, rfl, by rw [vecErr, if_pos (vecOk_all hv (by omega) hok)], hM5.drop⟩

theorem farOf_s (a b : List Int) (ha : a.length = 12) (hb : b.length = 12) (va : vecOk a = true) (vb : vecOk b = true) (w : World) :
  Calls Try.prog 64 #[Value.agg (ints a), Value.agg (ints b)] w fun e w' => ∃ r, e = .returned r ∧ r = .int .i64 (farOf a b) ∧ Mem w No w' [] := by
 refine calls_k (args := [Value.agg (ints a), Value.agg (ints b)]) 28 [(0, Value.agg (ints a)), (1, Value.agg (ints b))] Try.func64 rfl rfl ⟨rfl, rfl, trivial⟩ ?_
 have hM := Mem.nil w No
 refine k_seq (k_region (r_box hM rfl rfl ?_))
 intro b3 w1 hM2 hb3
 replace hM2 : Mem w No w1 [(b3, .cells (ints a) 52 (0, 0))] := hM2
 refine r_box hM2 rfl rfl ?_
 intro b6 w4 hM5 hb6
 replace hM5 : Mem w No w4 [(b6, .cells (ints b) 52 (0, 0)), (b3, .cells (ints a) 52 (0, 0))] := hM5
 refine sqV (.int .i64 0) rfl rfl rfl ?_
 refine r_nil (e_then (k_seq (k_region (sqV (.int .i64 0) rfl rfl rfl ?_))))
 refine r_nil (e_then (k_seq (k_seq (k_region (sqV (.agg (ints a)) rfl rfl (x_loadRow hM5 1 rfl rfl rfl (by rw [ints_size, show a.length = 12 by omega]; rfl)) ?_)))))
 refine sqV (.int .i64 0) rfl rfl rfl ?_
 refine r_nil (sqE [(3, .pointer (some ⟨b6, 0, none⟩)), (5, .int .i64 0), (8, .agg (ints a)), (9, .int .i64 0)] rfl (e_then (k_block (k_loop (σ := Nat) (fun k => [(3, .pointer (some ⟨b6, 0, none⟩)), (5, .int .i64 (farTo a b k)), (8, .agg (ints a)), (9, .int .i64 (k : Int))]) (fun k w_ => Mem w No w_ [(b6, .cells (ints b) 52 (0, 0)), (b3, .cells (ints a) 52 (0, 0))] ∧ k ≤ 12) (fun k => 12 - k) 0 (sqS rfl) ⟨hM5, by decide⟩ ?_))))
 rintro k w7 ⟨hM8, hk⟩
 refine sqK [(3, .pointer (some ⟨b6, 0, none⟩)), (5, .int .i64 (farTo a b k)), (8, .agg (ints a)), (9, .int .i64 (k : Int))] rfl (k_seq (k_region (sqV (.bool (decide ((k : Int) < 12))) rfl rfl rfl ?_)))
 refine r_nil (e_then (k_seq ?_))
 refine k_cond rfl rfl (fun h => ?_) (fun h => ?_)
 ·try simp only [sqC] at h
  refine k_skip (e_then (k_seq (k_block (k_seq (k_region ?_)))))
  have h1 := inVec_of va k
  have h2 := inVec_of vb k
  have h3 := sq_bd (d := a.getD k 0 - b.getD k 0) (by omega) (by omega)
  have h4 := farTo_bd va vb k
  refine sqV (.int .i64 (k : Int)) rfl rfl rfl ?_
  refine sqV (.int .i64 (a.getD k 0)) rfl rfl (x_index (by omega) (by omega) (ints_get a k (by omega)) rfl rfl rfl rfl rfl) ?_
  refine sqV (.int .i64 (k : Int)) rfl rfl rfl ?_
  refine sqV (.int .i64 (a.getD k 0)) rfl rfl rfl ?_
  refine r_nil (e_then ?_)
  refine k_drawP mixed [0, 0, 0, 4, 12, 30, 0, 0, 128, 384, 960, 2046, 4095, 8191] [some (Value.int .i64 (farTo a b k)), some (Value.int .i64 (a.getD k 0)), some (Value.int .i64 (k : Int)), some (Value.pointer (some ⟨b6, k, none⟩)), some (Value.int .i64 (b.getD k 0)), some (Value.int .i64 ((a.getD k 0) - (b.getD k 0))), some (Value.int .i64 (a.getD k 0)), some (Value.int .i64 (k : Int)), some (Value.pointer (some ⟨b6, k, none⟩)), some (Value.int .i64 (b.getD k 0)), some (Value.int .i64 ((a.getD k 0) - (b.getD k 0))), some (Value.int .i64 (((a.getD k 0) - (b.getD k 0)) * ((a.getD k 0) - (b.getD k 0))))] (by kernel_rfl) 12 [] rfl rfl (by kernel_rfl) rfl (fun D V w_ => Mem w No w_ [(b6, .cells (ints b) 52 (0, 0)), (b3, .cells (ints a) 52 (0, 0))]) (fun V => hM8.drew) trivial ?_ ?_
  ·refine ⟨?_, ?_, ?_, ?_, ?_, ?_, ?_, ?_, ?_, ?_, ?_, ?_, trivial⟩
   ·intro D V w_ hd hi hM_
    refine sqG [(5, .int .i64 (farTo a b k))] rfl rfl rfl ?_
    exact run_val (.int .i64 (farTo a b k)) (rfl) ⟨sqT, hM_⟩
   ·intro D V w_ hd hi hM_
    refine sqG [(7, .int .i64 (a.getD k 0))] rfl rfl rfl ?_
    exact run_val (.int .i64 (a.getD k 0)) (rfl) ⟨sqT, hM_⟩
   ·intro D V w_ hd hi hM_
    refine sqG [(6, .int .i64 (k : Int))] rfl rfl rfl ?_
    exact run_val (.int .i64 (k : Int)) (rfl) ⟨sqT, hM_⟩
   ·intro D V w_ hd hi hM_
    refine sqG [(3, .pointer (some ⟨b6, 0, none⟩)), (15, .int .i64 (k : Int))] rfl rfl rfl ?_
    exact run_val (.pointer (some ⟨b6, k, none⟩)) (x_indexAddrB (i := k) (sz := 1) (by omega) rfl rfl rfl rfl (by omega)) ⟨sqT, hM_⟩
   ·intro D V w_ hd hi hM_
    refine sqG [(16, .pointer (some ⟨b6, k, none⟩))] rfl rfl rfl ?_
    exact run_val (.int .i64 (b.getD k 0)) (x_load (hM_.cell 0 rfl (ints_get b k (by omega))) rfl rfl) ⟨sqT, hM_⟩
   ·intro D V w_ hd hi hM_
    refine sqG [(14, .int .i64 (a.getD k 0)), (17, .int .i64 (b.getD k 0))] rfl rfl rfl ?_
    exact run_val (.int .i64 ((a.getD k 0) - (b.getD k 0))) (x_subE rfl (by omega) (by omega) rfl rfl) ⟨sqT, hM_⟩
   ·intro D V w_ hd hi hM_
    refine sqG [(7, .int .i64 (a.getD k 0))] rfl rfl rfl ?_
    exact run_val (.int .i64 (a.getD k 0)) (rfl) ⟨sqT, hM_⟩
   ·intro D V w_ hd hi hM_
    refine sqG [(6, .int .i64 (k : Int))] rfl rfl rfl ?_
    exact run_val (.int .i64 (k : Int)) (rfl) ⟨sqT, hM_⟩
   ·intro D V w_ hd hi hM_
    refine sqG [(3, .pointer (some ⟨b6, 0, none⟩)), (20, .int .i64 (k : Int))] rfl rfl rfl ?_
    exact run_val (.pointer (some ⟨b6, k, none⟩)) (x_indexAddrB (i := k) (sz := 1) (by omega) rfl rfl rfl rfl (by omega)) ⟨sqT, hM_⟩
   ·intro D V w_ hd hi hM_
    refine sqG [(21, .pointer (some ⟨b6, k, none⟩))] rfl rfl rfl ?_
    exact run_val (.int .i64 (b.getD k 0)) (x_load (hM_.cell 0 rfl (ints_get b k (by omega))) rfl rfl) ⟨sqT, hM_⟩
   ·intro D V w_ hd hi hM_
    refine sqG [(19, .int .i64 (a.getD k 0)), (22, .int .i64 (b.getD k 0))] rfl rfl rfl ?_
    exact run_val (.int .i64 ((a.getD k 0) - (b.getD k 0))) (x_subE rfl (by omega) (by omega) rfl rfl) ⟨sqT, hM_⟩
   ·intro D V w_ hd hi hM_
    refine sqG [(18, .int .i64 ((a.getD k 0) - (b.getD k 0))), (23, .int .i64 ((a.getD k 0) - (b.getD k 0)))] rfl rfl rfl ?_
    exact run_val (.int .i64 (((a.getD k 0) - (b.getD k 0)) * ((a.getD k 0) - (b.getD k 0)))) (x_mulE rfl (by omega) (by omega) rfl rfl) ⟨sqT, hM_⟩
  intro D V w9 hall hM10
  refine sqR [(3, .pointer (some ⟨b6, 0, none⟩)), (8, .agg (ints a)), (9, .int .i64 (k : Int)), (13, .int .i64 (farTo a b k)), (24, .int .i64 (((a.getD k 0) - (b.getD k 0)) * ((a.getD k 0) - (b.getD k 0))))] rfl (sqV (.int .i64 ((farTo a b k) + (((a.getD k 0) - (b.getD k 0)) * ((a.getD k 0) - (b.getD k 0))))) rfl rfl (x_addE rfl (by omega) (by omega) rfl rfl) ?_)
  refine sqV (.int .i64 ((farTo a b k) + (((a.getD k 0) - (b.getD k 0)) * ((a.getD k 0) - (b.getD k 0))))) rfl rfl rfl ?_
  refine r_nil (e_blk (e_then (k_region (sqV (.int .i64 ((k : Int) + 1)) rfl rfl (x_addE rfl (by omega) (by omega) rfl rfl) ?_))))
  refine sqV (.int .i64 ((k : Int) + 1)) rfl rfl rfl ?_
  refine r_nil (sqE [(3, .pointer (some ⟨b6, 0, none⟩)), (5, .int .i64 ((farTo a b k) + (((a.getD k 0) - (b.getD k 0)) * ((a.getD k 0) - (b.getD k 0))))), (8, .agg (ints a)), (9, .int .i64 ((k : Int) + 1))] rfl ?_)
  refine e_loop (k + 1) (sqS rfl) ?_ ?_
  ·exact ⟨hM10, by omega⟩
  ·(try dsimp only); omega
 ·try simp only [sqC] at h
  refine k_exit (e_then_exit (e_loop_exit (e_blk_exit (e_then (k_seq (k_region ?_))))))
  have hk12 : k = 12 := by omega
  refine sqV (.int .i64 (farTo a b k)) rfl rfl rfl ?_
  refine sqV (.int .i64 (farTo a b k)) rfl rfl rfl ?_
  refine r_nil (e_then (k_ret (e_ret1 rfl rfl ?_)))
  exact ⟨_, rfl, by rw [hk12]; rfl, hM8.drop⟩

theorem likesFault_s (A : Option Addr) (n c : Nat) (l : List (List Int)) (w : World) (hl : RdE intsE 14 w A n l) (hn : n ≤ 1099511627776) :
  Calls Try.prog 9 #[Value.slice A n c] w fun e w' => ∃ r, e = .returned r ∧ r = .int .i64 (checkL l) ∧ Mem w No w' [] := by
 refine calls_k (args := [Value.slice A n c]) 48 [(0, Value.slice A n c)] Try.func9 rfl rfl ⟨rfl, trivial⟩ ?_
 have hM := Mem.nil w No
 have hln := hl.len
 refine k_seq (k_region (sqV (.int .i64 0) rfl rfl rfl ?_))
 refine r_nil (e_then (k_seq (k_seq (k_region (sqV (.slice A n c) rfl rfl rfl ?_)))))
 refine sqV (.int .i64 (n : Int)) rfl rfl (x_len rfl rfl) ?_
 refine sqV (.bool (decide ((n : Int) > 300))) rfl rfl rfl ?_
 refine r_nil (e_then ?_)
 refine k_cond rfl rfl (fun h => ?_) (fun h => ?_)
 ·try simp only [sqC] at h
  refine k_seq (k_region (sqV (.int .i64 4) rfl rfl rfl ?_))
  refine r_nil (sqE [(2, .int .i64 4)] rfl (e_then (k_ret (e_then_ret (e_ret1 rfl rfl ?_)))))
  exact ⟨_, rfl, by rw [checkL, if_pos (by omega)], hM.drop⟩
 ·try simp only [sqC] at h
  refine k_skip (e_then (k_seq (k_seq (k_region (sqV (.slice A n c) rfl rfl rfl ?_)))))
  refine sqV (.int .i64 (n : Int)) rfl rfl (x_len rfl rfl) ?_
  refine sqV (.int .i64 0) rfl rfl rfl ?_
  refine r_nil (e_then (k_block (k_loop (σ := Nat) (fun k => [(0, .slice A n c), (9, .slice A n c), (10, .int .i64 (n : Int)), (11, .int .i64 (k : Int))]) (fun k w_ => Mem w No w_ [] ∧ k ≤ n ∧ checkL l = checkFrom (lprev l k) (l.drop k)) (fun k => n - k) 0 (sqS rfl) ⟨hM, by omega, by rw [checkL, if_neg (by omega)]; rfl⟩ ?_)))
  rintro k w1 ⟨hM2, hk, he⟩
  refine sqK [(0, .slice A n c), (9, .slice A n c), (10, .int .i64 (n : Int)), (11, .int .i64 (k : Int))] rfl (k_seq (k_region (sqV (.bool (decide ((k : Int) < (n : Int)))) rfl rfl rfl ?_)))
  refine r_nil (e_then (k_seq ?_))
  refine k_cond rfl rfl (fun h2 => ?_) (fun h2 => ?_)
  ·try simp only [sqC] at h2
   refine k_skip (e_then (k_seq (k_block (k_seq (k_region ?_)))))
   obtain ⟨x, hx⟩ : ∃ x, l[k]? = some x := ⟨l[k]'(by rw [hl.len]; omega), by simp⟩
   have hx14 : x.length = 14 := by have := hl.size x (List.mem_of_getElem? hx); simpa using this
   have hat := checkFrom_at hx (lprev l k)
   refine sqV (.int .i64 (k : Int)) rfl rfl rfl ?_
   refine sqV (.pointer (some ((adr A).add (k * 14)))) rfl rfl (x_indexAddrN (i := k) (sz := 14) hl.here (by omega) rfl rfl rfl rfl) ?_
   refine sqV (.agg (ints x)) rfl rfl (x_loadElem (hl.up hM2) hx rfl rfl rfl) ?_
   refine r_alloc hM2 (z := Value.agg #[Value.int .i64 0, Value.int .i64 0, Value.int .i64 0, Value.int .i64 0, Value.int .i64 0, Value.int .i64 0, Value.int .i64 0, Value.int .i64 0, Value.int .i64 0, Value.int .i64 0, Value.int .i64 0, Value.int .i64 0, Value.int .i64 0, Value.int .i64 0]) rfl rfl ?_
   intro b5 w3 hM4 hb5
   replace hM4 : Mem w No w3 [(b5, .cells #[Value.int .i64 0, Value.int .i64 0, Value.int .i64 0, Value.int .i64 0, Value.int .i64 0, Value.int .i64 0, Value.int .i64 0, Value.int .i64 0, Value.int .i64 0, Value.int .i64 0, Value.int .i64 0, Value.int .i64 0, Value.int .i64 0, Value.int .i64 0] 64 (0, 0))] := hM4
   refine sqV (.int .i64 (k : Int)) rfl rfl rfl ?_
   refine r_storeRow (vs := (ints x)) hM4 0 rfl (by rw [show (ints x).size = 14 from (by rw [ints_size, hx14])]; rfl) (ints_one _) (by rw [show (ints x).size = 14 from (by rw [ints_size, hx14])]; rfl) rfl rfl rfl ?_
   intro w6 hM7
   replace hM7 : Mem w No w6 [(b5, .cells (ints x) 64 (0, 0))] := hM7
   refine r_nil (e_then (k_seq (k_block (k_seq (k_region (sqV (.pointer (some ⟨b5, 0, none⟩)) rfl rfl rfl ?_))))))
   refine sqV (.int .i64 (x.getD 0 0)) rfl rfl (x_load (hM7.cell 0 rfl (ints_get x 0 (by omega))) rfl rfl) ?_
   refine r_call (f := 29) (args := #[Value.int .i64 (x.getD 0 0)]) (w' := w6) rfl rfl (x_call (vs := [Value.int .i64 (x.getD 0 0)]) (enter29 _ _) rfl rfl) (idOk_s (idOf x) w6) ?_
   rintro v_ w8 ⟨rfl, hM9⟩
   replace hM9 := hM7.grow hM9.kept
   refine sqV (.bool (!(!outN (idOf x) 1 1000000))) rfl rfl rfl ?_
   refine sqV (.bool (!(!outN (idOf x) 1 1000000))) rfl rfl rfl ?_
   rcases Bool.eq_false_or_eq_true (!(!outN (idOf x) 1 1000000)) with g3 | g3
   ·refine wpR_sub [(0, Value.slice A n c), (3, Value.int .i64 (k : Int)), (4, Value.pointer (some ⟨b5, 0, none⟩)), (9, Value.slice A n c), (10, Value.int .i64 (n : Int)), (11, Value.int .i64 (k : Int)), (21, Value.bool true)] ⟨rfl, rfl, rfl, rfl, rfl, rfl, congrArg (fun z => some (Value.bool z)) g3, trivial⟩ ?_
    simp at g3
    refine r_no rfl rfl (by decide) rfl ?_
    refine r_no rfl rfl (by decide) rfl ?_
    refine r_no rfl rfl (by decide) rfl ?_
    refine r_no rfl rfl (by decide) rfl ?_
    refine sqV (.bool true) rfl rfl rfl ?_
    refine sqV (.bool true) rfl rfl rfl ?_
    refine r_nil (sqE [(0, .slice A n c), (3, .int .i64 (k : Int)), (4, .pointer (some ⟨b5, 0, none⟩)), (9, .slice A n c), (10, .int .i64 (n : Int)), (11, .int .i64 (k : Int)), (16, .bool true)] rfl (e_then (k_cond_true rfl rfl ?_)))
    refine k_seq (k_region (sqV (.int .i64 2) rfl rfl rfl ?_))
    refine r_nil (e_then (k_ret (e_blk_ret (e_then_ret (e_blk_ret (e_then_ret (e_loop_ret (e_blk_ret (e_then_ret (e_ret1 rfl rfl ?_))))))))))
    exact ⟨_, rfl, by rw [he, hat, one_bad (bad_1 g3)]; rfl, hM9.drop⟩
   ·refine wpR_sub [(0, Value.slice A n c), (3, Value.int .i64 (k : Int)), (4, Value.pointer (some ⟨b5, 0, none⟩)), (9, Value.slice A n c), (10, Value.int .i64 (n : Int)), (11, Value.int .i64 (k : Int)), (21, Value.bool false)] ⟨rfl, rfl, rfl, rfl, rfl, rfl, congrArg (fun z => some (Value.bool z)) g3, trivial⟩ ?_
    refine r_yes rfl rfl ?_
    refine sqV (.pointer (some ⟨b5, 1, none⟩)) rfl rfl rfl ?_
    refine r_yes rfl rfl ?_
    refine sqV (.int .i64 (x.getD 1 0)) rfl rfl (x_load (hM9.cell 0 rfl (ints_get x 1 (by omega))) rfl rfl) ?_
    refine r_yes rfl rfl ?_
    refine r_call (f := 29) (args := #[Value.int .i64 (x.getD 1 0)]) (w' := w8) rfl rfl (x_call (vs := [Value.int .i64 (x.getD 1 0)]) (enter29 _ _) rfl rfl) (idOk_s (photoOf x) w8) ?_
    rintro v_ w11 ⟨rfl, hM12⟩
    replace hM12 := hM9.grow hM12.kept
    simp at g3
    refine r_yes rfl rfl ?_
    refine sqV (.bool (!(!outN (photoOf x) 1 1000000))) rfl rfl rfl ?_
    refine sqV (.bool (!(!outN (photoOf x) 1 1000000))) rfl rfl rfl ?_
    refine sqV (.bool (!(!outN (photoOf x) 1 1000000))) rfl rfl rfl ?_
    refine r_nil (e_then ?_)
    refine k_cond rfl rfl (fun h4 => ?_) (fun h4 => ?_)
    ·try simp only [sqC] at h4
     refine k_seq (k_region ?_)
     skip
     refine sqV (.int .i64 2) rfl rfl rfl ?_
     refine r_nil (e_then (k_ret (e_blk_ret (e_then_ret (e_blk_ret (e_then_ret (e_loop_ret (e_blk_ret (e_then_ret (e_ret1 rfl rfl ?_))))))))))
     exact ⟨_, rfl, by rw [he, hat, one_bad (bad_2 (by simpa using h4))]; rfl, hM12.drop⟩
    ·try simp only [sqC] at h4
     refine k_seq ?_
     have hbad := bad_0 g3 (by simpa using h4)
     rcases Bool.eq_false_or_eq_true (decide ((k : Int) > 0)) with g5 | g5
     ·skip
      obtain ⟨y, hy⟩ : ∃ y, l[k - 1]? = some y := ⟨l[k - 1]'(by rw [hl.len]; omega), by simp⟩
      have hk0 : 0 < k := by simpa using g5
      have hp := lprev_at hy hk0
      refine k_drawP mixed [0, 1, 3, 7, 15, 7, 7, 71, 231, 487, 999, 2047, 4095, 8191] [some (Value.int .i64 (k : Int)), some (Value.bool true), some (Value.bool true), some (Value.pointer (some ⟨b5, 0, none⟩)), some (Value.int .i64 (x.getD 0 0)), some (Value.slice A n c), some (Value.int .i64 (k : Int)), some (Value.int .i64 ((k - 1 : Nat) : Int)), some (Value.pointer (some ((adr A).add ((k - 1 : Nat) * 14)))), some (Value.pointer (some ((adr A).add ((k - 1 : Nat) * 14)))), some (Value.int .i64 (idOf y))] (by kernel_rfl) 11 [] rfl rfl (by kernel_rfl) rfl (fun D V w_ => Mem w No w_ [(b5, .cells (ints x) 64 (0, 0))]) (fun V => hM12.drew) trivial ?_ ?_
      ·refine ⟨?_, ?_, ?_, ?_, ?_, ?_, ?_, ?_, ?_, ?_, ?_, trivial⟩
       ·intro D V w_ hd hi hM_
        refine sqG [(3, .int .i64 (k : Int))] rfl rfl rfl ?_
        exact run_val (.int .i64 (k : Int)) (rfl) ⟨sqT, hM_⟩
       ·intro D V w_ hd hi hM_
        refine sqG [(28, .int .i64 (k : Int))] rfl rfl rfl ?_
        exact run_val (.bool true) (Eq.trans (rfl) (congrArg (fun z => Result.ok (Next.value (Value.bool z)) w_) g5)) ⟨sqT, hM_⟩
       ·intro D V w_ hd hi hM_
        refine sqG [(29, .bool true)] rfl rfl rfl ?_
        exact run_val (.bool true) (rfl) ⟨sqT, hM_⟩
       ·intro D V w_ hd hi hM_
        refine goal_yes [(4, Value.pointer (some ⟨b5, 0, none⟩))] rfl rfl ⟨rfl, trivial⟩ rfl ?_
        exact run_val (.pointer (some ⟨b5, 0, none⟩)) (rfl) ⟨sqT, hM_⟩
       ·intro D V w_ hd hi hM_
        refine goal_yes [(31, Value.pointer (some ⟨b5, 0, none⟩))] rfl rfl ⟨rfl, trivial⟩ rfl ?_
        exact run_val (.int .i64 (x.getD 0 0)) (x_load (hM_.cell 0 rfl (ints_get x 0 (by omega))) rfl rfl) ⟨sqT, hM_⟩
       ·intro D V w_ hd hi hM_
        refine goal_yes [(0, Value.slice A n c)] rfl rfl ⟨rfl, trivial⟩ rfl ?_
        exact run_val (.slice A n c) (rfl) ⟨sqT, hM_⟩
       ·intro D V w_ hd hi hM_
        refine goal_yes [(3, Value.int .i64 (k : Int))] rfl rfl ⟨rfl, trivial⟩ rfl ?_
        exact run_val (.int .i64 (k : Int)) (rfl) ⟨sqT, hM_⟩
       ·intro D V w_ hd hi hM_
        refine goal_yes [(34, Value.int .i64 (k : Int))] rfl rfl ⟨rfl, trivial⟩ rfl ?_
        exact run_val (.int .i64 ((k - 1 : Nat) : Int)) (x_subE (by omega) (by omega) (by omega) rfl rfl) ⟨sqT, hM_⟩
       ·intro D V w_ hd hi hM_
        refine goal_yes [(33, Value.slice A n c), (35, Value.int .i64 ((k - 1 : Nat) : Int))] rfl rfl ⟨rfl, rfl, trivial⟩ rfl ?_
        exact run_val (.pointer (some ((adr A).add ((k - 1 : Nat) * 14)))) (x_indexAddrN (i := (k - 1 : Nat)) (sz := 14) hl.here (by omega) rfl rfl rfl rfl) ⟨sqT, hM_⟩
       ·intro D V w_ hd hi hM_
        refine goal_yes [(36, Value.pointer (some ((adr A).add ((k - 1 : Nat) * 14))))] rfl rfl ⟨rfl, trivial⟩ rfl ?_
        exact run_val (.pointer (some ((adr A).add ((k - 1 : Nat) * 14)))) (rfl) ⟨sqT, hM_⟩
       ·intro D V w_ hd hi hM_
        refine goal_yes [(37, Value.pointer (some ((adr A).add ((k - 1 : Nat) * 14))))] rfl rfl ⟨rfl, trivial⟩ rfl ?_
        exact run_val (.int .i64 (idOf y)) (x_load ((hl.up hM_).first hy (intsE_0 (by have h9 := hl.size' hy; simp at h9; omega))) rfl rfl) ⟨sqT, hM_⟩
      intro D V w14 hall hM15
      refine sqR [(0, .slice A n c), (4, .pointer (some ⟨b5, 0, none⟩)), (9, .slice A n c), (10, .int .i64 (n : Int)), (11, .int .i64 (k : Int)), (30, .bool true), (32, .int .i64 (x.getD 0 0)), (38, .int .i64 (idOf y))] rfl (r_yes rfl rfl ?_)
      refine sqV (.bool (decide ((x.getD 0 0) ≤ (idOf y)))) rfl rfl rfl ?_
      refine sqV (.bool (decide ((x.getD 0 0) ≤ (idOf y)))) rfl rfl rfl ?_
      refine sqV (.bool (decide ((x.getD 0 0) ≤ (idOf y)))) rfl rfl rfl ?_
      refine r_nil (sqE [(0, .slice A n c), (4, .pointer (some ⟨b5, 0, none⟩)), (9, .slice A n c), (10, .int .i64 (n : Int)), (11, .int .i64 (k : Int)), (27, .bool (decide ((x.getD 0 0) ≤ (idOf y))))] rfl (e_then ?_))
      refine k_cond rfl rfl (fun h6 => ?_) (fun h6 => ?_)
      ·try simp only [sqC] at h6
       refine k_seq (k_region (sqV (.int .i64 5) rfl rfl rfl ?_))
       refine r_nil (e_then (k_ret (e_blk_ret (e_then_ret (e_blk_ret (e_then_ret (e_loop_ret (e_blk_ret (e_then_ret (e_ret1 rfl rfl ?_))))))))))
       exact ⟨_, rfl, by rw [he, hat, one_order hbad (after_yes hp h6)]; rfl, hM15.drop⟩
      ·try simp only [sqC] at h6
       refine k_skip (e_blk (e_then (k_seq (k_region ?_))))
       have hna := after_no hp h6
       refine sqV (.pointer (some ⟨b5, 2, none⟩)) rfl rfl rfl ?_
       refine sqV (.agg (ints (x.drop 2))) rfl rfl (x_loadInts hM15 0 rfl (m := 12) (by omega) rfl rfl rfl) ?_
       refine r_call (f := 30) (args := #[Value.agg (ints (x.drop 2))]) (w' := w14) rfl rfl (x_call (vs := [Value.agg (ints (x.drop 2))]) (enter30 _ _) rfl rfl) (vecFault_s (vecOf x) (by simp [vecOf]; omega) w14) ?_
       rintro v_ w16 ⟨rfl, hM17⟩
       replace hM17 := hM15.grow hM17.kept
       refine sqV (.int .i64 (vecErr (vecOf x))) rfl rfl rfl ?_
       refine r_nil (e_then (k_seq (k_region (sqV (.int .i64 (vecErr (vecOf x))) rfl rfl rfl ?_))))
       refine sqV (.bool ((vecErr (vecOf x)) != 0)) rfl rfl rfl ?_
       refine r_nil (e_then ?_)
       refine k_cond rfl rfl (fun h7 => ?_) (fun h7 => ?_)
       ·try simp only [sqC] at h7
        refine k_seq (k_region (sqV (.int .i64 (vecErr (vecOf x))) rfl rfl rfl ?_))
        refine sqV (.int .i64 (vecErr (vecOf x))) rfl rfl rfl ?_
        refine r_nil (sqE [(2, .int .i64 (vecErr (vecOf x)))] rfl (e_then (k_ret (e_blk_ret (e_then_ret (e_loop_ret (e_blk_ret (e_then_ret (e_ret1 rfl rfl ?_)))))))))
        exact ⟨_, rfl, by rw [he, hat, one_vec hbad hna, ne_if h7], hM17.drop⟩
       ·try simp only [sqC] at h7
        refine k_skip (e_blk (e_then (k_region (sqV (.int .i64 ((k : Int) + 1)) rfl rfl (x_addE rfl (by omega) (by omega) rfl rfl) ?_))))
        refine sqV (.int .i64 ((k : Int) + 1)) rfl rfl rfl ?_
        refine r_nil ?_
        refine e_loop (k + 1) (sqS rfl) ?_ ?_
        ·exact ⟨hM17.drop, by omega, by rw [he, hat, one_vec hbad hna, eq_if h7]⟩
        ·(try dsimp only); omega
     ·skip
      have hk0 : k = 0 := by simp at g5; omega
      have hna : notAfter (lprev l k) x = false := by subst hk0; rfl
      refine k_drawP mixed [0, 1, 3, 7, 15, 7, 7, 71, 231, 487, 999, 2047, 4095, 8191] [some (Value.int .i64 (k : Int)), some (Value.bool false), some (Value.bool false), some (undef), some (undef), some (undef), some (undef), some (undef), some (undef), some (undef), some (undef)] (by kernel_rfl) 11 [] rfl rfl (by kernel_rfl) rfl (fun D V w_ => Mem w No w_ [(b5, .cells (ints x) 64 (0, 0))]) (fun V => hM12.drew) trivial ?_ ?_
      ·refine ⟨?_, ?_, ?_, ?_, ?_, ?_, ?_, ?_, ?_, ?_, ?_, trivial⟩
       ·intro D V w_ hd hi hM_
        refine sqG [(3, .int .i64 (k : Int))] rfl rfl rfl ?_
        exact run_val (.int .i64 (k : Int)) (rfl) ⟨sqT, hM_⟩
       ·intro D V w_ hd hi hM_
        refine sqG [(28, .int .i64 (k : Int))] rfl rfl rfl ?_
        exact run_val (.bool false) (Eq.trans (rfl) (congrArg (fun z => Result.ok (Next.value (Value.bool z)) w_) g5)) ⟨sqT, hM_⟩
       ·intro D V w_ hd hi hM_
        refine sqG [(29, .bool false)] rfl rfl rfl ?_
        exact run_val (.bool false) (rfl) ⟨sqT, hM_⟩
       ·intro D V w_ hd hi hM_
        exact goal_no rfl rfl (by decide) ⟨sqT, hM_⟩
       ·intro D V w_ hd hi hM_
        exact goal_no rfl rfl (by decide) ⟨sqT, hM_⟩
       ·intro D V w_ hd hi hM_
        exact goal_no rfl rfl (by decide) ⟨sqT, hM_⟩
       ·intro D V w_ hd hi hM_
        exact goal_no rfl rfl (by decide) ⟨sqT, hM_⟩
       ·intro D V w_ hd hi hM_
        exact goal_no rfl rfl (by decide) ⟨sqT, hM_⟩
       ·intro D V w_ hd hi hM_
        exact goal_no rfl rfl (by decide) ⟨sqT, hM_⟩
       ·intro D V w_ hd hi hM_
        exact goal_no rfl rfl (by decide) ⟨sqT, hM_⟩
       ·intro D V w_ hd hi hM_
        exact goal_no rfl rfl (by decide) ⟨sqT, hM_⟩
      intro D V w18 hall hM19
      refine sqR [(0, .slice A n c), (4, .pointer (some ⟨b5, 0, none⟩)), (9, .slice A n c), (10, .int .i64 (n : Int)), (11, .int .i64 (k : Int)), (30, .bool false), (32, undef), (38, undef)] rfl (r_no rfl rfl (by decide) rfl ?_)
      refine sqV (.bool false) rfl rfl rfl ?_
      refine sqV (.bool false) rfl rfl rfl ?_
      refine r_nil (e_then (k_cond_false rfl rfl ?_))
      refine k_skip (e_blk (e_then (k_seq (k_region (sqV (.pointer (some ⟨b5, 2, none⟩)) rfl rfl rfl ?_)))))
      refine sqV (.agg (ints (x.drop 2))) rfl rfl (x_loadInts hM19 0 rfl (m := 12) (by omega) rfl rfl rfl) ?_
      refine r_call (f := 30) (args := #[Value.agg (ints (x.drop 2))]) (w' := w18) rfl rfl (x_call (vs := [Value.agg (ints (x.drop 2))]) (enter30 _ _) rfl rfl) (vecFault_s (vecOf x) (by simp [vecOf]; omega) w18) ?_
      rintro v_ w20 ⟨rfl, hM21⟩
      replace hM21 := hM19.grow hM21.kept
      refine sqV (.int .i64 (vecErr (vecOf x))) rfl rfl rfl ?_
      refine r_nil (e_then (k_seq (k_region (sqV (.int .i64 (vecErr (vecOf x))) rfl rfl rfl ?_))))
      refine sqV (.bool ((vecErr (vecOf x)) != 0)) rfl rfl rfl ?_
      refine r_nil (sqE [(0, .slice A n c), (5, .int .i64 (vecErr (vecOf x))), (9, .slice A n c), (10, .int .i64 (n : Int)), (11, .int .i64 (k : Int)), (45, .bool ((vecErr (vecOf x)) != 0))] rfl (e_then ?_))
      refine k_cond rfl rfl (fun h7 => ?_) (fun h7 => ?_)
      ·try simp only [sqC] at h7
       refine k_seq (k_region (sqV (.int .i64 (vecErr (vecOf x))) rfl rfl rfl ?_))
       refine sqV (.int .i64 (vecErr (vecOf x))) rfl rfl rfl ?_
       refine r_nil (e_then (k_ret (e_blk_ret (e_then_ret (e_loop_ret (e_blk_ret (e_then_ret (e_ret1 rfl rfl ?_))))))))
       exact ⟨_, rfl, by rw [he, hat, one_vec hbad hna, ne_if h7], hM21.drop⟩
      ·try simp only [sqC] at h7
       refine k_skip (e_blk (e_then (k_region (sqV (.int .i64 ((k : Int) + 1)) rfl rfl (x_addE rfl (by omega) (by omega) rfl rfl) ?_))))
       refine sqV (.int .i64 ((k : Int) + 1)) rfl rfl rfl ?_
       refine r_nil ?_
       refine e_loop (k + 1) (sqS rfl) ?_ ?_
       ·exact ⟨hM21.drop, by omega, by rw [he, hat, one_vec hbad hna, eq_if h7]⟩
       ·(try dsimp only); omega
  ·try simp only [sqC] at h2
   refine k_exit (e_then_exit (e_loop_exit (e_blk_exit (e_then (k_seq (k_region ?_))))))
   have hkn : k = n := by omega
   refine sqV (.int .i64 0) rfl rfl rfl ?_
   refine r_nil (e_then (k_ret (e_ret1 rfl rfl ?_)))
   exact ⟨_, rfl, by rw [he, List.drop_eq_nil_of_le (by omega)]; rfl, hM2.drop⟩


end Go.Proofs.Ytddacakmafdgdaa
end
section
/- Where a likeness is, as the reference says it. -/
set_option linter.unusedVariables false
namespace Go.Kn
open Go.RowKit
def atI (l : List (List Int)) (t : Int) : Int := if atOk l t = true then (atPos l t : Int) else -1
theorem atPos_at {l : List (List Int)} (hs : sortedIds l) {k : Nat} {x : List Int} (hx : l[k]? = some x) : atPos l (idOf x) = k ∧ atOk l (idOf x) = true := by
  have hk := (List.getElem?_eq_some_iff.1 hx).1
  refine ⟨atPos_of (by omega) (fun m y hm h => sorted_lt hs hm hx h) (fun m y hm h => ?_), List.any_eq_true.2 ⟨x, List.mem_of_getElem? hx, by simp⟩⟩
  rcases Nat.eq_or_lt_of_le h with e | e
  · subst e; rw [hx] at hm; injection hm with hm; subst hm; omega
  · have := sorted_lt hs hx hm e; omega
theorem atI_yes {l : List (List Int)} (hs : sortedIds l) {k : Nat} {x : List Int} {t : Int} (hx : l[k]? = some x) (h : idOf x = t) : atI l t = k := by
  subst h
  obtain ⟨h1, h2⟩ := atPos_at hs hx
  rw [atI, if_pos h2, h1]
theorem atI_no {l : List (List Int)} {t : Int} (h : ∀ m x, l[m]? = some x → m < l.length → idOf x ≠ t) : atI l t = -1 := by
  rw [atI, if_neg]
  intro h2
  obtain ⟨x, hx, he⟩ := List.any_eq_true.1 h2
  obtain ⟨m, hm⟩ := List.mem_iff_getElem?.1 hx
  exact h m x hm (List.getElem?_eq_some_iff.1 hm).1 (by simpa using he)
theorem no_snoc {l : List (List Int)} {t : Int} {k : Nat} {x : List Int} (hx : l[k]? = some x) (h : idOf x ≠ t) (hn : ∀ m y, l[m]? = some y → m < k → idOf y ≠ t) : ∀ m y, l[m]? = some y → m < k + 1 → idOf y ≠ t := by
  intro m y hm hlt
  rcases Nat.eq_or_lt_of_le (Nat.lt_succ_iff.1 hlt) with e | e
  · subst e; rw [hx] at hm; injection hm with hm; subst hm; exact h
  · exact hn m y hm e
theorem atI_neg {l : List (List Int)} {t : Int} : atI l t < 0 ↔ atOk l t = false := by
  unfold atI; split <;> simp_all
theorem atI_ok {l : List (List Int)} {t : Int} (h : atOk l t = true) : atI l t = (atPos l t : Int) := if_pos h
end Go.Kn
end
section
/- The first error of several. -/
namespace Go.Kn
def firstN : List Int → Int
  | [] => 0
  | x :: r => if x ≠ 0 then x else firstN r
theorem firstN_at {l : List Int} {k : Nat} {x : Int} (hx : l[k]? = some x) : firstN (l.drop k) = if x ≠ 0 then x else firstN (l.drop (k + 1)) := by
  obtain ⟨hlt, he⟩ := List.getElem?_eq_some_iff.1 hx
  rw [List.drop_eq_getElem_cons hlt, he]; rfl
end Go.Kn
end
section
/- Function values that have captured something. -/
set_option linter.unusedVariables false
set_option linter.unusedSimpArgs false
namespace Go.Kn
open Go.RowKit
section
variable {P : Program} {w : World} {ρ : Operand → Value} {dst : Option Tmp} {type : TypeId} {pos : String} {after : Array Edge} {guard : Option (Nat × Bool)}
theorem x_makeFunc {fn : Fn} {l : List Operand} {cap : List Value} (hl : l.map ρ = cap) :
    (execOp ρ ⟨dst, .makeFunc fn #[] l.toArray, type, pos, after, guard⟩).run P w = .ok (.value (.func fn #[] cap.toArray)) w := by
  subst hl
  simp [execOp, Instr.makeFunc]
end
section
variable {P : Program} {n : Nat} {K : St} {w : World} {fn : Func} {R : Ending → World → Prop}
theorem results_tmp4' {t u z y : Tmp} (h : fn.results = #[.tmp t, .tmp u, .tmp z, .tmp y]) (tmps : Array Value) (P : Program) (w : World) :
    (results fn tmps).run P w = .ok (.tuple #[tmps.getD t undef, tmps.getD u undef, tmps.getD z undef, tmps.getD y undef]) w := by
  simp [results, h]
theorem e_ret4 {t u z y : Tmp} {v1 v2 v3 v4 : Value} (hr : fn.results = #[.tmp t, .tmp u, .tmp z, .tmp y]) (h1 : K.lookup t = some v1) (h2 : K.lookup u = some v2) (h3 : K.lookup z = some v3) (h4 : K.lookup y = some v4) (h : R (.returned (.tuple #[v1, v2, v3, v4])) w) : Ends n (bodyPost P fn R) .ret K w :=
  fun a ha => bodyPost_ret (results_tmp4' hr _ _ _) ha.defers (by simp only [Array.getD_eq_getD_getElem?, ha.knows t v1 h1, ha.knows u v2 h2, ha.knows z v3 h3, ha.knows y v4 h4]; exact h)
end
end Go.Kn
end
section
/- Hb: what Go functions of this seat come to, printed by walk.py over the engine. -/
set_option linter.unusedVariables false
set_option linter.unusedSimpArgs false
set_option maxRecDepth 100000
namespace Go.Proofs.Ytddacakmafdgdaa
open Go.RowKit Go.Kn

theorem likeAt1_s (x : List Int) (t : Int) (hx : x.length = 14) (b : Nat) (w : World) (hc : w.cell? ⟨b, 0, none⟩ = some (.int .i64 t)) :
  Calls Try.prog 63 #[Value.agg (ints x), Value.pointer (some ⟨b, 0, none⟩)] w fun e w' => ∃ r, e = .returned r ∧ r = .bool (idOf x == t) ∧ Mem w No w' [] := by
 refine calls_k (args := [Value.agg (ints x), Value.pointer (some ⟨b, 0, none⟩)]) 8 [(0, Value.agg (ints x)), (1, Value.pointer (some ⟨b, 0, none⟩))] Try.func63 rfl rfl ⟨rfl, rfl, trivial⟩ ?_
 have hM := Mem.nil w No
 refine k_seq (k_region (r_box hM rfl rfl ?_))
 intro b3 w1 hM2 hb3
 replace hM2 : Mem w No w1 [(b3, .cells (ints x) 64 (0, 0))] := hM2
 refine sqV (.bool false) rfl rfl rfl ?_
 refine r_nil (e_then (k_seq (k_region (sqV (.pointer (some ⟨b3, 0, none⟩)) rfl rfl rfl ?_))))
 refine sqV (.int .i64 (x.getD 0 0)) rfl rfl (x_load (hM2.cell 0 rfl (ints_get x 0 (by omega))) rfl rfl) ?_
 refine sqV (.int .i64 t) rfl rfl (x_load ((hM2).old hc (fun h => h)) rfl rfl) ?_
 refine sqV (.bool ((x.getD 0 0) == t)) rfl rfl rfl ?_
 refine sqV (.bool ((x.getD 0 0) == t)) rfl rfl rfl ?_
 refine r_nil (e_then (k_ret (e_ret1 rfl rfl ?_)))
 exact ⟨_, rfl, rfl, hM2.drop⟩

theorem likeIdx_s (A : Option Addr) (n c : Nat) (l : List (List Int)) (t : Int) (b : Nat) (w : World) (hl : RdE intsE 14 w A n l) (hs : sortedIds l) (hc : w.cell? ⟨b, 0, none⟩ = some (.int .i64 t)) (hn : n ≤ 300) :
  Calls Try.prog 62 #[Value.slice A n c, Value.func (.func 63) #[] #[Value.pointer (some ⟨b, 0, none⟩)]] w fun e w' => ∃ r, e = .returned r ∧ r = .int .i64 (atI l t) ∧ Mem w No w' [] := by
 refine calls_k (args := [Value.slice A n c, Value.func (.func 63) #[] #[Value.pointer (some ⟨b, 0, none⟩)]]) 19 [(0, Value.slice A n c), (1, Value.func (.func 63) #[] #[Value.pointer (some ⟨b, 0, none⟩)])] Try.func62 rfl rfl ⟨rfl, rfl, trivial⟩ ?_
 have hM := Mem.nil w No
 have hln := hl.len
 refine k_seq (k_region (sqV (.int .i64 0) rfl rfl rfl ?_))
 refine r_nil (e_then (k_seq (k_seq (k_region (sqV (.slice A n c) rfl rfl rfl ?_)))))
 refine sqV (.int .i64 (n : Int)) rfl rfl (x_len rfl rfl) ?_
 refine sqV (.int .i64 0) rfl rfl rfl ?_
 refine r_nil (sqE [(0, .slice A n c), (1, .func (.func 63) #[] #[.pointer (some ⟨b, 0, none⟩)]), (7, .int .i64 (n : Int)), (8, .int .i64 0)] rfl (e_then (k_block (k_loop (σ := Nat) (fun k => [(0, .slice A n c), (1, .func (.func 63) #[] #[.pointer (some ⟨b, 0, none⟩)]), (7, .int .i64 (n : Int)), (8, .int .i64 (k : Int))]) (fun k w_ => Mem w No w_ [] ∧ k ≤ n ∧ ∀ m x, l[m]? = some x → m < k → idOf x ≠ t) (fun k => n - k) 0 (sqS rfl) ⟨hM, by omega, fun m x _ h => absurd h (by omega)⟩ ?_))))
 rintro k w1 ⟨hM2, hk, hno⟩
 refine sqK [(0, .slice A n c), (1, .func (.func 63) #[] #[.pointer (some ⟨b, 0, none⟩)]), (7, .int .i64 (n : Int)), (8, .int .i64 (k : Int))] rfl (k_seq (k_region (sqV (.bool (decide ((k : Int) < (n : Int)))) rfl rfl rfl ?_)))
 refine r_nil (e_then (k_seq ?_))
 refine k_cond rfl rfl (fun h => ?_) (fun h => ?_)
 ·try simp only [sqC] at h
  refine k_skip (e_then (k_seq (k_block (k_seq (k_region ?_)))))
  obtain ⟨x, hx⟩ : ∃ x, l[k]? = some x := ⟨l[k]'(by rw [hl.len]; omega), by simp⟩
  have hx14 : x.length = 14 := by have := hl.size x (List.mem_of_getElem? hx); simpa using this
  refine sqV (.int .i64 (k : Int)) rfl rfl rfl ?_
  refine sqV (.int .i64 (k : Int)) rfl rfl rfl ?_
  refine r_nil (e_then (k_seq (k_region (sqV (.func (.func 63) #[] #[.pointer (some ⟨b, 0, none⟩)]) rfl rfl rfl ?_))))
  refine sqV (.slice A n c) rfl rfl rfl ?_
  refine sqV (.int .i64 (k : Int)) rfl rfl rfl ?_
  refine sqV (.pointer (some ((adr A).add (k * 14)))) rfl rfl (x_indexAddrN (i := k) (sz := 14) hl.here (by omega) rfl rfl rfl rfl) ?_
  refine sqV (.agg (ints x)) rfl rfl (x_loadElem (hl.up hM2) hx rfl rfl rfl) ?_
  refine r_call (f := 63) (args := #[Value.agg (ints x), Value.pointer (some ⟨b, 0, none⟩)]) (w' := w1) rfl rfl (x_call (vs := [Value.agg (ints x), Value.pointer (some ⟨b, 0, none⟩)]) (enter63 _ _) rfl rfl) (likeAt1_s x t hx14 b w1 ((hM2).old hc (fun h => h))) ?_
  rintro v_ w3 ⟨rfl, hM4⟩
  replace hM4 := hM2.grow hM4.kept
  refine r_nil (e_then ?_)
  refine k_cond rfl rfl (fun h2 => ?_) (fun h2 => ?_)
  ·try simp only [sqC] at h2
   refine k_seq (k_region (sqV (.int .i64 (k : Int)) rfl rfl rfl ?_))
   refine sqV (.int .i64 (k : Int)) rfl rfl rfl ?_
   refine r_nil (sqE [(4, .int .i64 (k : Int))] rfl (e_then (k_ret (e_blk_ret (e_then_ret (e_loop_ret (e_blk_ret (e_then_ret (e_ret1 rfl rfl ?_)))))))))
   exact ⟨_, rfl, by rw [atI_yes hs hx h2], hM4.drop⟩
  ·try simp only [sqC] at h2
   refine k_skip (e_blk (e_then (k_region (sqV (.int .i64 ((k : Int) + 1)) rfl rfl (x_addE rfl (by omega) (by omega) rfl rfl) ?_))))
   refine sqV (.int .i64 ((k : Int) + 1)) rfl rfl rfl ?_
   refine r_nil ?_
   refine e_loop (k + 1) (sqS rfl) ?_ ?_
   ·exact ⟨hM4, by omega, no_snoc hx h2 hno⟩
   ·(try dsimp only); omega
 ·try simp only [sqC] at h
  refine k_exit (e_then_exit (e_loop_exit (e_blk_exit (e_then (k_seq (k_region ?_))))))
  have hkn : k = n := by omega
  refine sqV (.int .i64 (-1)) rfl rfl rfl ?_
  refine r_nil (e_then (k_ret (e_ret1 rfl rfl ?_)))
  exact ⟨_, rfl, by rw [atI_no (fun m x hm h => hno m x hm (by omega))], hM2.drop⟩

theorem likeAt_s (A : Option Addr) (n c : Nat) (l : List (List Int)) (t : Int) (w : World) (hl : RdE intsE 14 w A n l) (hs : sortedIds l) (hn : n ≤ 300) :
  Calls Try.prog 31 #[Value.slice A n c, Value.int .i64 t] w fun e w' => ∃ r, e = .returned r ∧ r = .int .i64 (atI l t) ∧ Mem w No w' [] := by
 refine calls_k (args := [Value.slice A n c, Value.int .i64 t]) 8 [(0, Value.slice A n c), (1, Value.int .i64 t)] Try.func31 rfl rfl ⟨rfl, rfl, trivial⟩ ?_
 have hM := Mem.nil w No
 refine k_seq (k_region (r_box hM rfl rfl ?_))
 intro b3 w1 hM2 hb3
 replace hM2 : Mem w No w1 [(b3, .cells #[Value.int .i64 t] 3 (0, 0))] := hM2
 refine sqV (.int .i64 0) rfl rfl rfl ?_
 refine r_nil (e_then (k_seq (k_region (sqV (.slice A n c) rfl rfl rfl ?_))))
 refine sqV (.func (.func 63) #[] #[.pointer (some ⟨b3, 0, none⟩)]) rfl rfl (x_makeFunc (cap := [Value.pointer (some ⟨b3, 0, none⟩)]) rfl) ?_
 refine r_call (f := 62) (args := #[Value.slice A n c, Value.func (.func 63) #[] #[Value.pointer (some ⟨b3, 0, none⟩)]]) (w' := w1) rfl rfl (x_call (vs := [Value.slice A n c, Value.func (.func 63) #[] #[Value.pointer (some ⟨b3, 0, none⟩)]]) (enter62 _ _) rfl rfl) (likeIdx_s A n c l t b3 w1 (hl.up hM2) hs (hM2.cell 0 rfl rfl) hn) ?_
 rintro v_ w4 ⟨rfl, hM5⟩
 replace hM5 := hM2.grow hM5.kept
 refine sqV (.int .i64 (atI l t)) rfl rfl rfl ?_
 refine r_nil (sqE [(4, .int .i64 (atI l t))] rfl (e_then (k_ret (e_ret1 rfl rfl ?_))))
 exact ⟨_, rfl, rfl, hM5.drop⟩

theorem unless_s (o : Bool) (no : Int) (w : World) :
  Calls Try.prog 36 #[Value.bool o, Value.int .i64 no] w fun e w' => ∃ r, e = .returned r ∧ r = .int .i64 (if o = true then 0 else no) ∧ Mem w No w' [] := by
 refine calls_k (args := [Value.bool o, Value.int .i64 no]) 7 [(0, Value.bool o), (1, Value.int .i64 no)] Try.func36 rfl rfl ⟨rfl, rfl, trivial⟩ ?_
 have hM := Mem.nil w No
 refine k_seq (k_region (sqV (.int .i64 0) rfl rfl rfl ?_))
 refine r_nil (e_then (k_seq (k_seq (k_region (sqV (.bool o) rfl rfl rfl ?_)))))
 refine r_nil (e_then ?_)
 refine k_cond rfl rfl (fun h => ?_) (fun h => ?_)
 ·try simp only [sqC] at h
  refine k_seq (k_region (sqV (.int .i64 0) rfl rfl rfl ?_))
  refine r_nil (e_then (k_ret (e_then_ret (e_ret1 rfl rfl ?_))))
  exact ⟨_, rfl, by rw [if_pos h], hM.drop⟩
 ·try simp only [sqC] at h
  refine k_skip (e_then (k_seq (k_region (sqV (.int .i64 no) rfl rfl rfl ?_))))
  refine sqV (.int .i64 no) rfl rfl rfl ?_
  refine r_nil (sqE [(4, .int .i64 no)] rfl (e_then (k_ret (e_ret1 rfl rfl ?_))))
  exact ⟨_, rfl, by rw [if_neg (by simp [h])], hM.drop⟩

theorem limitFault_s (a : Int) (w : World) :
  Calls Try.prog 13 #[Value.int .i64 a] w fun e w' => ∃ r, e = .returned r ∧ r = .int .i64 (if outN a 0 774192 = true then 2 else 0) ∧ Mem w No w' [] := by
 refine calls_k (args := [Value.int .i64 a]) 10 [(0, Value.int .i64 a)] Try.func13 rfl rfl ⟨rfl, trivial⟩ ?_
 have hM := Mem.nil w No
 refine k_seq (k_region (sqV (.int .i64 0) rfl rfl rfl ?_))
 refine r_nil (e_then (k_seq (k_region (sqV (.int .i64 a) rfl rfl rfl ?_))))
 refine sqV (.bool (decide (a ≥ 0))) rfl rfl rfl ?_
 refine sqV (.bool (decide (a ≥ 0))) rfl rfl rfl ?_
 rcases Bool.eq_false_or_eq_true (decide (a ≥ 0)) with g1 | g1
 ·refine wpR_sub [(0, Value.int .i64 a), (5, Value.bool true)] ⟨rfl, congrArg (fun z => some (Value.bool z)) g1, trivial⟩ ?_
  refine r_yes rfl rfl ?_
  refine sqV (.int .i64 a) rfl rfl rfl ?_
  refine r_yes rfl rfl ?_
  refine sqV (.bool (decide (a ≤ 774192))) rfl rfl rfl ?_
  refine sqV (.bool (decide (a ≤ 774192))) rfl rfl rfl ?_
  refine r_call (f := 36) (args := #[Value.bool (decide (a ≤ 774192)), Value.int .i64 2]) (w' := w) rfl rfl (x_call (vs := [Value.bool (decide (a ≤ 774192)), Value.int .i64 2]) (enter36 _ _) rfl rfl) (unless_s (decide (a ≤ 774192)) 2 w) ?_
  rintro v_ w2 ⟨rfl, hM3⟩
  replace hM3 := hM.grow hM3.kept
  refine sqV (.int .i64 (if decide (a ≤ 774192) = true then 0 else 2)) rfl rfl rfl ?_
  refine r_nil (e_then (k_ret (e_ret1 rfl rfl ?_)))
  exact ⟨_, rfl, congrArg (Value.int .i64) (by simp at g1; simp only [outN, decide_eq_true_eq, Bool.or_eq_true]; split <;> split <;> omega), hM3.drop⟩
 ·refine wpR_sub [(0, Value.int .i64 a), (5, Value.bool false)] ⟨rfl, congrArg (fun z => some (Value.bool z)) g1, trivial⟩ ?_
  refine r_no rfl rfl (by decide) rfl ?_
  refine r_no rfl rfl (by decide) rfl ?_
  refine sqV (.bool false) rfl rfl rfl ?_
  refine r_call (f := 36) (args := #[Value.bool false, Value.int .i64 2]) (w' := w) rfl rfl (x_call (vs := [Value.bool false, Value.int .i64 2]) (enter36 _ _) rfl rfl) (unless_s false 2 w) ?_
  rintro v_ w4 ⟨rfl, hM5⟩
  replace hM5 := hM.grow hM5.kept
  refine sqV (.int .i64 2) rfl rfl rfl ?_
  refine r_nil (e_then (k_ret (e_ret1 rfl rfl ?_)))
  exact ⟨_, rfl, congrArg (Value.int .i64) (by simp at g1; simp only [outN, decide_eq_true_eq, Bool.or_eq_true]; split <;> omega), hM5.drop⟩

theorem first_s (A : Option Addr) (n c : Nat) (l : List Int) (w : World) (hl : RdE intE 1 w A n l) (hn : n ≤ 300) :
  Calls Try.prog 12 #[Value.slice A n c] w fun e w' => ∃ r, e = .returned r ∧ r = .int .i64 (firstN l) ∧ Mem w No w' [] := by
 refine calls_k (args := [Value.slice A n c]) 15 [(0, Value.slice A n c)] Try.func12 rfl rfl ⟨rfl, trivial⟩ ?_
 have hM := Mem.nil w No
 have hln := hl.len
 refine k_seq (k_region (sqV (.int .i64 0) rfl rfl rfl ?_))
 refine r_nil (sqE [(0, .slice A n c)] rfl (e_then (k_seq (k_seq (k_region (sqV (.slice A n c) rfl rfl rfl ?_))))))
 refine sqV (.int .i64 (n : Int)) rfl rfl (x_len rfl rfl) ?_
 refine sqV (.int .i64 0) rfl rfl rfl ?_
 refine r_nil (e_then (k_block (k_loop (σ := Nat) (fun k => [(5, .slice A n c), (6, .int .i64 (n : Int)), (7, .int .i64 (k : Int))]) (fun k w_ => Mem w No w_ [] ∧ k ≤ n ∧ firstN l = firstN (l.drop k)) (fun k => n - k) 0 (sqS rfl) ⟨hM, by omega, rfl⟩ ?_)))
 rintro k w1 ⟨hM2, hk, he⟩
 refine sqK [(5, .slice A n c), (6, .int .i64 (n : Int)), (7, .int .i64 (k : Int))] rfl (k_seq (k_region (sqV (.bool (decide ((k : Int) < (n : Int)))) rfl rfl rfl ?_)))
 refine r_nil (e_then (k_seq ?_))
 refine k_cond rfl rfl (fun h => ?_) (fun h => ?_)
 ·try simp only [sqC] at h
  refine k_skip (e_then (k_seq (k_block (k_seq (k_region ?_)))))
  obtain ⟨x, hx⟩ : ∃ x, l[k]? = some x := ⟨l[k]'(by omega), by simp⟩
  refine sqV (.pointer (some ((adr A).add (k * 1)))) rfl rfl (x_indexAddrN (i := k) (sz := 1) hl.here (by omega) rfl rfl rfl rfl) ?_
  refine sqV (.int .i64 x) rfl rfl (x_loadEInt (hl.up hM2) hx rfl rfl) ?_
  refine sqV (.int .i64 x) rfl rfl rfl ?_
  refine r_nil (e_then (k_seq (k_region (sqV (.int .i64 x) rfl rfl rfl ?_))))
  refine sqV (.bool (x != 0)) rfl rfl rfl ?_
  refine r_nil (sqE [(4, .int .i64 x), (5, .slice A n c), (6, .int .i64 (n : Int)), (7, .int .i64 (k : Int)), (12, .bool (x != 0))] rfl (e_then ?_))
  refine k_cond rfl rfl (fun h2 => ?_) (fun h2 => ?_)
  ·try simp only [sqC] at h2
   refine k_seq (k_region (sqV (.int .i64 x) rfl rfl rfl ?_))
   refine sqV (.int .i64 x) rfl rfl rfl ?_
   refine r_nil (e_then (k_ret (e_blk_ret (e_then_ret (e_loop_ret (e_blk_ret (e_then_ret (e_ret1 rfl rfl ?_))))))))
   exact ⟨_, rfl, by rw [he, firstN_at hx, if_pos h2], hM2.drop⟩
  ·try simp only [sqC] at h2
   refine k_skip (e_blk (e_then (k_region (sqV (.int .i64 ((k : Int) + 1)) rfl rfl (x_addE rfl (by omega) (by omega) rfl rfl) ?_))))
   refine sqV (.int .i64 ((k : Int) + 1)) rfl rfl rfl ?_
   refine r_nil ?_
   refine e_loop (k + 1) (sqS rfl) ?_ ?_
   ·exact ⟨hM2, by omega, by rw [he, firstN_at hx, if_neg (by simp [h2])]⟩
   ·(try dsimp only); omega
 ·try simp only [sqC] at h
  refine k_exit (e_then_exit (e_loop_exit (e_blk_exit (e_then (k_seq (k_region (sqV (.int .i64 0) rfl rfl rfl ?_)))))))
  refine r_nil (e_then (k_ret (e_ret1 rfl rfl ?_)))
  exact ⟨_, rfl, by rw [he, List.drop_eq_nil_of_le (by omega)]; rfl, hM2.drop⟩

theorem toldI_s (v no x f : Int) (w : World) :
  Calls Try.prog 18 #[Value.int .i64 v, Value.int .i64 no, Value.int .i64 x, Value.int .i64 f] w fun e w' => ∃ r, e = .returned r ∧ (no = f → (f = 0 → v = x) → (f ≠ 0 → v = 0) → r = .bool true) ∧ Mem w No w' [] := by
 refine calls_k (args := [Value.int .i64 v, Value.int .i64 no, Value.int .i64 x, Value.int .i64 f]) 21 [(0, Value.int .i64 v), (1, Value.int .i64 no), (2, Value.int .i64 x), (3, Value.int .i64 f)] Try.func18 rfl rfl ⟨rfl, rfl, rfl, rfl, trivial⟩ ?_
 have hM := Mem.nil w No
 refine k_seq (k_region (sqV (.bool false) rfl rfl rfl ?_))
 refine r_nil (sqE [(0, .int .i64 v), (1, .int .i64 no), (2, .int .i64 x), (3, .int .i64 f)] rfl (e_then (k_seq (k_region (sqV (.int .i64 0) rfl rfl rfl ?_)))))
 refine r_nil (e_then (k_seq (k_seq (k_region (sqV (.int .i64 f) rfl rfl rfl ?_)))))
 refine sqV (.bool (f != 0)) rfl rfl rfl ?_
 refine r_nil (e_then ?_)
 refine k_cond rfl rfl (fun h => ?_) (fun h => ?_)
 ·try simp only [sqC] at h
  refine k_region (sqV (.int .i64 0) rfl rfl rfl ?_)
  refine sqV (.int .i64 0) rfl rfl rfl ?_
  refine r_nil (e_then (k_seq (k_region (sqV (.int .i64 v) rfl rfl rfl ?_))))
  refine sqV (.int .i64 0) rfl rfl rfl ?_
  refine sqV (.bool (v == 0)) rfl rfl rfl ?_
  refine sqV (.bool (v == 0)) rfl rfl rfl ?_
  rcases Bool.eq_false_or_eq_true (v == 0) with g1 | g1
  ·refine wpR_sub [(1, Value.int .i64 no), (3, Value.int .i64 f), (16, Value.bool true)] ⟨rfl, rfl, congrArg (fun z => some (Value.bool z)) g1, trivial⟩ ?_
   refine r_yes rfl rfl ?_
   refine sqV (.int .i64 no) rfl rfl rfl ?_
   refine r_yes rfl rfl ?_
   refine sqV (.int .i64 f) rfl rfl rfl ?_
   refine r_yes rfl rfl ?_
   refine sqV (.bool (no == f)) rfl rfl rfl ?_
   refine sqV (.bool (no == f)) rfl rfl rfl ?_
   refine sqV (.bool (no == f)) rfl rfl rfl ?_
   refine r_nil (sqE [(8, .bool (no == f))] rfl (e_then (k_ret (e_ret1 rfl rfl ?_))))
   exact ⟨_, rfl, fun h1 _ _ => by simp [h1], hM.drop⟩
  ·refine wpR_sub [(1, Value.int .i64 no), (3, Value.int .i64 f), (16, Value.bool false)] ⟨rfl, rfl, congrArg (fun z => some (Value.bool z)) g1, trivial⟩ ?_
   refine r_no rfl rfl (by decide) rfl ?_
   refine r_no rfl rfl (by decide) rfl ?_
   refine r_no rfl rfl (by decide) rfl ?_
   refine sqV (.bool false) rfl rfl rfl ?_
   refine sqV (.bool false) rfl rfl rfl ?_
   refine r_nil (e_then (k_ret (e_ret1 rfl rfl ?_)))
   exact ⟨_, rfl, fun h1 h2 h3 => absurd (h3 h) (by simpa using g1), hM.drop⟩
 ·try simp only [sqC] at h
  refine k_skip (e_then (k_seq (k_region (sqV (.int .i64 v) rfl rfl rfl ?_))))
  refine sqV (.int .i64 x) rfl rfl rfl ?_
  refine sqV (.bool (v == x)) rfl rfl rfl ?_
  refine sqV (.bool (v == x)) rfl rfl rfl ?_
  rcases Bool.eq_false_or_eq_true (v == x) with g1 | g1
  ·refine wpR_sub [(1, Value.int .i64 no), (3, Value.int .i64 f), (16, Value.bool true)] ⟨rfl, rfl, congrArg (fun z => some (Value.bool z)) g1, trivial⟩ ?_
   refine r_yes rfl rfl ?_
   refine sqV (.int .i64 no) rfl rfl rfl ?_
   refine r_yes rfl rfl ?_
   refine sqV (.int .i64 f) rfl rfl rfl ?_
   refine r_yes rfl rfl ?_
   refine sqV (.bool (no == f)) rfl rfl rfl ?_
   refine sqV (.bool (no == f)) rfl rfl rfl ?_
   refine sqV (.bool (no == f)) rfl rfl rfl ?_
   refine r_nil (e_then (k_ret (e_ret1 rfl rfl ?_)))
   exact ⟨_, rfl, fun h1 _ _ => by simp [h1], hM.drop⟩
  ·refine wpR_sub [(1, Value.int .i64 no), (3, Value.int .i64 f), (16, Value.bool false)] ⟨rfl, rfl, congrArg (fun z => some (Value.bool z)) g1, trivial⟩ ?_
   refine r_no rfl rfl (by decide) rfl ?_
   refine r_no rfl rfl (by decide) rfl ?_
   refine r_no rfl rfl (by decide) rfl ?_
   refine sqV (.bool false) rfl rfl rfl ?_
   refine sqV (.bool false) rfl rfl rfl ?_
   refine r_nil (e_then (k_ret (e_ret1 rfl rfl ?_)))
   exact ⟨_, rfl, fun h1 h2 h3 => absurd (h2 h) (by simpa using g1), hM.drop⟩


end Go.Proofs.Ytddacakmafdgdaa
end
section
/- New blocks; rows of the call's own; append. -/
set_option linter.unusedVariables false
set_option linter.unusedSimpArgs false
namespace Go.Kn
open Go.RowKit
section
variable {P : Program} {n : Nat} {ops : Array Oper} {Q : Exit → Act → World → Prop} {K : St} {w w0 : World} {S : Nat → Prop} {L : Hp} {rest : List Oper} {o : Oper}
/-- an operation that makes one block -/
theorem r_new (f : Nat → Value) (obj : Obj) (hM : Mem w0 S w L) (hr : (execOp K.ev o).run P w = .ok (.value (f w.heap.size)) (w.alloc obj)) (hg : o.guard = none) (hx : okOp n K o = true)
    (h : ∀ b w', Mem w0 S w' ((b, obj) :: L) → w0.heap.size ≤ b → wpR P n ops Q rest (K.put o.dst (f b)) w') : wpR P n ops Q (o :: rest) K w :=
  r_val hg hx hr (h _ _ (hM.alloc _) hM.kept.size)
end
/-- A row of the call's own: n elements of sz cells, the cells xs; behind them what room there is. -/
def OwnR (e : TypeId) (sz : Nat) (v : Value) (n : Nat) (xs : List Value) (L : Hp) : Prop :=
  xs.length = n * sz ∧ ((v = .slice none 0 0 ∧ n = 0 ∧ L = []) ∨ ∃ b cap cur, v = .slice (some ⟨b, 0, none⟩) n cap ∧ n ≤ cap ∧ cap ≤ maxLen ∧ cur.size = cap * sz ∧ cur.toList.take (n * sz) = xs ∧ L = [(b, .cells cur e (0, 0))])
theorem OwnR.nil (e : TypeId) (sz : Nat) : OwnR e sz (.slice none 0 0) 0 [] [] := ⟨by simp, .inl ⟨rfl, rfl, rfl⟩⟩
theorem OwnR.lit (e : TypeId) (sz : Nat) (b n : Nat) (cs : Array Value) (hn : n ≤ maxLen) (hs : cs.size = n * sz) : OwnR e sz (.slice (some ⟨b, 0, none⟩) n n) n cs.toList [(b, .cells cs e (0, 0))] :=
  ⟨by simpa using hs, .inr ⟨b, n, cs, rfl, Nat.le_refl _, hn, hs, by rw [List.take_of_length_le (by simp [hs])], rfl⟩⟩
theorem OwnR.one {e : TypeId} {sz : Nat} {v : Value} {n : Nat} {xs : List Value} {L : Hp} (h : OwnR e sz v n xs L) : v.oneCell' = true := by
  rcases h.2 with ⟨rfl, _, _⟩ | ⟨b, cap, cur, rfl, _⟩ <;> rfl
theorem OwnR.owns {e : TypeId} {sz : Nat} {v : Value} {n : Nat} {xs : List Value} {L : Hp} {w : World} (h : OwnR e sz v n xs L) (hL : Holds w L) : w.ownsRow 0 e sz v n xs := by
  obtain ⟨h1, h2⟩ := h
  refine ⟨h1, ?_⟩
  rcases h2 with ⟨rfl, rfl, rfl⟩ | ⟨b, cap, cur, rfl, h3, h4, h5, h6, rfl⟩
  · exact .inl ⟨rfl, rfl⟩
  · exact .inr ⟨b, cap, cur, rfl, Nat.zero_le _, hL.at_ (b, .cells cur e (0, 0)) (by simp), h3, h4, h5, h6⟩
theorem OwnR.len {e : TypeId} {sz : Nat} {v : Value} {n : Nat} {xs : List Value} {L : Hp} (h : OwnR e sz v n xs L) : xs.length = n * sz := h.1
theorem OwnR.slice {e : TypeId} {sz : Nat} {v : Value} {n : Nat} {xs : List Value} {L : Hp} (h : OwnR e sz v n xs L) : ∃ A c, v = .slice A n c ∧ n ≤ c ∧ c ≤ maxLen ∧ (0 < n → A.isSome = true) := by
  rcases h.2 with ⟨rfl, rfl, rfl⟩ | ⟨b, cap, cur, rfl, h3, h4, h5, h6, rfl⟩
  · exact ⟨none, 0, rfl, Nat.le_refl _, by simp, by omega⟩
  · exact ⟨_, cap, rfl, h3, h4, by simp⟩
/-- its cells, in a world that has it -/
theorem OwnR.cell {e : TypeId} {sz : Nat} {A : Option Addr} {n c : Nat} {xs : List Value} {L : Hp} {w : World} (h : OwnR e sz (.slice A n c) n xs L) (hL : Holds w L) : ∀ j u, xs[j]? = some u → w.cell? ((adr A).add j) = some u := by
  intro j u hu
  rcases h.2 with ⟨h1, h2, _⟩ | ⟨b, cap, cur, h2, h3, h4, h5, h6, rfl⟩
  · have := h.1; rw [h2] at this; simp at this; subst this; simp at hu
  · injection h2 with h2 _ _
    subst h2
    simp only [adr, Option.getD_some]
    rw [add_row, Nat.zero_add, cell_of_row w b j cur e (0, 0) (hL.at_ (b, .cells cur e (0, 0)) (by simp))]
    rw [← h6, List.getElem?_take] at hu
    split at hu
    · simpa using hu
    · cases hu
/-- as a slice that is read -/
theorem OwnR.rd {α : Type} {enc : α → List Value} {e : TypeId} {sz : Nat} {A : Option Addr} {n c : Nat} {l : List α} {L : Hp} {w : World} (h : OwnR e sz (.slice A n c) n (l.flatMap enc) L) (hL : Holds w L) (hs : ∀ x ∈ l, (enc x).length = sz) (hz : 0 < sz) : RdE enc sz w A n l := by
  have flat : ∀ (l : List α), (∀ x ∈ l, (enc x).length = sz) → (l.flatMap enc).length = l.length * sz ∧ ∀ k x i v, l[k]? = some x → (enc x)[i]? = some v → (l.flatMap enc)[k * sz + i]? = some v := by
    intro l
    induction l with
    | nil => intro _; exact ⟨by simp, by simp⟩
    | cons y r ih =>
      intro hs
      have hy := hs y (by simp)
      obtain ⟨h1, h2⟩ := ih (fun x hx => hs x (by simp [hx]))
      refine ⟨by rw [List.flatMap_cons, List.length_append, h1, hy, List.length_cons, Nat.add_mul]; omega, ?_⟩
      intro k x i v hk hi
      rw [List.flatMap_cons]
      cases k with
      | zero =>
        simp at hk; subst hk
        have hlt := (List.getElem?_eq_some_iff.1 hi).1
        rw [Nat.zero_mul, Nat.zero_add, List.getElem?_append_left hlt]; exact hi
      | succ k =>
        rw [List.getElem?_append_right (by rw [hy, Nat.add_mul]; omega), hy, show (k + 1) * sz + i - sz = k * sz + i by rw [Nat.add_mul]; omega]
        exact h2 k x i v (by simpa using hk) hi
  obtain ⟨h1, h2⟩ := flat l hs
  have hl : l.length = n := by
    have := h.len
    rw [h1] at this
    exact Nat.eq_of_mul_eq_mul_right hz this
  obtain ⟨A', c', he, _, _, hh⟩ := h.slice
  injection he with he _ _
  subst he
  exact ⟨hl, hs, hh, fun k x i v hk hi => h.cell hL _ _ (h2 k x i v hk hi)⟩
theorem flatMap_int (l : List Int) : l.flatMap intE = l.map (.int .i64) := by induction l <;> simp_all
theorem OwnR.rdI {e : TypeId} {A : Option Addr} {n c : Nat} {l : List Int} {L : Hp} {w : World} (h : OwnR e 1 (.slice A n c) n (l.map (.int .i64)) L) (hL : Holds w L) : RdE intE 1 w A n l :=
  OwnR.rd (enc := intE) (by rw [flatMap_int]; exact h) hL (by simp) (by decide)
/-- append: the run -/
theorem OwnR.append {P : Program} {w0 w : World} {S : Nat → Prop} {e t ty : TypeId} {sz bytes : Nat} {z : Value} {v : Value} {n : Nat} {xs : List Value} {L1 L2 : Hp} (h : OwnR e sz v n xs L1) (hM : Mem w0 S w (L1 ++ L2)) (ht : P.underlying t = some (.slice e)) (hi : (P.info? e).map (fun i => (i.zero, i.size, i.bytes)) = some (some z, sz, bytes)) (hz : z.cells.size = sz) (hsz : 0 < sz) (hby : 0 < bytes)
    {A : Option Addr} {m c : Nat} {news : List Value} (hA : 0 < m → A.isSome = true) (hl : news.length = m * sz) (hc : ∀ j u, news[j]? = some u → w.cell? ((adr A).add j) = some u) (h1 : ∀ u ∈ news, u.oneCell' = true) (hb : (n + m) * bytes ≤ 140737488355328) :
    ∃ v' w' L1', (Builtin.append_ #[t, t] ty #[v, .slice A m c]).run P w = .ok v' w' ∧ OwnR e sz v' (n + m) (xs ++ news) L1' ∧ Mem w0 S w' (L1' ++ L2) := by
  obtain ⟨i0, hi0, hzz⟩ := Option.map_eq_some_iff.1 hi
  simp only [Prod.mk.injEq] at hzz
  obtain ⟨hz0, hz1, hz2⟩ := hzz
  have hown := h.owns ⟨hM.left.holds.nodup, hM.left.holds.at_⟩
  rcases A with _ | ad
  · have h0 : m = 0 := by
      rcases Nat.eq_zero_or_pos m with h0 | h0
      · exact h0
      · have := hA h0; cases this
    subst h0
    have hn0 : news = [] := List.eq_nil_of_length_eq_zero (by simpa using hl)
    subst hn0
    refine ⟨v, w, L1, ?_, by simpa using h, hM⟩
    rcases h.2 with ⟨rfl, rfl, rfl⟩ | ⟨b, cap, cur, rfl, h3, h4, h5, h6, rfl⟩
    · simp [Builtin.append_, run_underlying ht, sizeOf, typeInfo, hi0, Builtin.lenOf, Builtin.firstCells]
    · simp [Builtin.append_, run_underlying ht, sizeOf, typeInfo, hi0, Builtin.lenOf, Builtin.firstCells, h3, storeCells]
  · have hlen : n + m ≤ 140737488355328 := Nat.le_trans (Nat.le_mul_of_pos_right _ hby) hb
    obtain ⟨v', w', hr, ho, hg, _, hat⟩ := run_append_own_at (P := P) (w := w) 0 t ty e i0 z sz bytes ht hi0 hz0 hz1 hz2 hz hsz v n xs hown ad m c news hl hc h1 (by simp only [maxLen]; omega) hb (Nat.zero_le _)
    have hkept : Kept w w' (fun k => some k = v.ownBlock) := ⟨hg.os, hg.tape, hg.output, hg.size, fun k hk hne => hg.block k hk hne⟩
    rcases ho.2 with ⟨rfl, hnm⟩ | ⟨g, cap, cur, rfl, _, hh, h3, h4, h5, h6⟩
    · -- nothing at all
      have hn0 : n = 0 := by omega
      have hm0 : m = 0 := by omega
      subst hn0; subst hm0
      have hx0 : xs = [] := List.eq_nil_of_length_eq_zero (by simpa using h.1)
      have hnw : news = [] := List.eq_nil_of_length_eq_zero (by simpa using hl)
      subst hx0; subst hnw
      rcases h.2 with ⟨rfl, _, rfl⟩ | ⟨b, cap, cur, rfl, _, _, _, _, rfl⟩
      · refine ⟨_, w', [], hr, OwnR.nil e sz, ?_⟩
        exact hM.grow (hkept.mono (fun k hk => by simp [Value.ownBlock] at hk))
      · exfalso
        rcases hat with hat | hat <;> simp [Value.ownBlock] at hat
    · refine ⟨_, w', [(g, .cells cur e (0, 0))], hr, ⟨ho.1, .inr ⟨g, cap, cur, rfl, h3, h4, h5, h6, rfl⟩⟩, ?_⟩
      have hcall : Mem w (keys L1) w' [(g, .cells cur e (0, 0))] := by
        refine ⟨hkept.mono (fun k hk => ?_), ⟨by simp, by simpa using hh⟩, fun k hk => ?_⟩
        · rcases h.2 with ⟨rfl, _, rfl⟩ | ⟨b, _, _, rfl, _, _, _, _, rfl⟩
          · simp [Value.ownBlock] at hk
          · simp [Value.ownBlock] at hk; simp [keys, hk]
        · have hkg : k = g := by simpa [keys] using hk
          subst hkg
          rcases hat with hat | hat
          · rcases h.2 with ⟨rfl, _, rfl⟩ | ⟨b, _, _, rfl, _, _, _, _, rfl⟩
            · simp [Value.ownBlock] at hat
            · simp [Value.ownBlock] at hat; left; simp [keys, hat]
          · simp [Value.ownBlock] at hat; right; omega
      exact hM.call hcall
section
variable {P : Program} {n : Nat} {ops : Array Oper} {Q : Exit → Act → World → Prop} {K : St} {w w0 : World} {S : Nat → Prop} {dst : Option Tmp} {type : TypeId} {pos : String} {after : Array Edge} {rest : List Oper}
theorem r_append {e t : TypeId} {sz bytes : Nat} {z : Value} {v : Value} {k : Nat} {xs : List Value} {L1 L2 : Hp} {x y : Operand} (h : OwnR e sz v k xs L1) (hM : Mem w0 S w (L1 ++ L2)) {A : Option Addr} {m c : Nat} {news : List Value} (hA : 0 < m → A.isSome = true) (hl : news.length = m * sz) (hc : ∀ j u, news[j]? = some u → w.cell? ((adr A).add j) = some u) (h1 : ∀ u ∈ news, u.oneCell' = true) (hb : (k + m) * bytes ≤ 140737488355328)
    (ht : P.underlying t = some (.slice e)) (hi : (P.info? e).map (fun i => (i.zero, i.size, i.bytes)) = some (some z, sz, bytes)) (hz : z.cells.size = sz) (hsz : 0 < sz) (hby : 0 < bytes)
    (hok : okOp n K ⟨dst, .call { callee := .builtin .append, args := #[x, y], argTypes := #[t, t] }, type, pos, after, none⟩ = true) (hx : K.ev x = v) (hy : K.ev y = .slice A m c)
    (hnext : ∀ v' L1' w', OwnR e sz v' (k + m) (xs ++ news) L1' → Mem w0 S w' (L1' ++ L2) → wpR P n ops Q rest (K.put dst v') w') : wpR P n ops Q (⟨dst, .call { callee := .builtin .append, args := #[x, y], argTypes := #[t, t] }, type, pos, after, none⟩ :: rest) K w := by
  obtain ⟨v', w', L1', hr, ho, hM'⟩ := h.append (P := P) (ty := type) hM ht hi hz hsz hby (A := A) (m := m) (c := c) hA hl hc h1 hb
  refine r_val (v := v') (w' := w') rfl hok ?_ (hnext v' L1' w' ho hM')
  simp [execOp, resolve, invoke, builtin, hx, hy, hr]
end
end Go.Kn
end
section
/- Maps whose keys are ints: their entries as a list. -/
set_option linter.unusedVariables false
set_option linter.unusedSimpArgs false
namespace Go.Kn
open Go.RowKit
structure Ent where
  key : Int
  v : Value
  born : Nat
def Ent.obj (e : Ent) : MapEntry := ⟨.int .i64 e.key, e.v, e.born⟩
abbrev mapO (es : List Ent) (clock : Nat) : Obj := .map (es.map Ent.obj).toArray clock
def mget (k : Int) : List Ent → Option Value
  | [] => none
  | e :: r => if e.key = k then some e.v else mget k r
def mfind (k : Int) : List Ent → Nat → Option (Nat × Value)
  | [], _ => none
  | e :: r, i => if e.key = k then some (i, e.v) else mfind k r (i + 1)
theorem mfind_get (k : Int) : ∀ (es : List Ent) (i : Nat), (mfind k es i).map (·.2) = mget k es
  | [], _ => rfl
  | e :: r, i => by unfold mfind mget; split <;> simp [mfind_get k r]
def mset (k : Int) (v : Value) (es : List Ent) : List Ent := es.map fun e => if e.key = k then { e with v := v } else e
def mdel (k : Int) (es : List Ent) : List Ent := es.filter fun e => decide (e.key ≠ k)
theorem run_getObj {P : Program} {w : World} {r : Nat} {o : Obj} (h : w.heap[r]? = some o) (hc : ∀ c e f, o ≠ .cells c e f) : (getObj r).run P w = .ok o w := by
  unfold getObj
  cases o <;> first | (simp only [Sem.run, h]; done) | exact absurd rfl (hc _ _ _)
theorem findNow_int (kk : IntKind) (k : Int) : ∀ (es : List Ent) (i : Nat), Instr.findNow (.int kk) (.int .i64 k) (es.map Ent.obj) i = some (mfind k es i)
  | [], _ => rfl
  | e :: r, i => by
    simp only [List.map_cons, Instr.findNow, Ent.obj, Instr.sameNow, if_true]
    unfold mfind
    by_cases h : e.key = k
    · subst h; simp [Ent.obj]
    · have h2 : (k == e.key) = false := by simpa using fun e' => h e'.symm
      simp only [h2, if_neg h]
      exact findNow_int kk k r (i + 1)
theorem run_checkKey {P : Program} {w : World} {kt : TypeId} {kk : IntKind} (b : Bool) (k : Int) (hk : P.underlying kt = some (.int kk)) : (Instr.checkKey b 10000 kt (.int .i64 k)).run P w = .ok () w := by
  unfold Instr.checkKey
  simp [run_underlying hk]
theorem run_findKey {P : Program} {w : World} {kt : TypeId} {kk : IntKind} (k : Int) (es : List Ent) (hk : P.underlying kt = some (.int kk)) : (Instr.findKey kt (.int .i64 k) (es.map Ent.obj)).run P w = .ok (mfind k es 0) w := by
  unfold Instr.findKey
  simp [run_underlying hk, findNow_int]
theorem find_born {es : List Ent} {e : Ent} (he : e ∈ es) (hn : (es.map Ent.born).Nodup) : (es.map Ent.obj).find? (fun q => q.born == e.born) = some e.obj := by
  induction es with
  | nil => cases he
  | cons q r ih =>
    simp only [List.map_cons, List.nodup_cons] at hn
    simp only [List.map_cons, List.find?_cons]
    rcases List.mem_cons.1 he with h | h
    · subst h; simp [Ent.obj]
    · have : (q.obj.born == e.born) = false := by
        simp only [Ent.obj, beq_eq_false_iff_ne]
        intro h2
        exact hn.1 (h2 ▸ List.mem_map.2 ⟨e, h, rfl⟩)
      rw [this]
      exact ih h hn.2
theorem map_erase {α β : Type} (f : α → β) : ∀ (l : List α) (q : Nat), (l.map f).eraseIdx q = (l.eraseIdx q).map f
  | [], _ => by simp
  | a :: r, 0 => by simp
  | a :: r, q + 1 => by simp [map_erase f r q]
theorem mdel_erase {k : Int} : ∀ {es : List Ent} {q : Nat} {e : Ent}, (es.map Ent.key).Nodup → es[q]? = some e → e.key = k → (∀ m a, es[m]? = some a → (a.key = k ↔ m = q)) → mdel k es = es.eraseIdx q
  | [], _, _, _, h2, _, _ => by simp at h2
  | a :: r, q, e, hn, h2, h3, h4 => by
    simp only [List.map_cons, List.nodup_cons] at hn
    unfold mdel
    cases q with
    | zero =>
      simp at h2
      subst h2
      rw [List.filter_cons, if_neg (by simp [h3])]
      simp only [List.eraseIdx_cons_zero]
      rw [List.filter_eq_self]
      intro b hb
      obtain ⟨m, hm⟩ := List.mem_iff_getElem?.1 hb
      have := h4 (m + 1) b (by simpa using hm)
      simp; intro hk'; have := this.1 hk'; omega
    | succ q =>
      have ha := h4 0 a (by simp)
      have hak : ¬ a.key = k := fun h => by have := ha.1 h; omega
      rw [List.filter_cons, if_pos (by simpa using hak)]
      simp only [List.eraseIdx_cons_succ]
      congr 1
      exact mdel_erase (es := r) hn.2 (by simpa using h2) h3 (fun m b hm => by have := h4 (m + 1) b (by simpa using hm); rw [this]; omega)
section
variable {P : Program} {w : World} {ρ : Operand → Value} {dst : Option Tmp} {type : TypeId} {pos : String} {after : Array Edge} {guard : Option (Nat × Bool)}
theorem x_lookup {t kt et : TypeId} {kk : IntKind} {x y : Operand} {b : Nat} {es : List Ent} {clock : Nat} {k : Int} {z : Value} (hb : w.heap[b]? = some (mapO es clock)) (hx : ρ x = .map (some b)) (hy : ρ y = .int .i64 k) (ht : P.underlying t = some (.map kt et)) (hk : P.underlying kt = some (.int kk)) (hz : (zeroValue et).run P w = .ok z w) :
    (execOp ρ ⟨dst, .lookup t x y false, type, pos, after, guard⟩).run P w = .ok (.value ((mget k es).getD z)) w := by
  have hg := run_getObj (P := P) hb (by simp [mapO])
  have hf := run_findKey (P := P) (w := w) k es hk
  simp only [execOp, Instr.lookup, hx, hy, Sem.run_bind, run_underlying ht, Result.andThen_ok, hg, Sem.run_pure, run_checkKey _ _ hk, hf, List.toList_toArray, mapO]
  rw [← mfind_get k es 0]
  cases h : mfind k es 0 with
  | none => simp [hz]
  | some p => obtain ⟨i, v⟩ := p; simp
theorem x_lookupOk {t kt et : TypeId} {kk : IntKind} {x y : Operand} {b : Nat} {es : List Ent} {clock : Nat} {k : Int} {z : Value} (hb : w.heap[b]? = some (mapO es clock)) (hx : ρ x = .map (some b)) (hy : ρ y = .int .i64 k) (ht : P.underlying t = some (.map kt et)) (hk : P.underlying kt = some (.int kk)) (hz : (zeroValue et).run P w = .ok z w) :
    (execOp ρ ⟨dst, .lookup t x y true, type, pos, after, guard⟩).run P w = .ok (.value (.tuple #[(mget k es).getD z, .bool (mget k es).isSome])) w := by
  have hg := run_getObj (P := P) hb (by simp [mapO])
  have hf := run_findKey (P := P) (w := w) k es hk
  simp only [execOp, Instr.lookup, hx, hy, Sem.run_bind, run_underlying ht, Result.andThen_ok, hg, Sem.run_pure, run_checkKey _ _ hk, hf, List.toList_toArray, mapO]
  rw [← mfind_get k es 0]
  cases h : mfind k es 0 with
  | none => simp [hz]
  | some p => obtain ⟨i, v⟩ := p; simp
theorem x_lenMap {x : Operand} {t kt et : TypeId} {b : Nat} {es : List Ent} {clock : Nat} (hb : w.heap[b]? = some (mapO es clock)) (hx : ρ x = .map (some b)) (ht : (underlying t).run P w = .ok (.map kt et) w) :
    (execOp ρ ⟨dst, .call { callee := .builtin .len, args := #[x], argTypes := #[t] }, type, pos, after, guard⟩).run P w = .ok (.value (.int .i64 (es.length : Int))) w := by
  have hg := run_getObj (P := P) hb (by simp [mapO])
  simp [execOp, resolve, invoke, builtin, Builtin.len_, hx, ht, goInt, hg]
theorem x_entry {x : Operand} {b bm : Nat} {es : List Ent} {since clock : Nat} {seen : Array Nat} {e : Ent} (hi : w.heap[b]? = some (.mapIter (some bm) since (seen.push e.born) clock)) (hb : w.heap[bm]? = some (mapO es clock)) (he : e ∈ es) (hn : (es.map Ent.born).Nodup) (hx : ρ x = .pointer (some ⟨b, 0, none⟩)) :
    (execOp ρ ⟨dst, .entry x, type, pos, after, guard⟩).run P w = .ok (.value (.tuple #[.int .i64 e.key, e.v])) w := by
  have hg := run_getObj (P := P) hi (by simp)
  have hg2 := run_getObj (P := P) hb (by simp [mapO])
  have hf := find_born he hn
  have hbk : (seen.push e.born).back? = some e.born := by simp
  simp only [execOp, Instr.entry, hx, Sem.run_bind, hg, Result.andThen_ok, hbk, Sem.run_pure, hg2, mapO, bne_self_eq_false, Bool.false_eq_true, if_false]
  simp [hf, Ent.obj]
end
section
variable {P : Program} {n : Nat} {ops : Array Oper} {Q : Exit → Act → World → Prop} {K : St} {w w0 : World} {S : Nat → Prop} {L : Hp} {dst : Option Tmp} {type : TypeId} {pos : String} {after : Array Edge} {rest : List Oper}
theorem kept_setObj {w : World} {r : Nat} {o : Obj} : Kept w { w with heap := w.heap.setIfInBounds r o } (fun k => k = r) :=
  ⟨rfl, rfl, rfl, by simp, fun k _ hk => by simp only []; rw [Array.getElem?_setIfInBounds_ne (fun e => hk e.symm)]⟩
theorem heap_setObj {w : World} {r : Nat} {o o' : Obj} (h : w.heap[r]? = some o') : ({ w with heap := w.heap.setIfInBounds r o } : World).heap[r]? = some o := by
  have := lt_of_block h
  simp [this]
theorem run_setObj {P : Program} {w : World} {r : Nat} {o o' : Obj} (h : w.heap[r]? = some o') (hc : ∀ c e f, o' ≠ .cells c e f) : (setObj r o).run P w = .ok () { w with heap := w.heap.setIfInBounds r o } := by
  unfold setObj
  cases o' <;> first | (simp only [Sem.run, h]; done) | exact absurd rfl (hc _ _ _)
theorem mfind_none {k : Int} {es : List Ent} (h : mget k es = none) (i : Nat) : mfind k es i = none := by
  have := mfind_get k es i
  rw [h] at this
  cases hm : mfind k es i with
  | none => rfl
  | some p => simp [hm] at this
/-- a new key -/
theorem r_mapNew {t kt et : TypeId} {kk : IntKind} {x y z : Operand} (hM : Mem w0 S w L) (i : Nat) {b : Nat} {es : List Ent} {clock : Nat} {k : Int} {v : Value} (hi : L[i]? = some (b, mapO es clock)) (hnew : mget k es = none) (ht : P.underlying t = some (.map kt et)) (hk : P.underlying kt = some (.int kk))
    (hok : okOp n K ⟨dst, .mapUpdate t x y z, type, pos, after, none⟩ = true) (hx : K.ev x = .map (some b)) (hy : K.ev y = .int .i64 k) (hz : K.ev z = v)
    (h : ∀ w', Mem w0 S w' (L.set i (b, mapO (es ++ [(⟨k, v, clock⟩ : Ent)]) (clock + 1))) → wpR P n ops Q rest (K.put dst undef) w') : wpR P n ops Q (⟨dst, .mapUpdate t x y z, type, pos, after, none⟩ :: rest) K w := by
  have hb := hM.get i hi
  refine r_skip (w' := { w with heap := w.heap.setIfInBounds b (mapO (es ++ [(⟨k, v, clock⟩ : Ent)]) (clock + 1)) }) rfl hok ?_ (h _ (hM.turn hi kept_setObj (heap_setObj hb)))
  have hg := run_getObj (P := P) hb (by simp [mapO])
  have hf := run_findKey (P := P) (w := w) k es hk
  have hs := run_setObj (P := P) (o := mapO (es ++ [(⟨k, v, clock⟩ : Ent)]) (clock + 1)) hb (by simp [mapO])
  have e : (es.map Ent.obj).toArray.push { key := .int .i64 k, val := v, born := clock } = ((es ++ [(⟨k, v, clock⟩ : Ent)]).map Ent.obj).toArray := by simp [Ent.obj]
  simp only [execOp, Instr.mapUpdate, hx, hy, hz, Sem.run_bind, run_underlying ht, Result.andThen_ok, hg, mapO, run_checkKey _ _ hk, List.toList_toArray, hf, mfind_none hnew]
  rw [e]
  simp only [mapO] at hs
  simp only [Sem.run_bind, hs, Result.andThen_ok, Sem.run_pure]
theorem mfind_some {k : Int} : ∀ {es : List Ent} {j : Nat} {v0 : Value}, mget k es = some v0 → (es.map Ent.key).Nodup → ∃ i e, mfind k es j = some (j + i, v0) ∧ es[i]? = some e ∧ e.key = k ∧ ∀ q a, es[q]? = some a → (a.key = k ↔ q = i)
  | [], _, _, h, _ => by cases h
  | e :: r, j, v0, h, hn => by
    simp only [List.map_cons, List.nodup_cons] at hn
    unfold mget at h
    unfold mfind
    by_cases he : e.key = k
    · rw [if_pos he] at h
      injection h with h
      rw [if_pos he]
      refine ⟨0, e, by simp [h], rfl, he, fun q a hq => ?_⟩
      cases q with
      | zero => simp at hq; subst hq; simp [he]
      | succ q =>
        simp at hq
        constructor
        · intro hk; exact absurd (List.mem_map.2 ⟨a, List.mem_of_getElem? hq, by rw [hk, he]⟩) hn.1
        · intro hk; cases hk
    · rw [if_neg he] at h
      rw [if_neg he]
      obtain ⟨i, e', h1, h2, h3, h4⟩ := mfind_some (j := j + 1) h hn.2
      refine ⟨i + 1, e', by rw [h1]; simp; omega, by simpa using h2, h3, fun q a hq => ?_⟩
      cases q with
      | zero => simp at hq; subst hq; simp [he]
      | succ q => simp at hq; rw [h4 q a hq]; omega
/-- a key that is there -/
theorem r_mapOld {t kt et : TypeId} {kk : IntKind} {x y z : Operand} (hM : Mem w0 S w L) (i : Nat) {b : Nat} {es : List Ent} {clock : Nat} {k : Int} {v v0 : Value} (hi : L[i]? = some (b, mapO es clock)) (hold : mget k es = some v0) (hn : (es.map Ent.key).Nodup) (ht : P.underlying t = some (.map kt et)) (hk : P.underlying kt = some (.int kk))
    (hok : okOp n K ⟨dst, .mapUpdate t x y z, type, pos, after, none⟩ = true) (hx : K.ev x = .map (some b)) (hy : K.ev y = .int .i64 k) (hz : K.ev z = v)
    (h : ∀ w', Mem w0 S w' (L.set i (b, mapO (mset k v es) clock)) → wpR P n ops Q rest (K.put dst undef) w') : wpR P n ops Q (⟨dst, .mapUpdate t x y z, type, pos, after, none⟩ :: rest) K w := by
  have hb := hM.get i hi
  refine r_skip (w' := { w with heap := w.heap.setIfInBounds b (mapO (mset k v es) clock) }) rfl hok ?_ (h _ (hM.turn hi kept_setObj (heap_setObj hb)))
  have hg := run_getObj (P := P) hb (by simp [mapO])
  have hf := run_findKey (P := P) (w := w) k es hk
  have hs := run_setObj (P := P) (o := mapO (mset k v es) clock) hb (by simp [mapO])
  obtain ⟨q, e, h1, h2, h3, h4⟩ := mfind_some (j := 0) hold hn
  rw [h1] at hf
  have hkey : ((((es.map Ent.obj).toArray[0 + q]?).map (·.key)).getD (Value.int .i64 k)) = .int .i64 k := by
    simp [h2, Ent.obj, h3]
  have hst : (Instr.keyThatStays (.int .i64 k) (.int .i64 k)).run P w = .ok (.int .i64 k) w := by
    simp [Instr.keyThatStays, Instr.sameBits]
  have e2 : (es.map Ent.obj).toArray.modify (0 + q) (fun a => { a with key := .int .i64 k, val := v }) = ((mset k v es).map Ent.obj).toArray := by
    apply Array.ext_getElem?
    intro j
    rw [Array.getElem?_modify]
    simp only [List.getElem?_toArray, List.getElem?_map, mset]
    cases hj : es[j]? with
    | none => simp
    | some a =>
      have := h4 j a hj
      by_cases hjq : j = q
      · subst hjq
        have hak := this.2 rfl
        simp [hak, Ent.obj]
      · have hak : ¬ a.key = k := fun h => hjq (this.1 h)
        have : ¬ q = j := fun h => hjq h.symm
        simp [hak, this]
  simp only [execOp, Instr.mapUpdate, hx, hy, hz, Sem.run_bind, run_underlying ht, Result.andThen_ok, hg, mapO, run_checkKey _ _ hk, List.toList_toArray, hf, hkey, hst]
  rw [e2]
  simp only [mapO] at hs
  simp [hs]
/-- delete -/
theorem r_delete {t kt et : TypeId} {kk : IntKind} {x y : Operand} {ts : TypeId} (hM : Mem w0 S w L) (i : Nat) {b : Nat} {es : List Ent} {clock : Nat} {k : Int} (hi : L[i]? = some (b, mapO es clock)) (hn : (es.map Ent.key).Nodup) (ht : P.underlying t = some (.map kt et)) (hk : P.underlying kt = some (.int kk))
    (hok : okOp n K ⟨dst, .call { callee := .builtin .delete, args := #[x, y], argTypes := #[t, ts] }, type, pos, after, none⟩ = true) (hx : K.ev x = .map (some b)) (hy : K.ev y = .int .i64 k)
    (h : ∀ w', Mem w0 S w' (L.set i (b, mapO (mdel k es) clock)) → wpR P n ops Q rest (K.put dst (.tuple #[])) w') : wpR P n ops Q (⟨dst, .call { callee := .builtin .delete, args := #[x, y], argTypes := #[t, ts] }, type, pos, after, none⟩ :: rest) K w := by
  have hb := hM.get i hi
  refine r_val (v := .tuple #[]) (w' := { w with heap := w.heap.setIfInBounds b (mapO (mdel k es) clock) }) rfl hok ?_ (h _ (hM.turn hi kept_setObj (heap_setObj hb)))
  have hg := run_getObj (P := P) hb (by simp [mapO])
  have hf := run_findKey (P := P) (w := w) k es hk
  have hs := run_setObj (P := P) (o := mapO (mdel k es) clock) hb (by simp [mapO])
  simp only [mapO] at hs
  cases hold : mget k es with
  | none =>
    have hall : mdel k es = es := by
      unfold mdel
      rw [List.filter_eq_self]
      intro a ha
      have : ∀ (es : List Ent), mget k es = none → ∀ a ∈ es, a.key ≠ k := by
        intro es
        induction es with
        | nil => intro _ a h; cases h
        | cons q r ih =>
          intro h a ha
          unfold mget at h
          split at h
          · cases h
          · rename_i hq
            rcases List.mem_cons.1 ha with rfl | ha
            · exact hq
            · exact ih h a ha
      simpa using this es hold a ha
    rw [hall] at hs ⊢
    simp only [execOp, resolve, invoke, builtin, Builtin.delete_, List.map_toArray, List.map_cons, List.map_nil, hx, hy, Sem.run_bind, Sem.run_pure, Result.andThen_ok]
    simp [run_underlying ht, hg, run_checkKey _ _ hk, hf, mfind_none hold, hs]
  | some v0 =>
    obtain ⟨q, e, h1, h2, h3, h4⟩ := mfind_some (j := 0) hold hn
    rw [h1] at hf
    have hdel := mdel_erase hn h2 h3 h4
    have hql : q < es.length := (List.getElem?_eq_some_iff.1 h2).1
    have e2 : (es.map Ent.obj).eraseIdx q = (mdel k es).map Ent.obj := by rw [map_erase, hdel]
    simp only [execOp, resolve, invoke, builtin, Builtin.delete_, List.map_toArray, List.map_cons, List.map_nil, hx, hy, Sem.run_bind, Sem.run_pure, Result.andThen_ok]
    simp only [mapO] at hg
    simp [run_underlying ht, hg, run_checkKey _ _ hk, hf]
    rw [e2]
    simp only [hs, Result.andThen_ok]
/-- the next entry of a range over a map that no one writes -/
theorem r_nextH {x : Operand} {ty : TypeId} (hM : Mem w0 S w L) (i : Nat) {b bm : Nat} {es : List Ent} {clock : Nat} {seen : Array Nat} (hi : L[i]? = some (b, .mapIter (some bm) clock seen clock)) (hbm : w.heap[bm]? = some (mapO es clock)) (hb : ∀ e ∈ es, e.born < clock)
    (hok : okOp n K ⟨dst, .next x false, ty, pos, after, none⟩ = true) (hx : K.ev x = .pointer (some ⟨b, 0, none⟩))
    (hfin : (∀ e ∈ es, e.born ∈ seen.toList) → ∀ w', Mem w0 S w' L → wpR P n ops Q rest (K.put dst (.tuple #[.bool false])) w')
    (hstep : ∀ e ∈ es, e.born ∉ seen.toList → ∀ w', Mem w0 S w' (L.set i (b, .mapIter (some bm) clock (seen.push e.born) clock)) → wpR P n ops Q rest (K.put dst (.tuple #[.bool true, .int .i64 e.key, e.v])) w') : wpR P n ops Q (⟨dst, .next x false, ty, pos, after, none⟩ :: rest) K w := by
  have hbi := hM.get i hi
  have hg := run_getObj (P := P) hbi (by simp)
  have hg2 := run_getObj (P := P) hbm (by simp [mapO])
  simp only [mapO] at hg2
  let left : List MapEntry := (es.map Ent.obj).filter (fun e => !seen.contains e.born)
  have hold : left.filter (fun e => decide (e.born < clock)) = left := by
    rw [List.filter_eq_self]
    intro a ha
    obtain ⟨q, hq, rfl⟩ := List.mem_map.1 (List.mem_filter.1 ha).1
    exact decide_eq_true (hb q hq)
  have hnew : left.filter (fun e => decide (clock ≤ e.born)) = [] := by
    rw [List.filter_eq_nil_iff]
    intro a ha
    obtain ⟨q, hq, rfl⟩ := List.mem_map.1 (List.mem_filter.1 ha).1
    have h5 : ¬ clock ≤ q.born := Nat.not_le.2 (hb q hq)
    intro h6
    exact h5 (of_decide_eq_true h6)
  have hodd : (!seen.isEmpty && !(es.map Ent.obj).toArray.isEmpty && (es.map Ent.obj).toArray.all (fun e => decide (clock ≤ e.born))) = false := by
    cases es with
    | nil => simp
    | cons e r =>
      have := hb e (by simp)
      have h2 : decide (clock ≤ e.born) = false := by simpa using this
      simp [Ent.obj, h2]
  have hrun : ∀ (cand : Array (Option MapEntry)), cand = (if left.isEmpty then #[none] else #[]) ++ (left.map some).toArray →
      (Instr.next (.pointer (some ⟨b, 0, none⟩)) false ty).run P w = (do
        match cand[← choose (.mapNext cand.size)]? with
        | some (some e) => setObj b (.mapIter (some bm) clock (seen.push e.born) clock); pure (.tuple #[.bool true, e.key, e.val])
        | some none => pure (.tuple #[.bool false])
        | none => stuck "Next: no such candidate" : Sem Value).run P w := by
    intro cand hc
    have hodd' := hodd
    simp only [Instr.next, Sem.run_bind, hg, Result.andThen_ok, hg2, ge_iff_le, hodd', Bool.false_eq_true, if_false]
    have e1 : (Array.filter (fun e => decide (e.born < clock)) (Array.filter (fun e => !seen.contains e.born) (es.map Ent.obj).toArray)) = left.toArray := by
      rw [List.filter_toArray', List.filter_toArray'] <;> first | (rw [hold]) | simp
    have e2 : (Array.filter (fun e => decide (clock ≤ e.born)) (Array.filter (fun e => !seen.contains e.born) (es.map Ent.obj).toArray)) = #[] := by
      rw [List.filter_toArray', List.filter_toArray'] <;> first | (rw [hnew]) | simp
    rw [e1, e2]
    have e3 : ((if left.toArray.isEmpty = true then #[none] else #[]) ++ (left.toArray ++ #[]).map some) = cand := by
      rw [hc]; simp
    simp only [e3]
    rfl
  by_cases hl : left = []
  · -- nothing is left
    have hall : ∀ e ∈ es, e.born ∈ seen.toList := by
      intro e he
      have : e.obj ∉ left := by rw [hl]; simp
      have h2 : ¬ ((!seen.contains e.obj.born) = true) := fun h => this (List.mem_filter.2 ⟨List.mem_map.2 ⟨e, he, rfl⟩, h⟩)
      simpa [Ent.obj] using h2
    refine r_val (v := .tuple #[.bool false]) (w' := w) rfl hok ?_ (hfin hall w hM)
    have := hrun #[none] (by rw [hl]; rfl)
    simp only [execOp, hx, Sem.run_bind, this]
    simp [choose, Sem.run, Question.forced]
  · -- some one of them
    have hcand := hrun (left.map some).toArray (by cases h : left with | nil => exact absurd h hl | cons a r => simp)
    have hpos : 0 < left.length := List.length_pos_iff.2 hl
    have hpick : ∃ idx w', (choose (.mapNext (left.map some).toArray.size)).run P w = .ok idx w' ∧ idx < left.length ∧ Kept w w' No ∧ w'.heap = w.heap := by
      unfold choose
      by_cases hf : (Question.mapNext (left.map some).toArray.size).forced = true
      · exact ⟨0, w, by simp only [Sem.run, hf, if_true], hpos, Kept.refl _ _, rfl⟩
      · refine ⟨_, { w with drawn := w.drawn + 1 }, by simp only [Sem.run, hf]; rfl, ?_, ⟨rfl, rfl, rfl, Nat.le_refl _, fun _ _ _ => rfl⟩, rfl⟩
        simp only [Question.cut]
        have : (left.map some).toArray.size = left.length := by simp
        rw [this]
        exact Nat.mod_lt _ hpos
    obtain ⟨idx, w', hch, hidx, hkept, hheap⟩ := hpick
    have hget : (left.map some).toArray[idx]? = some (some left[idx]) := by simp [hidx]
    have hmem : left[idx] ∈ left := List.getElem_mem hidx
    obtain ⟨hm1, hm2⟩ := List.mem_filter.1 hmem
    obtain ⟨e, he, heq⟩ := List.mem_map.1 hm1
    have hns : e.born ∉ seen.toList := by
      rw [← heq] at hm2
      simpa [Ent.obj] using hm2
    have hbi' : w'.heap[b]? = some (.mapIter (some bm) clock seen clock) := by rw [hheap]; exact hbi
    have hso := run_setObj (P := P) (o := .mapIter (some bm) clock (seen.push e.born) clock) hbi' (by simp)
    refine r_val (v := .tuple #[.bool true, .int .i64 e.key, e.v]) (w' := { w' with heap := w'.heap.setIfInBounds b (.mapIter (some bm) clock (seen.push e.born) clock) }) rfl hok ?_ (hstep e he hns _ ((hM.grow hkept).turn hi kept_setObj (heap_setObj hbi')))
    simp only [execOp, hx, Sem.run_bind, hcand, hch, Result.andThen_ok, hget, ← heq, Ent.obj, hso]
    simp
theorem r_next {x : Operand} {ty : TypeId} (hM : Mem w0 S w L) (i j : Nat) {b bm : Nat} {es : List Ent} {clock : Nat} {seen : Array Nat} (hi : L[i]? = some (b, .mapIter (some bm) clock seen clock)) (hj : L[j]? = some (bm, mapO es clock)) (hb : ∀ e ∈ es, e.born < clock)
    (hok : okOp n K ⟨dst, .next x false, ty, pos, after, none⟩ = true) (hx : K.ev x = .pointer (some ⟨b, 0, none⟩))
    (hfin : (∀ e ∈ es, e.born ∈ seen.toList) → ∀ w', Mem w0 S w' L → wpR P n ops Q rest (K.put dst (.tuple #[.bool false])) w')
    (hstep : ∀ e ∈ es, e.born ∉ seen.toList → ∀ w', Mem w0 S w' (L.set i (b, .mapIter (some bm) clock (seen.push e.born) clock)) → wpR P n ops Q rest (K.put dst (.tuple #[.bool true, .int .i64 e.key, e.v])) w') : wpR P n ops Q (⟨dst, .next x false, ty, pos, after, none⟩ :: rest) K w :=
  r_nextH hM i hi (hM.get j hj) hb hok hx hfin hstep
theorem r_range {x : Operand} {t kt et : TypeId} (hM : Mem w0 S w L) (i : Nat) {bm : Nat} {es : List Ent} {clock : Nat} (hi : L[i]? = some (bm, mapO es clock)) (ht : P.underlying t = some (.map kt et))
    (hok : okOp n K ⟨dst, .range t x, type, pos, after, none⟩ = true) (hx : K.ev x = .map (some bm))
    (h : ∀ b w', Mem w0 S w' ((b, .mapIter (some bm) clock #[] clock) :: L) → w0.heap.size ≤ b → wpR P n ops Q rest (K.put dst (.pointer (some ⟨b, 0, none⟩))) w') : wpR P n ops Q (⟨dst, .range t x, type, pos, after, none⟩ :: rest) K w := by
  have hg := run_getObj (P := P) (hM.get i hi) (by simp [mapO])
  refine r_new (fun b => .pointer (some ⟨b, 0, none⟩)) (.mapIter (some bm) clock #[] clock) hM ?_ rfl hok h
  simp only [execOp, Instr.range, hx, Sem.run_bind, run_underlying ht, Result.andThen_ok, hg, mapO, Sem.run_pure]
  rfl
end
end Go.Kn
end
section
/- Groups: a map from ints to rows of ints of the call's own. -/
set_option linter.unusedVariables false
set_option linter.unusedSimpArgs false
namespace Go.Kn
open Go.RowKit
structure Grp where
  key : Int
  xs : List Int
  v : Value
  born : Nat
  L : Hp
def Grp.ent (g : Grp) : Ent := ⟨g.key, g.v, g.born⟩
structure GMp (e : TypeId) (gs : List Grp) (clock : Nat) : Prop where
  row : ∀ g ∈ gs, OwnR e 1 g.v g.xs.length (g.xs.map (.int .i64)) g.L
  born : ∀ g ∈ gs, g.born < clock
  bnd : (gs.map Grp.born).Nodup
  knd : (gs.map Grp.key).Nodup
abbrev GL (bm : Nat) (gs : List Grp) (clock : Nat) : Hp := (bm, mapO (gs.map Grp.ent) clock) :: gs.flatMap Grp.L
def view (gs : List Grp) : List (Int × List Int) := gs.map fun g => (g.key, g.xs)
theorem Holds.sub {w : World} {L L' : Hp} (h : Holds w L) (hn : (L'.map (·.1)).Nodup) (hs : ∀ p ∈ L', p ∈ L) : Holds w L' := ⟨hn, fun p hp => h.at_ p (hs p hp)⟩
theorem GL_row {w : World} {bm clock : Nat} {gs : List Grp} {g : Grp} (h : Holds w (GL bm gs clock)) (hg : g ∈ gs) : Holds w g.L := by
  refine ⟨?_, fun p hp => h.at_ p (List.mem_cons_of_mem _ (List.mem_flatMap.2 ⟨g, hg, hp⟩))⟩
  have hn := h.nodup
  simp only [GL, List.map_cons, List.nodup_cons] at hn
  have h2 := hn.2
  clear hn h
  induction gs with
  | nil => cases hg
  | cons a r ih =>
    rw [List.flatMap_cons, List.map_append, List.nodup_append] at h2
    rcases List.mem_cons.1 hg with rfl | hg
    · exact h2.1
    · exact ih hg h2.2.1
theorem Mem.ro {w0 w : World} {L L' : Hp} (hL : Holds w0 L) (h : Mem w0 (keys L) w (L' ++ L)) : Mem w0 No w [] := by
  refine ⟨⟨h.kept.os, h.kept.tape, h.kept.output, h.kept.size, fun k hk _ => ?_⟩, Holds.nil _, by simp [keys]⟩
  by_cases hkL : keys L k
  · obtain ⟨p, hp, rfl⟩ := List.mem_map.1 hkL
    rw [h.holds.at_ p (List.mem_append_right _ hp), hL.at_ p hp]
  · exact h.kept.block k hk hkL
theorem Mem.pickT {w0 w : World} {S : Nat → Prop} {L : Hp} (h : Mem w0 S w L) (E T : Hp) (hE : L = E ++ T) (idx : List Nat) (L' : Hp) (hn : idx.Nodup) (hl : L' = idx.filterMap (fun i => E[i]?) ++ T) : Mem w0 S w L' := by
  subst hE
  subst hl
  have h1 := h.left.pick idx _ hn rfl
  have h2 := h.right
  refine ⟨h.kept, ⟨?_, fun p hp => ?_⟩, fun k hk => ?_⟩
  · rw [List.map_append, List.nodup_append]
    refine ⟨h1.holds.nodup, h2.holds.nodup, fun a ha b hb => ?_⟩
    have hnd := h.holds.nodup
    rw [List.map_append, List.nodup_append] at hnd
    obtain ⟨p, hp, rfl⟩ := List.mem_map.1 ha
    obtain ⟨j, _, hq⟩ := List.mem_filterMap.1 hp
    exact hnd.2.2 p.1 (List.mem_map.2 ⟨p, List.mem_of_getElem? hq, rfl⟩) b hb
  · rcases List.mem_append.1 hp with hp | hp
    · exact h1.holds.at_ p hp
    · exact h2.holds.at_ p hp
  · simp only [keys, List.map_append, List.mem_append] at hk
    rcases hk with hk | hk
    · exact h1.own k hk
    · exact h2.own k hk
theorem ent_mem {gs : List Grp} {e : Ent} (h : e ∈ gs.map Grp.ent) : ∃ g ∈ gs, g.ent = e := by
  obtain ⟨g, hg, rfl⟩ := List.mem_map.1 h
  exact ⟨g, hg, rfl⟩
theorem ents_born {e : TypeId} {gs : List Grp} {clock : Nat} (h : GMp e gs clock) : ∀ q ∈ gs.map Grp.ent, q.born < clock := by
  intro q hq
  obtain ⟨g, hg, rfl⟩ := ent_mem hq
  exact h.born g hg
theorem ents_bnd {e : TypeId} {gs : List Grp} {clock : Nat} (h : GMp e gs clock) : ((gs.map Grp.ent).map Ent.born).Nodup := by
  have := h.bnd
  rw [List.map_map]
  exact this
theorem ents_knd {e : TypeId} {gs : List Grp} {clock : Nat} (h : GMp e gs clock) : ((gs.map Grp.ent).map Ent.key).Nodup := by
  have := h.knd
  rw [List.map_map]
  exact this
theorem no_push {gs : List Grp} {seen : Array Nat} {P : Grp → Prop} (inj : ∀ {p q : Grp}, p ∈ gs → q ∈ gs → p.born = q.born → p = q) {g : Grp} (hg : g ∈ gs) (hno : ∀ q ∈ gs, q.born ∈ seen.toList → P q) (h : P g) : ∀ q ∈ gs, q.born ∈ (seen.push g.born).toList → P q := by
  intro q hq hb
  have h2 : q.born ∈ seen.toList ∨ q.born = g.born := by simpa using hb
  rcases h2 with h3 | h3
  · exact hno q hq h3
  · rw [inj hq hg h3]; exact h
/-- how many are still to come -/
def todo (gs : List Grp) (seen : Array Nat) : Nat := (gs.filter fun g => decide (g.born ∉ seen.toList)).length
theorem todo_push {gs : List Grp} {seen : Array Nat} {g : Grp} (hg : g ∈ gs) (hn : g.born ∉ seen.toList) : todo gs (seen.push g.born) < todo gs seen := by
  unfold todo
  have h1 : gs.filter (fun q => decide (q.born ∉ (seen.push g.born).toList)) = (gs.filter fun q => decide (q.born ∉ seen.toList)).filter (fun q => decide (q.born ≠ g.born)) := by
    rw [List.filter_filter]
    congr 1
    funext q
    by_cases h : q.born = g.born <;> simp [h]
  rw [h1]
  exact List.length_filter_lt_length_iff_exists.2 ⟨g, List.mem_filter.2 ⟨hg, by simpa using hn⟩, by simp⟩
/-- what a search among groups gives -/
def ofIs (gs : List (Int × List Int)) (n : Int) (r : Int) : Prop := (∃ p ∈ gs, n ∈ p.2 ∧ r = p.1) ∨ (r = -1 ∧ ∀ p ∈ gs, n ∉ p.2)
theorem GMp.nil (e : TypeId) (c : Nat) : GMp e [] c := ⟨by simp, by simp, by simp, by simp⟩
theorem GMp.snoc {e : TypeId} {gs : List Grp} {clock : Nat} (h : GMp e gs clock) {g : Grp} (hr : OwnR e 1 g.v g.xs.length (g.xs.map (.int .i64)) g.L) (hb : g.born = clock) (hk : ∀ q ∈ gs, q.key ≠ g.key) : GMp e (gs ++ [g]) (clock + 1) :=
  ⟨fun q hq => by rcases List.mem_append.1 hq with hq | hq
                  · exact h.row q hq
                  · simp at hq; subst hq; exact hr,
   fun q hq => by rcases List.mem_append.1 hq with hq | hq
                  · exact Nat.lt_succ_of_lt (h.born q hq)
                  · simp at hq; subst hq; omega,
   by rw [List.map_append, List.nodup_append]
      exact ⟨h.bnd, by simp, fun a ha b hb' => by
        obtain ⟨q, hq, rfl⟩ := List.mem_map.1 ha
        simp at hb'
        have := h.born q hq
        omega⟩,
   by rw [List.map_append, List.nodup_append]
      exact ⟨h.knd, by simp, fun a ha b hb' => by
        obtain ⟨q, hq, rfl⟩ := List.mem_map.1 ha
        simp at hb'
        rw [hb']
        exact hk q hq⟩⟩
theorem mget_none {k : Int} {es : List Ent} (h : ∀ e ∈ es, e.key ≠ k) : mget k es = none := by
  induction es with
  | nil => rfl
  | cons a r ih => unfold mget; rw [if_neg (h a (by simp))]; exact ih (fun e he => h e (by simp [he]))
theorem mget_some {k : Int} {es : List Ent} {e : Ent} (he : e ∈ es) (hk : e.key = k) (hn : (es.map Ent.key).Nodup) : mget k es = some e.v := by
  induction es with
  | nil => cases he
  | cons a r ih =>
    simp only [List.map_cons, List.nodup_cons] at hn
    unfold mget
    rcases List.mem_cons.1 he with h | h
    · subst h; rw [if_pos hk]
    · rw [if_neg (fun h2 => hn.1 (by rw [h2, ← hk]; exact List.mem_map.2 ⟨e, h, rfl⟩))]
      exact ih h hn.2
/-- the groups of n places, one each -/
def eachG (n : Nat) : List (Int × List Int) := (List.range n).map fun (i : Nat) => ((i : Int), [(i : Int)])
theorem eachG_succ (n : Nat) : eachG (n + 1) = eachG n ++ [((n : Int), [(n : Int)])] := by simp [eachG, List.range_succ]
theorem view_snoc (gs : List Grp) (g : Grp) : view (gs ++ [g]) = view gs ++ [(g.key, g.xs)] := by simp [view]
theorem GL_snoc {w0 w : World} {S : Nat → Prop} {bm bs c' : Nat} {gs : List Grp} {g : Grp} {o : Obj} (hL : g.L = [(bs, o)]) (h : Mem w0 S w ((bs, o) :: (bm, mapO (gs.map Grp.ent ++ [g.ent]) c') :: gs.flatMap Grp.L)) : Mem w0 S w (GL bm (gs ++ [g]) c') := by
  refine h.perm ?_
  unfold GL
  rw [List.flatMap_append, List.map_append]
  simp only [List.flatMap_cons, List.flatMap_nil, List.append_nil, hL, List.map_cons, List.map_nil]
  refine (List.Perm.swap _ _ _).trans (List.Perm.cons _ ?_)
  exact List.perm_append_comm (l₁ := [(bs, o)])
theorem take_snoc' {α : Type} {xs : List α} {k : Nat} {y : α} (h : xs[k]? = some y) : xs.take (k + 1) = xs.take k ++ [y] := by
  obtain ⟨hlt, rfl⟩ := List.getElem?_eq_some_iff.1 h
  exact List.take_succ_eq_append_getElem hlt
theorem each_new {gs : List Grp} {k : Nat} (hV : view gs = eachG k) : ∀ q ∈ gs, q.key ≠ (k : Int) := by
  intro q hq h
  have : (q.key, q.xs) ∈ eachG k := by rw [← hV]; exact List.mem_map.2 ⟨q, hq, rfl⟩
  obtain ⟨i, hi, he⟩ := List.mem_map.1 this
  have h1 : (i : Int) = q.key := congrArg Prod.fst he
  have := List.mem_range.1 hi
  omega
theorem Holds.up0 {w0 w : World} {bm : Nat} {gs : List Grp} {E : Hp} {g : Grp} (_h : Holds w0 g.L) {S : Nat → Prop} {o : Obj} (hM : Mem w0 S w (E ++ [(bm, o)] ++ gs.flatMap Grp.L)) (hg : g ∈ gs) : Holds w g.L :=
  ⟨_h.nodup, fun p hp => hM.holds.at_ p (List.mem_append_right _ (List.mem_flatMap.2 ⟨g, hg, hp⟩))⟩
theorem grp_inj {e : TypeId} {gs : List Grp} {clock : Nat} (h : GMp e gs clock) {p q : Grp} (hp : p ∈ gs) (hq : q ∈ gs) (he : p.born = q.born) : p = q := by
  have hb := h.bnd
  clear h
  induction gs with
  | nil => cases hp
  | cons a r ih =>
    simp only [List.map_cons, List.nodup_cons] at hb
    rcases List.mem_cons.1 hp with h1 | h1
    · rcases List.mem_cons.1 hq with h2 | h2
      · rw [h1, h2]
      · exact absurd (List.mem_map.2 ⟨q, h2, by rw [← he, h1]⟩) hb.1
    · rcases List.mem_cons.1 hq with h2 | h2
      · exact absurd (List.mem_map.2 ⟨p, h1, by rw [he, h2]⟩) hb.1
      · exact ih h1 h2 hb.2
end Go.Kn
end
section
/- Fd: what Go functions of this seat come to, printed by walk.py over the engine. -/
set_option linter.unusedVariables false
set_option linter.unusedSimpArgs false
set_option maxRecDepth 100000
namespace Go.Proofs.Ytddacakmafdgdaa
open Go.RowKit Go.Kn

theorem index_s (A : Option Addr) (n c : Nat) (xs : List Int) (x : Int) (w : World) (hl : RdE intE 1 w A n xs) (hn : n ≤ 9223372036854775806) :
  Calls Try.prog 90 #[Value.slice A n c, Value.int .i64 x] w fun e w' => ∃ r, e = .returned r ∧ (∃ i : Int, r = .int .i64 i ∧ (0 ≤ i ↔ x ∈ xs)) ∧ Mem w No w' [] := by
 refine calls_k (args := [Value.slice A n c, Value.int .i64 x]) 19 [(0, Value.slice A n c), (1, Value.int .i64 x)] Try.func90 rfl rfl ⟨rfl, rfl, trivial⟩ ?_
 have hM := Mem.nil w No
 have hln := hl.len
 refine k_seq (k_region (sqV (.int .i64 0) rfl rfl rfl ?_))
 refine r_nil (e_then (k_seq (k_seq (k_region (sqV (.slice A n c) rfl rfl rfl ?_)))))
 refine sqV (.int .i64 (n : Int)) rfl rfl (x_len rfl rfl) ?_
 refine sqV (.int .i64 0) rfl rfl rfl ?_
 refine r_nil (e_then (k_block (k_loop (σ := Nat) (fun k => [(0, .slice A n c), (1, .int .i64 x), (7, .int .i64 (n : Int)), (8, .int .i64 (k : Int))]) (fun k w_ => Mem w No w_ [] ∧ k ≤ n ∧ x ∉ xs.take k) (fun k => n - k) 0 (sqS rfl) ⟨hM, by omega, by simp⟩ ?_)))
 rintro k w1 ⟨hM2, hk, hno⟩
 refine sqK [(0, .slice A n c), (1, .int .i64 x), (7, .int .i64 (n : Int)), (8, .int .i64 (k : Int))] rfl (k_seq (k_region (sqV (.bool (decide ((k : Int) < (n : Int)))) rfl rfl rfl ?_)))
 refine r_nil (e_then (k_seq ?_))
 refine k_cond rfl rfl (fun h => ?_) (fun h => ?_)
 ·try simp only [sqC] at h
  refine k_skip (e_then (k_seq (k_block (k_seq (k_region ?_)))))
  obtain ⟨y, hy⟩ : ∃ y, xs[k]? = some y := ⟨xs[k]'(by rw [hl.len]; omega), by simp⟩
  refine sqV (.int .i64 (k : Int)) rfl rfl rfl ?_
  refine sqV (.int .i64 (k : Int)) rfl rfl rfl ?_
  refine r_nil (sqE [(0, .slice A n c), (1, .int .i64 x), (5, .int .i64 (k : Int)), (7, .int .i64 (n : Int)), (8, .int .i64 (k : Int))] rfl (e_then (k_seq (k_region (sqV (.int .i64 x) rfl rfl rfl ?_)))))
  refine sqV (.slice A n c) rfl rfl rfl ?_
  refine sqV (.int .i64 (k : Int)) rfl rfl rfl ?_
  refine sqV (.pointer (some ((adr A).add (k * 1)))) rfl rfl (x_indexAddrN (i := k) (sz := 1) hl.here (by omega) rfl rfl rfl rfl) ?_
  refine sqV (.int .i64 y) rfl rfl (x_loadEInt (hl.up hM2) hy rfl rfl) ?_
  refine sqV (.bool (x == y)) rfl rfl rfl ?_
  refine r_nil (e_then ?_)
  refine k_cond rfl rfl (fun h2 => ?_) (fun h2 => ?_)
  ·try simp only [sqC] at h2
   refine k_seq (k_region (sqV (.int .i64 (k : Int)) rfl rfl rfl ?_))
   refine sqV (.int .i64 (k : Int)) rfl rfl rfl ?_
   refine r_nil (e_then (k_ret (e_blk_ret (e_then_ret (e_loop_ret (e_blk_ret (e_then_ret (e_ret1 rfl rfl ?_))))))))
   exact ⟨_, rfl, ⟨_, rfl, ⟨fun _ => by rw [h2]; exact List.mem_of_getElem? hy, fun _ => by omega⟩⟩, hM2.drop⟩
  ·try simp only [sqC] at h2
   refine k_skip (e_blk (e_then (k_region (sqV (.int .i64 ((k : Int) + 1)) rfl rfl (x_addE rfl (by omega) (by omega) rfl rfl) ?_))))
   refine sqV (.int .i64 ((k : Int) + 1)) rfl rfl rfl ?_
   refine r_nil ?_
   refine e_loop (k + 1) (sqS rfl) ?_ ?_
   ·exact ⟨hM2.drop, by omega, by rw [take_snoc' hy]; simp [hno, h2]⟩
   ·(try dsimp only); omega
 ·try simp only [sqC] at h
  refine k_exit (e_then_exit (e_loop_exit (e_blk_exit (e_then (k_seq (k_region (sqV (.int .i64 (-1)) rfl rfl rfl ?_)))))))
  refine r_nil (sqE [(4, .int .i64 (-1))] rfl (e_then (k_ret (e_ret1 rfl rfl ?_))))
  exact ⟨_, rfl, ⟨-1, rfl, ⟨fun h => absurd h (by omega), fun h => absurd h (by rwa [List.take_of_length_le (by omega)] at hno)⟩⟩, hM2.drop⟩

theorem contains_s (A : Option Addr) (n c : Nat) (xs : List Int) (x : Int) (w : World) (hl : RdE intE 1 w A n xs) (hn : n ≤ 9223372036854775806) :
  Calls Try.prog 69 #[Value.slice A n c, Value.int .i64 x] w fun e w' => ∃ r, e = .returned r ∧ r = .bool (decide (x ∈ xs)) ∧ Mem w No w' [] := by
 refine calls_k (args := [Value.slice A n c, Value.int .i64 x]) 9 [(0, Value.slice A n c), (1, Value.int .i64 x)] Try.func69 rfl rfl ⟨rfl, rfl, trivial⟩ ?_
 have hM := Mem.nil w No
 refine k_seq (k_region (sqV (.bool false) rfl rfl rfl ?_))
 refine r_nil (e_then (k_seq (k_region (sqV (.slice A n c) rfl rfl rfl ?_))))
 refine sqV (.int .i64 x) rfl rfl rfl ?_
 refine r_call (f := 90) (args := #[Value.slice A n c, Value.int .i64 x]) (w' := w) rfl rfl (x_call (vs := [Value.slice A n c, Value.int .i64 x]) (enter90 _ _) rfl rfl) (index_s A n c xs x w (hl.up hM) hn) ?_
 rintro v_ w1 ⟨⟨i1, rfl, hi1⟩, hM2⟩
 replace hM2 := hM.grow hM2.kept
 refine sqV (.bool (decide (i1 ≥ 0))) rfl rfl rfl ?_
 refine sqV (.bool (decide (i1 ≥ 0))) rfl rfl rfl ?_
 refine r_nil (e_then (k_ret (e_ret1 rfl rfl ?_)))
 exact ⟨_, rfl, by congr 1; simp [hi1], hM2.drop⟩

theorem each_s (n : Nat) (w : World) (hn : n ≤ 300) :
  Calls Try.prog 68 #[Value.int .i64 (n : Int)] w fun e w' => ∃ r, e = .returned r ∧ ∃ bm gs, r = .map (some bm) ∧ GMp tInt gs n ∧ view gs = eachG n ∧ Mem w No w' (GL bm gs n) := by
 refine calls_k (args := [Value.int .i64 (n : Int)]) 16 [(0, Value.int .i64 (n : Int))] Try.func68 rfl rfl ⟨rfl, trivial⟩ ?_
 have hM := Mem.nil w No
 refine k_seq (k_region (sqV (.map none) rfl rfl rfl ?_))
 refine r_nil (e_then (k_seq (k_region (r_new (fun b => .map (some b)) (mapO [] 0) hM (by kernel_rfl) rfl rfl ?_))))
 intro bm w1 hM2 hbm
 replace hM2 : Mem w No w1 [(bm, mapO [] 0)] := hM2
 refine sqV (.map (some bm)) rfl rfl rfl ?_
 refine r_nil (sqE [(0, .int .i64 (n : Int)), (3, .map (some bm))] rfl (e_then (k_seq (k_seq (k_region (sqV (.int .i64 (n : Int)) rfl rfl rfl ?_))))))
 refine sqV (.int .i64 0) rfl rfl rfl ?_
 refine r_nil (e_then (k_block (k_loop (σ := Nat × List Grp) (fun ⟨k, gs⟩ => [(3, .map (some bm)), (6, .int .i64 (n : Int)), (7, .int .i64 (k : Int))]) (fun ⟨k, gs⟩ w_ => Mem w No w_ ((bm, mapO (gs.map Grp.ent) k) :: gs.flatMap Grp.L) ∧ k ≤ n ∧ GMp tInt gs k ∧ view gs = eachG k) (fun ⟨k, gs⟩ => n - k) (0, []) (sqS rfl) ⟨hM2, Nat.zero_le _, GMp.nil _ _, rfl⟩ ?_)))
 rintro ⟨k, gs⟩ w3 ⟨hM4, hk, hG, hV⟩
 refine sqK [(3, .map (some bm)), (6, .int .i64 (n : Int)), (7, .int .i64 (k : Int))] rfl (k_seq (k_region (sqV (.bool (decide ((k : Int) < (n : Int)))) rfl rfl rfl ?_)))
 refine r_nil (e_then (k_seq ?_))
 refine k_cond rfl rfl (fun h => ?_) (fun h => ?_)
 ·try simp only [sqC] at h
  refine k_skip (e_then (k_seq (k_block (k_seq (k_region ?_)))))
  have hnew : ∀ q ∈ gs, q.key ≠ (k : Int) := each_new hV
  refine sqV (.int .i64 (k : Int)) rfl rfl rfl ?_
  refine sqV (.int .i64 (k : Int)) rfl rfl rfl ?_
  refine r_nil (e_then (k_region (sqV (.map (some bm)) rfl rfl rfl ?_)))
  refine sqV (.int .i64 (k : Int)) rfl rfl rfl ?_
  refine sqV (.int .i64 (k : Int)) rfl rfl rfl ?_
  refine r_new (fun b => .slice (some ⟨b, 0, none⟩) 1 1) (.cells #[Value.int .i64 (k : Int)] 3 (0, 0)) hM4 (by kernel_rfl) rfl rfl ?_
  intro b7 w5 hM6 hb7
  replace hM6 : Mem w No w5 ((b7, .cells #[Value.int .i64 (k : Int)] 3 (0, 0)) :: (bm, mapO (gs.map Grp.ent) k) :: gs.flatMap Grp.L) := hM6
  refine r_mapNew hM6 1 rfl (mget_none (k := (k : Int)) (fun e he => by obtain ⟨g, hg, rfl⟩ := ent_mem he; exact hnew g hg)) rfl rfl rfl rfl rfl rfl ?_
  intro w8 hM9
  replace hM9 : Mem w No w8 ((b7, .cells #[Value.int .i64 (k : Int)] 3 (0, 0)) :: (bm, mapO (gs.map Grp.ent ++ [(⟨(k : Int), Value.slice (some ⟨b7, 0, none⟩) 1 1, k⟩ : Ent)]) (k + 1)) :: gs.flatMap Grp.L) := hM9
  refine r_nil (sqE [(3, .map (some bm)), (6, .int .i64 (n : Int)), (7, .int .i64 (k : Int))] rfl (e_blk (e_then (k_region ?_))))
  obtain ⟨g, hg⟩ : ∃ g : Grp, g = ⟨(k : Int), [(k : Int)], Value.slice (some ⟨b7, 0, none⟩) 1 1, k, [(b7, .cells #[Value.int .i64 (k : Int)] 3 (0, 0))]⟩ := ⟨_, rfl⟩
  have hrow : OwnR tInt 1 g.v g.xs.length (g.xs.map (.int .i64)) g.L := by subst hg; exact OwnR.lit tInt 1 b7 1 #[Value.int .i64 (k : Int)] (by decide) rfl
  refine sqV (.int .i64 ((k : Int) + 1)) rfl rfl (x_addE rfl (by omega) (by omega) rfl rfl) ?_
  refine sqV (.int .i64 ((k : Int) + 1)) rfl rfl rfl ?_
  refine r_nil ?_
  refine e_loop (k + 1, gs ++ [g]) (sqS rfl) ?_ ?_
  ·exact ⟨GL_snoc (by rw [hg]) (by rw [hg]; exact hM9), by omega, hG.snoc hrow (by rw [hg]) (fun q hq => by rw [hg]; exact hnew q hq), by rw [view_snoc, hV, hg, eachG_succ]⟩
  ·(try dsimp only); omega
 ·try simp only [sqC] at h
  refine k_exit (e_then_exit (e_loop_exit (e_blk_exit (e_then (k_seq (k_region ?_))))))
  have hkn : k = n := by omega
  refine sqV (.map (some bm)) rfl rfl rfl ?_
  refine sqV (.map (some bm)) rfl rfl rfl ?_
  refine r_nil (e_then (k_ret (e_ret1 rfl rfl ?_)))
  exact ⟨_, rfl, bm, gs, rfl, hkn ▸ hG, hkn ▸ hV, hkn ▸ hM4⟩

theorem of_s (bm : Nat) (gs : List Grp) (ck : Nat) (hG : GMp tInt gs ck) (n : Int) (w : World) (hL : Holds w (GL bm gs ck)) (hlen : ∀ g ∈ gs, g.xs.length ≤ 300) :
  Calls Try.prog 45 #[Value.map (some bm), Value.int .i64 n] w fun e w' => ∃ r, e = .returned r ∧ (∃ i : Int, r = .int .i64 i ∧ ofIs (view gs) n i) ∧ Mem w No w' [] := by
 refine calls_k (args := [Value.map (some bm), Value.int .i64 n]) 18 [(0, Value.map (some bm)), (1, Value.int .i64 n)] Try.func45 rfl rfl ⟨rfl, rfl, trivial⟩ ?_
 have hM := hL.mem
 refine k_seq (k_region (sqV (.int .i64 0) rfl rfl rfl ?_))
 refine r_nil (e_then (k_seq (k_seq (k_region (sqV (.map (some bm)) rfl rfl rfl ?_)))))
 refine r_range hM 0 rfl rfl rfl rfl ?_
 intro bi w1 hM2 hbi
 replace hM2 : Mem w (keys (GL bm gs ck)) w1 ((bi, .mapIter (some bm) ck #[] ck) :: (bm, mapO (gs.map Grp.ent) ck) :: gs.flatMap Grp.L) := hM2
 refine r_nil (sqE [(1, .int .i64 n), (8, .pointer (some ⟨bi, 0, none⟩))] rfl (e_then (k_block (k_loop (σ := Array Nat) (fun seen => [(1, .int .i64 n), (8, .pointer (some ⟨bi, 0, none⟩))]) (fun seen w_ => Mem w (keys (GL bm gs ck)) w_ ((bi, .mapIter (some bm) ck seen ck) :: (bm, mapO (gs.map Grp.ent) ck) :: gs.flatMap Grp.L) ∧ ∀ g ∈ gs, g.born ∈ seen.toList → n ∉ g.xs) (fun seen => todo gs seen) #[] ⟨rfl, rfl, trivial⟩ ⟨hM2, by simp⟩ ?_))))
 rintro seen w3 ⟨hM4, hno⟩
 refine sqK [(1, .int .i64 n), (8, .pointer (some ⟨bi, 0, none⟩))] rfl (k_seq (k_region ?_))
 refine r_next hM4 0 1 rfl rfl (ents_born hG) rfl rfl (fun hall w5 hM6 => ?_) (fun e_ he_ hns w5 hM6 => ?_)
 ·skip
  refine sqV (.bool false) rfl rfl rfl ?_
  refine r_nil (e_then (k_seq (k_cond_false rfl rfl ?_)))
  refine k_exit (e_then_exit (e_loop_exit (e_blk_exit (e_then (k_seq (k_region (sqV (.int .i64 (-1)) rfl rfl rfl ?_)))))))
  refine r_nil (e_then (k_ret (e_ret1 rfl rfl ?_)))
  exact ⟨_, rfl, ⟨-1, rfl, .inr ⟨rfl, fun p hp => by obtain ⟨g, hg, rfl⟩ := List.mem_map.1 hp; exact hno g hg (hall g.ent (List.mem_map.2 ⟨g, hg, rfl⟩))⟩⟩, Mem.ro hL (L' := [(bi, .mapIter (some bm) ck seen ck)]) hM6⟩
 ·obtain ⟨g, hg, rfl⟩ := ent_mem he_
  replace hM6 : Mem w (keys (GL bm gs ck)) w5 ((bi, .mapIter (some bm) ck (seen.push g.born) ck) :: (bm, mapO (gs.map Grp.ent) ck) :: gs.flatMap Grp.L) := hM6
  obtain ⟨A, c, hv, hnc, _, _⟩ := (hG.row g hg).slice
  have hrd : RdE intE 1 w5 A g.xs.length g.xs := (hv ▸ hG.row g hg).rdI ((GL_row hL hg).up0 (E := [(bi, _)]) hM6 hg)
  refine sqV (.bool true) rfl rfl rfl ?_
  refine r_nil (e_then (k_seq (k_cond_true rfl rfl ?_)))
  refine k_skip (e_then (k_block (k_seq (k_region (sqV (.tuple #[.int .i64 g.key, .slice A g.xs.length c]) rfl rfl (by rw [← hv]; exact x_entry (hM6.get 0 rfl) (hM6.get 1 rfl) he_ (ents_bnd hG) rfl) ?_)))))
  refine sqV (.int .i64 g.key) rfl rfl rfl ?_
  refine sqV (.slice A g.xs.length c) rfl rfl rfl ?_
  refine sqV (.int .i64 g.key) rfl rfl rfl ?_
  refine sqV (.slice A g.xs.length c) rfl rfl rfl ?_
  refine r_nil (sqE [(1, .int .i64 n), (5, .int .i64 g.key), (6, .slice A g.xs.length c), (8, .pointer (some ⟨bi, 0, none⟩))] rfl (e_then (k_seq (k_region (sqV (.slice A g.xs.length c) rfl rfl rfl ?_)))))
  refine sqV (.int .i64 n) rfl rfl rfl ?_
  refine r_call (f := 69) (args := #[Value.slice A g.xs.length c, Value.int .i64 n]) (w' := w5) rfl rfl (x_call (vs := [Value.slice A g.xs.length c, Value.int .i64 n]) (enter69 _ _) rfl rfl) (contains_s A g.xs.length c g.xs n w5 hrd (by have := hlen g hg; omega)) ?_
  rintro v_ w7 ⟨rfl, hM8⟩
  replace hM8 := hM6.grow hM8.kept
  refine r_nil (e_then ?_)
  refine k_cond rfl rfl (fun h => ?_) (fun h => ?_)
  ·try simp only [sqC] at h
   refine k_seq (k_region (sqV (.int .i64 g.key) rfl rfl rfl ?_))
   refine sqV (.int .i64 g.key) rfl rfl rfl ?_
   refine r_nil (e_then (k_ret (e_blk_ret (e_loop_ret (e_blk_ret (e_then_ret (e_ret1 rfl rfl ?_)))))))
   exact ⟨_, rfl, ⟨_, rfl, .inl ⟨(g.key, g.xs), List.mem_map.2 ⟨g, hg, rfl⟩, h, rfl⟩⟩, Mem.ro hL (L' := [(bi, .mapIter (some bm) ck (seen.push g.born) ck)]) hM8⟩
  ·try simp only [sqC] at h
   refine k_skip (e_blk ?_)
   refine e_loop (seen.push g.born) ⟨rfl, rfl, trivial⟩ ?_ ?_
   ·exact ⟨hM8, no_push (grp_inj hG) hg hno h⟩
   ·exact todo_push hg hns


end Go.Proofs.Ytddacakmafdgdaa
end
section
/-
  DERIVED: THE SHELF's CONTRACTS AT THIS DUMP, IN PLAIN WORDS (tools/lay-plain.mjs out of 'TryShelf.lean', which tools/lay-shelf.mjs wrote): THE SAME DECLARATIONS UNDER THE SAME NAMES: 'import', 'namespace', 'open', 'def', 'theorem' AND NOTHING ELSE: no command of the shelf's: FOR A HAND-IN. Each laying: the table of numbers ('.._ren') and one theorem, a field a fact of the dump's own or the kernel's comparison; each contract: ONE APPLICATION.
-/
namespace Go.Proofs
open Go.Shelf
def Try.lays128_ren : Go.Shelf.Ren := ⟨fun | 128 => 80 | n => n, fun | 51 => 124 | 3 => 3 | 4 => 4 | 46 => 112 | 5 => 5 | 9 => 9 | n => n, fun | n => n⟩
theorem Try.lays128 : Go.Proofs.Lays.n128 Try.prog Try.lays128_ren := {
  mixed := by kernel_rfl
  f128 := Try.func80.trans (congrArg some (by kernel_rfl))
  t3 := Try.underlying3
  a3 := Try.isAgg3
  z3 := Try.sizeOf3
  v3 := Try.zeroValue3
  t4 := Try.underlying4
  a4 := Try.isAgg4
  z4 := Try.sizeOf4
  v4 := Try.zeroValue4
  t5 := Try.underlying5
  a5 := Try.isAgg5
  z5 := Try.sizeOf5
  v5 := Try.zeroValue5
  t9 := Try.underlying9
  a9 := Try.isAgg9
  z9 := Try.sizeOf9
  v9 := Try.zeroValue9
  t46 := Try.underlying112
  a46 := Try.isAgg112
  z46 := Try.sizeOf112
  v46 := Try.zeroValue112
  t51 := Try.underlying124
  a51 := Try.isAgg124
  z51 := Try.sizeOf124
  v51 := Try.zeroValue124 }
/-- bits.Len32: "Len32 returns the minimum number of bits required to represent x; the result is 0 for x == 0.": IT RETURNS 'Lib.bitLen x'; the world is as it was. ('h0', 'h1': x is a uint32.) (LAID: no walk: one application.) -/
theorem Try.bits_Len32 (x : Int) (w : World) (h0 : 0 ≤ x) (h1 : x ≤ 4294967295) :
    Calls Try.prog 80 #[.int .u32 x] w fun e w' => e = .returned (.int .i64 (Lib.bitLen x.toNat)) ∧ w' = w := Any.bits_Len32 Try.lays128 x w h0 h1
def Try.lays125_ren : Go.Shelf.Ren := ⟨fun | 125 => 66 | 128 => 80 | 129 => 81 | n => n, fun | 46 => 112 | 3 => 3 | 51 => 124 | 53 => 126 | 4 => 4 | 5 => 5 | 9 => 9 | n => n, fun | n => n⟩
theorem Try.lays125 : Go.Proofs.Lays.n125 Try.prog Try.lays125_ren := {
  mixed := by kernel_rfl
  f125 := Try.func66.trans (congrArg some (by kernel_rfl))
  f128 := Try.func80.trans (congrArg some (by kernel_rfl))
  f129 := Try.func81.trans (congrArg some (by kernel_rfl))
  t3 := Try.underlying3
  a3 := Try.isAgg3
  z3 := Try.sizeOf3
  v3 := Try.zeroValue3
  t4 := Try.underlying4
  a4 := Try.isAgg4
  z4 := Try.sizeOf4
  v4 := Try.zeroValue4
  t5 := Try.underlying5
  a5 := Try.isAgg5
  z5 := Try.sizeOf5
  v5 := Try.zeroValue5
  t9 := Try.underlying9
  a9 := Try.isAgg9
  z9 := Try.sizeOf9
  v9 := Try.zeroValue9
  t46 := Try.underlying112
  a46 := Try.isAgg112
  z46 := Try.sizeOf112
  v46 := Try.zeroValue112
  t51 := Try.underlying124
  a51 := Try.isAgg124
  z51 := Try.sizeOf124
  v51 := Try.zeroValue124
  t53 := Try.underlying126
  a53 := Try.isAgg126
  z53 := Try.sizeOf126
  v53 := Try.zeroValue126 }
/-- bits.Len: "Len returns the minimum number of bits required to represent x; the result is 0 for x == 0.": IT RETURNS 'Lib.bitLen x'; the world is as it was. (A uint has 64 bits in the model.) ITS CALLEE bits.Len64 IS MET BY ITS OWN CONTRACT OFF THE SHELF (lay that first). (LAID: no walk: one application.) -/
theorem Try.bits_Len (x : Int) (w : World) (h0 : 0 ≤ x) (h1 : x ≤ 18446744073709551615) :
    Calls Try.prog 66 #[.int .u64 x] w fun e w' => e = .returned (.int .i64 (Lib.bitLen x.toNat)) ∧ w' = w := Any.bits_Len Try.lays125 x w h0 h1
def Try.lays129_ren : Go.Shelf.Ren := ⟨fun | 129 => 81 | n => n, fun | 53 => 126 | 3 => 3 | 4 => 4 | 46 => 112 | 5 => 5 | 9 => 9 | n => n, fun | n => n⟩
theorem Try.lays129 : Go.Proofs.Lays.n129 Try.prog Try.lays129_ren := {
  mixed := by kernel_rfl
  f129 := Try.func81.trans (congrArg some (by kernel_rfl))
  t3 := Try.underlying3
  a3 := Try.isAgg3
  z3 := Try.sizeOf3
  v3 := Try.zeroValue3
  t4 := Try.underlying4
  a4 := Try.isAgg4
  z4 := Try.sizeOf4
  v4 := Try.zeroValue4
  t5 := Try.underlying5
  a5 := Try.isAgg5
  z5 := Try.sizeOf5
  v5 := Try.zeroValue5
  t9 := Try.underlying9
  a9 := Try.isAgg9
  z9 := Try.sizeOf9
  v9 := Try.zeroValue9
  t46 := Try.underlying112
  a46 := Try.isAgg112
  z46 := Try.sizeOf112
  v46 := Try.zeroValue112
  t53 := Try.underlying126
  a53 := Try.isAgg126
  z53 := Try.sizeOf126
  v53 := Try.zeroValue126 }
/-- bits.Len64: "Len64 returns the minimum number of bits required to represent x; the result is 0 for x == 0.": IT RETURNS 'Lib.bitLen x'; the world is as it was. ('h0', 'h1': x is a uint64.) (LAID: no walk: one application.) -/
theorem Try.bits_Len64 (x : Int) (w : World) (h0 : 0 ≤ x) (h1 : x ≤ 18446744073709551615) :
    Calls Try.prog 81 #[.int .u64 x] w fun e w' => e = .returned (.int .i64 (Lib.bitLen x.toNat)) ∧ w' = w := Any.bits_Len64 Try.lays129 x w h0 h1
def Try.lays189_ren : Go.Shelf.Ren := ⟨fun | 189 => 40 | 125 => 66 | 257 => 67 | 128 => 80 | 129 => 81 | 294 => 82 | 295 => 83 | 296 => 84 | 297 => 85 | 298 => 86 | 299 => 87 | 216 => 24 | 300 => 88 | 301 => 89 | 328 => 97 | 329 => 93 | 330 => 94 | 331 => 98 | 332 => 99 | 215 => 57 | 343 => 101 | n => n, fun | 28 => 30 | 3 => 3 | 46 => 112 | 0 => 0 | 51 => 124 | 53 => 126 | 4 => 4 | 183 => 118 | 182 => 117 | 131 => 32 | 5 => 5 | 9 => 9 | 218 => 134 | 222 => 138 | 228 => 142 | 229 => 143 | n => n, fun | n => n⟩
theorem Try.lays189 : Go.Proofs.Lays.n189 Try.prog Try.lays189_ren := {
  mixed := by kernel_rfl
  f125 := Try.func66.trans (congrArg some (by kernel_rfl))
  f128 := Try.func80.trans (congrArg some (by kernel_rfl))
  f129 := Try.func81.trans (congrArg some (by kernel_rfl))
  f189 := Try.func40.trans (congrArg some (by kernel_rfl))
  f215 := Try.func57.trans (congrArg some (by kernel_rfl))
  f216 := Try.func24.trans (congrArg some (by kernel_rfl))
  f257 := Try.func67.trans (congrArg some (by kernel_rfl))
  f294 := Try.func82.trans (congrArg some (by kernel_rfl))
  f295 := Try.func83.trans (congrArg some (by kernel_rfl))
  f296 := Try.func84.trans (congrArg some (by kernel_rfl))
  f297 := Try.func85.trans (congrArg some (by kernel_rfl))
  f298 := Try.func86.trans (congrArg some (by kernel_rfl))
  f299 := Try.func87.trans (congrArg some (by kernel_rfl))
  f300 := Try.func88.trans (congrArg some (by kernel_rfl))
  f301 := Try.func89.trans (congrArg some (by kernel_rfl))
  f328 := Try.func97.trans (congrArg some (by kernel_rfl))
  f329 := Try.func93.trans (congrArg some (by kernel_rfl))
  f330 := Try.func94.trans (congrArg some (by kernel_rfl))
  f331 := Try.func98.trans (congrArg some (by kernel_rfl))
  f332 := Try.func99.trans (congrArg some (by kernel_rfl))
  f343 := Try.func101.trans (congrArg some (by kernel_rfl))
  t0 := Try.underlying0
  a0 := Try.isAgg0
  z0 := Try.sizeOf0
  v0 := Try.zeroValue0
  t3 := Try.underlying3
  a3 := Try.isAgg3
  z3 := Try.sizeOf3
  v3 := Try.zeroValue3
  t4 := Try.underlying4
  a4 := Try.isAgg4
  z4 := Try.sizeOf4
  v4 := Try.zeroValue4
  t5 := Try.underlying5
  a5 := Try.isAgg5
  z5 := Try.sizeOf5
  v5 := Try.zeroValue5
  t9 := Try.underlying9
  a9 := Try.isAgg9
  z9 := Try.sizeOf9
  v9 := Try.zeroValue9
  t28 := Try.underlying30
  a28 := Try.isAgg30
  z28 := Try.sizeOf30
  v28 := Try.zeroValue30
  t46 := Try.underlying112
  a46 := Try.isAgg112
  z46 := Try.sizeOf112
  v46 := Try.zeroValue112
  t51 := Try.underlying124
  a51 := Try.isAgg124
  z51 := Try.sizeOf124
  v51 := Try.zeroValue124
  t53 := Try.underlying126
  a53 := Try.isAgg126
  z53 := Try.sizeOf126
  v53 := Try.zeroValue126
  t131 := Try.underlying32
  a131 := Try.isAgg32
  z131 := Try.sizeOf32
  v131 := Try.zeroValue32
  t182 := Try.underlying117
  a182 := Try.isAgg117
  z182 := Try.sizeOf117
  v182 := Try.zeroValue117
  t183 := Try.underlying118
  a183 := Try.isAgg118
  z183 := Try.sizeOf118
  v183 := Try.zeroValue118
  t218 := Try.underlying134
  a218 := Try.isAgg134
  z218 := Try.sizeOf134
  v218 := Try.zeroValue134
  t222 := Try.underlying138
  a222 := Try.isAgg138
  z222 := Try.sizeOf138
  v222 := Try.zeroValue138
  t228 := Try.underlying142
  a228 := Try.isAgg142
  z228 := Try.sizeOf142
  v228 := Try.zeroValue142
  t229 := Try.underlying143
  a229 := Try.isAgg143
  z229 := Try.sizeOf143
  v229 := Try.zeroValue143 }
open Go.Sort Go.RowKit in
theorem Try.slices_Sort_int (blk off cap : Nat) (zs : List Int) (w : World) (hH : Holds (Value.int .i64) w blk off zs.toArray) (hblk : blk < w.heap.size) (hsz : zs.length < 4611686018427387904) :
    Calls Try.prog 40 #[.slice (some ⟨blk, off, none⟩) zs.length cap] w fun e w' =>
      e = .returned (.tuple #[]) ∧ ∃ n os, w' = grow (putRow (Value.int .i64) (Sort.ahead w n) blk off (zs.mergeSort fun x y => decide (x ≤ y)).toArray) os := Any.slices_Sort_int Try.lays189 blk off cap zs w hH hblk hsz
def Try.laysNm237_ren : Go.Shelf.Ren := ⟨fun | 37 => 57 | n => n, fun | 3 => 3 | 4 => 4 | n => n, fun | n => n⟩
theorem Try.laysNm237 : Go.Proofs.Lays2.n37 Try.prog Try.laysNm237_ren := {
  mixed := by kernel_rfl
  f37 := Try.func57.trans (congrArg some (by kernel_rfl))
  t3 := Try.underlying3
  a3 := Try.isAgg3
  z3 := Try.sizeOf3
  v3 := Try.zeroValue3
  t4 := Try.underlying4
  a4 := Try.isAgg4
  z4 := Try.sizeOf4
  v4 := Try.zeroValue4 }
open Go.RowKit Go.Lib in
/-- cmp.isNaN[int]: 'x != x': false. (LAID: no walk: one application.) -/
theorem Try.cmp_isNaN_int2 (x : Int) (w : World) :
    Calls Try.prog 57 #[.int .i64 x] w fun e w' => e = .returned (.bool false) ∧ w' = w := Any.cmp_isNaN_int2 Try.laysNm237 x w
def Try.laysNm231_ren : Go.Shelf.Ren := ⟨fun | 31 => 24 | 37 => 57 | n => n, fun | 3 => 3 | 4 => 4 | n => n, fun | n => n⟩
theorem Try.laysNm231 : Go.Proofs.Lays2.n31 Try.prog Try.laysNm231_ren := {
  mixed := by kernel_rfl
  f31 := Try.func24.trans (congrArg some (by kernel_rfl))
  f37 := Try.func57.trans (congrArg some (by kernel_rfl))
  t3 := Try.underlying3
  a3 := Try.isAgg3
  z3 := Try.sizeOf3
  v3 := Try.zeroValue3
  t4 := Try.underlying4
  a4 := Try.isAgg4
  z4 := Try.sizeOf4
  v4 := Try.zeroValue4 }
open Go.RowKit Go.Lib in
/-- cmp.Less[int]: "Less reports whether x is less than y.": 'x < y'; the world is as it was. (LAID: no walk: one application.) -/
theorem Try.cmp_Less_int2 (x y : Int) (w : World) :
    Calls Try.prog 24 #[.int .i64 x, .int .i64 y] w fun e w' => e = .returned (.bool (decide (x < y))) ∧ w' = w := Any.cmp_Less_int2 Try.laysNm231 x y w
open Go.RowKit Go.Sort in
/-- .. and plain. (LAID: no walk: one application.) -/
theorem Try.slices_Sort_int_none (p : Option Addr) (cap : Nat) (w : World) :
    Calls Try.prog 40 #[.slice p 0 cap] w fun e w' => e = .returned (.tuple #[]) ∧ w' = w := Any.slices_Sort_int_none Try.lays189 p cap w
def Try.laysSlF20_f72_ren : Go.Shelf.Ren := ⟨fun | 20 => 72 | n => n, fun | 24 => 30 | 22 => 25 | 3 => 3 | 25 => 76 | 4 => 4 | 0 => 0 | n => n, fun | n => n⟩
theorem Try.laysSlF20_f72 : Go.Proofs.SlLaysF.n20 Try.prog Try.laysSlF20_f72_ren := {
  mixed := by kernel_rfl
  f20 := ⟨Try.f72.name, by decide, Try.func72.trans (congrArg some (by kernel_rfl))⟩
  t0 := Try.underlying0
  a0 := Try.isAgg0
  z0 := Try.sizeOf0
  v0 := Try.zeroValue0
  t3 := Try.underlying3
  a3 := Try.isAgg3
  z3 := Try.sizeOf3
  v3 := Try.zeroValue3
  t4 := Try.underlying4
  a4 := Try.isAgg4
  z4 := Try.sizeOf4
  v4 := Try.zeroValue4
  t22 := Try.underlying25
  a22 := Try.isAgg25
  z22 := Try.sizeOf25
  v22 := Try.zeroValue25
  a24 := Try.isAgg30
  z24 := Try.sizeOf30
  t25 := Try.underlying76
  a25 := Try.isAgg76
  z25 := Try.sizeOf76
  v25 := Try.zeroValue76 }
open Go.RowKit Go.Lib Go.Sort in
theorem Try.insertionSortCmpFunc_one {α : Type} [Inhabited α] (enc : α → Value) (hO : OneCell enc) (cf : α → α → Int) (g : Nat) (cb : Array Value) (blk off cap a b : Nat) (d : Array α) (w : World) (eg : ∀ args w, (callFunc g args).run Try.prog w = .ok (.enter g args) w) (hcmp : CmpReads Try.prog g cb enc cf blk off d.size w) (hH : Holds enc w blk off d) (hab : a ≤ b) (hb : b ≤ d.size) (hsz : d.size < 4611686018427387904) :
    Calls Try.prog 72 #[.slice (some ⟨blk, off, none⟩) d.size cap, .int .i64 a, .int .i64 b, .func (.func g) #[] cb] w fun e w' =>
      e = .returned (.tuple #[]) ∧ ∃ n, w' = (putRow enc w blk off (Sort.insertionSort (ltOf cf) d a b)).drewN n := Any.insertionSortCmpFunc_one Try.laysSlF20_f72 enc hO cf g cb blk off cap a b d w eg hcmp hH hab hb hsz
def Try.laysSlF46_f92_ren : Go.Shelf.Ren := ⟨fun | 46 => 92 | n => n, fun | 24 => 30 | 22 => 25 | 3 => 3 | 25 => 76 | 4 => 4 | 0 => 0 | n => n, fun | n => n⟩
theorem Try.laysSlF46_f92 : Go.Proofs.SlLaysF.n46 Try.prog Try.laysSlF46_f92_ren := {
  mixed := by kernel_rfl
  f46 := ⟨Try.f92.name, by decide, Try.func92.trans (congrArg some (by kernel_rfl))⟩
  t0 := Try.underlying0
  a0 := Try.isAgg0
  z0 := Try.sizeOf0
  v0 := Try.zeroValue0
  t3 := Try.underlying3
  a3 := Try.isAgg3
  z3 := Try.sizeOf3
  v3 := Try.zeroValue3
  t4 := Try.underlying4
  a4 := Try.isAgg4
  z4 := Try.sizeOf4
  v4 := Try.zeroValue4
  t22 := Try.underlying25
  a22 := Try.isAgg25
  z22 := Try.sizeOf25
  v22 := Try.zeroValue25
  a24 := Try.isAgg30
  z24 := Try.sizeOf30
  t25 := Try.underlying76
  a25 := Try.isAgg76
  z25 := Try.sizeOf76
  v25 := Try.zeroValue76 }
open Go.RowKit Go.Lib Go.Sort in
/-- slices.siftDownCmpFunc at elements of one cell: from a world of the sort's to a world of the sort's. (LAID AT THE INSTANCE 'slices.siftDownCmpFunc[[]int]': no walk: one application.) -/
theorem Try.siftDownCmpFunc {α : Type} [Inhabited α] (enc : α → Value) (cf : α → α → Int) (g : Nat) (cb : Array Value) (blk off cap lo hi first : Nat) (d0 d : Array α) (w0 w : World) (eg : ∀ args w, (callFunc g args).run Try.prog w = .ok (.enter g args) w) (hcmp : CmpLays1 Try.prog g cb enc cf blk off d0.size w0) (R : Row1 enc w0 blk off d0) (hs : d0.size = d.size) (S : SW enc w0 blk off d w) (hlo : lo ≤ hi) (hb : first + hi ≤ d.size) (hsz : d.size < 4611686018427387904) :
    Calls Try.prog 92 #[.slice (some ⟨blk, off, none⟩) d.size cap, .int .i64 lo, .int .i64 hi, .int .i64 first, .func (.func g) #[] cb] w fun e w' =>
      e = .returned (.tuple #[]) ∧ SW enc w0 blk off (siftDown (ltOf cf) hi first lo d) w' := Any.siftDownCmpFunc Try.laysSlF46_f92 enc cf g cb blk off cap lo hi first d0 d w0 w eg hcmp R hs S hlo hb hsz
def Try.laysSlF21_f73_ren : Go.Shelf.Ren := ⟨fun | 21 => 73 | 46 => 92 | n => n, fun | 24 => 30 | 22 => 25 | 3 => 3 | 25 => 76 | 4 => 4 | 0 => 0 | n => n, fun | n => n⟩
theorem Try.laysSlF21_f73 : Go.Proofs.SlLaysF.n21 Try.prog Try.laysSlF21_f73_ren := {
  mixed := by kernel_rfl
  f21 := ⟨Try.f73.name, by decide, Try.func73.trans (congrArg some (by kernel_rfl))⟩
  f46 := ⟨Try.f92.name, by decide, Try.func92.trans (congrArg some (by kernel_rfl))⟩
  t0 := Try.underlying0
  a0 := Try.isAgg0
  z0 := Try.sizeOf0
  v0 := Try.zeroValue0
  t3 := Try.underlying3
  a3 := Try.isAgg3
  z3 := Try.sizeOf3
  v3 := Try.zeroValue3
  t4 := Try.underlying4
  a4 := Try.isAgg4
  z4 := Try.sizeOf4
  v4 := Try.zeroValue4
  t22 := Try.underlying25
  a22 := Try.isAgg25
  z22 := Try.sizeOf25
  v22 := Try.zeroValue25
  a24 := Try.isAgg30
  z24 := Try.sizeOf30
  t25 := Try.underlying76
  a25 := Try.isAgg76
  z25 := Try.sizeOf76
  v25 := Try.zeroValue76 }
open Go.RowKit Go.Lib Go.Sort in
/-- slices.heapSortCmpFunc at elements of one cell. (LAID AT THE INSTANCE 'slices.heapSortCmpFunc[[]int]': no walk: one application.) -/
theorem Try.heapSortCmpFunc {α : Type} [Inhabited α] (enc : α → Value) (cf : α → α → Int) (g : Nat) (cb : Array Value) (blk off cap a b : Nat) (d0 d : Array α) (w0 w : World) (eg : ∀ args w, (callFunc g args).run Try.prog w = .ok (.enter g args) w) (hcmp : CmpLays1 Try.prog g cb enc cf blk off d0.size w0) (R : Row1 enc w0 blk off d0) (hs : d0.size = d.size) (S : SW enc w0 blk off d w) (hab : a ≤ b) (hb : b ≤ d.size) (hsz : d.size < 4611686018427387904) :
    Calls Try.prog 73 #[.slice (some ⟨blk, off, none⟩) d.size cap, .int .i64 a, .int .i64 b, .func (.func g) #[] cb] w fun e w' =>
      e = .returned (.tuple #[]) ∧ SW enc w0 blk off (heapSort (ltOf cf) d a b) w' := Any.heapSortCmpFunc Try.laysSlF21_f73 enc cf g cb blk off cap a b d0 d w0 w eg hcmp R hs S hab hb hsz
open Go.RowKit Go.Lib Go.Sort in
/-- slices.insertionSortCmpFunc at elements of one cell: from a world of the sort's to a world of the sort's. (LAID AT THE INSTANCE 'slices.insertionSortCmpFunc[[]int]': no walk: one application.) -/
theorem Try.insertionSortCmpFunc_s {α : Type} [Inhabited α] (enc : α → Value) (cf : α → α → Int) (g : Nat) (cb : Array Value) (blk off cap a b : Nat) (d0 d : Array α) (w0 w : World) (eg : ∀ args w, (callFunc g args).run Try.prog w = .ok (.enter g args) w) (hcmp : CmpLays1 Try.prog g cb enc cf blk off d0.size w0) (R : Row1 enc w0 blk off d0) (hs : d0.size = d.size) (S : SW enc w0 blk off d w) (hab : a ≤ b) (hb : b ≤ d.size) (hsz : d.size < 4611686018427387904) :
    Calls Try.prog 72 #[.slice (some ⟨blk, off, none⟩) d.size cap, .int .i64 a, .int .i64 b, .func (.func g) #[] cb] w fun e w' => e = .returned (.tuple #[]) ∧ SW enc w0 blk off (Sort.insertionSort (ltOf cf) d a b) w' := Any.insertionSortCmpFunc_s Try.laysSlF20_f72 enc cf g cb blk off cap a b d0 d w0 w eg hcmp R hs S hab hb hsz
def Try.laysSlF57_f100_ren : Go.Shelf.Ren := ⟨fun | 57 => 100 | n => n, fun | 24 => 30 | 22 => 25 | 3 => 3 | 70 => 138 | 25 => 76 | 0 => 0 | 4 => 4 | n => n, fun | n => n⟩
theorem Try.laysSlF57_f100 : Go.Proofs.SlLaysF.n57 Try.prog Try.laysSlF57_f100_ren := {
  mixed := by kernel_rfl
  f57 := ⟨Try.f100.name, by decide, Try.func100.trans (congrArg some (by kernel_rfl))⟩
  t0 := Try.underlying0
  a0 := Try.isAgg0
  z0 := Try.sizeOf0
  v0 := Try.zeroValue0
  t3 := Try.underlying3
  a3 := Try.isAgg3
  z3 := Try.sizeOf3
  v3 := Try.zeroValue3
  t4 := Try.underlying4
  a4 := Try.isAgg4
  z4 := Try.sizeOf4
  v4 := Try.zeroValue4
  t22 := Try.underlying25
  a22 := Try.isAgg25
  z22 := Try.sizeOf25
  v22 := Try.zeroValue25
  a24 := Try.isAgg30
  z24 := Try.sizeOf30
  t25 := Try.underlying76
  a25 := Try.isAgg76
  z25 := Try.sizeOf76
  v25 := Try.zeroValue76
  t70 := Try.underlying138
  a70 := Try.isAgg138
  z70 := Try.sizeOf138
  v70 := Try.zeroValue138 }
open Go.RowKit Go.Lib Go.Sort in
/-- slices.order2CmpFunc at elements of one cell. (LAID AT THE INSTANCE 'slices.order2CmpFunc[[]int]': no walk: one application.) -/
theorem Try.order2CmpFunc {α : Type} [Inhabited α] (enc : α → Value) (cf : α → α → Int) (g : Nat) (cb : Array Value) (blk off cap a b c s : Nat) (d0 d : Array α) (w0 W : World) (eg : ∀ args w, (callFunc g args).run Try.prog w = .ok (.enter g args) w) (hcmp : CmpLays1 Try.prog g cb enc cf blk off d0.size w0) (R : Row1 enc w0 blk off d0) (hs : d0.size = d.size) (C : Cnt1 enc w0 blk off d c s W) (ha : a < d.size) (hb : b < d.size) (hsz : d.size < 4611686018427387904) (hss : s < 4611686018427387904) :
    Calls Try.prog 100 #[.slice (some ⟨blk, off, none⟩) d.size cap, .int .i64 a, .int .i64 b, .pointer (some ⟨c, 0, none⟩), .func (.func g) #[] cb] W fun e w' =>
      e = .returned (.tuple #[.int .i64 (order2 (ltOf cf) d a b s).1, .int .i64 (order2 (ltOf cf) d a b s).2.1]) ∧ Cnt1 enc w0 blk off d c (order2 (ltOf cf) d a b s).2.2 w' := Any.order2CmpFunc Try.laysSlF57_f100 enc cf g cb blk off cap a b c s d0 d w0 W eg hcmp R hs C ha hb hsz hss
def Try.laysSlF50_f96_ren : Go.Shelf.Ren := ⟨fun | 50 => 96 | 57 => 100 | n => n, fun | 24 => 30 | 22 => 25 | 3 => 3 | 70 => 138 | 25 => 76 | 77 => 143 | 0 => 0 | 4 => 4 | n => n, fun | n => n⟩
theorem Try.laysSlF50_f96 : Go.Proofs.SlLaysF.n50 Try.prog Try.laysSlF50_f96_ren := {
  mixed := by kernel_rfl
  f50 := ⟨Try.f96.name, by decide, Try.func96.trans (congrArg some (by kernel_rfl))⟩
  f57 := ⟨Try.f100.name, by decide, Try.func100.trans (congrArg some (by kernel_rfl))⟩
  t0 := Try.underlying0
  a0 := Try.isAgg0
  z0 := Try.sizeOf0
  v0 := Try.zeroValue0
  t3 := Try.underlying3
  a3 := Try.isAgg3
  z3 := Try.sizeOf3
  v3 := Try.zeroValue3
  t4 := Try.underlying4
  a4 := Try.isAgg4
  z4 := Try.sizeOf4
  v4 := Try.zeroValue4
  t22 := Try.underlying25
  a22 := Try.isAgg25
  z22 := Try.sizeOf25
  v22 := Try.zeroValue25
  a24 := Try.isAgg30
  z24 := Try.sizeOf30
  t25 := Try.underlying76
  a25 := Try.isAgg76
  z25 := Try.sizeOf76
  v25 := Try.zeroValue76
  t70 := Try.underlying138
  a70 := Try.isAgg138
  z70 := Try.sizeOf138
  v70 := Try.zeroValue138
  t77 := Try.underlying143
  a77 := Try.isAgg143
  z77 := Try.sizeOf143
  v77 := Try.zeroValue143 }
open Go.RowKit Go.Lib Go.Sort in
/-- slices.medianCmpFunc at elements of one cell. (LAID AT THE INSTANCE 'slices.medianCmpFunc[[]int]': no walk: one application.) -/
theorem Try.medianCmpFunc {α : Type} [Inhabited α] (enc : α → Value) (cf : α → α → Int) (g : Nat) (cb : Array Value) (blk off cap a b c' c s : Nat) (d0 d : Array α) (w0 W : World) (eg : ∀ args w, (callFunc g args).run Try.prog w = .ok (.enter g args) w) (hcmp : CmpLays1 Try.prog g cb enc cf blk off d0.size w0) (R : Row1 enc w0 blk off d0) (hs : d0.size = d.size) (C : Cnt1 enc w0 blk off d c s W) (ha : a < d.size) (hb : b < d.size) (hc : c' < d.size) (hsz : d.size < 4611686018427387904) (hss : s + 3 < 4611686018427387904) :
    Calls Try.prog 96 #[.slice (some ⟨blk, off, none⟩) d.size cap, .int .i64 a, .int .i64 b, .int .i64 c', .pointer (some ⟨c, 0, none⟩), .func (.func g) #[] cb] W fun e w' =>
      e = .returned (.int .i64 (median (ltOf cf) d a b c' s).1) ∧ Cnt1 enc w0 blk off d c (median (ltOf cf) d a b c' s).2 w' := Any.medianCmpFunc Try.laysSlF50_f96 enc cf g cb blk off cap a b c' c s d0 d w0 W eg hcmp R hs C ha hb hc hsz hss
def Try.laysSlF49_f95_ren : Go.Shelf.Ren := ⟨fun | 49 => 95 | 50 => 96 | 57 => 100 | n => n, fun | 24 => 30 | 22 => 25 | 3 => 3 | 70 => 138 | 25 => 76 | 77 => 143 | 0 => 0 | 4 => 4 | n => n, fun | n => n⟩
theorem Try.laysSlF49_f95 : Go.Proofs.SlLaysF.n49 Try.prog Try.laysSlF49_f95_ren := {
  mixed := by kernel_rfl
  f49 := ⟨Try.f95.name, by decide, Try.func95.trans (congrArg some (by kernel_rfl))⟩
  f50 := ⟨Try.f96.name, by decide, Try.func96.trans (congrArg some (by kernel_rfl))⟩
  f57 := ⟨Try.f100.name, by decide, Try.func100.trans (congrArg some (by kernel_rfl))⟩
  t0 := Try.underlying0
  a0 := Try.isAgg0
  z0 := Try.sizeOf0
  v0 := Try.zeroValue0
  t3 := Try.underlying3
  a3 := Try.isAgg3
  z3 := Try.sizeOf3
  v3 := Try.zeroValue3
  t4 := Try.underlying4
  a4 := Try.isAgg4
  z4 := Try.sizeOf4
  v4 := Try.zeroValue4
  t22 := Try.underlying25
  a22 := Try.isAgg25
  z22 := Try.sizeOf25
  v22 := Try.zeroValue25
  a24 := Try.isAgg30
  z24 := Try.sizeOf30
  t25 := Try.underlying76
  a25 := Try.isAgg76
  z25 := Try.sizeOf76
  v25 := Try.zeroValue76
  t70 := Try.underlying138
  a70 := Try.isAgg138
  z70 := Try.sizeOf138
  v70 := Try.zeroValue138
  t77 := Try.underlying143
  a77 := Try.isAgg143
  z77 := Try.sizeOf143
  v77 := Try.zeroValue143 }
open Go.RowKit Go.Lib Go.Sort in
/-- slices.medianAdjacentCmpFunc at elements of one cell. (LAID AT THE INSTANCE 'slices.medianAdjacentCmpFunc[[]int]': no walk: one application.) -/
theorem Try.medianAdjacentCmpFunc {α : Type} [Inhabited α] (enc : α → Value) (cf : α → α → Int) (g : Nat) (cb : Array Value) (blk off cap a c s : Nat) (d0 d : Array α) (w0 W : World) (eg : ∀ args w, (callFunc g args).run Try.prog w = .ok (.enter g args) w) (hcmp : CmpLays1 Try.prog g cb enc cf blk off d0.size w0) (R : Row1 enc w0 blk off d0) (hs : d0.size = d.size) (C : Cnt1 enc w0 blk off d c s W) (ha1 : 1 ≤ a) (ha2 : a + 1 < d.size) (hsz : d.size < 4611686018427387904) (hss : s + 3 < 4611686018427387904) :
    Calls Try.prog 95 #[.slice (some ⟨blk, off, none⟩) d.size cap, .int .i64 a, .pointer (some ⟨c, 0, none⟩), .func (.func g) #[] cb] W fun e w' =>
      e = .returned (.int .i64 (medianAdjacent (ltOf cf) d a s).1) ∧ Cnt1 enc w0 blk off d c (medianAdjacent (ltOf cf) d a s).2 w' := Any.medianAdjacentCmpFunc Try.laysSlF49_f95 enc cf g cb blk off cap a c s d0 d w0 W eg hcmp R hs C ha1 ha2 hsz hss
def Try.laysSlF23_f75_ren : Go.Shelf.Ren := ⟨fun | 23 => 75 | 49 => 95 | 50 => 96 | 57 => 100 | n => n, fun | 24 => 30 | 22 => 25 | 3 => 3 | 25 => 76 | 45 => 117 | 0 => 0 | 4 => 4 | 70 => 138 | 77 => 143 | n => n, fun | n => n⟩
theorem Try.laysSlF23_f75 : Go.Proofs.SlLaysF.n23 Try.prog Try.laysSlF23_f75_ren := {
  mixed := by kernel_rfl
  f23 := ⟨Try.f75.name, by decide, Try.func75.trans (congrArg some (by kernel_rfl))⟩
  f49 := ⟨Try.f95.name, by decide, Try.func95.trans (congrArg some (by kernel_rfl))⟩
  f50 := ⟨Try.f96.name, by decide, Try.func96.trans (congrArg some (by kernel_rfl))⟩
  f57 := ⟨Try.f100.name, by decide, Try.func100.trans (congrArg some (by kernel_rfl))⟩
  t0 := Try.underlying0
  a0 := Try.isAgg0
  z0 := Try.sizeOf0
  v0 := Try.zeroValue0
  t3 := Try.underlying3
  a3 := Try.isAgg3
  z3 := Try.sizeOf3
  v3 := Try.zeroValue3
  t4 := Try.underlying4
  a4 := Try.isAgg4
  z4 := Try.sizeOf4
  v4 := Try.zeroValue4
  t22 := Try.underlying25
  a22 := Try.isAgg25
  z22 := Try.sizeOf25
  v22 := Try.zeroValue25
  a24 := Try.isAgg30
  z24 := Try.sizeOf30
  t25 := Try.underlying76
  a25 := Try.isAgg76
  z25 := Try.sizeOf76
  v25 := Try.zeroValue76
  t45 := Try.underlying117
  a45 := Try.isAgg117
  z45 := Try.sizeOf117
  v45 := Try.zeroValue117
  t70 := Try.underlying138
  a70 := Try.isAgg138
  z70 := Try.sizeOf138
  v70 := Try.zeroValue138
  t77 := Try.underlying143
  a77 := Try.isAgg143
  z77 := Try.sizeOf143
  v77 := Try.zeroValue143 }
open Go.RowKit Go.Lib Go.Sort in
/-- slices.choosePivotCmpFunc at elements of one cell: THE LIBRARY's OWN TEXT COMPUTES 'Sort.choosePivot (ltOf cf) d a b'; the row is not turned. (After Derived/Shelf/SlSortFuncK/PivotK.lean, row for row; the counter's world by 'CntK'.) (LAID AT THE INSTANCE 'slices.choosePivotCmpFunc[[]int]': no walk: one application.) -/
theorem Try.choosePivotCmpFunc {α : Type} [Inhabited α] (enc : α → Value) (cf : α → α → Int) (g : Nat) (cb : Array Value) (blk off cap a b : Nat) (d0 d : Array α) (w0 W : World) (eg : ∀ args w, (callFunc g args).run Try.prog w = .ok (.enter g args) w) (hcmp : CmpLays1 Try.prog g cb enc cf blk off d0.size w0) (R : Row1 enc w0 blk off d0) (hs : d0.size = d.size) (S : SW enc w0 blk off d W) (hab : a < b) (hb : b ≤ d.size) (hsz : d.size < 4611686018427387904) :
    Calls Try.prog 75 #[.slice (some ⟨blk, off, none⟩) d.size cap, .int .i64 a, .int .i64 b, .func (.func g) #[] cb] W fun e w' =>
      e = .returned (.tuple #[.int .i64 (choosePivot (ltOf cf) d a b).1, .int .i64 (hintCode (choosePivot (ltOf cf) d a b).2)]) ∧ SW enc w0 blk off d w' := Any.choosePivotCmpFunc Try.laysSlF23_f75 enc cf g cb blk off cap a b d0 d w0 W eg hcmp R hs S hab hb hsz
def Try.laysSlF24_f76_ren : Go.Shelf.Ren := ⟨fun | 24 => 76 | n => n, fun | 24 => 30 | 22 => 25 | 3 => 3 | 25 => 76 | 4 => 4 | 0 => 0 | n => n, fun | n => n⟩
theorem Try.laysSlF24_f76 : Go.Proofs.SlLaysF.n24 Try.prog Try.laysSlF24_f76_ren := {
  mixed := by kernel_rfl
  f24 := ⟨Try.f76.name, by decide, Try.func76.trans (congrArg some (by kernel_rfl))⟩
  t0 := Try.underlying0
  a0 := Try.isAgg0
  z0 := Try.sizeOf0
  v0 := Try.zeroValue0
  t3 := Try.underlying3
  a3 := Try.isAgg3
  z3 := Try.sizeOf3
  v3 := Try.zeroValue3
  t4 := Try.underlying4
  a4 := Try.isAgg4
  z4 := Try.sizeOf4
  v4 := Try.zeroValue4
  t22 := Try.underlying25
  a22 := Try.isAgg25
  z22 := Try.sizeOf25
  v22 := Try.zeroValue25
  a24 := Try.isAgg30
  z24 := Try.sizeOf30
  t25 := Try.underlying76
  a25 := Try.isAgg76
  z25 := Try.sizeOf76
  v25 := Try.zeroValue76 }
open Go.RowKit Go.Lib Go.Sort in
/-- slices.reverseRangeCmpFunc at elements of one cell: it exchanges and does not compare. (LAID AT THE INSTANCE 'slices.reverseRangeCmpFunc[[]int]': no walk: one application.) -/
theorem Try.reverseRangeCmpFunc {α : Type} [Inhabited α] (enc : α → Value) (g : Nat) (cb : Array Value) (blk off cap a b : Nat) (d0 d : Array α) (w0 w : World) (R : Row1 enc w0 blk off d0) (hs : d0.size = d.size) (S : SW enc w0 blk off d w) (hab : a ≤ b) (hb : b ≤ d.size) (hsz : d.size < 4611686018427387904) :
    Calls Try.prog 76 #[.slice (some ⟨blk, off, none⟩) d.size cap, .int .i64 a, .int .i64 b, .func (.func g) #[] cb] w fun e w' => e = .returned (.tuple #[]) ∧ SW enc w0 blk off (reverseRange d a b) w' := Any.reverseRangeCmpFunc Try.laysSlF24_f76 enc g cb blk off cap a b d0 d w0 w R hs S hab hb hsz
def Try.laysSlF26_f78_ren : Go.Shelf.Ren := ⟨fun | 26 => 78 | n => n, fun | 24 => 30 | 22 => 25 | 3 => 3 | 25 => 76 | 0 => 0 | 4 => 4 | n => n, fun | n => n⟩
theorem Try.laysSlF26_f78 : Go.Proofs.SlLaysF.n26 Try.prog Try.laysSlF26_f78_ren := {
  mixed := by kernel_rfl
  f26 := ⟨Try.f78.name, by decide, Try.func78.trans (congrArg some (by kernel_rfl))⟩
  t0 := Try.underlying0
  a0 := Try.isAgg0
  z0 := Try.sizeOf0
  v0 := Try.zeroValue0
  t3 := Try.underlying3
  a3 := Try.isAgg3
  z3 := Try.sizeOf3
  v3 := Try.zeroValue3
  t4 := Try.underlying4
  a4 := Try.isAgg4
  z4 := Try.sizeOf4
  v4 := Try.zeroValue4
  t22 := Try.underlying25
  a22 := Try.isAgg25
  z22 := Try.sizeOf25
  v22 := Try.zeroValue25
  a24 := Try.isAgg30
  z24 := Try.sizeOf30
  t25 := Try.underlying76
  a25 := Try.isAgg76
  z25 := Try.sizeOf76
  v25 := Try.zeroValue76 }
open Go.RowKit Go.Lib Go.Sort in
/-- slices.partitionEqualCmpFunc at elements of one cell. (After Derived/Shelf/SlSortFuncK/PartitionK.lean, row for row.) (LAID AT THE INSTANCE 'slices.partitionEqualCmpFunc[[]int]': no walk: one application.) -/
theorem Try.partitionEqualCmpFunc {α : Type} [Inhabited α] (enc : α → Value) (cf : α → α → Int) (g : Nat) (cb : Array Value) (blk off cap a b pivot : Nat) (d0 d : Array α) (w0 w : World) (eg : ∀ args w, (callFunc g args).run Try.prog w = .ok (.enter g args) w) (hcmp : CmpLays1 Try.prog g cb enc cf blk off d0.size w0) (R : Row1 enc w0 blk off d0) (hs : d0.size = d.size) (S : SW enc w0 blk off d w) (hap : a ≤ pivot) (hpb : pivot < b) (hb : b ≤ d.size) (hsz : d.size < 4611686018427387904) :
    Calls Try.prog 78 #[.slice (some ⟨blk, off, none⟩) d.size cap, .int .i64 a, .int .i64 b, .int .i64 pivot, .func (.func g) #[] cb] w fun e w' =>
      e = .returned (.int .i64 (Sort.partitionEqual (ltOf cf) d a b pivot).1) ∧ SW enc w0 blk off (Sort.partitionEqual (ltOf cf) d a b pivot).2 w' := Any.partitionEqualCmpFunc Try.laysSlF26_f78 enc cf g cb blk off cap a b pivot d0 d w0 w eg hcmp R hs S hap hpb hb hsz
def Try.laysSlF27_f79_ren : Go.Shelf.Ren := ⟨fun | 27 => 79 | n => n, fun | 24 => 30 | 22 => 25 | 3 => 3 | 25 => 76 | 4 => 4 | 0 => 0 | n => n, fun | n => n⟩
theorem Try.laysSlF27_f79 : Go.Proofs.SlLaysF.n27 Try.prog Try.laysSlF27_f79_ren := {
  mixed := by kernel_rfl
  f27 := ⟨Try.f79.name, by decide, Try.func79.trans (congrArg some (by kernel_rfl))⟩
  t0 := Try.underlying0
  a0 := Try.isAgg0
  z0 := Try.sizeOf0
  v0 := Try.zeroValue0
  t3 := Try.underlying3
  a3 := Try.isAgg3
  z3 := Try.sizeOf3
  v3 := Try.zeroValue3
  t4 := Try.underlying4
  a4 := Try.isAgg4
  z4 := Try.sizeOf4
  v4 := Try.zeroValue4
  t22 := Try.underlying25
  a22 := Try.isAgg25
  z22 := Try.sizeOf25
  v22 := Try.zeroValue25
  a24 := Try.isAgg30
  z24 := Try.sizeOf30
  t25 := Try.underlying76
  a25 := Try.isAgg76
  z25 := Try.sizeOf76
  v25 := Try.zeroValue76 }
open Go.RowKit Go.Lib Go.Sort in
/-- slices.partitionCmpFunc at elements of one cell. (After Derived/Shelf/SlSortFuncK/PartitionK.lean, row for row.) (LAID AT THE INSTANCE 'slices.partitionCmpFunc[[]int]': no walk: one application.) -/
theorem Try.partitionCmpFunc {α : Type} [Inhabited α] (enc : α → Value) (cf : α → α → Int) (g : Nat) (cb : Array Value) (blk off cap a b pivot : Nat) (d0 d : Array α) (w0 w : World) (eg : ∀ args w, (callFunc g args).run Try.prog w = .ok (.enter g args) w) (hcmp : CmpLays1 Try.prog g cb enc cf blk off d0.size w0) (R : Row1 enc w0 blk off d0) (hs : d0.size = d.size) (S : SW enc w0 blk off d w) (hap : a ≤ pivot) (hpb : pivot < b) (hb : b ≤ d.size) (hsz : d.size < 4611686018427387904) :
    Calls Try.prog 79 #[.slice (some ⟨blk, off, none⟩) d.size cap, .int .i64 a, .int .i64 b, .int .i64 pivot, .func (.func g) #[] cb] w fun e w' =>
      e = .returned (.tuple #[.int .i64 (Sort.partition (ltOf cf) d a b pivot).1, .bool (Sort.partition (ltOf cf) d a b pivot).2.1]) ∧ SW enc w0 blk off (Sort.partition (ltOf cf) d a b pivot).2.2 w' := Any.partitionCmpFunc Try.laysSlF27_f79 enc cf g cb blk off cap a b pivot d0 d w0 w eg hcmp R hs S hap hpb hb hsz
end Go.Proofs
end
section
/- Rows that the library's sort has put in order. -/
set_option linter.unusedVariables false
set_option linter.unusedSimpArgs false
namespace Go.Kn
open Go.RowKit
theorem sorted_world {α : Type} [Inhabited α] {enc : α → Value} {w : World} {b m : Nat} {cur : Array Value} {e : TypeId} {os : Array Obj} {d : Array α} (h : w.heap[b]? = some (.cells cur e (0, 0))) :
    (Sort.grow (Sort.putRow enc (Sort.ahead w m) b 0 d) os).heap[b]? = some (.cells (Sort.putCells enc 0 d cur) e (0, 0)) ∧ Kept w (Sort.grow (Sort.putRow enc (Sort.ahead w m) b 0 d) os) (fun k => k = b) := by
  have hlt := lt_of_block h
  constructor
  · simp only [Sort.grow, Sort.putRow, Sort.mapBlock, Sort.ahead]
    rw [Array.getElem?_append_left (by simpa using hlt), Array.getElem?_modify, if_pos rfl, h]
    rfl
  · refine ⟨rfl, rfl, rfl, by simp [Sort.grow, Sort.putRow, Sort.mapBlock, Sort.ahead], fun k hk hne => ?_⟩
    simp only [Sort.grow, Sort.putRow, Sort.mapBlock, Sort.ahead]
    rw [Array.getElem?_append_left (by simpa using hk), Array.getElem?_modify, if_neg (fun e => hne e.symm)]
theorem putCells_take {α : Type} [Inhabited α] {enc : α → Value} {d : Array α} {cur : Array Value} (h : d.size ≤ cur.size) : (Sort.putCells enc 0 d cur).toList.take d.size = d.toList.map enc := by
  apply List.ext_getElem?
  intro j
  rw [List.getElem?_take, List.getElem?_map]
  by_cases hj : j < d.size
  · rw [if_pos hj]
    have hc : j < cur.size := by omega
    simp [Sort.putCells, hj, hc]
  · rw [if_neg hj]
    simp [Nat.not_lt.1 hj]
theorem putCells_size {α : Type} [Inhabited α] {enc : α → Value} {d : Array α} {cur : Array Value} : (Sort.putCells enc 0 d cur).size = cur.size := by simp [Sort.putCells]
theorem OwnR.holds {α : Type} [Inhabited α] {enc : α → Value} {e : TypeId} {b n cap : Nat} {l : List α} {L : Hp} {w : World} (h : OwnR e 1 (.slice (some ⟨b, 0, none⟩) n cap) n (l.map enc) L) (hL : Holds w L) : Sort.Holds enc w b 0 l.toArray := by
  rcases h.2 with ⟨h1, _, _⟩ | ⟨b', cap', cur, h1, h3, h4, h5, h6, rfl⟩
  · cases h1
  · injection h1 with h1 _ _
    injection h1 with h1
    injection h1 with h1
    subst h1
    have hb : w.heap[b]? = some (.cells cur e (0, 0)) := hL.at_ (b, .cells cur e (0, 0)) (by simp)
    intro j hj
    have hj' : j < l.length := by simpa using hj
    refine ⟨?_, by simp [World.frozen?, hb]⟩
    rw [cell_of_row w b (0 + j) cur e (0, 0) hb, Nat.zero_add]
    have h7 : (cur.toList.take (n * 1))[j]? = some (enc l[j]) := by rw [h6]; simp [hj']
    rw [List.getElem?_take] at h7
    split at h7
    · have h8 : cur[j]? = some (enc l[j]) := by simpa using h7
      rw [h8]
      simp [hj']
    · cases h7
/-- the row behind the sort -/
theorem OwnR.sorted {α : Type} [Inhabited α] {enc : α → Value} {e : TypeId} {b n cap m : Nat} {l l' : List α} {L : Hp} {w : World} {os : Array Obj} (h : OwnR e 1 (.slice (some ⟨b, 0, none⟩) n cap) n (l.map enc) L) (hL : Holds w L) (hl : l'.length = l.length) :
    ∃ L', OwnR e 1 (.slice (some ⟨b, 0, none⟩) n cap) n (l'.map enc) L' ∧ Mem w (keys L) (Sort.grow (Sort.putRow enc (Sort.ahead w m) b 0 l'.toArray) os) L' := by
  have hlen : l.length = n := by have := h.1; simpa using this
  rcases h.2 with ⟨h1, _, _⟩ | ⟨b', cap', cur, h1, h3, h4, h5, h6, rfl⟩
  · cases h1
  · injection h1 with h1 h1n h1c
    injection h1 with h1
    injection h1 with h1
    subst h1
    subst h1c
    have hb : w.heap[b]? = some (.cells cur e (0, 0)) := hL.at_ (b, .cells cur e (0, 0)) (by simp)
    obtain ⟨h7, h8⟩ := sorted_world (enc := enc) (m := m) (os := os) (d := l'.toArray) hb
    refine ⟨[(b, .cells (Sort.putCells enc 0 l'.toArray cur) e (0, 0))], ⟨by simp [hl, hlen], .inr ⟨b, cap, _, rfl, h3, h4, by rw [putCells_size]; exact h5, ?_, rfl⟩⟩, h8.mono (fun k hk => by simp [keys, hk]), ⟨by simp, by simpa using h7⟩, fun k hk => .inl (by simpa [keys] using hk)⟩
    have := putCells_take (enc := enc) (d := l'.toArray) (cur := cur) (by rw [h5]; simp [hl, hlen]; omega)
    simp only [List.size_toArray] at this
    rw [show n * 1 = l'.length by omega]
    exact this
def sortI (l : List Int) : List Int := l.mergeSort fun x y => decide (x ≤ y)
theorem sortI_len (l : List Int) : (sortI l).length = l.length := by simp [sortI]
end Go.Kn
end
section
/- slices.Sort of a row of the call's own. -/
set_option linter.unusedVariables false
namespace Go.Proofs.Ytddacakmafdgdaa
open Go.RowKit Go.Kn
theorem sort_s (v : Value) (n : Nat) (zs : List Int) (L : Hp) (w : World) (hR : OwnR tInt 1 v n (zs.map (.int .i64)) L) (hL : Kn.Holds w L) (hn : n < 4611686018427387904) :
    Calls Try.prog 40 #[v] w fun e w' => ∃ r, e = .returned r ∧ r = .tuple #[] ∧ ∃ L', OwnR tInt 1 v n ((sortI zs).map (.int .i64)) L' ∧ Mem w (keys L) w' L' := by
  have hlen : zs.length = n := by have := hR.1; simpa using this
  rcases Nat.eq_zero_or_pos n with h0 | h0
  · subst h0
    have hz : zs = [] := List.eq_nil_of_length_eq_zero hlen
    subst hz
    obtain ⟨A, c, rfl, _, _, _⟩ := hR.slice
    refine (Try.slices_Sort_int_none A c w).mono ?_
    rintro e w' ⟨rfl, rfl⟩
    exact ⟨_, rfl, rfl, L, by rw [show sortI [] = [] by simp [sortI]]; exact hR, hL.mem⟩
  · rcases hR.2 with ⟨_, h1, _⟩ | ⟨b, cap, cur, rfl, h3, h4, h5, h6, _⟩
    · omega
    · have hH := hR.holds (enc := Value.int .i64) hL
      have hb : b < w.heap.size := by
        rcases hR.2 with ⟨h1, _, _⟩ | ⟨b', cap', cur', h1, _, _, _, _, rfl⟩
        · cases h1
        · injection h1 with h1 _ _
          injection h1 with h1
          injection h1 with h1
          subst h1
          exact lt_of_block (hL.at_ (b, .cells cur' tInt (0, 0)) (by simp))
      have hc := Try.slices_Sort_int b 0 cap zs w hH hb (by omega)
      rw [hlen] at hc
      refine hc.mono ?_
      rintro e w' ⟨rfl, m, os, rfl⟩
      obtain ⟨L', h7, h8⟩ := hR.sorted (enc := Value.int .i64) (l' := sortI zs) (m := m) (os := os) hL (sortI_len zs)
      exact ⟨_, rfl, rfl, L', h7, h8⟩
end Go.Proofs.Ytddacakmafdgdaa
end
section
/- Groups that are joined. -/
set_option linter.unusedVariables false
set_option linter.unusedSimpArgs false
namespace Go.Kn
open Go.RowKit
theorem filter_self_ne {gs : List Grp} {k : Int} (h : ∀ q ∈ gs, q.key ≠ k) : (gs.filter fun q => decide (q.key ≠ k)) = gs := List.filter_eq_self.2 (fun q hq => by simpa using h q hq)
theorem flat_pull {gs : List Grp} (hn : (gs.map Grp.key).Nodup) {g : Grp} (hg : g ∈ gs) : (gs.flatMap Grp.L).Perm (g.L ++ (gs.filter fun q => decide (q.key ≠ g.key)).flatMap Grp.L) := by
  induction gs with
  | nil => cases hg
  | cons a r ih =>
    simp only [List.map_cons, List.nodup_cons] at hn
    rcases List.mem_cons.1 hg with h | h
    · subst h
      have h2 : ∀ q ∈ r, q.key ≠ g.key := fun q hq e => hn.1 (e ▸ List.mem_map.2 ⟨q, hq, rfl⟩)
      rw [List.filter_cons, if_neg (by simp), filter_self_ne h2, List.flatMap_cons]
    · have hne : a.key ≠ g.key := fun e => hn.1 (e ▸ List.mem_map.2 ⟨g, h, rfl⟩)
      rw [List.filter_cons, if_pos (by simpa using hne), List.flatMap_cons, List.flatMap_cons]
      refine (List.Perm.append_left a.L (ih hn.2 h)).trans ?_
      rw [← List.append_assoc, ← List.append_assoc]
      exact List.Perm.append_right _ List.perm_append_comm
theorem key_min {gs : List Grp} {a b : Int} (ha : ∃ g ∈ gs, g.key = a) (hb : ∃ g ∈ gs, g.key = b) : ∃ g ∈ gs, g.key = min a b := by
  rcases Int.le_total a b with h1 | h1
  · rw [Int.min_eq_left h1]; exact ha
  · rw [Int.min_eq_right h1]; exact hb
theorem key_max {gs : List Grp} {a b : Int} (ha : ∃ g ∈ gs, g.key = a) (hb : ∃ g ∈ gs, g.key = b) : ∃ g ∈ gs, g.key = max a b := by
  rcases Int.le_total a b with h1 | h1
  · rw [Int.max_eq_right h1]; exact hb
  · rw [Int.max_eq_left h1]; exact ha
theorem mset_knd {k : Int} {v : Value} {es : List Ent} (h : (es.map Ent.key).Nodup) : ((mset k v es).map Ent.key).Nodup := by
  have : (mset k v es).map Ent.key = es.map Ent.key := by
    unfold mset
    rw [List.map_map]
    refine List.map_congr_left fun e he => ?_
    simp only [Function.comp]
    split <;> rfl
  rw [this]; exact h
theorem x_lookupS {P : Program} {w : World} {ρ : Operand → Value} {dst : Option Tmp} {type : TypeId} {pos : String} {after : Array Edge} {guard : Option (Nat × Bool)} {t kt et : TypeId} {kk : IntKind} {x y : Operand} {b : Nat} {es : List Ent} {clock : Nat} {k : Int} {z v : Value} (hb : w.heap[b]? = some (mapO es clock)) (hv : mget k es = some v) (hx : ρ x = .map (some b)) (hy : ρ y = .int .i64 k) (ht : P.underlying t = some (.map kt et)) (hk : P.underlying kt = some (.int kk)) (hz : (zeroValue et).run P w = .ok z w) :
    (execOp ρ ⟨dst, .lookup t x y false, type, pos, after, guard⟩).run P w = .ok (.value v) w := by
  have := x_lookup (P := P) (ρ := ρ) (dst := dst) (type := type) (pos := pos) (after := after) (guard := guard) (t := t) hb hx hy ht hk hz
  rw [this, hv]; rfl
/-- two groups made one -/
def joinV (a b : Int) (V : List (Int × List Int)) : List (Int × List Int) :=
  if a = b then V else
  (V.filter fun p => decide (p.1 ≠ max a b)).map fun p => if p.1 = min a b then (p.1, sortI (p.2 ++ (V.filter fun p => decide (p.1 = max a b)).flatMap (·.2))) else p
theorem own_others {gs : List Grp} (hn : (gs.map Grp.key).Nodup) {g : Grp} (hg : g ∈ gs) : (gs.filter fun q => decide (q.key = g.key)) = [g] := by
  induction gs with
  | nil => cases hg
  | cons a r ih =>
    simp only [List.map_cons, List.nodup_cons] at hn
    rcases List.mem_cons.1 hg with h | h
    · subst h
      have h2 : (r.filter fun q => decide (q.key = g.key)) = [] := List.filter_eq_nil_iff.2 (fun q hq => by simpa using fun (e : q.key = g.key) => hn.1 (e ▸ List.mem_map.2 ⟨q, hq, rfl⟩))
      rw [List.filter_cons, if_pos (by simp), h2]
    · have hne : a.key ≠ g.key := fun e => hn.1 (e ▸ List.mem_map.2 ⟨g, h, rfl⟩)
      rw [List.filter_cons, if_neg (by simpa using hne)]
      exact ih hn.2 h
/-- the groups behind a join: g (of min) has become the row v, zs, L; h (of max) has gone -/
def joinG (g h : Grp) (zs : List Int) (v : Value) (L : Hp) (gs : List Grp) : List Grp :=
  (gs.filter fun q => decide (q.key ≠ h.key)).map fun q => if q.key = g.key then { g with xs := zs, v := v, L := L } else q
section
variable {gs : List Grp} {g h : Grp} {zs : List Int} {v : Value} {L : Hp} {e : TypeId} {ck : Nat}
theorem key_inj {gs : List Grp} (hn : (gs.map Grp.key).Nodup) {p q : Grp} (hp : p ∈ gs) (hq : q ∈ gs) (he : p.key = q.key) : p = q := by
  have h1 := own_others hn hp
  have h2 : q ∈ gs.filter fun r => decide (r.key = p.key) := List.mem_filter.2 ⟨hq, by simp [he]⟩
  rw [h1] at h2
  exact (List.mem_singleton.1 h2).symm
theorem joinG_map {α : Type} (f : Grp → α) (hn : (gs.map Grp.key).Nodup) (hg : g ∈ gs) (hf : f { g with xs := zs, v := v, L := L } = f g) : (joinG g h zs v L gs).map f = (gs.filter fun q => decide (q.key ≠ h.key)).map f := by
  unfold joinG
  rw [List.map_map]
  refine List.map_congr_left fun q hq => ?_
  simp only [Function.comp]
  by_cases hk : q.key = g.key
  · rw [if_pos hk, hf, key_inj hn (List.mem_filter.1 hq).1 hg hk]
  · rw [if_neg hk]
theorem joinG_GMp (hG : GMp e gs ck) (hg : g ∈ gs) (hr : OwnR e 1 v zs.length (zs.map (.int .i64)) L) : GMp e (joinG g h zs v L gs) ck := by
  have hn := hG.knd
  refine ⟨fun q hq => ?_, fun q hq => ?_, ?_, ?_⟩
  · obtain ⟨p, hp, rfl⟩ := List.mem_map.1 hq
    by_cases hk : p.key = g.key
    · rw [if_pos hk]; exact hr
    · rw [if_neg hk]; exact hG.row p (List.mem_filter.1 hp).1
  · obtain ⟨p, hp, rfl⟩ := List.mem_map.1 hq
    by_cases hk : p.key = g.key
    · rw [if_pos hk]; exact hG.born g hg
    · rw [if_neg hk]; exact hG.born p (List.mem_filter.1 hp).1
  · rw [joinG_map (zs := zs) (v := v) (L := L) Grp.born hn hg rfl]
    exact (List.filter_sublist.map _).nodup hG.bnd
  · rw [joinG_map (zs := zs) (v := v) (L := L) Grp.key hn hg rfl]
    exact (List.filter_sublist.map _).nodup hn
theorem joinG_ents (hn : (gs.map Grp.key).Nodup) (hg : g ∈ gs) : (joinG g h zs v L gs).map Grp.ent = mdel h.key (mset g.key v (gs.map Grp.ent)) := by
  unfold joinG mdel mset
  rw [List.map_map, List.map_map, List.filter_map]
  have e2 : (gs.filter ((fun e : Ent => decide (e.key ≠ h.key)) ∘ (fun e => if e.key = g.key then { e with v := v } else e) ∘ Grp.ent)) = gs.filter fun q => decide (q.key ≠ h.key) := by
    refine List.filter_congr fun q hq => ?_
    by_cases hk : q.key = g.key <;> simp [Function.comp, Grp.ent, hk]
  rw [e2]
  refine List.map_congr_left fun q hq => ?_
  by_cases hk : q.key = g.key
  · have := key_inj hn (List.mem_filter.1 hq).1 hg hk
    subst this
    simp [Function.comp, Grp.ent]
  · simp [Function.comp, Grp.ent, hk]
theorem joinG_view (hn : (gs.map Grp.key).Nodup) (hg : g ∈ gs) (hh : h ∈ gs) {a b : Int} (hab : a ≠ b) (ha : g.key = min a b) (hb : h.key = max a b) (hz : zs = sortI (g.xs ++ h.xs)) : view (joinG g h zs v L gs) = joinV a b (view gs) := by
  have h1 : ((view gs).filter fun p => decide (p.1 = max a b)).flatMap (·.2) = h.xs := by
    unfold view
    rw [List.filter_map, ← hb]
    have := own_others hn hh
    have e : (gs.filter ((fun p : Int × List Int => decide (p.1 = h.key)) ∘ fun g => (g.key, g.xs))) = [h] := this
    rw [e]; simp
  unfold joinV
  rw [if_neg hab, h1]
  unfold view joinG
  rw [List.map_map, List.filter_map, List.map_map]
  rw [show ((fun p : Int × List Int => decide (p.1 ≠ max a b)) ∘ fun g : Grp => (g.key, g.xs)) = fun q : Grp => decide (q.key ≠ h.key) by funext q; simp [hb]]
  refine List.map_congr_left fun q hq => ?_
  simp only [Function.comp]
  by_cases hk : q.key = g.key
  · have := key_inj hn (List.mem_filter.1 hq).1 hg hk
    subst this
    simp [ha, hz]
  · have : ¬ q.key = min a b := by rw [← ha]; exact hk
    simp [hk, this]
theorem joinG_flat (hn : (gs.map Grp.key).Nodup) (hg : g ∈ gs) (hne : g.key ≠ h.key) : ((joinG g h zs v L gs).flatMap Grp.L).Perm (L ++ ((gs.filter fun q => decide (q.key ≠ g.key)).filter fun q => decide (q.key ≠ h.key)).flatMap Grp.L) := by
  have hm : ({ g with xs := zs, v := v, L := L } : Grp) ∈ joinG g h zs v L gs := List.mem_map.2 ⟨g, List.mem_filter.2 ⟨hg, by simpa using hne⟩, by rw [if_pos rfl]⟩
  have hnk : ((joinG g h zs v L gs).map Grp.key).Nodup := by
    rw [joinG_map (zs := zs) (v := v) (L := L) Grp.key hn hg rfl]
    exact (List.filter_sublist.map _).nodup hn
  refine (flat_pull hnk hm).trans (List.Perm.append_left _ ?_)
  have e : ((joinG g h zs v L gs).filter fun q => decide (q.key ≠ g.key)) = ((gs.filter fun q => decide (q.key ≠ g.key)).filter fun q => decide (q.key ≠ h.key)) := by
    unfold joinG
    rw [List.filter_map, List.filter_filter, List.filter_filter]
    rw [← List.map_id ((gs.filter fun q => decide (q.key ≠ h.key) && decide (q.key ≠ g.key)))]
    have e2 : (gs.filter fun a => ((fun q : Grp => decide (q.key ≠ g.key)) ∘ fun q => if q.key = g.key then ({ g with xs := zs, v := v, L := L } : Grp) else q) a && decide (a.key ≠ h.key)) = gs.filter fun q => decide (q.key ≠ h.key) && decide (q.key ≠ g.key) := by
      refine List.filter_congr fun q hq => ?_
      by_cases hk : q.key = g.key
      · simp [Function.comp, hk]
      · simp [Function.comp, hk, Bool.and_comm]
    rw [e2]
    refine List.map_congr_left fun q hq => ?_
    have := (List.mem_filter.1 hq).2
    simp only [Bool.and_eq_true, decide_eq_true_eq] at this
    simp [this.2]
  rw [e]
end
end Go.Kn
end
section
/- Fe: what Go functions of this seat come to, printed by walk.py over the engine. -/
set_option linter.unusedVariables false
set_option linter.unusedSimpArgs false
set_option maxRecDepth 100000
namespace Go.Proofs.Ytddacakmafdgdaa
open Go.RowKit Go.Kn

theorem join_s (bm : Nat) (gs : List Grp) (ck : Nat) (hG : GMp tInt gs ck) (a b : Int) (w : World) (hL : Holds w (GL bm gs ck)) (ha : ∃ g ∈ gs, g.key = a) (hb : ∃ g ∈ gs, g.key = b) (hlen : ∀ g ∈ gs, g.xs.length ≤ 300) :
  Calls Try.prog 53 #[Value.map (some bm), Value.int .i64 a, Value.int .i64 b] w fun e w' => ∃ r, e = .returned r ∧ r = .tuple #[] ∧ ∃ gs', GMp tInt gs' ck ∧ view gs' = joinV a b (view gs) ∧ Mem w (keys (GL bm gs ck)) w' (GL bm gs' ck) := by
 refine calls_k (args := [Value.map (some bm), Value.int .i64 a, Value.int .i64 b]) 30 [(0, Value.map (some bm)), (1, Value.int .i64 a), (2, Value.int .i64 b)] Try.func53 rfl rfl ⟨rfl, rfl, rfl, trivial⟩ ?_
 have hM := hL.mem
 refine k_seq (k_seq (k_region (sqV (.int .i64 a) rfl rfl rfl ?_)))
 refine sqV (.int .i64 b) rfl rfl rfl ?_
 refine sqV (.bool (a == b)) rfl rfl rfl ?_
 refine r_nil (e_then ?_)
 refine k_cond rfl rfl (fun h => ?_) (fun h => ?_)
 ·try simp only [sqC] at h
  refine k_ret (e_then_ret (e_ret0 rfl ?_))
  exact ⟨_, rfl, rfl, gs, hG, by rw [joinV, if_pos h], hM⟩
 ·try simp only [sqC] at h
  refine k_skip (e_then (k_seq (k_region ?_)))
  obtain ⟨g, gm, gk⟩ := key_min ha hb
  obtain ⟨q, qm, qk⟩ := key_max ha hb
  have hne : g.key ≠ q.key := by omega
  have hqm : q ∈ gs.filter fun p => decide (p.key ≠ g.key) := List.mem_filter.2 ⟨qm, by simpa using fun e => hne e.symm⟩
  have hkn2 : ((gs.filter fun p => decide (p.key ≠ g.key)).map Grp.key).Nodup := (List.filter_sublist.map _).nodup hG.knd
  obtain ⟨R, hR⟩ : ∃ R, R = (((gs.filter fun p => decide (p.key ≠ g.key)).filter fun p => decide (p.key ≠ q.key)).flatMap Grp.L) := ⟨_, rfl⟩
  have hflat : (gs.flatMap Grp.L).Perm (g.L ++ (q.L ++ R)) := hR ▸ (flat_pull hG.knd gm).trans (List.Perm.append_left _ (flat_pull hkn2 hqm))
  obtain ⟨A2, c2, hv2, hnc2, hc2, hA2⟩ := (hG.row q qm).slice
  have hrow1 := hG.row g gm
  have hrow2 := hv2 ▸ hG.row q qm
  refine sqR [(0, .map (some bm)), (1, .int .i64 a), (2, .int .i64 b), (9, .bool (a == b))] rfl ?_
  have hM1 : Mem w (keys (GL bm gs ck)) w ((bm, mapO (gs.map Grp.ent) ck) :: (g.L ++ (q.L ++ R))) := hM.perm (List.Perm.cons _ hflat)
  refine sqV (.int .i64 a) rfl rfl rfl ?_
  refine sqV (.int .i64 b) rfl rfl rfl ?_
  refine sqV (.int .i64 (min a b)) rfl rfl (x_min rfl rfl) ?_
  refine sqV (.int .i64 a) rfl rfl rfl ?_
  refine sqV (.int .i64 b) rfl rfl rfl ?_
  refine sqV (.int .i64 (max a b)) rfl rfl (x_max rfl rfl) ?_
  refine sqV (.int .i64 (min a b)) rfl rfl rfl ?_
  refine sqV (.int .i64 (max a b)) rfl rfl rfl ?_
  refine r_nil (e_then (k_seq (k_region (sqV (.map (some bm)) rfl rfl rfl ?_))))
  refine sqV (.int .i64 (min a b)) rfl rfl rfl ?_
  refine sqV (g.v) rfl rfl (x_lookupS (hM1.get 0 rfl) (mget_some (List.mem_map.2 ⟨g, gm, rfl⟩) gk (ents_knd hG)) rfl rfl rfl rfl rfl) ?_
  refine sqV (.map (some bm)) rfl rfl rfl ?_
  refine sqV (.int .i64 (max a b)) rfl rfl rfl ?_
  refine sqV (q.v) rfl rfl (x_lookupS (hM1.get 0 rfl) (mget_some (List.mem_map.2 ⟨q, qm, rfl⟩) qk (ents_knd hG)) rfl rfl rfl rfl rfl) ?_
  have hL2 : Holds w q.L := (hM1.tail.right.left).holds
  refine r_append (bytes := 8) (z := .int .i64 0) (A := A2) (m := q.xs.length) (c := c2) (news := q.xs.map (.int .i64)) hrow1 (hM1.perm List.perm_middle.symm) hA2 (by simp) (hrow2.cell hL2) (by simp [Value.oneCell']) (by have := hlen g gm; have := hlen q qm; omega) (by kernel_rfl) (by kernel_rfl) rfl (by decide) (by decide) rfl rfl (by exact hv2) ?_
  intro v1 L1 w2 hr1 hM3
  replace hM3 := (hM3).perm List.perm_middle
  rw [← List.map_append] at hr1
  replace hM3 : Mem w (keys (GL bm gs ck)) w2 ((bm, mapO (gs.map Grp.ent) ck) :: (L1 ++ (q.L ++ R))) := hM3
  refine sqV (v1) rfl rfl rfl ?_
  refine r_nil (e_then (k_seq (k_region (sqV (v1) rfl rfl rfl ?_))))
  refine r_call (f := 40) (args := #[v1]) (w' := w2) rfl rfl (x_call (vs := [v1]) (enter40 _ _) rfl rfl) (sort_s v1 _ (g.xs ++ q.xs) L1 w2 hr1 hM3.tail.left.holds (by have := hlen g gm; have := hlen q qm; omega)) ?_
  rintro v_ w4 ⟨rfl, L2, hr2, hM5⟩
  replace hM5 : Mem w (keys (GL bm gs ck)) w4 ((bm, mapO (gs.map Grp.ent) ck) :: (L2 ++ (q.L ++ R))) := (Mem.call (hM3.perm List.perm_middle.symm) hM5).perm List.perm_middle
  refine r_nil (sqE [(0, .map (some bm)), (1, .int .i64 (min a b)), (2, .int .i64 (max a b)), (6, v1)] rfl (e_then (k_seq (k_region (sqV (.map (some bm)) rfl rfl rfl ?_)))))
  refine sqV (.int .i64 (min a b)) rfl rfl rfl ?_
  refine sqV (v1) rfl rfl rfl ?_
  refine r_mapOld hM5 0 rfl (mget_some (List.mem_map.2 ⟨g, gm, rfl⟩) gk (ents_knd hG)) (ents_knd hG) rfl rfl rfl rfl rfl rfl ?_
  intro w6 hM7
  replace hM7 : Mem w (keys (GL bm gs ck)) w6 ((bm, mapO (mset (min a b) v1 (gs.map Grp.ent)) ck) :: (L2 ++ (q.L ++ R))) := hM7
  refine r_nil (e_then (k_region (sqV (.map (some bm)) rfl rfl rfl ?_)))
  refine sqV (.int .i64 (max a b)) rfl rfl rfl ?_
  refine r_delete (k := max a b) hM7 0 rfl (mset_knd (ents_knd hG)) rfl rfl rfl rfl rfl ?_
  intro w8 hM9
  replace hM9 : Mem w (keys (GL bm gs ck)) w8 ((bm, mapO (mdel (max a b) (mset (min a b) v1 (gs.map Grp.ent))) ck) :: (L2 ++ (q.L ++ R))) := hM9
  refine r_nil (ends_sub [] trivial ?_)
  refine e_end0 rfl ?_
  have hz : (sortI (g.xs ++ q.xs)).length = g.xs.length + q.xs.length := by rw [sortI_len, List.length_append]
  refine ⟨_, rfl, rfl, joinG g q (sortI (g.xs ++ q.xs)) v1 L2 gs, joinG_GMp hG gm (hz ▸ hr2), joinG_view hG.knd gm qm h gk qk rfl, ?_⟩
  have he := joinG_ents (h := q) (zs := sortI (g.xs ++ q.xs)) (v := v1) (L := L2) hG.knd gm
  rw [gk, qk] at he
  unfold GL
  rw [he]
  exact Mem.right (L := q.L) (Mem.perm hM9 ((List.Perm.cons _ (List.perm_append_comm_assoc L2 q.L R)).trans (List.perm_middle.symm.trans (List.Perm.append_left _ (List.Perm.cons _ (hR ▸ joinG_flat hG.knd gm hne).symm)))))


end Go.Proofs.Ytddacakmafdgdaa
end
section
/- Groups as a function: each place's first one. -/
set_option linter.unusedVariables false
set_option linter.unusedSimpArgs false
namespace Go.Kn
open Go.RowKit
theorem sortI_eq {l m : List Int} (hp : l.Perm m) (hs : m.Pairwise (· ≤ ·)) : sortI l = m := by
  unfold sortI
  refine List.Perm.eq_of_pairwise (le := fun a b : Int => a ≤ b) (fun a b _ _ h1 h2 => Int.le_antisymm h1 h2) ?_ hs ((List.mergeSort_perm _ _).trans hp)
  have := List.pairwise_mergeSort (le := fun x y : Int => decide (x ≤ y)) (fun a b c h1 h2 => by simp at *; omega) (fun a b => by simp; omega) l
  exact this.imp (fun h => by simpa using h)
theorem filter_or_perm {α : Type} {p q : α → Bool} (h : ∀ x, p x = true → q x = true → False) : ∀ l : List α, (l.filter p ++ l.filter q).Perm (l.filter fun x => p x || q x)
  | [] => by simp
  | a :: r => by
    have ih := filter_or_perm h r
    cases hp : p a <;> cases hq : q a
    · simp [hp, hq, ih]
    · simp only [List.filter_cons, hp, hq, Bool.or_true, if_true]
      exact (List.perm_middle).trans (List.Perm.cons a ih)
    · simp only [List.filter_cons, hp, hq, Bool.or_false, if_true]
      exact List.Perm.cons a ih
    · exact absurd hq (by intro hq; exact h a hp hq)
def members (n : Nat) (f : Nat → Nat) (k : Nat) : List Nat := (List.range n).filter fun p => decide (f p = k)
def membersI (n : Nat) (f : Nat → Nat) (k : Nat) : List Int := (members n f k).map fun (p : Nat) => (p : Int)
theorem mem_members {n k p : Nat} {f : Nat → Nat} : p ∈ members n f k ↔ p < n ∧ f p = k := by simp [members]
theorem mem_membersI {n k p : Nat} {f : Nat → Nat} : (p : Int) ∈ membersI n f k ↔ p < n ∧ f p = k := by
  unfold membersI
  rw [List.mem_map]
  constructor
  · rintro ⟨q, hq, he⟩
    have : q = p := by omega
    subst this
    exact mem_members.1 hq
  · exact fun h => ⟨p, mem_members.2 h, rfl⟩
theorem members_sorted (n : Nat) (f : Nat → Nat) (k : Nat) : (members n f k).Pairwise (· < ·) := List.Pairwise.filter _ List.pairwise_lt_range
theorem membersI_sorted (n : Nat) (f : Nat → Nat) (k : Nat) : (membersI n f k).Pairwise (· < ·) := by
  unfold membersI
  rw [List.pairwise_map]
  exact (members_sorted n f k).imp (fun h => by omega)
theorem members_len (n : Nat) (f : Nat → Nat) (k : Nat) : (members n f k).length ≤ n := by
  have := List.length_filter_le (fun p => decide (f p = k)) (List.range n)
  simpa [members] using this
theorem membersI_len (n : Nat) (f : Nat → Nat) (k : Nat) : (membersI n f k).length ≤ n := by simpa [membersI] using members_len n f k
/-- the groups V are those of f -/
structure IsG (n : Nat) (f : Nat → Nat) (V : List (Int × List Int)) : Prop where
  le : ∀ p, p < n → f p ≤ p
  idem : ∀ p, p < n → f (f p) = f p
  mem : ∀ q, q ∈ V ↔ ∃ p, p < n ∧ f p = p ∧ q = ((p : Int), membersI n f p)
theorem IsG.lt {n : Nat} {f : Nat → Nat} {V : List (Int × List Int)} (h : IsG n f V) {p : Nat} (hp : p < n) : f p < n := Nat.lt_of_le_of_lt (h.le p hp) hp
theorem IsG.of {n : Nat} {f : Nat → Nat} {V : List (Int × List Int)} (h : IsG n f V) {p : Nat} (hp : p < n) {r : Int} (hr : ofIs V p r) : r = (f p : Int) := by
  have h0 : ((f p : Int), membersI n f (f p)) ∈ V := (h.mem _).2 ⟨f p, h.lt hp, h.idem p hp, rfl⟩
  have h1 : (p : Int) ∈ membersI n f (f p) := mem_membersI.2 ⟨hp, rfl⟩
  rcases hr with ⟨q, hq, hm, rfl⟩ | ⟨_, hno⟩
  · obtain ⟨k, hk, hkk, rfl⟩ := (h.mem q).1 hq
    have := (mem_membersI.1 hm).2
    simp [this]
  · exact absurd h1 (hno _ h0)
def joinF (a b : Nat) (f : Nat → Nat) : Nat → Nat := fun p => if f p = max a b then min a b else f p
theorem members_join {n a b : Nat} {f : Nat → Nat} (hab : a ≠ b) : (members n f (min a b) ++ members n f (max a b)).Perm (members n (joinF a b f) (min a b)) := by
  have e : members n (joinF a b f) (min a b) = (List.range n).filter fun p => decide (f p = min a b) || decide (f p = max a b) := by
    unfold members
    refine List.filter_congr fun p _ => ?_
    unfold joinF
    by_cases h : f p = max a b
    · simp [h]
    · simp [h]
  rw [e]
  exact filter_or_perm (fun x h1 h2 => by simp at h1 h2; omega) _
theorem members_other {n a b k : Nat} {f : Nat → Nat} (h1 : k ≠ min a b) (h2 : k ≠ max a b) : members n (joinF a b f) k = members n f k := by
  unfold members
  refine List.filter_congr fun p _ => ?_
  unfold joinF
  by_cases h : f p = max a b
  · simp only [h, if_true]
    have h3 : ¬ min a b = k := fun e => h1 e.symm
    have h4 : ¬ max a b = k := fun e => h2 e.symm
    simp [h3, h4]
  · simp [h]
theorem flat_key {V : List (Int × List Int)} (hn : (V.map (·.1)).Nodup) {q : Int × List Int} (hq : q ∈ V) : (V.filter fun p => decide (p.1 = q.1)).flatMap (·.2) = q.2 := by
  induction V with
  | nil => cases hq
  | cons a r ih =>
    simp only [List.map_cons, List.nodup_cons] at hn
    rcases List.mem_cons.1 hq with h | h
    · subst h
      have h2 : (r.filter fun p => decide (p.1 = q.1)) = [] := List.filter_eq_nil_iff.2 (fun p hp => by simpa using fun (e : p.1 = q.1) => hn.1 (e ▸ List.mem_map.2 ⟨p, hp, rfl⟩))
      rw [List.filter_cons, if_pos (by simp), h2]
      simp
    · have hne : a.1 ≠ q.1 := fun e => hn.1 (e ▸ List.mem_map.2 ⟨q, h, rfl⟩)
      rw [List.filter_cons, if_neg (by simpa using hne)]
      exact ih hn.2 h
theorem IsG.join {n : Nat} {f : Nat → Nat} {V : List (Int × List Int)} (h : IsG n f V) (hn : (V.map (·.1)).Nodup) {i k : Nat} (hi : i < n) (hk : k < n) : IsG n (joinF (f i) (f k) f) (joinV (f i) (f k) V) := by
  by_cases hab : f i = f k
  · have e1 : joinF (f i) (f k) f = f := by
      funext p
      unfold joinF
      rw [hab]
      split
      · rename_i h1; rw [h1]; simp
      · rfl
    rw [e1, joinV, if_pos (by omega)]
    exact h
  · obtain ⟨a, ha⟩ : ∃ a, a = f i := ⟨_, rfl⟩
    obtain ⟨b, hb⟩ : ∃ b, b = f k := ⟨_, rfl⟩
    have faa : f a = a := by rw [ha]; exact h.idem i hi
    have fbb : f b = b := by rw [hb]; exact h.idem k hk
    have han : a < n := by rw [ha]; exact h.lt hi
    have hbn : b < n := by rw [hb]; exact h.lt hk
    rw [← ha, ← hb] at hab ⊢
    have flo : f (min a b) = min a b := by rcases Nat.le_total a b with h1 | h1 <;> simp [h1, faa, fbb]
    have fhi : f (max a b) = max a b := by rcases Nat.le_total a b with h1 | h1 <;> simp [h1, faa, fbb]
    have hlt : min a b < max a b := by omega
    have elo : min (a : Int) (b : Int) = ((min a b : Nat) : Int) := by omega
    have ehi : max (a : Int) (b : Int) = ((max a b : Nat) : Int) := by omega
    have hfix : ∀ p, p < n → (joinF a b f p = p ↔ f p = p ∧ p ≠ max a b) := by
      intro p hp
      have hle := h.le p hp
      unfold joinF
      split
      · rename_i h1
        constructor
        · intro h2; omega
        · rintro ⟨h2, h3⟩; omega
      · rename_i h1
        constructor
        · intro h2; exact ⟨h2, fun e => h1 (by rw [e]; exact fhi)⟩
        · exact fun h2 => h2.1
    refine ⟨fun p hp => ?_, fun p hp => ?_, fun q => ?_⟩
    · have hle := h.le p hp
      unfold joinF
      split <;> omega
    · have hid := h.idem p hp
      by_cases h1 : f p = max a b
      · have e : joinF a b f p = min a b := by unfold joinF; rw [if_pos h1]
        rw [e]
        unfold joinF
        rw [if_neg (by omega), flo]
      · have e : joinF a b f p = f p := by unfold joinF; rw [if_neg h1]
        rw [e]
        unfold joinF
        rw [hid, if_neg h1]
    · have hhi : ((max a b : Nat) : Int) = (((max a b : Nat) : Int), membersI n f (max a b)).1 := rfl
      have hmemhi : (((max a b : Nat) : Int), membersI n f (max a b)) ∈ V := (h.mem _).2 ⟨max a b, by omega, fhi, rfl⟩
      have hfl : (V.filter fun p => decide (p.1 = ((max a b : Nat) : Int))).flatMap (·.2) = membersI n f (max a b) := flat_key hn hmemhi
      have hsort : sortI (membersI n f (min a b) ++ membersI n f (max a b)) = membersI n (joinF a b f) (min a b) := by
        refine sortI_eq ?_ ((membersI_sorted _ _ _).imp (fun h => Int.le_of_lt h))
        unfold membersI
        rw [← List.map_append]
        exact (members_join hab).map _
      unfold joinV
      rw [if_neg (by omega), elo, ehi, hfl, List.mem_map]
      constructor
      · rintro ⟨q0, hq0, rfl⟩
        obtain ⟨hq1, hq2⟩ := List.mem_filter.1 hq0
        obtain ⟨p, hp, hpp, rfl⟩ := (h.mem _).1 hq1
        have hne : p ≠ max a b := by intro e; subst e; simp at hq2
        refine ⟨p, hp, (hfix p hp).2 ⟨hpp, hne⟩, ?_⟩
        by_cases hlo : p = min a b
        · subst hlo
          rw [if_pos rfl, hsort]
        · rw [if_neg (by simp only []; omega)]
          unfold membersI
          rw [members_other hlo hne]
      · rintro ⟨p, hp, hpp, rfl⟩
        obtain ⟨h1, hne⟩ := (hfix p hp).1 hpp
        refine ⟨((p : Int), membersI n f p), List.mem_filter.2 ⟨(h.mem _).2 ⟨p, hp, h1, rfl⟩, by simp; omega⟩, ?_⟩
        by_cases hlo : p = min a b
        · subst hlo
          rw [if_pos rfl, hsort]
        · rw [if_neg (by simp only []; omega)]
          unfold membersI
          rw [members_other hlo hne]
theorem isG_each (n : Nat) : IsG n id (eachG n) := by
  refine ⟨fun p _ => Nat.le_refl p, fun p _ => rfl, fun q => ?_⟩
  have hm : ∀ p, p < n → membersI n id p = [(p : Int)] := by
    intro p hp
    unfold membersI members
    have : (List.range n).filter (fun q => decide (id q = p)) = [p] := by
      refine List.Perm.eq_of_pairwise (le := fun a b => a < b) (fun a b _ _ h1 h2 => absurd h1 (by omega)) (List.Pairwise.filter _ List.pairwise_lt_range) (by simp) ?_
      rw [List.perm_ext_iff_of_nodup (List.nodup_range.filter _) (by simp)]
      intro a
      simp
      omega
    rw [this]; rfl
  unfold eachG
  rw [List.mem_map]
  constructor
  · rintro ⟨p, hp, rfl⟩
    have hp' := List.mem_range.1 hp
    exact ⟨p, hp', rfl, by rw [hm p hp']⟩
  · rintro ⟨p, hp, _, rfl⟩
    exact ⟨p, List.mem_range.2 hp, by rw [hm p hp]⟩
/-- those that musts put together -/
def joinAll (ms : List (Nat × Nat)) : Nat → Nat := ms.foldl (fun f m => joinF (f m.1) (f m.2) f) id
theorem joinAll_snoc {ms : List (Nat × Nat)} {m : Nat × Nat} : joinAll (ms ++ [m]) = joinF (joinAll ms m.1) (joinAll ms m.2) (joinAll ms) := by simp [joinAll]
end Go.Kn
end
section
/- A region that draws its order and whose last operation waits for all others. -/
set_option linter.unusedVariables false
namespace Go.Kn
open Go.RowKit
theorem Each.imp {F G : Nat → Oper → Prop} : ∀ {l : List Oper} {k : Nat}, (∀ i o, i < k + l.length → F i o → G i o) → Each F k l → Each G k l
  | [], _, _, _ => trivial
  | o :: r, k, h, ⟨h1, h2⟩ => ⟨h k o (by simp) h1, Each.imp (fun i o' hi hf => h i o' (by simp only [List.length_cons]; omega) hf) h2⟩
def atLast (i z : Nat) (A B : Prop) : Prop := match Nat.beq i z with | true => A | false => B
theorem k_drawL {P : Program} {n : Nat} {Q : Exit → Act → World → Prop} {K : St} {w : World} {id : Nat} {l : List Oper} (hm : P.follows .mixedOrders = true) (M : List Nat) (C : List (Option Value)) (hck : drawOk n K l M = true) (z : Nat) (hzl : l.length = z + 1) (hz : (List.range z).all (fun j => (M.getD z 0).testBit j) = true)
    (W : (Nat → Bool) → (Nat → Value) → World → Prop) (W2 : (Nat → Value) → World → Prop) (h0 : ∀ V, W (fun _ => false) V w.drew)
    (hops : Each (fun i o => ∀ D V w, (∀ j, (M.getD i 0).testBit j = true → D j = true) → D i = false → W D V w → OpGoal P l (endK C V (l.take i) 0 K) o w (fun v w' => (∀ c, C[i]? = some (some c) → v = c) ∧ atLast i z (W2 (upd V i v) w') (W (upd D i true) (upd V i v) w'))) 0 l)
    (hend : ∀ V w, W2 V w → Ends n Q .normal (endK C V l 0 K) w) : wpK P n (.region id l.toArray true) Q K w := by
  have hz' : ∀ j, j < z → (M.getD z 0).testBit j = true := fun j hj => List.all_eq_true.1 hz j (List.mem_range.2 hj)
  refine k_draw hm M C hck (fun D V w => (D z = true → (∀ j, j < z → D j = true) ∧ W2 V w) ∧ (D z = false → W D V w)) (fun V => And.intro (fun h => Bool.noConfusion h) (fun _ => h0 V)) (Each.imp ?_ hops) ?_
  · intro i o hi h D V w hd hDi hW
    simp only [Nat.zero_add] at hi
    have hDz : D z = false := by
      cases hDz : D z with
      | false => rfl
      | true =>
        by_cases e : i = z
        · subst e; rw [hDi] at hDz; cases hDz
        · have := (hW.1 hDz).1 i (by omega)
          rw [hDi] at this; cases this
    have hg := h D V w hd hDi (hW.2 hDz)
    have key : ∀ v w', ((∀ c, C[i]? = some (some c) → v = c) ∧ atLast i z (W2 (upd V i v) w') (W (upd D i true) (upd V i v) w')) → ((∀ c, C[i]? = some (some c) → v = c) ∧ ((upd D i true z = true → (∀ j, j < z → upd D i true j = true) ∧ W2 (upd V i v) w') ∧ (upd D i true z = false → W (upd D i true) (upd V i v) w'))) := by
      rintro v w' ⟨h1, h2⟩
      refine ⟨h1, ?_⟩
      by_cases e : i = z
      · subst e
        have hb : Nat.beq i i = true := Nat.beq_refl i
        rw [atLast, hb] at h2
        refine ⟨fun _ => ⟨fun j hj => by rw [upd_ne _ _ (by omega)]; exact hd j (hz' j hj), h2⟩, fun hf => by rw [upd_same] at hf; cases hf⟩
      · have hb : Nat.beq i z = false := by
          cases hb : Nat.beq i z with
          | false => rfl
          | true => exact absurd (Nat.eq_of_beq_eq_true hb) e
        rw [atLast, hb] at h2
        refine ⟨fun hf => ?_, fun _ => h2⟩
        rw [upd_ne _ _ (fun h => e h.symm), hDz] at hf; cases hf
    unfold OpGoal at hg ⊢
    split
    · rename_i hgd
      rw [hgd] at hg
      exact OpRun.mono hg (fun v w h => key v w h)
    · rename_i g b hgd
      rw [hgd] at hg
      obtain ⟨c, hc1, hc2, hc3⟩ := hg
      exact ⟨c, hc1, fun e => OpRun.mono (hc2 e) (fun v w h => key v w h), fun e => key _ _ (hc3 e)⟩
  · intro D V w hall hW
    exact hend V w (hW.1 (hall z (by omega))).2
end Go.Kn
end
section
/- The contracts of groups in terms of the function. -/
set_option linter.unusedVariables false
namespace Go.Proofs.Ytddacakmafdgdaa
open Go.RowKit Go.Kn
abbrev pairE (p : Nat × Nat) : List Value := [.int .i64 (p.1 : Int), .int .i64 (p.2 : Int)]
theorem _root_.Go.Kn.IsG.xs {n : Nat} {f : Nat → Nat} {gs : List Grp} (h : IsG n f (view gs)) {g : Grp} (hg : g ∈ gs) : ∃ p, p < n ∧ f p = p ∧ g.key = p ∧ g.xs = membersI n f p := by
  obtain ⟨p, h1, h2, h3⟩ := (h.mem (g.key, g.xs)).1 (List.mem_map.2 ⟨g, hg, rfl⟩)
  injection h3 with h3 h4
  exact ⟨p, h1, h2, h3, h4⟩
theorem _root_.Go.Kn.IsG.short {n : Nat} {f : Nat → Nat} {gs : List Grp} (h : IsG n f (view gs)) (hn : n ≤ 300) : ∀ g ∈ gs, g.xs.length ≤ 300 := by
  intro g hg
  obtain ⟨p, _, _, _, h4⟩ := h.xs hg
  rw [h4]
  exact Nat.le_trans (membersI_len n f p) hn
theorem _root_.Go.Kn.IsG.has {n : Nat} {f : Nat → Nat} {gs : List Grp} (h : IsG n f (view gs)) {i : Nat} (hi : i < n) : ∃ g ∈ gs, g.key = (f i : Int) := by
  have h0 : ((f i : Int), membersI n f (f i)) ∈ view gs := (h.mem _).2 ⟨f i, h.lt hi, h.idem i hi, rfl⟩
  obtain ⟨g, hg, he⟩ := List.mem_map.1 h0
  injection he with h1 h2
  exact ⟨g, hg, h1⟩
theorem of_f (bm : Nat) (gs : List Grp) (ck : Nat) (hG : GMp tInt gs ck) (N : Nat) (f : Nat → Nat) (hF : IsG N f (view gs)) (hN : N ≤ 300) (n : Nat) (hn : n < N) (w : World) (hL : Kn.Holds w (GL bm gs ck)) :
    Calls Try.prog 45 #[.map (some bm), .int .i64 (n : Int)] w fun e w' => ∃ r, e = .returned r ∧ r = .int .i64 (f n : Int) ∧ Mem w No w' [] :=
  (of_s bm gs ck hG n w hL (hF.short hN)).mono fun e w' ⟨r, h1, ⟨i, h2, h3⟩, h4⟩ => ⟨r, h1, by rw [h2, hF.of hn h3], h4⟩
theorem join_f (bm : Nat) (gs : List Grp) (ck : Nat) (hG : GMp tInt gs ck) (N : Nat) (f : Nat → Nat) (hF : IsG N f (view gs)) (hN : N ≤ 300) (i k : Nat) (hi : i < N) (hk : k < N) (w : World) (hL : Kn.Holds w (GL bm gs ck)) :
    Calls Try.prog 53 #[.map (some bm), .int .i64 (f i : Int), .int .i64 (f k : Int)] w fun e w' => ∃ r, e = .returned r ∧ r = .tuple #[] ∧ ∃ gs', (GMp tInt gs' ck ∧ IsG N (joinF (f i) (f k) f) (view gs')) ∧ Mem w (keys (GL bm gs ck)) w' (GL bm gs' ck) :=
  (join_s bm gs ck hG (f i) (f k) w hL (hF.has hi) (hF.has hk) (hF.short hN)).mono fun e w' ⟨r, h1, h2, gs', h3, h4, h5⟩ => ⟨r, h1, h2, gs', ⟨h3, by rw [h4]; exact hF.join (by rw [view, List.map_map]; exact hG.knd) hi hk⟩, h5⟩
end Go.Proofs.Ytddacakmafdgdaa
end
section
/- Bonds. -/
set_option linter.unusedVariables false
set_option linter.unusedSimpArgs false
namespace Go.Kn
open Go.RowKit Go.Proofs.Ytddacakmafdgdaa
structure Bond3 where
  a : Int
  b : Int
  must : Bool
abbrev bondE (x : Bond3) : List Value := [.int .i64 x.a, .int .i64 x.b, .bool x.must]
abbrev tPair : TypeId := 36
abbrev zPair : Value := .agg #[.int .i64 0, .int .i64 0]
def placeOf (l : List (List Int)) (b : Bond3) : Nat × Nat := (atPos l b.a, atPos l b.b)
def mustsOf (l : List (List Int)) (bs : List Bond3) : List (Nat × Nat) := (bs.filter fun b => b.must).map (placeOf l)
def notsOf (l : List (List Int)) (bs : List Bond3) : List (Nat × Nat) := (bs.filter fun b => !b.must).map (placeOf l)
section
variable {l : List (List Int)} {bs : List Bond3} {k : Nat} {b : Bond3} {v : Value} {L : Hp}
theorem musts_snoc (hb : bs[k]? = some b) (h : b.must = true) : mustsOf l (bs.take (k + 1)) = mustsOf l (bs.take k) ++ [placeOf l b] := by
  rw [take_snoc' hb]; simp [mustsOf, List.filter_append, h]
theorem musts_same (hb : bs[k]? = some b) (h : b.must = false) : mustsOf l (bs.take (k + 1)) = mustsOf l (bs.take k) := by
  rw [take_snoc' hb]; simp [mustsOf, List.filter_append, h]
theorem nots_snoc (hb : bs[k]? = some b) (h : b.must = false) : notsOf l (bs.take (k + 1)) = notsOf l (bs.take k) ++ [placeOf l b] := by
  rw [take_snoc' hb]; simp [notsOf, List.filter_append, h]
theorem nots_same (hb : bs[k]? = some b) (h : b.must = true) : notsOf l (bs.take (k + 1)) = notsOf l (bs.take k) := by
  rw [take_snoc' hb]; simp [notsOf, List.filter_append, h]
abbrev OwnP (v : Value) (ps : List (Nat × Nat)) (L : Hp) : Prop := OwnR tPair 2 v ps.length (ps.flatMap pairE) L
theorem own_snoc {ps : List (Nat × Nat)} {p : Nat × Nat} (h : OwnR tPair 2 v (ps.length + 1) (ps.flatMap pairE ++ pairE p) L) : OwnP v (ps ++ [p]) L := by
  unfold OwnP
  rw [List.flatMap_append, List.length_append]
  simpa using h
theorem musts_yes (hb : bs[k]? = some b) (h : b.must = true) (hr : OwnR tPair 2 v ((mustsOf l (bs.take k)).length + 1) ((mustsOf l (bs.take k)).flatMap pairE ++ pairE (placeOf l b)) L) : OwnP v (mustsOf l (bs.take (k + 1))) L := by
  rw [musts_snoc hb h]; exact own_snoc hr
theorem nots_yes (hb : bs[k]? = some b) (h : b.must = false) (hr : OwnR tPair 2 v ((notsOf l (bs.take k)).length + 1) ((notsOf l (bs.take k)).flatMap pairE ++ pairE (placeOf l b)) L) : OwnP v (notsOf l (bs.take (k + 1))) L := by
  rw [nots_snoc hb h]; exact own_snoc hr
theorem musts_no (hb : bs[k]? = some b) (h : b.must = false) (hr : OwnP v (mustsOf l (bs.take k)) L) : OwnP v (mustsOf l (bs.take (k + 1))) L := by rw [musts_same hb h]; exact hr
theorem nots_no (hb : bs[k]? = some b) (h : b.must = true) (hr : OwnP v (notsOf l (bs.take k)) L) : OwnP v (notsOf l (bs.take (k + 1))) L := by rw [nots_same hb h]; exact hr
theorem musts_len : (mustsOf l (bs.take k)).length ≤ k := by
  have h1 := List.length_filter_le (fun b : Bond3 => b.must) (bs.take k)
  have h2 := List.length_take_le k bs
  simp only [mustsOf, List.length_map]; omega
theorem nots_len : (notsOf l (bs.take k)).length ≤ k := by
  have h1 := List.length_filter_le (fun b : Bond3 => !b.must) (bs.take k)
  have h2 := List.length_take_le k bs
  simp only [notsOf, List.length_map]; omega
end
end Go.Kn
end
section
/- What CheckBonds says. -/
set_option linter.unusedVariables false
set_option linter.unusedSimpArgs false
namespace Go.Kn
open Go.RowKit Go.Proofs.Ytddacakmafdgdaa
def bAfter (p : Option Bond3) (b : Bond3) : Bool := match p with | none => false | some q => decide (b.a < q.a) || (decide (b.a = q.a) && decide (b.b ≤ q.b))
def bondOne (l : List (List Int)) (p : Option Bond3) (b : Bond3) : Int := if (!atOk l b.a || !atOk l b.b) = true then 7 else if b.b ≤ b.a then 1 else if bAfter p b = true then 5 else 0
def bondsFrom (l : List (List Int)) (p : Option Bond3) : List Bond3 → Int
  | [] => 0
  | b :: r => if bondOne l p b ≠ 0 then bondOne l p b else bondsFrom l (some b) r
def bprev (bs : List Bond3) : Nat → Option Bond3
  | 0 => none
  | k + 1 => bs[k]?
def apartBad (f : Nat → Nat) (ns : List (Nat × Nat)) : Bool := ns.any fun m => decide (f m.1 = f m.2)
def firstsOf (l : List (List Int)) (bs : List Bond3) : Nat → Nat := joinAll (mustsOf l bs)
def checkB (l : List (List Int)) (bs : List Bond3) : Int := if checkL l ≠ 0 then checkL l else if 1000 < bs.length then 4 else if bondsFrom l none bs ≠ 0 then bondsFrom l none bs else if apartBad (firstsOf l bs) (notsOf l bs) = true then 11 else 0
section
variable {l : List (List Int)} {bs : List Bond3} {k : Nat} {b q : Bond3} {p : Option Bond3}
theorem bonds_at (hb : bs[k]? = some b) (p : Option Bond3) : bondsFrom l p (bs.drop k) = if bondOne l p b ≠ 0 then bondOne l p b else bondsFrom l (bprev bs (k + 1)) (bs.drop (k + 1)) := by
  obtain ⟨hlt, he⟩ := List.getElem?_eq_some_iff.1 hb
  rw [List.drop_eq_getElem_cons hlt, he]
  simp [bondsFrom, bprev, hb]
theorem bone_none (h : (!atOk l b.a || !atOk l b.b) = true) : bondOne l p b = 7 := if_pos h
theorem bone_form (h : (!atOk l b.a || !atOk l b.b) = false) (h2 : b.b ≤ b.a) : bondOne l p b = 1 := by rw [bondOne, if_neg (by simp [h]), if_pos h2]
theorem bone_order (h : (!atOk l b.a || !atOk l b.b) = false) (h2 : ¬ b.b ≤ b.a) (h3 : bAfter p b = true) : bondOne l p b = 5 := by rw [bondOne, if_neg (by simp [h]), if_neg h2, if_pos h3]
theorem bone_ok (h : (!atOk l b.a || !atOk l b.b) = false) (h2 : ¬ b.b ≤ b.a) (h3 : bAfter p b = false) : bondOne l p b = 0 := by rw [bondOne, if_neg (by simp [h]), if_neg h2, if_neg (by simp [h3])]
theorem bprev_at (hq : bs[k - 1]? = some q) (hk : 0 < k) : bprev bs k = some q := by
  obtain ⟨j, rfl⟩ : ∃ j, k = j + 1 := ⟨k - 1, by omega⟩
  simpa [bprev] using hq
theorem bonds_ok : ∀ {bs : List Bond3} {p : Option Bond3}, bondsFrom l p bs = 0 → ∀ b ∈ bs, atOk l b.a = true ∧ atOk l b.b = true ∧ b.a < b.b
  | [], _, _, b, hb => by cases hb
  | a :: r, p, h, b, hb => by
    unfold bondsFrom at h
    by_cases h0 : bondOne l p a = 0
    · rw [eq_if h0] at h
      rcases List.mem_cons.1 hb with rfl | hb
      · unfold bondOne at h0
        split at h0
        · cases h0
        · rename_i h1
          split at h0
          · cases h0
          · rename_i h2
            simp at h1
            exact ⟨h1.1, h1.2, by omega⟩
      · exact bonds_ok h b hb
    · rw [ne_if h0] at h; exact absurd h h0
theorem place_lt (hg : sortedIds l) {t : Int} (h : atOk l t = true) : atPos l t < l.length := by
  obtain ⟨x, hx, _⟩ := at_found hg h
  exact (List.getElem?_eq_some_iff.1 hx).1
theorem musts_lt (hg : sortedIds l) (h : bondsFrom l none bs = 0) : ∀ m ∈ mustsOf l bs, m.1 < l.length ∧ m.2 < l.length := by
  intro m hm
  obtain ⟨b, hb, rfl⟩ := List.mem_map.1 hm
  obtain ⟨h1, h2, _⟩ := bonds_ok h b (List.mem_filter.1 hb).1
  exact ⟨place_lt hg h1, place_lt hg h2⟩
theorem nots_lt (hg : sortedIds l) (h : bondsFrom l none bs = 0) : ∀ m ∈ notsOf l bs, m.1 < l.length ∧ m.2 < l.length := by
  intro m hm
  obtain ⟨b, hb, rfl⟩ := List.mem_map.1 hm
  obtain ⟨h1, h2, _⟩ := bonds_ok h b (List.mem_filter.1 hb).1
  exact ⟨place_lt hg h1, place_lt hg h2⟩
theorem checkB_1 (h : checkL l ≠ 0) : checkB l bs = checkL l := by unfold checkB; rw [if_pos h]
theorem checkB_2 (h : checkL l = 0) (h2 : 1000 < bs.length) : checkB l bs = 4 := by unfold checkB; rw [if_neg (by simp [h]), if_pos h2]
theorem checkB_3 (h : checkL l = 0) (h2 : ¬ 1000 < bs.length) : checkB l bs = if bondsFrom l none bs ≠ 0 then bondsFrom l none bs else if apartBad (firstsOf l bs) (notsOf l bs) = true then 11 else 0 := by unfold checkB; rw [if_neg (by simp [h]), if_neg h2]
theorem apart_snoc {f : Nat → Nat} {ns : List (Nat × Nat)} {m : Nat × Nat} (hm : ns[k]? = some m) (h : apartBad f (ns.take k) = false) (h2 : ¬ f m.1 = f m.2) : apartBad f (ns.take (k + 1)) = false := by
  rw [take_snoc' hm]
  unfold apartBad at *
  rw [List.any_append, h]
  simp [h2]
theorem apart_yes {f : Nat → Nat} {ns : List (Nat × Nat)} {m : Nat × Nat} (hm : ns[k]? = some m) (h2 : f m.1 = f m.2) : apartBad f ns = true := List.any_eq_true.2 ⟨m, List.mem_of_getElem? hm, by simp [h2]⟩
end
end Go.Kn
end
section
/- Results that lie in cells; pieces for append. -/
set_option linter.unusedVariables false
set_option linter.unusedSimpArgs false
namespace Go.Kn
open Go.RowKit
section
variable {P : Program} {n : Nat} {K : St} {w w0 : World} {fn : Func} {R : Ending → World → Prop} {S : Nat → Prop} {L : Hp}
theorem run_loadVarRow {b : Nat} {e ty : TypeId} {cs : Array Value} (hM : Mem w0 S w L) (i : Nat) (hi : L[i]? = some (b, .cells cs e (0, 0))) (hg : (isAgg ty).run P w = .ok true w) (hs : (sizeOf ty).run P w = .ok cs.size w) : (loadVar ty ⟨b, 0, none⟩).run P w = .ok (.agg cs) w := by
  have h := run_loadCells_list (P := P) w ⟨b, 0, none⟩ cs.toList (fun j v hv => by
    rw [add_row, Nat.zero_add]
    exact hM.cell i hi (by simpa using hv))
  simp only [loadVar, Sem.run_bind, hg, hs, Result.andThen_ok, if_true]
  simp only [Array.length_toList] at h
  simp [h]
theorem run_loadVar1 {b o : Nat} {e ty : TypeId} {cs : Array Value} {v : Value} (hM : Mem w0 S w L) (i : Nat) (hi : L[i]? = some (b, .cells cs e (0, 0))) (hv : cs[o]? = some v) (hg : (isAgg ty).run P w = .ok false w) : (loadVar ty ⟨b, o, none⟩).run P w = .ok v w := by
  have hc := hM.cell i hi hv
  simp only [loadVar, Sem.run_bind, hg, Result.andThen_ok, Bool.false_eq_true, if_false, Go.load]
  simp [Sem.run, hc]
theorem results_cell {t : Tmp} {ty : TypeId} {ad : Addr} {v : Value} {tmps : Array Value} (hr : fn.results = #[.cell t ty]) (ht : tmps[t]? = some (.pointer (some ad))) (hl : (loadVar ty ad).run P w = .ok v w) : (results fn tmps).run P w = .ok v w := by
  simp [results, hr, ht, asAddr, hl, Sem.run_bind]
theorem e_retC {t : Tmp} {ty : TypeId} {ad : Addr} {v : Value} (hr : fn.results = #[.cell t ty]) (hp : K.lookup t = some (.pointer (some ad))) (hl : (loadVar ty ad).run P w = .ok v w) (h : R (.returned v) w) : Ends n (bodyPost P fn R) .ret K w :=
  fun a ha => bodyPost_ret (results_cell hr (ha.knows t _ hp) hl) ha.defers h
theorem Mem.cells {b : Nat} {e : TypeId} {cs : Array Value} (hM : Mem w0 S w L) (i : Nat) (hi : L[i]? = some (b, .cells cs e (0, 0))) : ∀ j u, cs.toList[j]? = some u → w.cell? ((adr (some ⟨b, 0, none⟩)).add j) = some u := by
  intro j u hu
  simp only [adr, Option.getD_some]
  rw [add_row, Nat.zero_add]
  exact hM.cell i hi (by simpa using hu)
end
end Go.Kn
end
