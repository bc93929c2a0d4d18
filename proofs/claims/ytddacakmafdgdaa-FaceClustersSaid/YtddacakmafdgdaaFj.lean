/- Fj: what Go functions of this seat come to, printed by walk.py over the engine. -/
import Derived.Test.YtddacakmafdgdaaFi
import Derived.Test.YtddacakmafdgdaaGm
import Derived.Test.YtddacakmafdgdaaGn
set_option linter.unusedVariables false
set_option linter.unusedSimpArgs false
set_option maxRecDepth 100000
namespace Go.Proofs.Ytddacakmafdgdaa
open Go.RowKit Go.Kn

theorem merge_s (n tg ta : Nat) (rg ra : Nat → Nat) (g : Nat → Nat → Int) (a : Nat → Nat → Bool) (x y : Nat) (w : World) (hL : Kn.Holds w (TabH n tg ta rg ra g a)) (hx : x < n) (hy : y < n) (hn : n ≤ 300) :
    Calls Try.prog 54 #[Value.agg (#[Value.slice (some ⟨tg, 0, none⟩) n n, Value.slice (some ⟨ta, 0, none⟩) n n]), Value.int .i64 (x : Int), Value.int .i64 (y : Int)] w fun e w' => ∃ r, e = .returned r ∧ r = .tuple #[] ∧ Mem w (keys (TabH n tg ta rg ra g a)) w' (TabH n tg ta rg ra (mgG x y g n) (mgA x y a n)) := by
  refine calls_k (args := [Value.agg (#[Value.slice (some ⟨tg, 0, none⟩) n n, Value.slice (some ⟨ta, 0, none⟩) n n]), Value.int .i64 (x : Int), Value.int .i64 (y : Int)]) 83 [(0, Value.agg (#[Value.slice (some ⟨tg, 0, none⟩) n n, Value.slice (some ⟨ta, 0, none⟩) n n])), (1, Value.int .i64 (x : Int)), (2, Value.int .i64 (y : Int))] Try.func54 rfl rfl ⟨rfl, rfl, rfl, trivial⟩ ?_
  have hM := hL.mem
  refine k_seq ?_
  refine k_region ?_
  refine r_box hM rfl rfl ?_
  intro b3 w1 hM2 hb3
  replace hM2 : Mem w (keys (TabH n tg ta rg ra g a)) w1 ((b3, .cells (#[Value.slice (some ⟨tg, 0, none⟩) n n, Value.slice (some ⟨ta, 0, none⟩) n n]) 94 (0, 0)) :: (tg, .cells (topC n n rg) tInts (0, 0)) :: (ta, .cells (topC n n ra) tBools (0, 0)) :: (tabL tInt (.int .i64) n n rg g ++ tabL tBool .bool n n ra a)) := hM2
  refine r_nil ?_
  refine ends_sub [(1, Value.int .i64 (x : Int)), (2, Value.int .i64 (y : Int)), (3, Value.pointer (some ⟨b3, 0, none⟩))] ⟨rfl, rfl, rfl, trivial⟩ ?_
  refine e_then ?_
  refine k_seq ?_
  refine k_region ?_
  refine r_val (v := Value.pointer (some ⟨b3, 0, none⟩)) (w' := w1) rfl rfl (rfl) ?_
  refine r_val (v := Value.slice (some ⟨tg, 0, none⟩) n n) (w' := w1) rfl rfl (x_load (hM2.cell 0 rfl rfl) rfl rfl) ?_
  refine r_val (v := Value.int .i64 (n : Int)) (w' := w1) rfl rfl (x_len rfl rfl) ?_
  refine r_val (v := Value.int .i64 0) (w' := w1) rfl rfl (rfl) ?_
  refine r_nil ?_
  refine ends_sub [(1, Value.int .i64 (x : Int)), (2, Value.int .i64 (y : Int)), (3, Value.pointer (some ⟨b3, 0, none⟩)), (11, Value.int .i64 (n : Int)), (12, Value.int .i64 0)] ⟨rfl, rfl, rfl, rfl, rfl, trivial⟩ ?_
  refine e_then ?_
  refine k_block ?_
  refine k_loop (σ := Nat) (fun k => [(1, Value.int .i64 (x : Int)), (2, Value.int .i64 (y : Int)), (3, Value.pointer (some ⟨b3, 0, none⟩)), (11, Value.int .i64 (n : Int)), (12, Value.int .i64 (k : Int))]) (fun k w_ => Mem w (keys (TabH n tg ta rg ra g a)) w_ ((b3, .cells (#[Value.slice (some ⟨tg, 0, none⟩) n n, Value.slice (some ⟨ta, 0, none⟩) n n]) 94 (0, 0)) :: (tg, .cells (topC n n rg) tInts (0, 0)) :: (ta, .cells (topC n n ra) tBools (0, 0)) :: (tabL tInt (.int .i64) n n rg (mgG x y g k) ++ tabL tBool .bool n n ra (mgA x y a k))) ∧ k ≤ n) (fun k => n - k) 0 ⟨rfl, rfl, rfl, rfl, rfl, trivial⟩ ⟨hM2, Nat.zero_le _⟩ ?_
  rintro k w4 ⟨hM5, hk⟩
  refine wpK_sub [(1, Value.int .i64 (x : Int)), (2, Value.int .i64 (y : Int)), (3, Value.pointer (some ⟨b3, 0, none⟩)), (11, Value.int .i64 (n : Int)), (12, Value.int .i64 (k : Int))] ⟨rfl, rfl, rfl, rfl, rfl, trivial⟩ ?_
  refine k_seq ?_
  refine k_region ?_
  refine r_val (v := Value.bool (decide ((k : Int) < (n : Int)))) (w' := w4) rfl rfl (rfl) ?_
  refine r_nil ?_
  refine ends_sub [(1, Value.int .i64 (x : Int)), (2, Value.int .i64 (y : Int)), (3, Value.pointer (some ⟨b3, 0, none⟩)), (11, Value.int .i64 (n : Int)), (12, Value.int .i64 (k : Int)), (13, Value.bool (decide ((k : Int) < (n : Int))))] ⟨rfl, rfl, rfl, rfl, rfl, rfl, trivial⟩ ?_
  refine e_then ?_
  refine k_seq ?_
  refine k_cond rfl rfl (fun h => ?_) (fun h => ?_)
  · try simp only [decide_eq_true_eq, decide_eq_false_iff_not, Bool.and_eq_true, Bool.or_eq_true, Bool.or_eq_false_iff, Bool.not_eq_true', Bool.not_eq_false', beq_iff_eq, bne_iff_ne, beq_eq_false_iff_ne, bne_eq_false_iff_eq, Int.not_lt, Int.not_le, ne_eq, Bool.not_eq_true, Bool.not_eq_false] at h
    refine k_skip ?_
    refine e_then ?_
    refine k_seq ?_
    refine k_block ?_
    refine k_seq ?_
    refine k_region ?_
    refine r_val (v := Value.int .i64 (k : Int)) (w' := w4) rfl rfl (rfl) ?_
    refine r_val (v := Value.int .i64 (k : Int)) (w' := w4) rfl rfl (rfl) ?_
    refine r_nil ?_
    refine ends_sub [(1, Value.int .i64 (x : Int)), (2, Value.int .i64 (y : Int)), (3, Value.pointer (some ⟨b3, 0, none⟩)), (6, Value.int .i64 (k : Int)), (11, Value.int .i64 (n : Int)), (12, Value.int .i64 (k : Int))] ⟨rfl, rfl, rfl, rfl, rfl, rfl, trivial⟩ ?_
    refine e_then ?_
    refine k_seq ?_
    refine k_draw mixed [0, 1, 0, 7, 15, 0, 63, 127, 0, 256, 0, 1792, 3840, 0, 16128, 32512, 65535, 131071] [some (Value.pointer (some ⟨b3, 0, none⟩)), some (Value.slice (some ⟨tg, 0, none⟩) n n), some (Value.int .i64 (x : Int)), some (Value.pointer (some ⟨tg, x, none⟩)), some (Value.slice (some ⟨rg x, 0, none⟩) n n), some (Value.int .i64 (k : Int)), some (Value.pointer (some ⟨rg x, k, none⟩)), some (Value.int .i64 ((mgG x y g k) x k)), some (Value.pointer (some ⟨b3, 0, none⟩)), some (Value.slice (some ⟨tg, 0, none⟩) n n), some (Value.int .i64 (y : Int)), some (Value.pointer (some ⟨tg, y, none⟩)), some (Value.slice (some ⟨rg y, 0, none⟩) n n), some (Value.int .i64 (k : Int)), some (Value.pointer (some ⟨rg y, k, none⟩)), some (Value.int .i64 ((mgG x y g k) y k)), some (Value.int .i64 (min ((mgG x y g k) x k) ((mgG x y g k) y k))), some (Value.int .i64 (min ((mgG x y g k) x k) ((mgG x y g k) y k)))] (by kernel_rfl) (fun D V w_ => Mem w (keys (TabH n tg ta rg ra g a)) w_ ((b3, .cells (#[Value.slice (some ⟨tg, 0, none⟩) n n, Value.slice (some ⟨ta, 0, none⟩) n n]) 94 (0, 0)) :: (tg, .cells (topC n n rg) tInts (0, 0)) :: (ta, .cells (topC n n ra) tBools (0, 0)) :: (tabL tInt (.int .i64) n n rg (mgG x y g k) ++ tabL tBool .bool n n ra (mgA x y a k)))) (fun V => hM5.drew) ?_ ?_
    · refine ⟨?_, ?_, ?_, ?_, ?_, ?_, ?_, ?_, ?_, ?_, ?_, ?_, ?_, ?_, ?_, ?_, ?_, ?_, trivial⟩
      · intro D V w_ hd hi hM_
        refine goal_of [(3, Value.pointer (some ⟨b3, 0, none⟩))] rfl ⟨rfl, trivial⟩ rfl ?_
        exact run_val (Value.pointer (some ⟨b3, 0, none⟩)) (rfl) ⟨fun c h => Option.some.inj (Option.some.inj h), hM_⟩
      · intro D V w_ hd hi hM_
        refine goal_of [(15, Value.pointer (some ⟨b3, 0, none⟩))] rfl ⟨rfl, trivial⟩ rfl ?_
        exact run_val (Value.slice (some ⟨tg, 0, none⟩) n n) (x_load (hM_.cell 0 rfl rfl) rfl rfl) ⟨fun c h => Option.some.inj (Option.some.inj h), hM_⟩
      · intro D V w_ hd hi hM_
        refine goal_of [(1, Value.int .i64 (x : Int))] rfl ⟨rfl, trivial⟩ rfl ?_
        exact run_val (Value.int .i64 (x : Int)) (rfl) ⟨fun c h => Option.some.inj (Option.some.inj h), hM_⟩
      · intro D V w_ hd hi hM_
        refine goal_of [(16, Value.slice (some ⟨tg, 0, none⟩) n n), (17, Value.int .i64 (x : Int))] rfl ⟨rfl, rfl, trivial⟩ rfl ?_
        exact run_val (Value.pointer (some ⟨tg, x, none⟩)) (x_indexAddrL (i := x) (sz := 1) (by omega) rfl rfl rfl rfl (by omega)) ⟨fun c h => Option.some.inj (Option.some.inj h), hM_⟩
      · intro D V w_ hd hi hM_
        refine goal_of [(18, Value.pointer (some ⟨tg, x, none⟩))] rfl ⟨rfl, trivial⟩ rfl ?_
        exact run_val (Value.slice (some ⟨rg x, 0, none⟩) n n) (x_load (hM_.cell 1 rfl (topC_get (by omega) (by omega))) rfl rfl) ⟨fun c h => Option.some.inj (Option.some.inj h), hM_⟩
      · intro D V w_ hd hi hM_
        refine goal_of [(6, Value.int .i64 (k : Int))] rfl ⟨rfl, trivial⟩ rfl ?_
        exact run_val (Value.int .i64 (k : Int)) (rfl) ⟨fun c h => Option.some.inj (Option.some.inj h), hM_⟩
      · intro D V w_ hd hi hM_
        refine goal_of [(19, Value.slice (some ⟨rg x, 0, none⟩) n n), (20, Value.int .i64 (k : Int))] rfl ⟨rfl, rfl, trivial⟩ rfl ?_
        exact run_val (Value.pointer (some ⟨rg x, k, none⟩)) (x_indexAddrL (i := k) (sz := 1) (by omega) rfl rfl rfl rfl (by omega)) ⟨fun c h => Option.some.inj (Option.some.inj h), hM_⟩
      · intro D V w_ hd hi hM_
        refine goal_of [(21, Value.pointer (some ⟨rg x, k, none⟩))] rfl ⟨rfl, trivial⟩ rfl ?_
        exact run_val (Value.int .i64 ((mgG x y g k) x k)) (x_load (hM_.tcell (n := n) (enc := .int .i64) (g := (mgG x y g k)) (ty := tInt) (i := x) (List.mem_cons_of_mem _ (List.mem_cons_of_mem _ (List.mem_cons_of_mem _ (List.mem_append_left _ (tabL_mem (by omega)))))) (by omega)) rfl rfl) ⟨fun c h => Option.some.inj (Option.some.inj h), hM_⟩
      · intro D V w_ hd hi hM_
        refine goal_of [(3, Value.pointer (some ⟨b3, 0, none⟩))] rfl ⟨rfl, trivial⟩ rfl ?_
        exact run_val (Value.pointer (some ⟨b3, 0, none⟩)) (rfl) ⟨fun c h => Option.some.inj (Option.some.inj h), hM_⟩
      · intro D V w_ hd hi hM_
        refine goal_of [(23, Value.pointer (some ⟨b3, 0, none⟩))] rfl ⟨rfl, trivial⟩ rfl ?_
        exact run_val (Value.slice (some ⟨tg, 0, none⟩) n n) (x_load (hM_.cell 0 rfl rfl) rfl rfl) ⟨fun c h => Option.some.inj (Option.some.inj h), hM_⟩
      · intro D V w_ hd hi hM_
        refine goal_of [(2, Value.int .i64 (y : Int))] rfl ⟨rfl, trivial⟩ rfl ?_
        exact run_val (Value.int .i64 (y : Int)) (rfl) ⟨fun c h => Option.some.inj (Option.some.inj h), hM_⟩
      · intro D V w_ hd hi hM_
        refine goal_of [(24, Value.slice (some ⟨tg, 0, none⟩) n n), (25, Value.int .i64 (y : Int))] rfl ⟨rfl, rfl, trivial⟩ rfl ?_
        exact run_val (Value.pointer (some ⟨tg, y, none⟩)) (x_indexAddrL (i := y) (sz := 1) (by omega) rfl rfl rfl rfl (by omega)) ⟨fun c h => Option.some.inj (Option.some.inj h), hM_⟩
      · intro D V w_ hd hi hM_
        refine goal_of [(26, Value.pointer (some ⟨tg, y, none⟩))] rfl ⟨rfl, trivial⟩ rfl ?_
        exact run_val (Value.slice (some ⟨rg y, 0, none⟩) n n) (x_load (hM_.cell 1 rfl (topC_get (by omega) (by omega))) rfl rfl) ⟨fun c h => Option.some.inj (Option.some.inj h), hM_⟩
      · intro D V w_ hd hi hM_
        refine goal_of [(6, Value.int .i64 (k : Int))] rfl ⟨rfl, trivial⟩ rfl ?_
        exact run_val (Value.int .i64 (k : Int)) (rfl) ⟨fun c h => Option.some.inj (Option.some.inj h), hM_⟩
      · intro D V w_ hd hi hM_
        refine goal_of [(27, Value.slice (some ⟨rg y, 0, none⟩) n n), (28, Value.int .i64 (k : Int))] rfl ⟨rfl, rfl, trivial⟩ rfl ?_
        exact run_val (Value.pointer (some ⟨rg y, k, none⟩)) (x_indexAddrL (i := k) (sz := 1) (by omega) rfl rfl rfl rfl (by omega)) ⟨fun c h => Option.some.inj (Option.some.inj h), hM_⟩
      · intro D V w_ hd hi hM_
        refine goal_of [(29, Value.pointer (some ⟨rg y, k, none⟩))] rfl ⟨rfl, trivial⟩ rfl ?_
        exact run_val (Value.int .i64 ((mgG x y g k) y k)) (x_load (hM_.tcell (n := n) (enc := .int .i64) (g := (mgG x y g k)) (ty := tInt) (i := y) (List.mem_cons_of_mem _ (List.mem_cons_of_mem _ (List.mem_cons_of_mem _ (List.mem_append_left _ (tabL_mem (by omega)))))) (by omega)) rfl rfl) ⟨fun c h => Option.some.inj (Option.some.inj h), hM_⟩
      · intro D V w_ hd hi hM_
        refine goal_of [(22, Value.int .i64 ((mgG x y g k) x k)), (30, Value.int .i64 ((mgG x y g k) y k))] rfl ⟨rfl, rfl, trivial⟩ rfl ?_
        exact run_val (Value.int .i64 (min ((mgG x y g k) x k) ((mgG x y g k) y k))) (x_min rfl rfl) ⟨fun c h => Option.some.inj (Option.some.inj h), hM_⟩
      · intro D V w_ hd hi hM_
        refine goal_of [(31, Value.int .i64 (min ((mgG x y g k) x k) ((mgG x y g k) y k)))] rfl ⟨rfl, trivial⟩ rfl ?_
        exact run_val (Value.int .i64 (min ((mgG x y g k) x k) ((mgG x y g k) y k))) (rfl) ⟨fun c h => Option.some.inj (Option.some.inj h), hM_⟩
    intro D V w6 hall hM7
    refine ends_sub [(1, Value.int .i64 (x : Int)), (2, Value.int .i64 (y : Int)), (3, Value.pointer (some ⟨b3, 0, none⟩)), (6, Value.int .i64 (k : Int)), (7, Value.int .i64 (min ((mgG x y g k) x k) ((mgG x y g k) y k))), (11, Value.int .i64 (n : Int)), (12, Value.int .i64 (k : Int))] ⟨rfl, rfl, rfl, rfl, rfl, rfl, rfl, trivial⟩ ?_
    refine e_then ?_
    refine k_seq ?_
    refine k_drawL mixed [0, 1, 0, 7, 15, 0, 0, 64, 0, 448, 960, 0, 0, 0, 6143, 22527, 65535, 131071] [some (Value.pointer (some ⟨b3, 0, none⟩)), some (Value.slice (some ⟨tg, 0, none⟩) n n), some (Value.int .i64 (x : Int)), some (Value.pointer (some ⟨tg, x, none⟩)), some (Value.slice (some ⟨rg x, 0, none⟩) n n), some (Value.int .i64 (k : Int)), some (Value.pointer (some ⟨b3, 0, none⟩)), some (Value.slice (some ⟨tg, 0, none⟩) n n), some (Value.int .i64 (k : Int)), some (Value.pointer (some ⟨tg, k, none⟩)), some (Value.slice (some ⟨rg k, 0, none⟩) n n), some (Value.int .i64 (x : Int)), some (Value.int .i64 (min ((mgG x y g k) x k) ((mgG x y g k) y k))), some (Value.int .i64 (min ((mgG x y g k) x k) ((mgG x y g k) y k))), some (Value.pointer (some ⟨rg x, k, none⟩)), some (undef), some (Value.pointer (some ⟨rg k, x, none⟩)), some (undef)] (by kernel_rfl) 17 rfl (by kernel_rfl) (fun D V w_ => Mem w (keys (TabH n tg ta rg ra g a)) w_ ((b3, .cells (#[Value.slice (some ⟨tg, 0, none⟩) n n, Value.slice (some ⟨ta, 0, none⟩) n n]) 94 (0, 0)) :: (tg, .cells (topC n n rg) tInts (0, 0)) :: (ta, .cells (topC n n ra) tBools (0, 0)) :: (tabL tInt (.int .i64) n n rg (condU (D 15) x k (min (mgG x y g k x k) (mgG x y g k y k)) (mgG x y g k)) ++ tabL tBool .bool n n ra (mgA x y a k)))) (fun V w_ => Mem w (keys (TabH n tg ta rg ra g a)) w_ ((b3, .cells (#[Value.slice (some ⟨tg, 0, none⟩) n n, Value.slice (some ⟨ta, 0, none⟩) n n]) 94 (0, 0)) :: (tg, .cells (topC n n rg) tInts (0, 0)) :: (ta, .cells (topC n n ra) tBools (0, 0)) :: (tabL tInt (.int .i64) n n rg (upd2 (upd2 (mgG x y g k) x k (min (mgG x y g k x k) (mgG x y g k y k))) k x (min (mgG x y g k x k) (mgG x y g k y k))) ++ tabL tBool .bool n n ra (mgA x y a k)))) (fun V => hM7.drew) ?_ ?_
    · refine ⟨?_, ?_, ?_, ?_, ?_, ?_, ?_, ?_, ?_, ?_, ?_, ?_, ?_, ?_, ?_, ?_, ?_, ?_, trivial⟩
      · intro D V w_ hd hi hM_
        refine goal_of [(3, Value.pointer (some ⟨b3, 0, none⟩))] rfl ⟨rfl, trivial⟩ rfl ?_
        exact run_val (Value.pointer (some ⟨b3, 0, none⟩)) (rfl) ⟨fun c h => Option.some.inj (Option.some.inj h), hM_⟩
      · intro D V w_ hd hi hM_
        refine goal_of [(32, Value.pointer (some ⟨b3, 0, none⟩))] rfl ⟨rfl, trivial⟩ rfl ?_
        exact run_val (Value.slice (some ⟨tg, 0, none⟩) n n) (x_load (hM_.cell 0 rfl rfl) rfl rfl) ⟨fun c h => Option.some.inj (Option.some.inj h), hM_⟩
      · intro D V w_ hd hi hM_
        refine goal_of [(1, Value.int .i64 (x : Int))] rfl ⟨rfl, trivial⟩ rfl ?_
        exact run_val (Value.int .i64 (x : Int)) (rfl) ⟨fun c h => Option.some.inj (Option.some.inj h), hM_⟩
      · intro D V w_ hd hi hM_
        refine goal_of [(33, Value.slice (some ⟨tg, 0, none⟩) n n), (34, Value.int .i64 (x : Int))] rfl ⟨rfl, rfl, trivial⟩ rfl ?_
        exact run_val (Value.pointer (some ⟨tg, x, none⟩)) (x_indexAddrL (i := x) (sz := 1) (by omega) rfl rfl rfl rfl (by omega)) ⟨fun c h => Option.some.inj (Option.some.inj h), hM_⟩
      · intro D V w_ hd hi hM_
        refine goal_of [(35, Value.pointer (some ⟨tg, x, none⟩))] rfl ⟨rfl, trivial⟩ rfl ?_
        exact run_val (Value.slice (some ⟨rg x, 0, none⟩) n n) (x_load (hM_.cell 1 rfl (topC_get (by omega) (by omega))) rfl rfl) ⟨fun c h => Option.some.inj (Option.some.inj h), hM_⟩
      · intro D V w_ hd hi hM_
        refine goal_of [(6, Value.int .i64 (k : Int))] rfl ⟨rfl, trivial⟩ rfl ?_
        exact run_val (Value.int .i64 (k : Int)) (rfl) ⟨fun c h => Option.some.inj (Option.some.inj h), hM_⟩
      · intro D V w_ hd hi hM_
        refine goal_of [(3, Value.pointer (some ⟨b3, 0, none⟩))] rfl ⟨rfl, trivial⟩ rfl ?_
        exact run_val (Value.pointer (some ⟨b3, 0, none⟩)) (rfl) ⟨fun c h => Option.some.inj (Option.some.inj h), hM_⟩
      · intro D V w_ hd hi hM_
        refine goal_of [(38, Value.pointer (some ⟨b3, 0, none⟩))] rfl ⟨rfl, trivial⟩ rfl ?_
        exact run_val (Value.slice (some ⟨tg, 0, none⟩) n n) (x_load (hM_.cell 0 rfl rfl) rfl rfl) ⟨fun c h => Option.some.inj (Option.some.inj h), hM_⟩
      · intro D V w_ hd hi hM_
        refine goal_of [(6, Value.int .i64 (k : Int))] rfl ⟨rfl, trivial⟩ rfl ?_
        exact run_val (Value.int .i64 (k : Int)) (rfl) ⟨fun c h => Option.some.inj (Option.some.inj h), hM_⟩
      · intro D V w_ hd hi hM_
        refine goal_of [(39, Value.slice (some ⟨tg, 0, none⟩) n n), (40, Value.int .i64 (k : Int))] rfl ⟨rfl, rfl, trivial⟩ rfl ?_
        exact run_val (Value.pointer (some ⟨tg, k, none⟩)) (x_indexAddrL (i := k) (sz := 1) (by omega) rfl rfl rfl rfl (by omega)) ⟨fun c h => Option.some.inj (Option.some.inj h), hM_⟩
      · intro D V w_ hd hi hM_
        refine goal_of [(41, Value.pointer (some ⟨tg, k, none⟩))] rfl ⟨rfl, trivial⟩ rfl ?_
        exact run_val (Value.slice (some ⟨rg k, 0, none⟩) n n) (x_load (hM_.cell 1 rfl (topC_get (by omega) (by omega))) rfl rfl) ⟨fun c h => Option.some.inj (Option.some.inj h), hM_⟩
      · intro D V w_ hd hi hM_
        refine goal_of [(1, Value.int .i64 (x : Int))] rfl ⟨rfl, trivial⟩ rfl ?_
        exact run_val (Value.int .i64 (x : Int)) (rfl) ⟨fun c h => Option.some.inj (Option.some.inj h), hM_⟩
      · intro D V w_ hd hi hM_
        refine goal_of [(7, Value.int .i64 (min ((mgG x y g k) x k) ((mgG x y g k) y k)))] rfl ⟨rfl, trivial⟩ rfl ?_
        exact run_val (Value.int .i64 (min ((mgG x y g k) x k) ((mgG x y g k) y k))) (rfl) ⟨fun c h => Option.some.inj (Option.some.inj h), hM_⟩
      · intro D V w_ hd hi hM_
        refine goal_of [(7, Value.int .i64 (min ((mgG x y g k) x k) ((mgG x y g k) y k)))] rfl ⟨rfl, trivial⟩ rfl ?_
        exact run_val (Value.int .i64 (min ((mgG x y g k) x k) ((mgG x y g k) y k))) (rfl) ⟨fun c h => Option.some.inj (Option.some.inj h), hM_⟩
      · intro D V w_ hd hi hM_
        refine goal_of [(36, Value.slice (some ⟨rg x, 0, none⟩) n n), (37, Value.int .i64 (k : Int))] rfl ⟨rfl, rfl, trivial⟩ rfl ?_
        exact run_val (Value.pointer (some ⟨rg x, k, none⟩)) (x_indexAddrL (i := k) (sz := 1) (by omega) rfl rfl rfl rfl (by omega)) ⟨fun c h => Option.some.inj (Option.some.inj h), hM_⟩
      · intro D V w_ hd hi hM_
        refine goal_of [(44, Value.int .i64 (min ((mgG x y g k) x k) ((mgG x y g k) y k))), (46, Value.pointer (some ⟨rg x, k, none⟩))] rfl ⟨rfl, rfl, trivial⟩ rfl ?_
        rw [show D 15 = false from hi] at hM_
        exact o_storeT ([(b3, .cells (#[Value.slice (some ⟨tg, 0, none⟩) n n, Value.slice (some ⟨ta, 0, none⟩) n n]) 94 (0, 0)), (tg, .cells (topC n n rg) tInts (0, 0)), (ta, .cells (topC n n ra) tBools (0, 0))] : Hp) hM_ (by omega) (by omega) rfl rfl rfl rfl (fun w' h => ⟨fun c h => Option.some.inj (Option.some.inj h), h⟩)
      · intro D V w_ hd hi hM_
        refine goal_of [(42, Value.slice (some ⟨rg k, 0, none⟩) n n), (43, Value.int .i64 (x : Int))] rfl ⟨rfl, rfl, trivial⟩ rfl ?_
        exact run_val (Value.pointer (some ⟨rg k, x, none⟩)) (x_indexAddrL (i := x) (sz := 1) (by omega) rfl rfl rfl rfl (by omega)) ⟨fun c h => Option.some.inj (Option.some.inj h), hM_⟩
      · intro D V w_ hd hi hM_
        refine goal_of [(45, Value.int .i64 (min ((mgG x y g k) x k) ((mgG x y g k) y k))), (47, Value.pointer (some ⟨rg k, x, none⟩))] rfl ⟨rfl, rfl, trivial⟩ rfl ?_
        rw [hd 15 rfl] at hM_
        exact o_storeT ([(b3, .cells (#[Value.slice (some ⟨tg, 0, none⟩) n n, Value.slice (some ⟨ta, 0, none⟩) n n]) 94 (0, 0)), (tg, .cells (topC n n rg) tInts (0, 0)), (ta, .cells (topC n n ra) tBools (0, 0))] : Hp) hM_ (by omega) (by omega) rfl rfl rfl rfl (fun w' h => ⟨fun c h => Option.some.inj (Option.some.inj h), h⟩)
    intro V w12 hM13
    refine ends_sub [(1, Value.int .i64 (x : Int)), (2, Value.int .i64 (y : Int)), (3, Value.pointer (some ⟨b3, 0, none⟩)), (6, Value.int .i64 (k : Int)), (11, Value.int .i64 (n : Int)), (12, Value.int .i64 (k : Int))] ⟨rfl, rfl, rfl, rfl, rfl, rfl, trivial⟩ ?_
    refine e_then ?_
    refine k_seq ?_
    refine k_region ?_
    refine r_val (v := Value.pointer (some ⟨b3, 1, none⟩)) (w' := w12) rfl rfl (rfl) ?_
    refine r_val (v := Value.slice (some ⟨ta, 0, none⟩) n n) (w' := w12) rfl rfl (x_load (hM13.cell 0 rfl rfl) rfl rfl) ?_
    refine r_val (v := Value.int .i64 (x : Int)) (w' := w12) rfl rfl (rfl) ?_
    refine r_val (v := Value.pointer (some ⟨ta, x, none⟩)) (w' := w12) rfl rfl (x_indexAddrL (i := x) (sz := 1) (by omega) rfl rfl rfl rfl (by omega)) ?_
    refine r_val (v := Value.slice (some ⟨ra x, 0, none⟩) n n) (w' := w12) rfl rfl (x_load (hM13.cell 2 rfl (topC_get (by omega) (by omega))) rfl rfl) ?_
    refine r_val (v := Value.int .i64 (k : Int)) (w' := w12) rfl rfl (rfl) ?_
    refine r_val (v := Value.pointer (some ⟨ra x, k, none⟩)) (w' := w12) rfl rfl (x_indexAddrL (i := k) (sz := 1) (by omega) rfl rfl rfl rfl (by omega)) ?_
    refine r_val (v := Value.bool ((mgA x y a k) x k)) (w' := w12) rfl rfl (x_load (hM13.tcell (n := n) (enc := .bool) (g := (mgA x y a k)) (ty := tBool) (i := x) (List.mem_cons_of_mem _ (List.mem_cons_of_mem _ (List.mem_cons_of_mem _ (List.mem_append_right _ (tabL_mem (by omega)))))) (by omega)) rfl rfl) ?_
    refine r_val (v := Value.bool ((mgA x y a k) x k)) (w' := w12) rfl rfl (rfl) ?_
    rcases Bool.eq_false_or_eq_true ((mgA x y a k) x k) with g1 | g1
    · refine wpR_sub [(1, Value.int .i64 (x : Int)), (2, Value.int .i64 (y : Int)), (3, Value.pointer (some ⟨b3, 0, none⟩)), (6, Value.int .i64 (k : Int)), (11, Value.int .i64 (n : Int)), (12, Value.int .i64 (k : Int)), (56, Value.bool true)] ⟨rfl, rfl, rfl, rfl, rfl, rfl, congrArg (fun z => some (Value.bool z)) g1, trivial⟩ ?_
      refine r_no rfl rfl (by decide) rfl ?_
      refine r_no rfl rfl (by decide) rfl ?_
      refine r_no rfl rfl (by decide) rfl ?_
      refine r_no rfl rfl (by decide) rfl ?_
      refine r_no rfl rfl (by decide) rfl ?_
      refine r_no rfl rfl (by decide) rfl ?_
      refine r_no rfl rfl (by decide) rfl ?_
      refine r_no rfl rfl (by decide) rfl ?_
      refine r_val (v := Value.bool true) (w' := w12) rfl rfl (rfl) ?_
      refine r_val (v := Value.bool true) (w' := w12) rfl rfl (rfl) ?_
      refine r_nil ?_
      refine ends_sub [(1, Value.int .i64 (x : Int)), (2, Value.int .i64 (y : Int)), (3, Value.pointer (some ⟨b3, 0, none⟩)), (6, Value.int .i64 (k : Int)), (8, Value.bool true), (11, Value.int .i64 (n : Int)), (12, Value.int .i64 (k : Int))] ⟨rfl, rfl, rfl, rfl, rfl, rfl, rfl, trivial⟩ ?_
      refine e_then ?_
      refine k_drawL mixed [0, 1, 0, 7, 15, 0, 0, 64, 0, 448, 960, 0, 0, 0, 6143, 22527, 65535, 131071] [some (Value.pointer (some ⟨b3, 1, none⟩)), some (Value.slice (some ⟨ta, 0, none⟩) n n), some (Value.int .i64 (x : Int)), some (Value.pointer (some ⟨ta, x, none⟩)), some (Value.slice (some ⟨ra x, 0, none⟩) n n), some (Value.int .i64 (k : Int)), some (Value.pointer (some ⟨b3, 1, none⟩)), some (Value.slice (some ⟨ta, 0, none⟩) n n), some (Value.int .i64 (k : Int)), some (Value.pointer (some ⟨ta, k, none⟩)), some (Value.slice (some ⟨ra k, 0, none⟩) n n), some (Value.int .i64 (x : Int)), some (Value.bool true), some (Value.bool true), some (Value.pointer (some ⟨ra x, k, none⟩)), some (undef), some (Value.pointer (some ⟨ra k, x, none⟩)), some (undef)] (by kernel_rfl) 17 rfl (by kernel_rfl) (fun D V w_ => Mem w (keys (TabH n tg ta rg ra g a)) w_ ((b3, .cells (#[Value.slice (some ⟨tg, 0, none⟩) n n, Value.slice (some ⟨ta, 0, none⟩) n n]) 94 (0, 0)) :: (tg, .cells (topC n n rg) tInts (0, 0)) :: (ta, .cells (topC n n ra) tBools (0, 0)) :: (tabL tInt (.int .i64) n n rg (upd2 (upd2 (mgG x y g k) x k (min (mgG x y g k x k) (mgG x y g k y k))) k x (min (mgG x y g k x k) (mgG x y g k y k))) ++ tabL tBool .bool n n ra (condU (D 15) x k true (mgA x y a k))))) (fun V w_ => Mem w (keys (TabH n tg ta rg ra g a)) w_ ((b3, .cells (#[Value.slice (some ⟨tg, 0, none⟩) n n, Value.slice (some ⟨ta, 0, none⟩) n n]) 94 (0, 0)) :: (tg, .cells (topC n n rg) tInts (0, 0)) :: (ta, .cells (topC n n ra) tBools (0, 0)) :: (tabL tInt (.int .i64) n n rg (upd2 (upd2 (mgG x y g k) x k (min (mgG x y g k x k) (mgG x y g k y k))) k x (min (mgG x y g k x k) (mgG x y g k y k))) ++ tabL tBool .bool n n ra (upd2 (upd2 (mgA x y a k) x k true) k x true)))) (fun V => hM13.drew) ?_ ?_
      · refine ⟨?_, ?_, ?_, ?_, ?_, ?_, ?_, ?_, ?_, ?_, ?_, ?_, ?_, ?_, ?_, ?_, ?_, ?_, trivial⟩
        · intro D V w_ hd hi hM_
          refine goal_of [(3, Value.pointer (some ⟨b3, 0, none⟩))] rfl ⟨rfl, trivial⟩ rfl ?_
          exact run_val (Value.pointer (some ⟨b3, 1, none⟩)) (rfl) ⟨fun c h => Option.some.inj (Option.some.inj h), hM_⟩
        · intro D V w_ hd hi hM_
          refine goal_of [(66, Value.pointer (some ⟨b3, 1, none⟩))] rfl ⟨rfl, trivial⟩ rfl ?_
          exact run_val (Value.slice (some ⟨ta, 0, none⟩) n n) (x_load (hM_.cell 0 rfl rfl) rfl rfl) ⟨fun c h => Option.some.inj (Option.some.inj h), hM_⟩
        · intro D V w_ hd hi hM_
          refine goal_of [(1, Value.int .i64 (x : Int))] rfl ⟨rfl, trivial⟩ rfl ?_
          exact run_val (Value.int .i64 (x : Int)) (rfl) ⟨fun c h => Option.some.inj (Option.some.inj h), hM_⟩
        · intro D V w_ hd hi hM_
          refine goal_of [(67, Value.slice (some ⟨ta, 0, none⟩) n n), (68, Value.int .i64 (x : Int))] rfl ⟨rfl, rfl, trivial⟩ rfl ?_
          exact run_val (Value.pointer (some ⟨ta, x, none⟩)) (x_indexAddrL (i := x) (sz := 1) (by omega) rfl rfl rfl rfl (by omega)) ⟨fun c h => Option.some.inj (Option.some.inj h), hM_⟩
        · intro D V w_ hd hi hM_
          refine goal_of [(69, Value.pointer (some ⟨ta, x, none⟩))] rfl ⟨rfl, trivial⟩ rfl ?_
          exact run_val (Value.slice (some ⟨ra x, 0, none⟩) n n) (x_load (hM_.cell 2 rfl (topC_get (by omega) (by omega))) rfl rfl) ⟨fun c h => Option.some.inj (Option.some.inj h), hM_⟩
        · intro D V w_ hd hi hM_
          refine goal_of [(6, Value.int .i64 (k : Int))] rfl ⟨rfl, trivial⟩ rfl ?_
          exact run_val (Value.int .i64 (k : Int)) (rfl) ⟨fun c h => Option.some.inj (Option.some.inj h), hM_⟩
        · intro D V w_ hd hi hM_
          refine goal_of [(3, Value.pointer (some ⟨b3, 0, none⟩))] rfl ⟨rfl, trivial⟩ rfl ?_
          exact run_val (Value.pointer (some ⟨b3, 1, none⟩)) (rfl) ⟨fun c h => Option.some.inj (Option.some.inj h), hM_⟩
        · intro D V w_ hd hi hM_
          refine goal_of [(72, Value.pointer (some ⟨b3, 1, none⟩))] rfl ⟨rfl, trivial⟩ rfl ?_
          exact run_val (Value.slice (some ⟨ta, 0, none⟩) n n) (x_load (hM_.cell 0 rfl rfl) rfl rfl) ⟨fun c h => Option.some.inj (Option.some.inj h), hM_⟩
        · intro D V w_ hd hi hM_
          refine goal_of [(6, Value.int .i64 (k : Int))] rfl ⟨rfl, trivial⟩ rfl ?_
          exact run_val (Value.int .i64 (k : Int)) (rfl) ⟨fun c h => Option.some.inj (Option.some.inj h), hM_⟩
        · intro D V w_ hd hi hM_
          refine goal_of [(73, Value.slice (some ⟨ta, 0, none⟩) n n), (74, Value.int .i64 (k : Int))] rfl ⟨rfl, rfl, trivial⟩ rfl ?_
          exact run_val (Value.pointer (some ⟨ta, k, none⟩)) (x_indexAddrL (i := k) (sz := 1) (by omega) rfl rfl rfl rfl (by omega)) ⟨fun c h => Option.some.inj (Option.some.inj h), hM_⟩
        · intro D V w_ hd hi hM_
          refine goal_of [(75, Value.pointer (some ⟨ta, k, none⟩))] rfl ⟨rfl, trivial⟩ rfl ?_
          exact run_val (Value.slice (some ⟨ra k, 0, none⟩) n n) (x_load (hM_.cell 2 rfl (topC_get (by omega) (by omega))) rfl rfl) ⟨fun c h => Option.some.inj (Option.some.inj h), hM_⟩
        · intro D V w_ hd hi hM_
          refine goal_of [(1, Value.int .i64 (x : Int))] rfl ⟨rfl, trivial⟩ rfl ?_
          exact run_val (Value.int .i64 (x : Int)) (rfl) ⟨fun c h => Option.some.inj (Option.some.inj h), hM_⟩
        · intro D V w_ hd hi hM_
          refine goal_of [(8, Value.bool true)] rfl ⟨rfl, trivial⟩ rfl ?_
          exact run_val (Value.bool true) (rfl) ⟨fun c h => Option.some.inj (Option.some.inj h), hM_⟩
        · intro D V w_ hd hi hM_
          refine goal_of [(8, Value.bool true)] rfl ⟨rfl, trivial⟩ rfl ?_
          exact run_val (Value.bool true) (rfl) ⟨fun c h => Option.some.inj (Option.some.inj h), hM_⟩
        · intro D V w_ hd hi hM_
          refine goal_of [(70, Value.slice (some ⟨ra x, 0, none⟩) n n), (71, Value.int .i64 (k : Int))] rfl ⟨rfl, rfl, trivial⟩ rfl ?_
          exact run_val (Value.pointer (some ⟨ra x, k, none⟩)) (x_indexAddrL (i := k) (sz := 1) (by omega) rfl rfl rfl rfl (by omega)) ⟨fun c h => Option.some.inj (Option.some.inj h), hM_⟩
        · intro D V w_ hd hi hM_
          refine goal_of [(78, Value.bool true), (80, Value.pointer (some ⟨ra x, k, none⟩))] rfl ⟨rfl, rfl, trivial⟩ rfl ?_
          rw [show D 15 = false from hi] at hM_
          exact o_storeT2 ([(b3, .cells (#[Value.slice (some ⟨tg, 0, none⟩) n n, Value.slice (some ⟨ta, 0, none⟩) n n]) 94 (0, 0)), (tg, .cells (topC n n rg) tInts (0, 0)), (ta, .cells (topC n n ra) tBools (0, 0))] : Hp) hM_ (by omega) (by omega) rfl rfl rfl rfl (fun w' h => ⟨fun c h => Option.some.inj (Option.some.inj h), h⟩)
        · intro D V w_ hd hi hM_
          refine goal_of [(76, Value.slice (some ⟨ra k, 0, none⟩) n n), (77, Value.int .i64 (x : Int))] rfl ⟨rfl, rfl, trivial⟩ rfl ?_
          exact run_val (Value.pointer (some ⟨ra k, x, none⟩)) (x_indexAddrL (i := x) (sz := 1) (by omega) rfl rfl rfl rfl (by omega)) ⟨fun c h => Option.some.inj (Option.some.inj h), hM_⟩
        · intro D V w_ hd hi hM_
          refine goal_of [(79, Value.bool true), (81, Value.pointer (some ⟨ra k, x, none⟩))] rfl ⟨rfl, rfl, trivial⟩ rfl ?_
          rw [hd 15 rfl] at hM_
          exact o_storeT2 ([(b3, .cells (#[Value.slice (some ⟨tg, 0, none⟩) n n, Value.slice (some ⟨ta, 0, none⟩) n n]) 94 (0, 0)), (tg, .cells (topC n n rg) tInts (0, 0)), (ta, .cells (topC n n ra) tBools (0, 0))] : Hp) hM_ (by omega) (by omega) rfl rfl rfl rfl (fun w' h => ⟨fun c h => Option.some.inj (Option.some.inj h), h⟩)
      intro V w19 hM20
      refine ends_sub [(1, Value.int .i64 (x : Int)), (2, Value.int .i64 (y : Int)), (3, Value.pointer (some ⟨b3, 0, none⟩)), (11, Value.int .i64 (n : Int)), (12, Value.int .i64 (k : Int))] ⟨rfl, rfl, rfl, rfl, rfl, trivial⟩ ?_
      refine e_blk ?_
      refine e_then ?_
      refine k_region ?_
      refine r_val (v := Value.int .i64 ((k : Int) + 1)) (w' := w19) rfl rfl (x_addE rfl (by omega) (by omega) rfl rfl) ?_
      refine r_val (v := Value.int .i64 ((k : Int) + 1)) (w' := w19) rfl rfl (rfl) ?_
      refine r_nil ?_
      refine ends_sub [(1, Value.int .i64 (x : Int)), (2, Value.int .i64 (y : Int)), (3, Value.pointer (some ⟨b3, 0, none⟩)), (11, Value.int .i64 (n : Int)), (12, Value.int .i64 ((k : Int) + 1))] ⟨rfl, rfl, rfl, rfl, rfl, trivial⟩ ?_
      refine e_loop (k + 1) ⟨rfl, rfl, rfl, rfl, rfl, trivial⟩ ?_ ?_
      · exact ⟨by rw [mgA_true g1]; exact hM20, by omega⟩
      · (try dsimp only); omega
    · refine wpR_sub [(1, Value.int .i64 (x : Int)), (2, Value.int .i64 (y : Int)), (3, Value.pointer (some ⟨b3, 0, none⟩)), (6, Value.int .i64 (k : Int)), (11, Value.int .i64 (n : Int)), (12, Value.int .i64 (k : Int)), (56, Value.bool false)] ⟨rfl, rfl, rfl, rfl, rfl, rfl, congrArg (fun z => some (Value.bool z)) g1, trivial⟩ ?_
      refine r_yes rfl rfl ?_
      refine r_val (v := Value.pointer (some ⟨b3, 1, none⟩)) (w' := w12) rfl rfl (rfl) ?_
      refine r_yes rfl rfl ?_
      refine r_val (v := Value.slice (some ⟨ta, 0, none⟩) n n) (w' := w12) rfl rfl (x_load (hM13.cell 0 rfl rfl) rfl rfl) ?_
      refine r_yes rfl rfl ?_
      refine r_val (v := Value.int .i64 (y : Int)) (w' := w12) rfl rfl (rfl) ?_
      refine r_yes rfl rfl ?_
      refine r_val (v := Value.pointer (some ⟨ta, y, none⟩)) (w' := w12) rfl rfl (x_indexAddrL (i := y) (sz := 1) (by omega) rfl rfl rfl rfl (by omega)) ?_
      refine r_yes rfl rfl ?_
      refine r_val (v := Value.slice (some ⟨ra y, 0, none⟩) n n) (w' := w12) rfl rfl (x_load (hM13.cell 2 rfl (topC_get (by omega) (by omega))) rfl rfl) ?_
      refine r_yes rfl rfl ?_
      refine r_val (v := Value.int .i64 (k : Int)) (w' := w12) rfl rfl (rfl) ?_
      refine r_yes rfl rfl ?_
      refine r_val (v := Value.pointer (some ⟨ra y, k, none⟩)) (w' := w12) rfl rfl (x_indexAddrL (i := k) (sz := 1) (by omega) rfl rfl rfl rfl (by omega)) ?_
      refine r_yes rfl rfl ?_
      refine r_val (v := Value.bool ((mgA x y a k) y k)) (w' := w12) rfl rfl (x_load (hM13.tcell (n := n) (enc := .bool) (g := (mgA x y a k)) (ty := tBool) (i := y) (List.mem_cons_of_mem _ (List.mem_cons_of_mem _ (List.mem_cons_of_mem _ (List.mem_append_right _ (tabL_mem (by omega)))))) (by omega)) rfl rfl) ?_
      refine r_val (v := Value.bool ((mgA x y a k) y k)) (w' := w12) rfl rfl (rfl) ?_
      refine r_val (v := Value.bool ((mgA x y a k) y k)) (w' := w12) rfl rfl (rfl) ?_
      refine r_nil ?_
      refine ends_sub [(1, Value.int .i64 (x : Int)), (2, Value.int .i64 (y : Int)), (3, Value.pointer (some ⟨b3, 0, none⟩)), (6, Value.int .i64 (k : Int)), (8, Value.bool ((mgA x y a k) y k)), (11, Value.int .i64 (n : Int)), (12, Value.int .i64 (k : Int))] ⟨rfl, rfl, rfl, rfl, rfl, rfl, rfl, trivial⟩ ?_
      refine e_then ?_
      refine k_drawL mixed [0, 1, 0, 7, 15, 0, 0, 64, 0, 448, 960, 0, 0, 0, 6143, 22527, 65535, 131071] [some (Value.pointer (some ⟨b3, 1, none⟩)), some (Value.slice (some ⟨ta, 0, none⟩) n n), some (Value.int .i64 (x : Int)), some (Value.pointer (some ⟨ta, x, none⟩)), some (Value.slice (some ⟨ra x, 0, none⟩) n n), some (Value.int .i64 (k : Int)), some (Value.pointer (some ⟨b3, 1, none⟩)), some (Value.slice (some ⟨ta, 0, none⟩) n n), some (Value.int .i64 (k : Int)), some (Value.pointer (some ⟨ta, k, none⟩)), some (Value.slice (some ⟨ra k, 0, none⟩) n n), some (Value.int .i64 (x : Int)), some (Value.bool ((mgA x y a k) y k)), some (Value.bool ((mgA x y a k) y k)), some (Value.pointer (some ⟨ra x, k, none⟩)), some (undef), some (Value.pointer (some ⟨ra k, x, none⟩)), some (undef)] (by kernel_rfl) 17 rfl (by kernel_rfl) (fun D V w_ => Mem w (keys (TabH n tg ta rg ra g a)) w_ ((b3, .cells (#[Value.slice (some ⟨tg, 0, none⟩) n n, Value.slice (some ⟨ta, 0, none⟩) n n]) 94 (0, 0)) :: (tg, .cells (topC n n rg) tInts (0, 0)) :: (ta, .cells (topC n n ra) tBools (0, 0)) :: (tabL tInt (.int .i64) n n rg (upd2 (upd2 (mgG x y g k) x k (min (mgG x y g k x k) (mgG x y g k y k))) k x (min (mgG x y g k x k) (mgG x y g k y k))) ++ tabL tBool .bool n n ra (condU (D 15) x k (mgA x y a k y k) (mgA x y a k))))) (fun V w_ => Mem w (keys (TabH n tg ta rg ra g a)) w_ ((b3, .cells (#[Value.slice (some ⟨tg, 0, none⟩) n n, Value.slice (some ⟨ta, 0, none⟩) n n]) 94 (0, 0)) :: (tg, .cells (topC n n rg) tInts (0, 0)) :: (ta, .cells (topC n n ra) tBools (0, 0)) :: (tabL tInt (.int .i64) n n rg (upd2 (upd2 (mgG x y g k) x k (min (mgG x y g k x k) (mgG x y g k y k))) k x (min (mgG x y g k x k) (mgG x y g k y k))) ++ tabL tBool .bool n n ra (upd2 (upd2 (mgA x y a k) x k (mgA x y a k y k)) k x (mgA x y a k y k))))) (fun V => hM13.drew) ?_ ?_
      · refine ⟨?_, ?_, ?_, ?_, ?_, ?_, ?_, ?_, ?_, ?_, ?_, ?_, ?_, ?_, ?_, ?_, ?_, ?_, trivial⟩
        · intro D V w_ hd hi hM_
          refine goal_of [(3, Value.pointer (some ⟨b3, 0, none⟩))] rfl ⟨rfl, trivial⟩ rfl ?_
          exact run_val (Value.pointer (some ⟨b3, 1, none⟩)) (rfl) ⟨fun c h => Option.some.inj (Option.some.inj h), hM_⟩
        · intro D V w_ hd hi hM_
          refine goal_of [(66, Value.pointer (some ⟨b3, 1, none⟩))] rfl ⟨rfl, trivial⟩ rfl ?_
          exact run_val (Value.slice (some ⟨ta, 0, none⟩) n n) (x_load (hM_.cell 0 rfl rfl) rfl rfl) ⟨fun c h => Option.some.inj (Option.some.inj h), hM_⟩
        · intro D V w_ hd hi hM_
          refine goal_of [(1, Value.int .i64 (x : Int))] rfl ⟨rfl, trivial⟩ rfl ?_
          exact run_val (Value.int .i64 (x : Int)) (rfl) ⟨fun c h => Option.some.inj (Option.some.inj h), hM_⟩
        · intro D V w_ hd hi hM_
          refine goal_of [(67, Value.slice (some ⟨ta, 0, none⟩) n n), (68, Value.int .i64 (x : Int))] rfl ⟨rfl, rfl, trivial⟩ rfl ?_
          exact run_val (Value.pointer (some ⟨ta, x, none⟩)) (x_indexAddrL (i := x) (sz := 1) (by omega) rfl rfl rfl rfl (by omega)) ⟨fun c h => Option.some.inj (Option.some.inj h), hM_⟩
        · intro D V w_ hd hi hM_
          refine goal_of [(69, Value.pointer (some ⟨ta, x, none⟩))] rfl ⟨rfl, trivial⟩ rfl ?_
          exact run_val (Value.slice (some ⟨ra x, 0, none⟩) n n) (x_load (hM_.cell 2 rfl (topC_get (by omega) (by omega))) rfl rfl) ⟨fun c h => Option.some.inj (Option.some.inj h), hM_⟩
        · intro D V w_ hd hi hM_
          refine goal_of [(6, Value.int .i64 (k : Int))] rfl ⟨rfl, trivial⟩ rfl ?_
          exact run_val (Value.int .i64 (k : Int)) (rfl) ⟨fun c h => Option.some.inj (Option.some.inj h), hM_⟩
        · intro D V w_ hd hi hM_
          refine goal_of [(3, Value.pointer (some ⟨b3, 0, none⟩))] rfl ⟨rfl, trivial⟩ rfl ?_
          exact run_val (Value.pointer (some ⟨b3, 1, none⟩)) (rfl) ⟨fun c h => Option.some.inj (Option.some.inj h), hM_⟩
        · intro D V w_ hd hi hM_
          refine goal_of [(72, Value.pointer (some ⟨b3, 1, none⟩))] rfl ⟨rfl, trivial⟩ rfl ?_
          exact run_val (Value.slice (some ⟨ta, 0, none⟩) n n) (x_load (hM_.cell 0 rfl rfl) rfl rfl) ⟨fun c h => Option.some.inj (Option.some.inj h), hM_⟩
        · intro D V w_ hd hi hM_
          refine goal_of [(6, Value.int .i64 (k : Int))] rfl ⟨rfl, trivial⟩ rfl ?_
          exact run_val (Value.int .i64 (k : Int)) (rfl) ⟨fun c h => Option.some.inj (Option.some.inj h), hM_⟩
        · intro D V w_ hd hi hM_
          refine goal_of [(73, Value.slice (some ⟨ta, 0, none⟩) n n), (74, Value.int .i64 (k : Int))] rfl ⟨rfl, rfl, trivial⟩ rfl ?_
          exact run_val (Value.pointer (some ⟨ta, k, none⟩)) (x_indexAddrL (i := k) (sz := 1) (by omega) rfl rfl rfl rfl (by omega)) ⟨fun c h => Option.some.inj (Option.some.inj h), hM_⟩
        · intro D V w_ hd hi hM_
          refine goal_of [(75, Value.pointer (some ⟨ta, k, none⟩))] rfl ⟨rfl, trivial⟩ rfl ?_
          exact run_val (Value.slice (some ⟨ra k, 0, none⟩) n n) (x_load (hM_.cell 2 rfl (topC_get (by omega) (by omega))) rfl rfl) ⟨fun c h => Option.some.inj (Option.some.inj h), hM_⟩
        · intro D V w_ hd hi hM_
          refine goal_of [(1, Value.int .i64 (x : Int))] rfl ⟨rfl, trivial⟩ rfl ?_
          exact run_val (Value.int .i64 (x : Int)) (rfl) ⟨fun c h => Option.some.inj (Option.some.inj h), hM_⟩
        · intro D V w_ hd hi hM_
          refine goal_of [(8, Value.bool ((mgA x y a k) y k))] rfl ⟨rfl, trivial⟩ rfl ?_
          exact run_val (Value.bool ((mgA x y a k) y k)) (rfl) ⟨fun c h => Option.some.inj (Option.some.inj h), hM_⟩
        · intro D V w_ hd hi hM_
          refine goal_of [(8, Value.bool ((mgA x y a k) y k))] rfl ⟨rfl, trivial⟩ rfl ?_
          exact run_val (Value.bool ((mgA x y a k) y k)) (rfl) ⟨fun c h => Option.some.inj (Option.some.inj h), hM_⟩
        · intro D V w_ hd hi hM_
          refine goal_of [(70, Value.slice (some ⟨ra x, 0, none⟩) n n), (71, Value.int .i64 (k : Int))] rfl ⟨rfl, rfl, trivial⟩ rfl ?_
          exact run_val (Value.pointer (some ⟨ra x, k, none⟩)) (x_indexAddrL (i := k) (sz := 1) (by omega) rfl rfl rfl rfl (by omega)) ⟨fun c h => Option.some.inj (Option.some.inj h), hM_⟩
        · intro D V w_ hd hi hM_
          refine goal_of [(78, Value.bool ((mgA x y a k) y k)), (80, Value.pointer (some ⟨ra x, k, none⟩))] rfl ⟨rfl, rfl, trivial⟩ rfl ?_
          rw [show D 15 = false from hi] at hM_
          exact o_storeT2 ([(b3, .cells (#[Value.slice (some ⟨tg, 0, none⟩) n n, Value.slice (some ⟨ta, 0, none⟩) n n]) 94 (0, 0)), (tg, .cells (topC n n rg) tInts (0, 0)), (ta, .cells (topC n n ra) tBools (0, 0))] : Hp) hM_ (by omega) (by omega) rfl rfl rfl rfl (fun w' h => ⟨fun c h => Option.some.inj (Option.some.inj h), h⟩)
        · intro D V w_ hd hi hM_
          refine goal_of [(76, Value.slice (some ⟨ra k, 0, none⟩) n n), (77, Value.int .i64 (x : Int))] rfl ⟨rfl, rfl, trivial⟩ rfl ?_
          exact run_val (Value.pointer (some ⟨ra k, x, none⟩)) (x_indexAddrL (i := x) (sz := 1) (by omega) rfl rfl rfl rfl (by omega)) ⟨fun c h => Option.some.inj (Option.some.inj h), hM_⟩
        · intro D V w_ hd hi hM_
          refine goal_of [(79, Value.bool ((mgA x y a k) y k)), (81, Value.pointer (some ⟨ra k, x, none⟩))] rfl ⟨rfl, rfl, trivial⟩ rfl ?_
          rw [hd 15 rfl] at hM_
          exact o_storeT2 ([(b3, .cells (#[Value.slice (some ⟨tg, 0, none⟩) n n, Value.slice (some ⟨ta, 0, none⟩) n n]) 94 (0, 0)), (tg, .cells (topC n n rg) tInts (0, 0)), (ta, .cells (topC n n ra) tBools (0, 0))] : Hp) hM_ (by omega) (by omega) rfl rfl rfl rfl (fun w' h => ⟨fun c h => Option.some.inj (Option.some.inj h), h⟩)
      intro V w25 hM26
      refine ends_sub [(1, Value.int .i64 (x : Int)), (2, Value.int .i64 (y : Int)), (3, Value.pointer (some ⟨b3, 0, none⟩)), (11, Value.int .i64 (n : Int)), (12, Value.int .i64 (k : Int))] ⟨rfl, rfl, rfl, rfl, rfl, trivial⟩ ?_
      refine e_blk ?_
      refine e_then ?_
      refine k_region ?_
      refine r_val (v := Value.int .i64 ((k : Int) + 1)) (w' := w25) rfl rfl (x_addE rfl (by omega) (by omega) rfl rfl) ?_
      refine r_val (v := Value.int .i64 ((k : Int) + 1)) (w' := w25) rfl rfl (rfl) ?_
      refine r_nil ?_
      refine ends_sub [(1, Value.int .i64 (x : Int)), (2, Value.int .i64 (y : Int)), (3, Value.pointer (some ⟨b3, 0, none⟩)), (11, Value.int .i64 (n : Int)), (12, Value.int .i64 ((k : Int) + 1))] ⟨rfl, rfl, rfl, rfl, rfl, trivial⟩ ?_
      refine e_loop (k + 1) ⟨rfl, rfl, rfl, rfl, rfl, trivial⟩ ?_ ?_
      · exact ⟨by rw [mgA_false g1]; exact hM26, by omega⟩
      · (try dsimp only); omega
  · try simp only [decide_eq_true_eq, decide_eq_false_iff_not, Bool.and_eq_true, Bool.or_eq_true, Bool.or_eq_false_iff, Bool.not_eq_true', Bool.not_eq_false', beq_iff_eq, bne_iff_ne, beq_eq_false_iff_ne, bne_eq_false_iff_eq, Int.not_lt, Int.not_le, ne_eq, Bool.not_eq_true, Bool.not_eq_false] at h
    refine k_exit ?_
    refine e_then_exit ?_
    refine e_loop_exit ?_
    refine e_blk_exit ?_
    have hkn : k = n := by omega
    refine e_end0 rfl ?_
    exact ⟨_, rfl, rfl, by rw [hkn] at hM5; exact (hM5).tail⟩

theorem nearest_s (n tg ta : Nat) (rg ra : Nat → Nat) (g : Nat → Nat → Int) (a : Nat → Nat → Bool) (Af : Option Addr) (nf cf : Nat) (ks : List Nat) (limit : Int) (w : World) (hL : Kn.Holds w (TabH n tg ta rg ra g a)) (hf : RdE intE 1 w Af nf (natsI ks)) (hks : ∀ k ∈ ks, k < n) (hcf : nf ≤ cf) (hnf : nf ≤ 300) (hl0 : 0 ≤ limit) (hl1 : limit ≤ 774192) (hn : n ≤ 300) (hout : ∀ b, keys (TabH n tg ta rg ra g a) b → 0 < nf → b ≠ (adr Af).block) :
    Calls Try.prog 50 #[Value.agg (#[Value.slice (some ⟨tg, 0, none⟩) n n, Value.slice (some ⟨ta, 0, none⟩) n n]), Value.slice Af nf cf, Value.int .i64 limit] w fun e w' => ∃ r, e = .returned r ∧ ∃ (x y : Nat) (least : Int), r = .tuple #[.int .i64 (x : Int), .int .i64 (y : Int), .bool (decide (least ≤ limit))] ∧ Best g a limit ks (upP nf nf 0) x y least ∧ Mem w No w' [] := by
  refine calls_k (args := [Value.agg (#[Value.slice (some ⟨tg, 0, none⟩) n n, Value.slice (some ⟨ta, 0, none⟩) n n]), Value.slice Af nf cf, Value.int .i64 limit]) 70 [(0, Value.agg (#[Value.slice (some ⟨tg, 0, none⟩) n n, Value.slice (some ⟨ta, 0, none⟩) n n])), (1, Value.slice Af nf cf), (2, Value.int .i64 limit)] Try.func50 rfl rfl ⟨rfl, rfl, rfl, trivial⟩ ?_
  have hM := hL.mem
  have hfl := hf.len
  have hkl : ks.length = nf := by simpa [natsI] using hfl
  refine k_seq ?_
  refine k_region ?_
  refine r_box hM rfl rfl ?_
  intro b3 w1 hM2 hb3
  replace hM2 : Mem w (keys (TabH n tg ta rg ra g a)) w1 ((b3, .cells (#[Value.slice (some ⟨tg, 0, none⟩) n n, Value.slice (some ⟨ta, 0, none⟩) n n]) 94 (0, 0)) :: (tg, .cells (topC n n rg) tInts (0, 0)) :: (ta, .cells (topC n n ra) tBools (0, 0)) :: (tabL tInt (.int .i64) n n rg g ++ tabL tBool .bool n n ra a)) := hM2
  refine r_val (v := Value.int .i64 0) (w' := w1) rfl rfl (rfl) ?_
  refine r_val (v := Value.int .i64 0) (w' := w1) rfl rfl (rfl) ?_
  refine r_val (v := Value.bool false) (w' := w1) rfl rfl (rfl) ?_
  refine r_nil ?_
  refine ends_sub [(1, Value.slice Af nf cf), (2, Value.int .i64 limit), (3, Value.pointer (some ⟨b3, 0, none⟩)), (6, Value.int .i64 0), (7, Value.int .i64 0)] ⟨rfl, rfl, rfl, rfl, rfl, trivial⟩ ?_
  refine e_then ?_
  refine k_seq ?_
  refine k_region ?_
  refine r_val (v := Value.int .i64 limit) (w' := w1) rfl rfl (rfl) ?_
  refine r_val (v := Value.int .i64 (limit + 1)) (w' := w1) rfl rfl (x_addE rfl (by omega) (by omega) rfl rfl) ?_
  refine r_val (v := Value.int .i64 (limit + 1)) (w' := w1) rfl rfl (rfl) ?_
  refine r_nil ?_
  refine ends_sub [(1, Value.slice Af nf cf), (2, Value.int .i64 limit), (3, Value.pointer (some ⟨b3, 0, none⟩)), (6, Value.int .i64 0), (7, Value.int .i64 0), (9, Value.int .i64 (limit + 1))] ⟨rfl, rfl, rfl, rfl, rfl, rfl, trivial⟩ ?_
  refine e_then ?_
  refine k_seq ?_
  refine k_seq ?_
  refine k_region ?_
  refine r_val (v := Value.slice Af nf cf) (w' := w1) rfl rfl (rfl) ?_
  refine r_val (v := Value.int .i64 (nf : Int)) (w' := w1) rfl rfl (x_len rfl rfl) ?_
  refine r_val (v := Value.int .i64 0) (w' := w1) rfl rfl (rfl) ?_
  refine r_nil ?_
  refine ends_sub [(1, Value.slice Af nf cf), (2, Value.int .i64 limit), (3, Value.pointer (some ⟨b3, 0, none⟩)), (6, Value.int .i64 0), (7, Value.int .i64 0), (9, Value.int .i64 (limit + 1)), (16, Value.slice Af nf cf), (17, Value.int .i64 (nf : Int)), (18, Value.int .i64 0)] ⟨rfl, rfl, rfl, rfl, rfl, rfl, rfl, rfl, rfl, trivial⟩ ?_
  refine e_then ?_
  refine k_block ?_
  refine k_loop (σ := Nat × Nat × Nat × Int) (fun ⟨i, x, y, least⟩ => [(1, Value.slice Af nf cf), (2, Value.int .i64 limit), (3, Value.pointer (some ⟨b3, 0, none⟩)), (6, Value.int .i64 (x : Int)), (7, Value.int .i64 (y : Int)), (9, Value.int .i64 least), (16, Value.slice Af nf cf), (17, Value.int .i64 (nf : Int)), (18, Value.int .i64 (i : Int))]) (fun ⟨i, x, y, least⟩ w_ => Mem w (keys (TabH n tg ta rg ra g a)) w_ ((b3, .cells (#[Value.slice (some ⟨tg, 0, none⟩) n n, Value.slice (some ⟨ta, 0, none⟩) n n]) 94 (0, 0)) :: (tg, .cells (topC n n rg) tInts (0, 0)) :: (ta, .cells (topC n n ra) tBools (0, 0)) :: (tabL tInt (.int .i64) n n rg g ++ tabL tBool .bool n n ra a)) ∧ i ≤ nf ∧ Best g a limit ks (upP nf i 0) x y least) (fun ⟨i, x, y, least⟩ => nf - i) (0, 0, 0, limit + 1) ⟨rfl, rfl, rfl, rfl, rfl, rfl, rfl, rfl, rfl, trivial⟩ ⟨hM2, Nat.zero_le _, best_none g a limit ks nf⟩ ?_
  rintro ⟨i, x, y, least⟩ w4 ⟨hM5, hi, hb⟩
  refine wpK_sub [(1, Value.slice Af nf cf), (2, Value.int .i64 limit), (3, Value.pointer (some ⟨b3, 0, none⟩)), (6, Value.int .i64 (x : Int)), (7, Value.int .i64 (y : Int)), (9, Value.int .i64 least), (16, Value.slice Af nf cf), (17, Value.int .i64 (nf : Int)), (18, Value.int .i64 (i : Int))] ⟨rfl, rfl, rfl, rfl, rfl, rfl, rfl, rfl, rfl, trivial⟩ ?_
  refine k_seq ?_
  refine k_region ?_
  refine r_val (v := Value.bool (decide ((i : Int) < (nf : Int)))) (w' := w4) rfl rfl (rfl) ?_
  refine r_nil ?_
  refine ends_sub [(1, Value.slice Af nf cf), (2, Value.int .i64 limit), (3, Value.pointer (some ⟨b3, 0, none⟩)), (6, Value.int .i64 (x : Int)), (7, Value.int .i64 (y : Int)), (9, Value.int .i64 least), (16, Value.slice Af nf cf), (17, Value.int .i64 (nf : Int)), (18, Value.int .i64 (i : Int)), (19, Value.bool (decide ((i : Int) < (nf : Int))))] ⟨rfl, rfl, rfl, rfl, rfl, rfl, rfl, rfl, rfl, rfl, trivial⟩ ?_
  refine e_then ?_
  refine k_seq ?_
  refine k_cond rfl rfl (fun h => ?_) (fun h => ?_)
  · try simp only [decide_eq_true_eq, decide_eq_false_iff_not, Bool.and_eq_true, Bool.or_eq_true, Bool.or_eq_false_iff, Bool.not_eq_true', Bool.not_eq_false', beq_iff_eq, bne_iff_ne, beq_eq_false_iff_ne, bne_eq_false_iff_eq, Int.not_lt, Int.not_le, ne_eq, Bool.not_eq_true, Bool.not_eq_false] at h
    refine k_skip ?_
    refine e_then ?_
    refine k_seq ?_
    refine k_block ?_
    refine k_seq ?_
    refine k_region ?_
    obtain ⟨u, hu⟩ : ∃ x, ks[i]? = some x := ⟨ks[i]'(by omega), by simp⟩
    have hun := hks u (List.mem_of_getElem? hu)
    have hfw := hf.upS hM5 (fun hS => hout _ hS (by omega) rfl)
    refine r_val (v := Value.int .i64 (i : Int)) (w' := w4) rfl rfl (rfl) ?_
    refine r_val (v := Value.pointer (some ((adr Af).add (i * 1)))) (w' := w4) rfl rfl (x_indexAddrN (i := i) (sz := 1) hf.here (by omega) rfl rfl rfl rfl) ?_
    refine r_val (v := Value.int .i64 (u : Int)) (w' := w4) rfl rfl (x_loadEInt (hf.upS hM5 (fun hS => hout _ hS (by omega) rfl)) (natsI_get hu) rfl rfl) ?_
    obtain ⟨A2, hA2⟩ : ∃ A2, A2 = (if cf = i + 1 then Af else Af.map (·.add ((i + 1) * 1))) := ⟨_, rfl⟩
    refine r_val (v := Value.int .i64 (i : Int)) (w' := w4) rfl rfl (rfl) ?_
    refine r_val (v := Value.int .i64 (u : Int)) (w' := w4) rfl rfl (rfl) ?_
    refine r_nil ?_
    refine ends_sub [(1, Value.slice Af nf cf), (2, Value.int .i64 limit), (3, Value.pointer (some ⟨b3, 0, none⟩)), (6, Value.int .i64 (x : Int)), (7, Value.int .i64 (y : Int)), (9, Value.int .i64 least), (10, Value.int .i64 (i : Int)), (11, Value.int .i64 (u : Int)), (16, Value.slice Af nf cf), (17, Value.int .i64 (nf : Int)), (18, Value.int .i64 (i : Int))] ⟨rfl, rfl, rfl, rfl, rfl, rfl, rfl, rfl, rfl, rfl, rfl, trivial⟩ ?_
    refine e_then ?_
    refine k_seq ?_
    refine k_region ?_
    refine r_val (v := Value.slice Af nf cf) (w' := w4) rfl rfl (rfl) ?_
    refine r_val (v := Value.int .i64 (i : Int)) (w' := w4) rfl rfl (rfl) ?_
    refine r_val (v := Value.int .i64 ((i + 1 : Nat) : Int)) (w' := w4) rfl rfl (x_addE (by omega) (by omega) (by omega) rfl rfl) ?_
    refine r_val (v := Value.slice A2 (nf - (i + 1)) (cf - (i + 1))) (w' := w4) rfl rfl (by rw [hA2]; exact x_sliceLow (by omega) rfl rfl rfl rfl) ?_
    have hrd2 := hfw.dropN (i + 1) (by omega) A2 (fun hlt => by rw [hA2, if_neg (by omega)])
    have hblk : ∀ hp : 0 < nf - (i + 1), (adr A2).block = (adr Af).block := fun hp => by rw [hA2, if_neg (by omega)]; obtain ⟨ad, hAd⟩ := Option.isSome_iff_exists.1 (hf.here (by omega)); rw [hAd]; simp only [adr, Option.map_some, Option.getD_some]; unfold Addr.add; split <;> rfl
    refine r_val (v := Value.int .i64 (((nf - (i + 1)) : Nat) : Int)) (w' := w4) rfl rfl (x_len rfl rfl) ?_
    refine r_val (v := Value.int .i64 0) (w' := w4) rfl rfl (rfl) ?_
    refine r_nil ?_
    refine ends_sub [(1, Value.slice Af nf cf), (2, Value.int .i64 limit), (3, Value.pointer (some ⟨b3, 0, none⟩)), (6, Value.int .i64 (x : Int)), (7, Value.int .i64 (y : Int)), (9, Value.int .i64 least), (11, Value.int .i64 (u : Int)), (16, Value.slice Af nf cf), (17, Value.int .i64 (nf : Int)), (18, Value.int .i64 (i : Int)), (26, Value.slice A2 (nf - (i + 1)) (cf - (i + 1))), (27, Value.int .i64 (((nf - (i + 1)) : Nat) : Int)), (28, Value.int .i64 0)] ⟨rfl, rfl, rfl, rfl, rfl, rfl, rfl, rfl, rfl, rfl, rfl, rfl, rfl, trivial⟩ ?_
    refine e_then ?_
    refine k_block ?_
    refine k_loop (σ := Nat × Nat × Nat × Int) (fun ⟨k, x, y, least⟩ => [(1, Value.slice Af nf cf), (2, Value.int .i64 limit), (3, Value.pointer (some ⟨b3, 0, none⟩)), (6, Value.int .i64 (x : Int)), (7, Value.int .i64 (y : Int)), (9, Value.int .i64 least), (11, Value.int .i64 (u : Int)), (16, Value.slice Af nf cf), (17, Value.int .i64 (nf : Int)), (18, Value.int .i64 (i : Int)), (26, Value.slice A2 (nf - (i + 1)) (cf - (i + 1))), (27, Value.int .i64 (((nf - (i + 1)) : Nat) : Int)), (28, Value.int .i64 (k : Int))]) (fun ⟨k, x, y, least⟩ w_ => Mem w (keys (TabH n tg ta rg ra g a)) w_ ((b3, .cells (#[Value.slice (some ⟨tg, 0, none⟩) n n, Value.slice (some ⟨ta, 0, none⟩) n n]) 94 (0, 0)) :: (tg, .cells (topC n n rg) tInts (0, 0)) :: (ta, .cells (topC n n ra) tBools (0, 0)) :: (tabL tInt (.int .i64) n n rg g ++ tabL tBool .bool n n ra a)) ∧ k ≤ nf - (i + 1) ∧ Best g a limit ks (upP nf i k) x y least) (fun ⟨k, x, y, least⟩ => nf - (i + 1) - k) (0, x, y, least) ⟨rfl, rfl, rfl, rfl, rfl, rfl, rfl, rfl, rfl, rfl, rfl, rfl, rfl, trivial⟩ ⟨hM5, Nat.zero_le _, hb⟩ ?_
    rintro ⟨k, x, y, least⟩ w6 ⟨hM7, hk, hb⟩
    refine wpK_sub [(1, Value.slice Af nf cf), (2, Value.int .i64 limit), (3, Value.pointer (some ⟨b3, 0, none⟩)), (6, Value.int .i64 (x : Int)), (7, Value.int .i64 (y : Int)), (9, Value.int .i64 least), (11, Value.int .i64 (u : Int)), (16, Value.slice Af nf cf), (17, Value.int .i64 (nf : Int)), (18, Value.int .i64 (i : Int)), (26, Value.slice A2 (nf - (i + 1)) (cf - (i + 1))), (27, Value.int .i64 (((nf - (i + 1)) : Nat) : Int)), (28, Value.int .i64 (k : Int))] ⟨rfl, rfl, rfl, rfl, rfl, rfl, rfl, rfl, rfl, rfl, rfl, rfl, rfl, trivial⟩ ?_
    refine k_seq ?_
    refine k_region ?_
    refine r_val (v := Value.bool (decide ((k : Int) < (((nf - (i + 1)) : Nat) : Int)))) (w' := w6) rfl rfl (rfl) ?_
    refine r_nil ?_
    refine ends_sub [(1, Value.slice Af nf cf), (2, Value.int .i64 limit), (3, Value.pointer (some ⟨b3, 0, none⟩)), (6, Value.int .i64 (x : Int)), (7, Value.int .i64 (y : Int)), (9, Value.int .i64 least), (11, Value.int .i64 (u : Int)), (16, Value.slice Af nf cf), (17, Value.int .i64 (nf : Int)), (18, Value.int .i64 (i : Int)), (26, Value.slice A2 (nf - (i + 1)) (cf - (i + 1))), (27, Value.int .i64 (((nf - (i + 1)) : Nat) : Int)), (28, Value.int .i64 (k : Int)), (29, Value.bool (decide ((k : Int) < (((nf - (i + 1)) : Nat) : Int))))] ⟨rfl, rfl, rfl, rfl, rfl, rfl, rfl, rfl, rfl, rfl, rfl, rfl, rfl, rfl, trivial⟩ ?_
    refine e_then ?_
    refine k_seq ?_
    refine k_cond rfl rfl (fun h2 => ?_) (fun h2 => ?_)
    · try simp only [decide_eq_true_eq, decide_eq_false_iff_not, Bool.and_eq_true, Bool.or_eq_true, Bool.or_eq_false_iff, Bool.not_eq_true', Bool.not_eq_false', beq_iff_eq, bne_iff_ne, beq_eq_false_iff_ne, bne_eq_false_iff_eq, Int.not_lt, Int.not_le, ne_eq, Bool.not_eq_true, Bool.not_eq_false] at h2
      refine k_skip ?_
      refine e_then ?_
      refine k_seq ?_
      refine k_block ?_
      refine k_seq ?_
      refine k_region ?_
      obtain ⟨v, hv⟩ : ∃ x, ks[i + 1 + k]? = some x := ⟨ks[i + 1 + k]'(by omega), by simp⟩
      have hvn := hks v (List.mem_of_getElem? hv)
      refine r_val (v := Value.pointer (some ((adr A2).add (k * 1)))) (w' := w6) rfl rfl (x_indexAddrN (i := k) (sz := 1) hrd2.here (by omega) rfl rfl rfl rfl) ?_
      refine r_val (v := Value.int .i64 (v : Int)) (w' := w6) rfl rfl (x_loadEInt ((hf.upS hM7 (fun hS => hout _ hS (by omega) rfl)).dropN (i + 1) (by omega) A2 (fun hlt => by rw [hA2, if_neg (by omega)])) (k := k) (by rw [List.getElem?_drop]; exact natsI_get hv) rfl rfl) ?_
      refine r_val (v := Value.int .i64 (v : Int)) (w' := w6) rfl rfl (rfl) ?_
      refine r_nil ?_
      refine ends_sub [(1, Value.slice Af nf cf), (2, Value.int .i64 limit), (3, Value.pointer (some ⟨b3, 0, none⟩)), (6, Value.int .i64 (x : Int)), (7, Value.int .i64 (y : Int)), (9, Value.int .i64 least), (11, Value.int .i64 (u : Int)), (13, Value.int .i64 (v : Int)), (16, Value.slice Af nf cf), (17, Value.int .i64 (nf : Int)), (18, Value.int .i64 (i : Int)), (26, Value.slice A2 (nf - (i + 1)) (cf - (i + 1))), (27, Value.int .i64 (((nf - (i + 1)) : Nat) : Int)), (28, Value.int .i64 (k : Int))] ⟨rfl, rfl, rfl, rfl, rfl, rfl, rfl, rfl, rfl, rfl, rfl, rfl, rfl, rfl, trivial⟩ ?_
      refine e_then ?_
      refine k_seq ?_
      refine k_region ?_
      refine r_val (v := Value.pointer (some ⟨b3, 1, none⟩)) (w' := w6) rfl rfl (rfl) ?_
      refine r_val (v := Value.slice (some ⟨ta, 0, none⟩) n n) (w' := w6) rfl rfl (x_load (hM7.cell 0 rfl rfl) rfl rfl) ?_
      refine r_val (v := Value.int .i64 (u : Int)) (w' := w6) rfl rfl (rfl) ?_
      refine r_val (v := Value.pointer (some ⟨ta, u, none⟩)) (w' := w6) rfl rfl (x_indexAddrL (i := u) (sz := 1) (by omega) rfl rfl rfl rfl (by omega)) ?_
      refine r_val (v := Value.slice (some ⟨ra u, 0, none⟩) n n) (w' := w6) rfl rfl (x_load (hM7.cell 2 rfl (topC_get (by omega) (by omega))) rfl rfl) ?_
      refine r_val (v := Value.int .i64 (v : Int)) (w' := w6) rfl rfl (rfl) ?_
      refine r_val (v := Value.pointer (some ⟨ra u, v, none⟩)) (w' := w6) rfl rfl (x_indexAddrL (i := v) (sz := 1) (by omega) rfl rfl rfl rfl (by omega)) ?_
      refine r_val (v := Value.bool (a u v)) (w' := w6) rfl rfl (x_load (hM7.tcell (n := n) (enc := .bool) (g := a) (ty := tBool) (i := u) (List.mem_cons_of_mem _ (List.mem_cons_of_mem _ (List.mem_cons_of_mem _ (List.mem_append_right _ (tabL_mem (by omega)))))) (by omega)) rfl rfl) ?_
      refine r_val (v := Value.bool (!(a u v))) (w' := w6) rfl rfl (rfl) ?_
      refine r_val (v := Value.bool (!(a u v))) (w' := w6) rfl rfl (rfl) ?_
      rcases Bool.eq_false_or_eq_true (!(a u v)) with g1 | g1
      · refine wpR_sub [(1, Value.slice Af nf cf), (2, Value.int .i64 limit), (3, Value.pointer (some ⟨b3, 0, none⟩)), (6, Value.int .i64 (x : Int)), (7, Value.int .i64 (y : Int)), (9, Value.int .i64 least), (11, Value.int .i64 (u : Int)), (13, Value.int .i64 (v : Int)), (16, Value.slice Af nf cf), (17, Value.int .i64 (nf : Int)), (18, Value.int .i64 (i : Int)), (26, Value.slice A2 (nf - (i + 1)) (cf - (i + 1))), (27, Value.int .i64 (((nf - (i + 1)) : Nat) : Int)), (28, Value.int .i64 (k : Int)), (41, Value.bool true)] ⟨rfl, rfl, rfl, rfl, rfl, rfl, rfl, rfl, rfl, rfl, rfl, rfl, rfl, rfl, congrArg (fun z => some (Value.bool z)) g1, trivial⟩ ?_
        refine r_yes rfl rfl ?_
        refine r_val (v := Value.pointer (some ⟨b3, 0, none⟩)) (w' := w6) rfl rfl (rfl) ?_
        refine r_yes rfl rfl ?_
        refine r_val (v := Value.slice (some ⟨tg, 0, none⟩) n n) (w' := w6) rfl rfl (x_load (hM7.cell 0 rfl rfl) rfl rfl) ?_
        refine r_yes rfl rfl ?_
        refine r_val (v := Value.int .i64 (u : Int)) (w' := w6) rfl rfl (rfl) ?_
        refine r_yes rfl rfl ?_
        refine r_val (v := Value.pointer (some ⟨tg, u, none⟩)) (w' := w6) rfl rfl (x_indexAddrL (i := u) (sz := 1) (by omega) rfl rfl rfl rfl (by omega)) ?_
        refine r_yes rfl rfl ?_
        refine r_val (v := Value.slice (some ⟨rg u, 0, none⟩) n n) (w' := w6) rfl rfl (x_load (hM7.cell 1 rfl (topC_get (by omega) (by omega))) rfl rfl) ?_
        refine r_yes rfl rfl ?_
        refine r_val (v := Value.int .i64 (v : Int)) (w' := w6) rfl rfl (rfl) ?_
        refine r_yes rfl rfl ?_
        refine r_val (v := Value.pointer (some ⟨rg u, v, none⟩)) (w' := w6) rfl rfl (x_indexAddrL (i := v) (sz := 1) (by omega) rfl rfl rfl rfl (by omega)) ?_
        refine r_yes rfl rfl ?_
        refine r_val (v := Value.int .i64 (g u v)) (w' := w6) rfl rfl (x_load (hM7.tcell (n := n) (enc := .int .i64) (g := g) (ty := tInt) (i := u) (List.mem_cons_of_mem _ (List.mem_cons_of_mem _ (List.mem_cons_of_mem _ (List.mem_append_left _ (tabL_mem (by omega)))))) (by omega)) rfl rfl) ?_
        refine r_yes rfl rfl ?_
        refine r_val (v := Value.int .i64 least) (w' := w6) rfl rfl (rfl) ?_
        refine r_yes rfl rfl ?_
        refine r_val (v := Value.bool (decide ((g u v) < least))) (w' := w6) rfl rfl (rfl) ?_
        refine r_val (v := Value.bool (decide ((g u v) < least))) (w' := w6) rfl rfl (rfl) ?_
        refine r_nil ?_
        refine ends_sub [(1, Value.slice Af nf cf), (2, Value.int .i64 limit), (3, Value.pointer (some ⟨b3, 0, none⟩)), (6, Value.int .i64 (x : Int)), (7, Value.int .i64 (y : Int)), (9, Value.int .i64 least), (11, Value.int .i64 (u : Int)), (13, Value.int .i64 (v : Int)), (16, Value.slice Af nf cf), (17, Value.int .i64 (nf : Int)), (18, Value.int .i64 (i : Int)), (26, Value.slice A2 (nf - (i + 1)) (cf - (i + 1))), (27, Value.int .i64 (((nf - (i + 1)) : Nat) : Int)), (28, Value.int .i64 (k : Int)), (52, Value.bool (decide ((g u v) < least)))] ⟨rfl, rfl, rfl, rfl, rfl, rfl, rfl, rfl, rfl, rfl, rfl, rfl, rfl, rfl, rfl, trivial⟩ ?_
        refine e_then ?_
        refine k_cond rfl rfl (fun h4 => ?_) (fun h4 => ?_)
        · try simp only [decide_eq_true_eq, decide_eq_false_iff_not, Bool.and_eq_true, Bool.or_eq_true, Bool.or_eq_false_iff, Bool.not_eq_true', Bool.not_eq_false', beq_iff_eq, bne_iff_ne, beq_eq_false_iff_ne, bne_eq_false_iff_eq, Int.not_lt, Int.not_le, ne_eq, Bool.not_eq_true, Bool.not_eq_false] at h4
          refine k_draw mixed [0, 0, 0, 4, 0, 28, 60, 0, 252, 508, 1, 1027, 4095] [some (Value.int .i64 (u : Int)), some (Value.int .i64 (v : Int)), some (Value.pointer (some ⟨b3, 0, none⟩)), some (Value.slice (some ⟨tg, 0, none⟩) n n), some (Value.int .i64 (u : Int)), some (Value.pointer (some ⟨tg, u, none⟩)), some (Value.slice (some ⟨rg u, 0, none⟩) n n), some (Value.int .i64 (v : Int)), some (Value.pointer (some ⟨rg u, v, none⟩)), some (Value.int .i64 (g u v)), some (Value.int .i64 (u : Int)), some (Value.int .i64 (v : Int)), some (Value.int .i64 (g u v))] (by kernel_rfl) (fun D V w_ => Mem w (keys (TabH n tg ta rg ra g a)) w_ ((b3, .cells (#[Value.slice (some ⟨tg, 0, none⟩) n n, Value.slice (some ⟨ta, 0, none⟩) n n]) 94 (0, 0)) :: (tg, .cells (topC n n rg) tInts (0, 0)) :: (ta, .cells (topC n n ra) tBools (0, 0)) :: (tabL tInt (.int .i64) n n rg g ++ tabL tBool .bool n n ra a))) (fun V => hM7.drew) ?_ ?_
          · refine ⟨?_, ?_, ?_, ?_, ?_, ?_, ?_, ?_, ?_, ?_, ?_, ?_, ?_, trivial⟩
            · intro D V w_ hd hi hM_
              refine goal_of [(11, Value.int .i64 (u : Int))] rfl ⟨rfl, trivial⟩ rfl ?_
              exact run_val (Value.int .i64 (u : Int)) (rfl) ⟨fun c h => Option.some.inj (Option.some.inj h), hM_⟩
            · intro D V w_ hd hi hM_
              refine goal_of [(13, Value.int .i64 (v : Int))] rfl ⟨rfl, trivial⟩ rfl ?_
              exact run_val (Value.int .i64 (v : Int)) (rfl) ⟨fun c h => Option.some.inj (Option.some.inj h), hM_⟩
            · intro D V w_ hd hi hM_
              refine goal_of [(3, Value.pointer (some ⟨b3, 0, none⟩))] rfl ⟨rfl, trivial⟩ rfl ?_
              exact run_val (Value.pointer (some ⟨b3, 0, none⟩)) (rfl) ⟨fun c h => Option.some.inj (Option.some.inj h), hM_⟩
            · intro D V w_ hd hi hM_
              refine goal_of [(55, Value.pointer (some ⟨b3, 0, none⟩))] rfl ⟨rfl, trivial⟩ rfl ?_
              exact run_val (Value.slice (some ⟨tg, 0, none⟩) n n) (x_load (hM_.cell 0 rfl rfl) rfl rfl) ⟨fun c h => Option.some.inj (Option.some.inj h), hM_⟩
            · intro D V w_ hd hi hM_
              refine goal_of [(11, Value.int .i64 (u : Int))] rfl ⟨rfl, trivial⟩ rfl ?_
              exact run_val (Value.int .i64 (u : Int)) (rfl) ⟨fun c h => Option.some.inj (Option.some.inj h), hM_⟩
            · intro D V w_ hd hi hM_
              refine goal_of [(56, Value.slice (some ⟨tg, 0, none⟩) n n), (57, Value.int .i64 (u : Int))] rfl ⟨rfl, rfl, trivial⟩ rfl ?_
              exact run_val (Value.pointer (some ⟨tg, u, none⟩)) (x_indexAddrL (i := u) (sz := 1) (by omega) rfl rfl rfl rfl (by omega)) ⟨fun c h => Option.some.inj (Option.some.inj h), hM_⟩
            · intro D V w_ hd hi hM_
              refine goal_of [(58, Value.pointer (some ⟨tg, u, none⟩))] rfl ⟨rfl, trivial⟩ rfl ?_
              exact run_val (Value.slice (some ⟨rg u, 0, none⟩) n n) (x_load (hM_.cell 1 rfl (topC_get (by omega) (by omega))) rfl rfl) ⟨fun c h => Option.some.inj (Option.some.inj h), hM_⟩
            · intro D V w_ hd hi hM_
              refine goal_of [(13, Value.int .i64 (v : Int))] rfl ⟨rfl, trivial⟩ rfl ?_
              exact run_val (Value.int .i64 (v : Int)) (rfl) ⟨fun c h => Option.some.inj (Option.some.inj h), hM_⟩
            · intro D V w_ hd hi hM_
              refine goal_of [(59, Value.slice (some ⟨rg u, 0, none⟩) n n), (60, Value.int .i64 (v : Int))] rfl ⟨rfl, rfl, trivial⟩ rfl ?_
              exact run_val (Value.pointer (some ⟨rg u, v, none⟩)) (x_indexAddrL (i := v) (sz := 1) (by omega) rfl rfl rfl rfl (by omega)) ⟨fun c h => Option.some.inj (Option.some.inj h), hM_⟩
            · intro D V w_ hd hi hM_
              refine goal_of [(61, Value.pointer (some ⟨rg u, v, none⟩))] rfl ⟨rfl, trivial⟩ rfl ?_
              exact run_val (Value.int .i64 (g u v)) (x_load (hM_.tcell (n := n) (enc := .int .i64) (g := g) (ty := tInt) (i := u) (List.mem_cons_of_mem _ (List.mem_cons_of_mem _ (List.mem_cons_of_mem _ (List.mem_append_left _ (tabL_mem (by omega)))))) (by omega)) rfl rfl) ⟨fun c h => Option.some.inj (Option.some.inj h), hM_⟩
            · intro D V w_ hd hi hM_
              refine goal_of [(53, Value.int .i64 (u : Int))] rfl ⟨rfl, trivial⟩ rfl ?_
              exact run_val (Value.int .i64 (u : Int)) (rfl) ⟨fun c h => Option.some.inj (Option.some.inj h), hM_⟩
            · intro D V w_ hd hi hM_
              refine goal_of [(54, Value.int .i64 (v : Int))] rfl ⟨rfl, trivial⟩ rfl ?_
              exact run_val (Value.int .i64 (v : Int)) (rfl) ⟨fun c h => Option.some.inj (Option.some.inj h), hM_⟩
            · intro D V w_ hd hi hM_
              refine goal_of [(62, Value.int .i64 (g u v))] rfl ⟨rfl, trivial⟩ rfl ?_
              exact run_val (Value.int .i64 (g u v)) (rfl) ⟨fun c h => Option.some.inj (Option.some.inj h), hM_⟩
          intro D V w9 hall hM10
          refine ends_sub [(1, Value.slice Af nf cf), (2, Value.int .i64 limit), (3, Value.pointer (some ⟨b3, 0, none⟩)), (6, Value.int .i64 (u : Int)), (7, Value.int .i64 (v : Int)), (9, Value.int .i64 (g u v)), (11, Value.int .i64 (u : Int)), (16, Value.slice Af nf cf), (17, Value.int .i64 (nf : Int)), (18, Value.int .i64 (i : Int)), (26, Value.slice A2 (nf - (i + 1)) (cf - (i + 1))), (27, Value.int .i64 (((nf - (i + 1)) : Nat) : Int)), (28, Value.int .i64 (k : Int))] ⟨rfl, rfl, rfl, rfl, rfl, rfl, rfl, rfl, rfl, rfl, rfl, rfl, rfl, trivial⟩ ?_
          refine e_blk ?_
          refine e_then ?_
          refine k_region ?_
          refine r_val (v := Value.int .i64 ((k : Int) + 1)) (w' := w9) rfl rfl (x_addE rfl (by omega) (by omega) rfl rfl) ?_
          refine r_val (v := Value.int .i64 ((k : Int) + 1)) (w' := w9) rfl rfl (rfl) ?_
          refine r_nil ?_
          refine ends_sub [(1, Value.slice Af nf cf), (2, Value.int .i64 limit), (3, Value.pointer (some ⟨b3, 0, none⟩)), (6, Value.int .i64 (u : Int)), (7, Value.int .i64 (v : Int)), (9, Value.int .i64 (g u v)), (11, Value.int .i64 (u : Int)), (16, Value.slice Af nf cf), (17, Value.int .i64 (nf : Int)), (18, Value.int .i64 (i : Int)), (26, Value.slice A2 (nf - (i + 1)) (cf - (i + 1))), (27, Value.int .i64 (((nf - (i + 1)) : Nat) : Int)), (28, Value.int .i64 ((k : Int) + 1))] ⟨rfl, rfl, rfl, rfl, rfl, rfl, rfl, rfl, rfl, rfl, rfl, rfl, rfl, trivial⟩ ?_
          refine e_loop (k + 1, u, v, g u v) ⟨rfl, rfl, rfl, rfl, rfl, rfl, rfl, rfl, rfl, rfl, rfl, rfl, rfl, trivial⟩ ?_ ?_
          · exact ⟨hM10, by omega, best_yes hu hv (by omega) hb (by simpa using g1) h4⟩
          · (try dsimp only); omega
        · try simp only [decide_eq_true_eq, decide_eq_false_iff_not, Bool.and_eq_true, Bool.or_eq_true, Bool.or_eq_false_iff, Bool.not_eq_true', Bool.not_eq_false', beq_iff_eq, bne_iff_ne, beq_eq_false_iff_ne, bne_eq_false_iff_eq, Int.not_lt, Int.not_le, ne_eq, Bool.not_eq_true, Bool.not_eq_false] at h4
          refine k_skip ?_
          refine e_blk ?_
          refine e_then ?_
          refine k_region ?_
          refine r_val (v := Value.int .i64 ((k : Int) + 1)) (w' := w6) rfl rfl (x_addE rfl (by omega) (by omega) rfl rfl) ?_
          refine r_val (v := Value.int .i64 ((k : Int) + 1)) (w' := w6) rfl rfl (rfl) ?_
          refine r_nil ?_
          refine ends_sub [(1, Value.slice Af nf cf), (2, Value.int .i64 limit), (3, Value.pointer (some ⟨b3, 0, none⟩)), (6, Value.int .i64 (x : Int)), (7, Value.int .i64 (y : Int)), (9, Value.int .i64 least), (11, Value.int .i64 (u : Int)), (16, Value.slice Af nf cf), (17, Value.int .i64 (nf : Int)), (18, Value.int .i64 (i : Int)), (26, Value.slice A2 (nf - (i + 1)) (cf - (i + 1))), (27, Value.int .i64 (((nf - (i + 1)) : Nat) : Int)), (28, Value.int .i64 ((k : Int) + 1))] ⟨rfl, rfl, rfl, rfl, rfl, rfl, rfl, rfl, rfl, rfl, rfl, rfl, rfl, trivial⟩ ?_
          refine e_loop (k + 1, x, y, least) ⟨rfl, rfl, rfl, rfl, rfl, rfl, rfl, rfl, rfl, rfl, rfl, rfl, rfl, trivial⟩ ?_ ?_
          · exact ⟨hM7, by omega, best_no hu hv hb (by omega)⟩
          · (try dsimp only); omega
      · refine wpR_sub [(1, Value.slice Af nf cf), (2, Value.int .i64 limit), (3, Value.pointer (some ⟨b3, 0, none⟩)), (6, Value.int .i64 (x : Int)), (7, Value.int .i64 (y : Int)), (9, Value.int .i64 least), (11, Value.int .i64 (u : Int)), (13, Value.int .i64 (v : Int)), (16, Value.slice Af nf cf), (17, Value.int .i64 (nf : Int)), (18, Value.int .i64 (i : Int)), (26, Value.slice A2 (nf - (i + 1)) (cf - (i + 1))), (27, Value.int .i64 (((nf - (i + 1)) : Nat) : Int)), (28, Value.int .i64 (k : Int)), (41, Value.bool false)] ⟨rfl, rfl, rfl, rfl, rfl, rfl, rfl, rfl, rfl, rfl, rfl, rfl, rfl, rfl, congrArg (fun z => some (Value.bool z)) g1, trivial⟩ ?_
        refine r_no rfl rfl (by decide) rfl ?_
        refine r_no rfl rfl (by decide) rfl ?_
        refine r_no rfl rfl (by decide) rfl ?_
        refine r_no rfl rfl (by decide) rfl ?_
        refine r_no rfl rfl (by decide) rfl ?_
        refine r_no rfl rfl (by decide) rfl ?_
        refine r_no rfl rfl (by decide) rfl ?_
        refine r_no rfl rfl (by decide) rfl ?_
        refine r_no rfl rfl (by decide) rfl ?_
        refine r_no rfl rfl (by decide) rfl ?_
        refine r_val (v := Value.bool false) (w' := w6) rfl rfl (rfl) ?_
        refine r_nil ?_
        refine ends_sub [(1, Value.slice Af nf cf), (2, Value.int .i64 limit), (3, Value.pointer (some ⟨b3, 0, none⟩)), (6, Value.int .i64 (x : Int)), (7, Value.int .i64 (y : Int)), (9, Value.int .i64 least), (11, Value.int .i64 (u : Int)), (13, Value.int .i64 (v : Int)), (16, Value.slice Af nf cf), (17, Value.int .i64 (nf : Int)), (18, Value.int .i64 (i : Int)), (26, Value.slice A2 (nf - (i + 1)) (cf - (i + 1))), (27, Value.int .i64 (((nf - (i + 1)) : Nat) : Int)), (28, Value.int .i64 (k : Int)), (52, Value.bool false)] ⟨rfl, rfl, rfl, rfl, rfl, rfl, rfl, rfl, rfl, rfl, rfl, rfl, rfl, rfl, rfl, trivial⟩ ?_
        refine e_then ?_
        refine k_cond_false rfl rfl ?_
        refine k_skip ?_
        refine e_blk ?_
        refine e_then ?_
        refine k_region ?_
        refine r_val (v := Value.int .i64 ((k : Int) + 1)) (w' := w6) rfl rfl (x_addE rfl (by omega) (by omega) rfl rfl) ?_
        refine r_val (v := Value.int .i64 ((k : Int) + 1)) (w' := w6) rfl rfl (rfl) ?_
        refine r_nil ?_
        refine ends_sub [(1, Value.slice Af nf cf), (2, Value.int .i64 limit), (3, Value.pointer (some ⟨b3, 0, none⟩)), (6, Value.int .i64 (x : Int)), (7, Value.int .i64 (y : Int)), (9, Value.int .i64 least), (11, Value.int .i64 (u : Int)), (16, Value.slice Af nf cf), (17, Value.int .i64 (nf : Int)), (18, Value.int .i64 (i : Int)), (26, Value.slice A2 (nf - (i + 1)) (cf - (i + 1))), (27, Value.int .i64 (((nf - (i + 1)) : Nat) : Int)), (28, Value.int .i64 ((k : Int) + 1))] ⟨rfl, rfl, rfl, rfl, rfl, rfl, rfl, rfl, rfl, rfl, rfl, rfl, rfl, trivial⟩ ?_
        refine e_loop (k + 1, x, y, least) ⟨rfl, rfl, rfl, rfl, rfl, rfl, rfl, rfl, rfl, rfl, rfl, rfl, rfl, trivial⟩ ?_ ?_
        · exact ⟨hM7, by omega, best_no hu hv hb (by simp at g1; exact .inl g1)⟩
        · (try dsimp only); omega
    · try simp only [decide_eq_true_eq, decide_eq_false_iff_not, Bool.and_eq_true, Bool.or_eq_true, Bool.or_eq_false_iff, Bool.not_eq_true', Bool.not_eq_false', beq_iff_eq, bne_iff_ne, beq_eq_false_iff_ne, bne_eq_false_iff_eq, Int.not_lt, Int.not_le, ne_eq, Bool.not_eq_true, Bool.not_eq_false] at h2
      refine k_exit ?_
      refine e_then_exit ?_
      refine e_loop_exit ?_
      refine e_blk_exit ?_
      refine e_blk ?_
      refine e_then ?_
      refine k_region ?_
      refine r_val (v := Value.int .i64 ((i : Int) + 1)) (w' := w6) rfl rfl (x_addE rfl (by omega) (by omega) rfl rfl) ?_
      refine r_val (v := Value.int .i64 ((i : Int) + 1)) (w' := w6) rfl rfl (rfl) ?_
      refine r_nil ?_
      refine ends_sub [(1, Value.slice Af nf cf), (2, Value.int .i64 limit), (3, Value.pointer (some ⟨b3, 0, none⟩)), (6, Value.int .i64 (x : Int)), (7, Value.int .i64 (y : Int)), (9, Value.int .i64 least), (16, Value.slice Af nf cf), (17, Value.int .i64 (nf : Int)), (18, Value.int .i64 ((i : Int) + 1))] ⟨rfl, rfl, rfl, rfl, rfl, rfl, rfl, rfl, rfl, trivial⟩ ?_
      refine e_loop (i + 1, x, y, least) ⟨rfl, rfl, rfl, rfl, rfl, rfl, rfl, rfl, rfl, trivial⟩ ?_ ?_
      · exact ⟨hM7, by omega, best_row (by omega) hb⟩
      · (try dsimp only); omega
  · try simp only [decide_eq_true_eq, decide_eq_false_iff_not, Bool.and_eq_true, Bool.or_eq_true, Bool.or_eq_false_iff, Bool.not_eq_true', Bool.not_eq_false', beq_iff_eq, bne_iff_ne, beq_eq_false_iff_ne, bne_eq_false_iff_eq, Int.not_lt, Int.not_le, ne_eq, Bool.not_eq_true, Bool.not_eq_false] at h
    refine k_exit ?_
    refine e_then_exit ?_
    refine e_loop_exit ?_
    refine e_blk_exit ?_
    refine e_then ?_
    refine k_seq ?_
    refine k_region ?_
    have hin : i = nf := by omega
    rw [hin] at hb
    refine r_val (v := Value.int .i64 (x : Int)) (w' := w4) rfl rfl (rfl) ?_
    refine r_val (v := Value.int .i64 (y : Int)) (w' := w4) rfl rfl (rfl) ?_
    refine r_val (v := Value.int .i64 least) (w' := w4) rfl rfl (rfl) ?_
    refine r_val (v := Value.int .i64 limit) (w' := w4) rfl rfl (rfl) ?_
    refine r_val (v := Value.bool (decide (least ≤ limit))) (w' := w4) rfl rfl (rfl) ?_
    refine r_val (v := Value.int .i64 (x : Int)) (w' := w4) rfl rfl (rfl) ?_
    refine r_val (v := Value.int .i64 (y : Int)) (w' := w4) rfl rfl (rfl) ?_
    refine r_val (v := Value.bool (decide (least ≤ limit))) (w' := w4) rfl rfl (rfl) ?_
    refine r_nil ?_
    refine ends_sub [(6, Value.int .i64 (x : Int)), (7, Value.int .i64 (y : Int)), (8, Value.bool (decide (least ≤ limit)))] ⟨rfl, rfl, rfl, trivial⟩ ?_
    refine e_then ?_
    refine k_ret ?_
    refine e_ret3 rfl rfl rfl rfl ?_
    exact ⟨_, rfl, x, y, least, rfl, hb, Mem.ro hL (L' := ([(b3, .cells (#[Value.slice (some ⟨tg, 0, none⟩) n n, Value.slice (some ⟨ta, 0, none⟩) n n]) 94 (0, 0)), (tg, .cells (topC n n rg) tInts (0, 0)), (ta, .cells (topC n n ra) tBools (0, 0))] : Hp).take 1) hM5⟩


end Go.Proofs.Ytddacakmafdgdaa
