/- Fq: what Go functions of this seat come to, printed by walk.py over the engine. -/
import Derived.Test.YtddacakmafdgdaaFp
import Derived.Test.YtddacakmafdgdaaLz
set_option linter.unusedVariables false
set_option linter.unusedSimpArgs false
set_option maxRecDepth 100000
namespace Go.Proofs.Ytddacakmafdgdaa
open Go.RowKit Go.Kn

theorem law_s (Al Ab : Option Addr) (nl cl nb cb : Nat) (l : List (List Int)) (bs : List Bond3) (limit : Int) (w : World) (hl : RdE intsE 14 w Al nl l) (hb : RdE bondE 3 w Ab nb bs) :
    Calls Try.prog 3 #[Value.slice Al nl cl, Value.slice Ab nb cb, Value.int .i64 limit] w fun e w' => ∃ r, e = .returned r ∧ r = .bool true ∧ Mem w No w' [] := by
  refine calls_k (args := [Value.slice Al nl cl, Value.slice Ab nb cb, Value.int .i64 limit]) 164 [(0, Value.slice Al nl cl), (1, Value.slice Ab nb cb), (2, Value.int .i64 limit)] Try.func3 rfl rfl ⟨rfl, rfl, rfl, trivial⟩ ?_
  have hM := Mem.nil w No
  have hll := hl.len
  have hbl := hb.len
  refine k_seq ?_
  refine k_region ?_
  refine r_val (v := Value.bool false) (w' := w) rfl rfl (rfl) ?_
  refine r_nil ?_
  refine ends_sub [(0, Value.slice Al nl cl), (1, Value.slice Ab nb cb), (2, Value.int .i64 limit)] ⟨rfl, rfl, rfl, trivial⟩ ?_
  refine e_then ?_
  refine k_seq ?_
  refine k_seq ?_
  refine k_region ?_
  refine r_call (f := 5) (args := #[]) (w' := w) rfl rfl (x_call (vs := []) (enter5 _ _) rfl rfl) (awake_s w) ?_
  rintro v_ w1 ⟨rfl, hM2⟩
  replace hM2 := hM.grow hM2.kept
  have hMold := hM2
  refine r_val (v := Value.bool false) (w' := w1) rfl rfl (rfl) ?_
  refine r_nil ?_
  refine ends_sub [(0, Value.slice Al nl cl), (1, Value.slice Ab nb cb), (2, Value.int .i64 limit), (26, Value.bool false)] ⟨rfl, rfl, rfl, rfl, trivial⟩ ?_
  refine e_then ?_
  refine k_cond_false rfl rfl ?_
  refine k_skip ?_
  refine e_then ?_
  refine k_seq ?_
  refine k_region ?_
  refine r_val (v := Value.slice Al nl cl) (w' := w1) rfl rfl (rfl) ?_
  refine r_val (v := Value.slice Ab nb cb) (w' := w1) rfl rfl (rfl) ?_
  refine r_val (v := Value.int .i64 limit) (w' := w1) rfl rfl (rfl) ?_
  refine r_call (f := 6) (args := #[Value.slice Al nl cl, Value.slice Ab nb cb, Value.int .i64 limit]) (w' := w1) rfl rfl (x_call (vs := [Value.slice Al nl cl, Value.slice Ab nb cb, Value.int .i64 limit]) (enter6 _ _) rfl rfl) (cluster_s Al Ab nl cl nb cb l bs limit w1 (hl.up hM2) (hb.up hM2)) ?_
  rintro v_ w3 ⟨gv, e, rfl, he, hne, hok, hM4⟩
  replace hM4 := hM2.grow hM4.kept
  refine r_val (v := Value.tuple #[gv, Value.int .i64 e]) (w' := w3) rfl rfl (rfl) ?_
  refine r_val (v := gv) (w' := w3) rfl rfl (rfl) ?_
  refine r_val (v := Value.int .i64 e) (w' := w3) rfl rfl (rfl) ?_
  refine r_val (v := gv) (w' := w3) rfl rfl (rfl) ?_
  refine r_val (v := Value.int .i64 e) (w' := w3) rfl rfl (rfl) ?_
  refine r_nil ?_
  refine ends_sub [(0, Value.slice Al nl cl), (1, Value.slice Ab nb cb), (2, Value.int .i64 limit), (7, gv), (8, Value.int .i64 e)] ⟨rfl, rfl, rfl, rfl, rfl, trivial⟩ ?_
  refine e_then ?_
  refine k_seq ?_
  refine k_seq ?_
  refine k_region ?_
  refine r_val (v := Value.int .i64 e) (w' := w3) rfl rfl (rfl) ?_
  refine r_val (v := Value.bool (e != 0)) (w' := w3) rfl rfl (rfl) ?_
  refine r_nil ?_
  refine ends_sub [(0, Value.slice Al nl cl), (1, Value.slice Ab nb cb), (2, Value.int .i64 limit), (7, gv), (35, Value.bool (e != 0))] ⟨rfl, rfl, rfl, rfl, rfl, trivial⟩ ?_
  refine e_then ?_
  refine k_cond rfl rfl (fun h1 => ?_) (fun h1 => ?_)
  · try simp only [decide_eq_true_eq, decide_eq_false_iff_not, Bool.and_eq_true, Bool.or_eq_true, Bool.or_eq_false_iff, Bool.not_eq_true', Bool.not_eq_false', beq_iff_eq, bne_iff_ne, beq_eq_false_iff_ne, bne_eq_false_iff_eq, Int.not_lt, Int.not_le, ne_eq, Bool.not_eq_true, Bool.not_eq_false] at h1
    refine k_seq ?_
    refine k_region ?_
    refine r_val (v := Value.bool true) (w' := w3) rfl rfl (rfl) ?_
    refine r_nil ?_
    refine ends_sub [(6, Value.bool true)] ⟨rfl, trivial⟩ ?_
    refine e_then ?_
    refine k_ret ?_
    refine e_then_ret ?_
    refine e_ret1 rfl rfl ?_
    exact ⟨_, rfl, rfl, hM4.drop⟩
  · try simp only [decide_eq_true_eq, decide_eq_false_iff_not, Bool.and_eq_true, Bool.or_eq_true, Bool.or_eq_false_iff, Bool.not_eq_true', Bool.not_eq_false', beq_iff_eq, bne_iff_ne, beq_eq_false_iff_ne, bne_eq_false_iff_eq, Int.not_lt, Int.not_le, ne_eq, Bool.not_eq_true, Bool.not_eq_false] at h1
    refine k_skip ?_
    refine e_then ?_
    refine k_seq ?_
    refine k_region ?_
    obtain ⟨f, ⟨hR, hS, hle, hid⟩, A, rows, hgv, hmapx, c9, Lo, hro, hrok, hMr0⟩ := hok h1
    skip
    have hf : FOk nl f := ⟨hle, hid⟩
    rw [h1] at he
    obtain ⟨hcb, hlim⟩ := clErr_ok he.symm
    have hcl := checkB_ok hcb
    have hgd := good_of hcl.1 (fun x hx => by have := hl.size x hx; simpa using this)
    have hl3 : nl ≤ 300 := by have := hgd.len; omega
    have hkl := keysOf_len nl f
    have hrlen : rows.length = (keysOf nl f).length := by have h9 := congrArg List.length hmapx; simpa [idsG] using h9
    have hidl : (idsG l nl f).length ≤ rows.length := by rw [← hmapx]; simp
    have hnd := ids_nodup hgd.sorted hll hf
    refine wpR_sub [(0, Value.slice Al nl cl), (1, Value.slice Ab nb cb), (2, Value.int .i64 limit), (7, Value.slice A rows.length rows.length), (35, Value.bool (e != 0))] ⟨rfl, rfl, rfl, congrArg some hgv, rfl, trivial⟩ ?_
    have hM5 : Mem w No w3 (Lo ++ rows.flatMap ORow.L) := by simpa using Mem.call0 hMold hMr0
    have hMr := hM5
    refine r_new (fun b => .map (some b)) (mapO [] 0) hM5 (by kernel_rfl) rfl rfl ?_
    intro bo w6 hM7 hbo
    replace hM7 : Mem w No w6 ((bo, mapO [] 0) :: (Lo ++ rows.flatMap ORow.L)) := hM7
    refine r_val (v := Value.map (some bo)) (w' := w6) rfl rfl (rfl) ?_
    refine r_nil ?_
    refine ends_sub [(0, Value.slice Al nl cl), (1, Value.slice Ab nb cb), (2, Value.int .i64 limit), (7, Value.slice A rows.length rows.length), (9, Value.map (some bo))] ⟨rfl, rfl, rfl, rfl, rfl, trivial⟩ ?_
    refine e_then ?_
    refine k_seq ?_
    refine k_seq ?_
    refine k_region ?_
    refine r_val (v := Value.slice A rows.length rows.length) (w' := w6) rfl rfl (rfl) ?_
    refine r_val (v := Value.int .i64 (rows.length : Int)) (w' := w6) rfl rfl (x_len rfl rfl) ?_
    refine r_val (v := Value.int .i64 0) (w' := w6) rfl rfl (rfl) ?_
    refine r_nil ?_
    refine ends_sub [(0, Value.slice Al nl cl), (1, Value.slice Ab nb cb), (2, Value.int .i64 limit), (7, Value.slice A rows.length rows.length), (9, Value.map (some bo)), (37, Value.slice A rows.length rows.length), (38, Value.int .i64 (rows.length : Int)), (39, Value.int .i64 0)] ⟨rfl, rfl, rfl, rfl, rfl, rfl, rfl, rfl, trivial⟩ ?_
    refine e_then ?_
    refine k_block ?_
    refine k_loop (σ := Nat) (fun i => [(0, Value.slice Al nl cl), (1, Value.slice Ab nb cb), (2, Value.int .i64 limit), (7, Value.slice A rows.length rows.length), (9, Value.map (some bo)), (37, Value.slice A rows.length rows.length), (38, Value.int .i64 (rows.length : Int)), (39, Value.int .i64 (i : Int))]) (fun i w_ => Mem w No w_ ((bo, mapO (esOf (plTo (idsG l nl f) i 0)) (plTo (idsG l nl f) i 0).length) :: (Lo ++ rows.flatMap ORow.L)) ∧ i ≤ rows.length) (fun i => rows.length - i) 0 ⟨rfl, rfl, rfl, rfl, rfl, rfl, rfl, rfl, trivial⟩ ⟨by rw [plTo_00]; exact hM7, Nat.zero_le _⟩ ?_
    rintro i w8 ⟨hM9, hi⟩
    refine wpK_sub [(0, Value.slice Al nl cl), (1, Value.slice Ab nb cb), (2, Value.int .i64 limit), (7, Value.slice A rows.length rows.length), (9, Value.map (some bo)), (37, Value.slice A rows.length rows.length), (38, Value.int .i64 (rows.length : Int)), (39, Value.int .i64 (i : Int))] ⟨rfl, rfl, rfl, rfl, rfl, rfl, rfl, rfl, trivial⟩ ?_
    refine k_seq ?_
    refine k_region ?_
    refine r_val (v := Value.bool (decide ((i : Int) < (rows.length : Int)))) (w' := w8) rfl rfl (rfl) ?_
    refine r_nil ?_
    refine ends_sub [(0, Value.slice Al nl cl), (1, Value.slice Ab nb cb), (2, Value.int .i64 limit), (7, Value.slice A rows.length rows.length), (9, Value.map (some bo)), (37, Value.slice A rows.length rows.length), (38, Value.int .i64 (rows.length : Int)), (39, Value.int .i64 (i : Int)), (40, Value.bool (decide ((i : Int) < (rows.length : Int))))] ⟨rfl, rfl, rfl, rfl, rfl, rfl, rfl, rfl, rfl, trivial⟩ ?_
    refine e_then ?_
    refine k_seq ?_
    refine k_cond rfl rfl (fun h => ?_) (fun h => ?_)
    · try simp only [decide_eq_true_eq, decide_eq_false_iff_not, Bool.and_eq_true, Bool.or_eq_true, Bool.or_eq_false_iff, Bool.not_eq_true', Bool.not_eq_false', beq_iff_eq, bne_iff_ne, beq_eq_false_iff_ne, bne_eq_false_iff_eq, Int.not_lt, Int.not_le, ne_eq, Bool.not_eq_true, Bool.not_eq_false] at h
      refine k_skip ?_
      refine e_then ?_
      refine k_seq ?_
      refine k_block ?_
      refine k_seq ?_
      refine k_region ?_
      obtain ⟨ra, hra⟩ : ∃ r, rows[i]? = some r := ⟨rows[i]'(by omega), by simp⟩
      have hram := List.mem_of_getElem? hra
      obtain ⟨x, hx⟩ : ∃ x, (keysOf nl f)[i]? = some x := ⟨(keysOf nl f)[i]'(by omega), by simp⟩
      have hxk := mem_keysOf.1 (List.mem_of_getElem? hx)
      have hrax := row_ids hmapx hra hx
      have hral : ra.xs.length ≤ 300 := by rw [hrax]; exact Nat.le_trans (by simp [idsAt]; exact members_len nl f x) hl3
      have hraf : ra.xs[0]? = some (idAt l x) := by rw [hrax]; exact idsAt_first hle hxk
      have hra0 : 0 < ra.xs.length := (List.getElem?_eq_some_iff.1 hraf).1
      have hss := (SSok_of' hM9.tail hro hrok)
      have hids : (idsG l nl f)[i]? = some ra.xs := hmapx ▸ (by rw [List.getElem?_map, hra]; rfl)
      refine r_val (v := Value.int .i64 (i : Int)) (w' := w8) rfl rfl (rfl) ?_
      refine r_val (v := Value.pointer (some ((adr A).add (i * 1)))) (w' := w8) rfl rfl (x_indexAddrN (i := i) (sz := 1) (SSok_of' hMr hro hrok).1.here (by omega) rfl rfl rfl rfl) ?_
      refine r_val (v := Value.slice ra.A ra.xs.length ra.xs.length) (w' := w8) rfl rfl (x_load (hss.1.first hra rfl) rfl rfl) ?_
      refine r_val (v := Value.int .i64 (i : Int)) (w' := w8) rfl rfl (rfl) ?_
      refine r_val (v := Value.slice ra.A ra.xs.length ra.xs.length) (w' := w8) rfl rfl (rfl) ?_
      refine r_nil ?_
      refine ends_sub [(0, Value.slice Al nl cl), (1, Value.slice Ab nb cb), (2, Value.int .i64 limit), (7, Value.slice A rows.length rows.length), (9, Value.map (some bo)), (10, Value.int .i64 (i : Int)), (11, Value.slice ra.A ra.xs.length ra.xs.length), (37, Value.slice A rows.length rows.length), (38, Value.int .i64 (rows.length : Int)), (39, Value.int .i64 (i : Int))] ⟨rfl, rfl, rfl, rfl, rfl, rfl, rfl, rfl, rfl, rfl, trivial⟩ ?_
      refine e_then ?_
      refine k_seq ?_
      refine k_seq ?_
      rcases Bool.eq_false_or_eq_true ((ra.xs.length : Int) == 0) with g0 | g0
      · skip
        exact absurd (beq_iff_eq.1 g0) (by omega)
      · skip
        rcases Bool.eq_false_or_eq_true (decide ((i : Int) > 0)) with g1 | g1
        · skip
          obtain ⟨rp, hrp⟩ : ∃ r, rows[(i - 1)]? = some r := ⟨rows[(i - 1)]'(by omega), by simp⟩
          have hrpm := List.mem_of_getElem? hrp
          obtain ⟨x0, hx0⟩ : ∃ x, (keysOf nl f)[(i - 1)]? = some x := ⟨(keysOf nl f)[(i - 1)]'(by omega), by simp⟩
          have hx0k := mem_keysOf.1 (List.mem_of_getElem? hx0)
          have hrpx := row_ids hmapx hrp hx0
          have hrpl : rp.xs.length ≤ 300 := by rw [hrpx]; exact Nat.le_trans (by simp [idsAt]; exact members_len nl f x0) hl3
          have hrpf : rp.xs[0]? = some (idAt l x0) := by rw [hrpx]; exact idsAt_first hle hx0k
          have hrp0 : 0 < rp.xs.length := (List.getElem?_eq_some_iff.1 hrpf).1
          have hi0 : 0 < i := by simpa using g1
          have hlt : idAt l x0 < idAt l x := idAt_lt hgd.sorted (keys_lt hx0 hx (by omega)) (by rw [hll]; exact hxk.1)
          refine k_draw mixed [0, 1, 3, 7, 15, 31, 63, 127, 255, 511, 1023, 2047, 4095, 4095, 12287, 32767, 65535, 131071, 262143, 4095, 528383, 1576959, 4194303, 8388607, 16777215] [some (Value.slice ra.A ra.xs.length ra.xs.length), some (Value.int .i64 (ra.xs.length : Int)), some (Value.bool false), some (Value.bool false), some (Value.slice ra.A ra.xs.length ra.xs.length), some (Value.bool true), some (Value.bool false), some (Value.bool false), some (Value.bool false), some (Value.int .i64 (i : Int)), some (Value.bool true), some (Value.bool true), some (Value.slice A rows.length rows.length), some (Value.int .i64 (i : Int)), some (Value.int .i64 ((i - 1 : Nat) : Int)), some (Value.pointer (some ((adr A).add ((i - 1 : Nat) * 1)))), some (Value.slice rp.A rp.xs.length rp.xs.length), some (Value.pointer (some ((adr rp.A).add (0 * 1)))), some (Value.int .i64 (idAt l x0)), some (Value.slice ra.A ra.xs.length ra.xs.length), some (Value.pointer (some ((adr ra.A).add (0 * 1)))), some (Value.int .i64 (idAt l x)), some (Value.bool (decide ((idAt l x0) ≥ (idAt l x)))), some (Value.bool (decide ((idAt l x0) ≥ (idAt l x)))), some (Value.bool (decide ((idAt l x0) ≥ (idAt l x))))] (by kernel_rfl) (fun D V w_ => Mem w No w_ ((bo, mapO (esOf (plTo (idsG l nl f) i 0)) (plTo (idsG l nl f) i 0).length) :: (Lo ++ rows.flatMap ORow.L))) (fun V => hM9.drew) ?_ ?_
          · refine ⟨?_, ?_, ?_, ?_, ?_, ?_, ?_, ?_, ?_, ?_, ?_, ?_, ?_, ?_, ?_, ?_, ?_, ?_, ?_, ?_, ?_, ?_, ?_, ?_, ?_, trivial⟩
            · intro D V w_ hd hi hM_
              refine goal_of [(11, Value.slice ra.A ra.xs.length ra.xs.length)] rfl ⟨rfl, trivial⟩ rfl ?_
              exact run_val (Value.slice ra.A ra.xs.length ra.xs.length) (rfl) ⟨fun c h => Option.some.inj (Option.some.inj h), hM_⟩
            · intro D V w_ hd hi hM_
              refine goal_of [(44, Value.slice ra.A ra.xs.length ra.xs.length)] rfl ⟨rfl, trivial⟩ rfl ?_
              exact run_val (Value.int .i64 (ra.xs.length : Int)) (x_len rfl rfl) ⟨fun c h => Option.some.inj (Option.some.inj h), hM_⟩
            · intro D V w_ hd hi hM_
              refine goal_of [(45, Value.int .i64 (ra.xs.length : Int))] rfl ⟨rfl, trivial⟩ rfl ?_
              exact run_val (Value.bool false) (Eq.trans (rfl) (congrArg (fun z => Result.ok (Next.value (Value.bool z)) w_) g0)) ⟨fun c h => Option.some.inj (Option.some.inj h), hM_⟩
            · intro D V w_ hd hi hM_
              refine goal_of [(46, Value.bool false)] rfl ⟨rfl, trivial⟩ rfl ?_
              exact run_val (Value.bool false) (rfl) ⟨fun c h => Option.some.inj (Option.some.inj h), hM_⟩
            · intro D V w_ hd hi hM_
              refine goal_yes [(11, Value.slice ra.A ra.xs.length ra.xs.length)] rfl rfl ⟨rfl, trivial⟩ rfl ?_
              exact run_val (Value.slice ra.A ra.xs.length ra.xs.length) (rfl) ⟨fun c h => Option.some.inj (Option.some.inj h), hM_⟩
            · intro D V w_ hd hi hM_
              refine goal_yes [(48, Value.slice ra.A ra.xs.length ra.xs.length)] rfl rfl ⟨rfl, trivial⟩ rfl ?_
              refine run_call (f := 7) (args := #[Value.slice ra.A ra.xs.length ra.xs.length]) (w' := w_) (x_call (vs := [Value.slice ra.A ra.xs.length ra.xs.length]) (enter7 _ _) rfl rfl) (isSorted_s ra.A ra.xs.length ra.xs.length ra.xs w_ ((SSok_of' hM_.tail hro hrok).2 ra hram) (by rw [hrax]; exact idsAt_sorted hgd.sorted hll x) (by omega)) ?_
              rintro v_ w2_ ⟨rfl, hM2_⟩
              exact ⟨fun c h => Option.some.inj (Option.some.inj h), hM_.grow hM2_.kept⟩
            · intro D V w_ hd hi hM_
              refine goal_yes [(49, Value.bool true)] rfl rfl ⟨rfl, trivial⟩ rfl ?_
              exact run_val (Value.bool false) (rfl) ⟨fun c h => Option.some.inj (Option.some.inj h), hM_⟩
            · intro D V w_ hd hi hM_
              refine goal_of [(47, Value.bool false), (50, Value.bool false)] rfl ⟨rfl, rfl, trivial⟩ rfl ?_
              exact run_val (Value.bool false) (rfl) ⟨fun c h => Option.some.inj (Option.some.inj h), hM_⟩
            · intro D V w_ hd hi hM_
              refine goal_of [(51, Value.bool false)] rfl ⟨rfl, trivial⟩ rfl ?_
              exact run_val (Value.bool false) (rfl) ⟨fun c h => Option.some.inj (Option.some.inj h), hM_⟩
            · intro D V w_ hd hi hM_
              refine goal_yes [(10, Value.int .i64 (i : Int))] rfl rfl ⟨rfl, trivial⟩ rfl ?_
              exact run_val (Value.int .i64 (i : Int)) (rfl) ⟨fun c h => Option.some.inj (Option.some.inj h), hM_⟩
            · intro D V w_ hd hi hM_
              refine goal_yes [(53, Value.int .i64 (i : Int))] rfl rfl ⟨rfl, trivial⟩ rfl ?_
              exact run_val (Value.bool true) (Eq.trans (rfl) (congrArg (fun z => Result.ok (Next.value (Value.bool z)) w_) g1)) ⟨fun c h => Option.some.inj (Option.some.inj h), hM_⟩
            · intro D V w_ hd hi hM_
              refine goal_yes [(54, Value.bool true)] rfl rfl ⟨rfl, trivial⟩ rfl ?_
              exact run_val (Value.bool true) (rfl) ⟨fun c h => Option.some.inj (Option.some.inj h), hM_⟩
            · intro D V w_ hd hi hM_
              refine goal_yes [(7, Value.slice A rows.length rows.length)] rfl rfl ⟨rfl, trivial⟩ rfl ?_
              exact run_val (Value.slice A rows.length rows.length) (rfl) ⟨fun c h => Option.some.inj (Option.some.inj h), hM_⟩
            · intro D V w_ hd hi hM_
              refine goal_yes [(10, Value.int .i64 (i : Int))] rfl rfl ⟨rfl, trivial⟩ rfl ?_
              exact run_val (Value.int .i64 (i : Int)) (rfl) ⟨fun c h => Option.some.inj (Option.some.inj h), hM_⟩
            · intro D V w_ hd hi hM_
              refine goal_yes [(57, Value.int .i64 (i : Int))] rfl rfl ⟨rfl, trivial⟩ rfl ?_
              exact run_val (Value.int .i64 ((i - 1 : Nat) : Int)) (x_subE (by omega) (by omega) (by omega) rfl rfl) ⟨fun c h => Option.some.inj (Option.some.inj h), hM_⟩
            · intro D V w_ hd hi hM_
              refine goal_yes [(56, Value.slice A rows.length rows.length), (58, Value.int .i64 ((i - 1 : Nat) : Int))] rfl rfl ⟨rfl, rfl, trivial⟩ rfl ?_
              exact run_val (Value.pointer (some ((adr A).add ((i - 1 : Nat) * 1)))) (x_indexAddrN (i := (i - 1 : Nat)) (sz := 1) (SSok_of' hMr hro hrok).1.here (by omega) rfl rfl rfl rfl) ⟨fun c h => Option.some.inj (Option.some.inj h), hM_⟩
            · intro D V w_ hd hi hM_
              refine goal_yes [(59, Value.pointer (some ((adr A).add ((i - 1 : Nat) * 1))))] rfl rfl ⟨rfl, trivial⟩ rfl ?_
              exact run_val (Value.slice rp.A rp.xs.length rp.xs.length) (x_load ((SSok_of' hM_.tail hro hrok).1.first hrp rfl) rfl rfl) ⟨fun c h => Option.some.inj (Option.some.inj h), hM_⟩
            · intro D V w_ hd hi hM_
              refine goal_yes [(60, Value.slice rp.A rp.xs.length rp.xs.length)] rfl rfl ⟨rfl, trivial⟩ rfl ?_
              exact run_val (Value.pointer (some ((adr rp.A).add (0 * 1)))) (x_indexAddrN (i := 0) (sz := 1) (hss.2 rp hrpm).here (by omega) rfl rfl rfl rfl) ⟨fun c h => Option.some.inj (Option.some.inj h), hM_⟩
            · intro D V w_ hd hi hM_
              refine goal_yes [(61, Value.pointer (some ((adr rp.A).add (0 * 1))))] rfl rfl ⟨rfl, trivial⟩ rfl ?_
              exact run_val (Value.int .i64 (idAt l x0)) (x_loadEInt (k := 0) (e := idAt l x0) ((SSok_of' hM_.tail hro hrok).2 rp hrpm) hrpf rfl rfl) ⟨fun c h => Option.some.inj (Option.some.inj h), hM_⟩
            · intro D V w_ hd hi hM_
              refine goal_yes [(11, Value.slice ra.A ra.xs.length ra.xs.length)] rfl rfl ⟨rfl, trivial⟩ rfl ?_
              exact run_val (Value.slice ra.A ra.xs.length ra.xs.length) (rfl) ⟨fun c h => Option.some.inj (Option.some.inj h), hM_⟩
            · intro D V w_ hd hi hM_
              refine goal_yes [(63, Value.slice ra.A ra.xs.length ra.xs.length)] rfl rfl ⟨rfl, trivial⟩ rfl ?_
              exact run_val (Value.pointer (some ((adr ra.A).add (0 * 1)))) (x_indexAddrN (i := 0) (sz := 1) (hss.2 ra hram).here (by omega) rfl rfl rfl rfl) ⟨fun c h => Option.some.inj (Option.some.inj h), hM_⟩
            · intro D V w_ hd hi hM_
              refine goal_yes [(64, Value.pointer (some ((adr ra.A).add (0 * 1))))] rfl rfl ⟨rfl, trivial⟩ rfl ?_
              exact run_val (Value.int .i64 (idAt l x)) (x_loadEInt (k := 0) (e := idAt l x) ((SSok_of' hM_.tail hro hrok).2 ra hram) hraf rfl rfl) ⟨fun c h => Option.some.inj (Option.some.inj h), hM_⟩
            · intro D V w_ hd hi hM_
              refine goal_yes [(62, Value.int .i64 (idAt l x0)), (65, Value.int .i64 (idAt l x))] rfl rfl ⟨rfl, rfl, trivial⟩ rfl ?_
              exact run_val (Value.bool (decide ((idAt l x0) ≥ (idAt l x)))) (rfl) ⟨fun c h => Option.some.inj (Option.some.inj h), hM_⟩
            · intro D V w_ hd hi hM_
              refine goal_yes [(55, Value.bool true), (66, Value.bool (decide ((idAt l x0) ≥ (idAt l x))))] rfl rfl ⟨rfl, rfl, trivial⟩ rfl ?_
              exact run_val (Value.bool (decide ((idAt l x0) ≥ (idAt l x)))) (rfl) ⟨fun c h => Option.some.inj (Option.some.inj h), hM_⟩
            · intro D V w_ hd hi hM_
              refine goal_of [(52, Value.bool false), (67, Value.bool (decide ((idAt l x0) ≥ (idAt l x))))] rfl ⟨rfl, rfl, trivial⟩ rfl ?_
              exact run_val (Value.bool (decide ((idAt l x0) ≥ (idAt l x)))) (rfl) ⟨fun c h => Option.some.inj (Option.some.inj h), hM_⟩
          intro D V w14 hall hM15
          refine ends_sub [(0, Value.slice Al nl cl), (1, Value.slice Ab nb cb), (2, Value.int .i64 limit), (7, Value.slice A rows.length rows.length), (9, Value.map (some bo)), (10, Value.int .i64 (i : Int)), (11, Value.slice ra.A ra.xs.length ra.xs.length), (37, Value.slice A rows.length rows.length), (38, Value.int .i64 (rows.length : Int)), (39, Value.int .i64 (i : Int)), (68, Value.bool (decide ((idAt l x0) ≥ (idAt l x))))] ⟨rfl, rfl, rfl, rfl, rfl, rfl, rfl, rfl, rfl, rfl, rfl, trivial⟩ ?_
          refine e_then ?_
          refine k_cond_false rfl (congrArg Value.bool (decide_eq_false (by omega))) ?_
          refine k_skip ?_
          refine e_then ?_
          refine k_seq ?_
          refine k_region ?_
          refine r_val (v := Value.slice ra.A ra.xs.length ra.xs.length) (w' := w14) rfl rfl (rfl) ?_
          refine r_val (v := Value.int .i64 (ra.xs.length : Int)) (w' := w14) rfl rfl (x_len rfl rfl) ?_
          refine r_val (v := Value.int .i64 0) (w' := w14) rfl rfl (rfl) ?_
          refine r_nil ?_
          refine ends_sub [(0, Value.slice Al nl cl), (1, Value.slice Ab nb cb), (2, Value.int .i64 limit), (7, Value.slice A rows.length rows.length), (9, Value.map (some bo)), (10, Value.int .i64 (i : Int)), (37, Value.slice A rows.length rows.length), (38, Value.int .i64 (rows.length : Int)), (39, Value.int .i64 (i : Int)), (69, Value.slice ra.A ra.xs.length ra.xs.length), (70, Value.int .i64 (ra.xs.length : Int)), (71, Value.int .i64 0)] ⟨rfl, rfl, rfl, rfl, rfl, rfl, rfl, rfl, rfl, rfl, rfl, rfl, trivial⟩ ?_
          refine e_then ?_
          refine k_block ?_
          refine k_loop (σ := Nat) (fun k => [(0, Value.slice Al nl cl), (1, Value.slice Ab nb cb), (2, Value.int .i64 limit), (7, Value.slice A rows.length rows.length), (9, Value.map (some bo)), (10, Value.int .i64 (i : Int)), (37, Value.slice A rows.length rows.length), (38, Value.int .i64 (rows.length : Int)), (39, Value.int .i64 (i : Int)), (69, Value.slice ra.A ra.xs.length ra.xs.length), (70, Value.int .i64 (ra.xs.length : Int)), (71, Value.int .i64 (k : Int))]) (fun k w_ => Mem w No w_ ((bo, mapO (esOf (plTo (idsG l nl f) i k)) (plTo (idsG l nl f) i k).length) :: (Lo ++ rows.flatMap ORow.L)) ∧ k ≤ ra.xs.length) (fun k => ra.xs.length - k) 0 ⟨rfl, rfl, rfl, rfl, rfl, rfl, rfl, rfl, rfl, rfl, rfl, rfl, trivial⟩ ⟨hM15, Nat.zero_le _⟩ ?_
          rintro k w16 ⟨hM17, hk⟩
          refine wpK_sub [(0, Value.slice Al nl cl), (1, Value.slice Ab nb cb), (2, Value.int .i64 limit), (7, Value.slice A rows.length rows.length), (9, Value.map (some bo)), (10, Value.int .i64 (i : Int)), (37, Value.slice A rows.length rows.length), (38, Value.int .i64 (rows.length : Int)), (39, Value.int .i64 (i : Int)), (69, Value.slice ra.A ra.xs.length ra.xs.length), (70, Value.int .i64 (ra.xs.length : Int)), (71, Value.int .i64 (k : Int))] ⟨rfl, rfl, rfl, rfl, rfl, rfl, rfl, rfl, rfl, rfl, rfl, rfl, trivial⟩ ?_
          refine k_seq ?_
          refine k_region ?_
          refine r_val (v := Value.bool (decide ((k : Int) < (ra.xs.length : Int)))) (w' := w16) rfl rfl (rfl) ?_
          refine r_nil ?_
          refine ends_sub [(0, Value.slice Al nl cl), (1, Value.slice Ab nb cb), (2, Value.int .i64 limit), (7, Value.slice A rows.length rows.length), (9, Value.map (some bo)), (10, Value.int .i64 (i : Int)), (37, Value.slice A rows.length rows.length), (38, Value.int .i64 (rows.length : Int)), (39, Value.int .i64 (i : Int)), (69, Value.slice ra.A ra.xs.length ra.xs.length), (70, Value.int .i64 (ra.xs.length : Int)), (71, Value.int .i64 (k : Int)), (72, Value.bool (decide ((k : Int) < (ra.xs.length : Int))))] ⟨rfl, rfl, rfl, rfl, rfl, rfl, rfl, rfl, rfl, rfl, rfl, rfl, rfl, trivial⟩ ?_
          refine e_then ?_
          refine k_seq ?_
          refine k_cond rfl rfl (fun h2 => ?_) (fun h2 => ?_)
          · try simp only [decide_eq_true_eq, decide_eq_false_iff_not, Bool.and_eq_true, Bool.or_eq_true, Bool.or_eq_false_iff, Bool.not_eq_true', Bool.not_eq_false', beq_iff_eq, bne_iff_ne, beq_eq_false_iff_ne, bne_eq_false_iff_eq, Int.not_lt, Int.not_le, ne_eq, Bool.not_eq_true, Bool.not_eq_false] at h2
            refine k_skip ?_
            refine e_then ?_
            refine k_seq ?_
            refine k_block ?_
            refine k_seq ?_
            refine k_region ?_
            obtain ⟨y, hy⟩ : ∃ y, ra.xs[k]? = some y := ⟨ra.xs[k]'(by omega), by simp⟩
            have hmg := esOf_none (plTo_new hnd hids hy)
            refine r_val (v := Value.pointer (some ((adr ra.A).add (k * 1)))) (w' := w16) rfl rfl (x_indexAddrN (i := k) (sz := 1) (hss.2 ra hram).here (by omega) rfl rfl rfl rfl) ?_
            refine r_val (v := Value.int .i64 y) (w' := w16) rfl rfl (x_loadEInt ((SSok_of' hM17.tail hro hrok).2 ra hram) hy rfl rfl) ?_
            refine r_val (v := Value.int .i64 y) (w' := w16) rfl rfl (rfl) ?_
            refine r_nil ?_
            refine ends_sub [(0, Value.slice Al nl cl), (1, Value.slice Ab nb cb), (2, Value.int .i64 limit), (7, Value.slice A rows.length rows.length), (9, Value.map (some bo)), (10, Value.int .i64 (i : Int)), (13, Value.int .i64 y), (37, Value.slice A rows.length rows.length), (38, Value.int .i64 (rows.length : Int)), (39, Value.int .i64 (i : Int)), (69, Value.slice ra.A ra.xs.length ra.xs.length), (70, Value.int .i64 (ra.xs.length : Int)), (71, Value.int .i64 (k : Int))] ⟨rfl, rfl, rfl, rfl, rfl, rfl, rfl, rfl, rfl, rfl, rfl, rfl, rfl, trivial⟩ ?_
            refine e_then ?_
            refine k_seq ?_
            refine k_seq ?_
            refine k_region ?_
            refine r_val (v := Value.map (some bo)) (w' := w16) rfl rfl (rfl) ?_
            refine r_val (v := Value.int .i64 y) (w' := w16) rfl rfl (rfl) ?_
            refine r_val (v := Value.tuple #[Value.int .i64 0, Value.bool false]) (w' := w16) rfl rfl (x_lookupOkN (k := y) (hM17.get 0 rfl) hmg rfl rfl rfl rfl rfl) ?_
            refine r_val (v := Value.tuple #[Value.int .i64 0, Value.bool false]) (w' := w16) rfl rfl (rfl) ?_
            refine r_val (v := Value.int .i64 0) (w' := w16) rfl rfl (rfl) ?_
            refine r_val (v := Value.bool false) (w' := w16) rfl rfl (rfl) ?_
            refine r_val (v := Value.int .i64 0) (w' := w16) rfl rfl (rfl) ?_
            refine r_val (v := Value.bool false) (w' := w16) rfl rfl (rfl) ?_
            refine r_nil ?_
            refine ends_sub [(0, Value.slice Al nl cl), (1, Value.slice Ab nb cb), (2, Value.int .i64 limit), (7, Value.slice A rows.length rows.length), (9, Value.map (some bo)), (10, Value.int .i64 (i : Int)), (13, Value.int .i64 y), (15, Value.bool false), (37, Value.slice A rows.length rows.length), (38, Value.int .i64 (rows.length : Int)), (39, Value.int .i64 (i : Int)), (69, Value.slice ra.A ra.xs.length ra.xs.length), (70, Value.int .i64 (ra.xs.length : Int)), (71, Value.int .i64 (k : Int))] ⟨rfl, rfl, rfl, rfl, rfl, rfl, rfl, rfl, rfl, rfl, rfl, rfl, rfl, rfl, trivial⟩ ?_
            refine e_then ?_
            refine k_seq ?_
            refine k_region ?_
            refine r_val (v := Value.bool false) (w' := w16) rfl rfl (rfl) ?_
            refine r_nil ?_
            refine ends_sub [(0, Value.slice Al nl cl), (1, Value.slice Ab nb cb), (2, Value.int .i64 limit), (7, Value.slice A rows.length rows.length), (9, Value.map (some bo)), (10, Value.int .i64 (i : Int)), (13, Value.int .i64 y), (37, Value.slice A rows.length rows.length), (38, Value.int .i64 (rows.length : Int)), (39, Value.int .i64 (i : Int)), (69, Value.slice ra.A ra.xs.length ra.xs.length), (70, Value.int .i64 (ra.xs.length : Int)), (71, Value.int .i64 (k : Int)), (81, Value.bool false)] ⟨rfl, rfl, rfl, rfl, rfl, rfl, rfl, rfl, rfl, rfl, rfl, rfl, rfl, rfl, trivial⟩ ?_
            refine e_then ?_
            refine k_cond_false rfl rfl ?_
            refine k_skip ?_
            refine e_then ?_
            refine k_region ?_
            refine r_val (v := Value.map (some bo)) (w' := w16) rfl rfl (rfl) ?_
            refine r_val (v := Value.int .i64 y) (w' := w16) rfl rfl (rfl) ?_
            refine r_val (v := Value.int .i64 (i : Int)) (w' := w16) rfl rfl (rfl) ?_
            refine r_mapNew (k := y) hM17 0 rfl hmg rfl rfl rfl rfl rfl rfl ?_
            intro w18 hM19
            replace hM19 : Mem w No w18 ((bo, mapO (esOf (plTo (idsG l nl f) i k) ++ [(⟨y, .int .i64 (i : Int), (plTo (idsG l nl f) i k).length⟩ : Ent)]) ((plTo (idsG l nl f) i k).length + 1)) :: (Lo ++ rows.flatMap ORow.L)) := hM19
            refine r_nil ?_
            refine ends_sub [(0, Value.slice Al nl cl), (1, Value.slice Ab nb cb), (2, Value.int .i64 limit), (7, Value.slice A rows.length rows.length), (9, Value.map (some bo)), (10, Value.int .i64 (i : Int)), (37, Value.slice A rows.length rows.length), (38, Value.int .i64 (rows.length : Int)), (39, Value.int .i64 (i : Int)), (69, Value.slice ra.A ra.xs.length ra.xs.length), (70, Value.int .i64 (ra.xs.length : Int)), (71, Value.int .i64 (k : Int))] ⟨rfl, rfl, rfl, rfl, rfl, rfl, rfl, rfl, rfl, rfl, rfl, rfl, trivial⟩ ?_
            refine e_blk ?_
            refine e_then ?_
            refine k_region ?_
            refine r_val (v := Value.int .i64 ((k : Int) + 1)) (w' := w18) rfl rfl (x_addE rfl (by omega) (by omega) rfl rfl) ?_
            refine r_val (v := Value.int .i64 ((k : Int) + 1)) (w' := w18) rfl rfl (rfl) ?_
            refine r_nil ?_
            refine ends_sub [(0, Value.slice Al nl cl), (1, Value.slice Ab nb cb), (2, Value.int .i64 limit), (7, Value.slice A rows.length rows.length), (9, Value.map (some bo)), (10, Value.int .i64 (i : Int)), (37, Value.slice A rows.length rows.length), (38, Value.int .i64 (rows.length : Int)), (39, Value.int .i64 (i : Int)), (69, Value.slice ra.A ra.xs.length ra.xs.length), (70, Value.int .i64 (ra.xs.length : Int)), (71, Value.int .i64 ((k : Int) + 1))] ⟨rfl, rfl, rfl, rfl, rfl, rfl, rfl, rfl, rfl, rfl, rfl, rfl, trivial⟩ ?_
            refine e_loop (k + 1) ⟨rfl, rfl, rfl, rfl, rfl, rfl, rfl, rfl, rfl, rfl, rfl, rfl, trivial⟩ ?_ ?_
            · exact ⟨by rw [plTo_step hids hy, esOf_snoc, List.length_append]; exact hM19, by omega⟩
            · (try dsimp only); omega
          · try simp only [decide_eq_true_eq, decide_eq_false_iff_not, Bool.and_eq_true, Bool.or_eq_true, Bool.or_eq_false_iff, Bool.not_eq_true', Bool.not_eq_false', beq_iff_eq, bne_iff_ne, beq_eq_false_iff_ne, bne_eq_false_iff_eq, Int.not_lt, Int.not_le, ne_eq, Bool.not_eq_true, Bool.not_eq_false] at h2
            refine k_exit ?_
            refine e_then_exit ?_
            refine e_loop_exit ?_
            refine e_blk_exit ?_
            refine e_blk ?_
            refine e_then ?_
            refine k_region ?_
            refine r_val (v := Value.int .i64 ((i : Int) + 1)) (w' := w16) rfl rfl (x_addE rfl (by omega) (by omega) rfl rfl) ?_
            refine r_val (v := Value.int .i64 ((i : Int) + 1)) (w' := w16) rfl rfl (rfl) ?_
            refine r_nil ?_
            refine ends_sub [(0, Value.slice Al nl cl), (1, Value.slice Ab nb cb), (2, Value.int .i64 limit), (7, Value.slice A rows.length rows.length), (9, Value.map (some bo)), (37, Value.slice A rows.length rows.length), (38, Value.int .i64 (rows.length : Int)), (39, Value.int .i64 ((i : Int) + 1))] ⟨rfl, rfl, rfl, rfl, rfl, rfl, rfl, rfl, trivial⟩ ?_
            refine e_loop (i + 1) ⟨rfl, rfl, rfl, rfl, rfl, rfl, rfl, rfl, trivial⟩ ?_ ?_
            · exact ⟨by rw [← plTo_row hids (k := k) (by omega)]; exact hM17, by omega⟩
            · (try dsimp only); omega
        · skip
          refine k_draw mixed [0, 1, 3, 7, 15, 31, 63, 127, 255, 511, 1023, 2047, 4095, 4095, 12287, 32767, 65535, 131071, 262143, 4095, 528383, 1576959, 4194303, 8388607, 16777215] [some (Value.slice ra.A ra.xs.length ra.xs.length), some (Value.int .i64 (ra.xs.length : Int)), some (Value.bool false), some (Value.bool false), some (Value.slice ra.A ra.xs.length ra.xs.length), some (Value.bool true), some (Value.bool false), some (Value.bool false), some (Value.bool false), some (Value.int .i64 (i : Int)), some (Value.bool false), some (Value.bool false), some (undef), some (undef), some (undef), some (undef), some (undef), some (undef), some (undef), some (undef), some (undef), some (undef), some (undef), some (Value.bool false), some (Value.bool false)] (by kernel_rfl) (fun D V w_ => Mem w No w_ ((bo, mapO (esOf (plTo (idsG l nl f) i 0)) (plTo (idsG l nl f) i 0).length) :: (Lo ++ rows.flatMap ORow.L))) (fun V => hM9.drew) ?_ ?_
          · refine ⟨?_, ?_, ?_, ?_, ?_, ?_, ?_, ?_, ?_, ?_, ?_, ?_, ?_, ?_, ?_, ?_, ?_, ?_, ?_, ?_, ?_, ?_, ?_, ?_, ?_, trivial⟩
            · intro D V w_ hd hi hM_
              refine goal_of [(11, Value.slice ra.A ra.xs.length ra.xs.length)] rfl ⟨rfl, trivial⟩ rfl ?_
              exact run_val (Value.slice ra.A ra.xs.length ra.xs.length) (rfl) ⟨fun c h => Option.some.inj (Option.some.inj h), hM_⟩
            · intro D V w_ hd hi hM_
              refine goal_of [(44, Value.slice ra.A ra.xs.length ra.xs.length)] rfl ⟨rfl, trivial⟩ rfl ?_
              exact run_val (Value.int .i64 (ra.xs.length : Int)) (x_len rfl rfl) ⟨fun c h => Option.some.inj (Option.some.inj h), hM_⟩
            · intro D V w_ hd hi hM_
              refine goal_of [(45, Value.int .i64 (ra.xs.length : Int))] rfl ⟨rfl, trivial⟩ rfl ?_
              exact run_val (Value.bool false) (Eq.trans (rfl) (congrArg (fun z => Result.ok (Next.value (Value.bool z)) w_) g0)) ⟨fun c h => Option.some.inj (Option.some.inj h), hM_⟩
            · intro D V w_ hd hi hM_
              refine goal_of [(46, Value.bool false)] rfl ⟨rfl, trivial⟩ rfl ?_
              exact run_val (Value.bool false) (rfl) ⟨fun c h => Option.some.inj (Option.some.inj h), hM_⟩
            · intro D V w_ hd hi hM_
              refine goal_yes [(11, Value.slice ra.A ra.xs.length ra.xs.length)] rfl rfl ⟨rfl, trivial⟩ rfl ?_
              exact run_val (Value.slice ra.A ra.xs.length ra.xs.length) (rfl) ⟨fun c h => Option.some.inj (Option.some.inj h), hM_⟩
            · intro D V w_ hd hi hM_
              refine goal_yes [(48, Value.slice ra.A ra.xs.length ra.xs.length)] rfl rfl ⟨rfl, trivial⟩ rfl ?_
              refine run_call (f := 7) (args := #[Value.slice ra.A ra.xs.length ra.xs.length]) (w' := w_) (x_call (vs := [Value.slice ra.A ra.xs.length ra.xs.length]) (enter7 _ _) rfl rfl) (isSorted_s ra.A ra.xs.length ra.xs.length ra.xs w_ ((SSok_of' hM_.tail hro hrok).2 ra hram) (by rw [hrax]; exact idsAt_sorted hgd.sorted hll x) (by omega)) ?_
              rintro v_ w2_ ⟨rfl, hM2_⟩
              exact ⟨fun c h => Option.some.inj (Option.some.inj h), hM_.grow hM2_.kept⟩
            · intro D V w_ hd hi hM_
              refine goal_yes [(49, Value.bool true)] rfl rfl ⟨rfl, trivial⟩ rfl ?_
              exact run_val (Value.bool false) (rfl) ⟨fun c h => Option.some.inj (Option.some.inj h), hM_⟩
            · intro D V w_ hd hi hM_
              refine goal_of [(47, Value.bool false), (50, Value.bool false)] rfl ⟨rfl, rfl, trivial⟩ rfl ?_
              exact run_val (Value.bool false) (rfl) ⟨fun c h => Option.some.inj (Option.some.inj h), hM_⟩
            · intro D V w_ hd hi hM_
              refine goal_of [(51, Value.bool false)] rfl ⟨rfl, trivial⟩ rfl ?_
              exact run_val (Value.bool false) (rfl) ⟨fun c h => Option.some.inj (Option.some.inj h), hM_⟩
            · intro D V w_ hd hi hM_
              refine goal_yes [(10, Value.int .i64 (i : Int))] rfl rfl ⟨rfl, trivial⟩ rfl ?_
              exact run_val (Value.int .i64 (i : Int)) (rfl) ⟨fun c h => Option.some.inj (Option.some.inj h), hM_⟩
            · intro D V w_ hd hi hM_
              refine goal_yes [(53, Value.int .i64 (i : Int))] rfl rfl ⟨rfl, trivial⟩ rfl ?_
              exact run_val (Value.bool false) (Eq.trans (rfl) (congrArg (fun z => Result.ok (Next.value (Value.bool z)) w_) g1)) ⟨fun c h => Option.some.inj (Option.some.inj h), hM_⟩
            · intro D V w_ hd hi hM_
              refine goal_yes [(54, Value.bool false)] rfl rfl ⟨rfl, trivial⟩ rfl ?_
              exact run_val (Value.bool false) (rfl) ⟨fun c h => Option.some.inj (Option.some.inj h), hM_⟩
            · intro D V w_ hd hi hM_
              exact goal_no rfl rfl (by decide) ⟨fun c h => Option.some.inj (Option.some.inj h), hM_⟩
            · intro D V w_ hd hi hM_
              exact goal_no rfl rfl (by decide) ⟨fun c h => Option.some.inj (Option.some.inj h), hM_⟩
            · intro D V w_ hd hi hM_
              exact goal_no rfl rfl (by decide) ⟨fun c h => Option.some.inj (Option.some.inj h), hM_⟩
            · intro D V w_ hd hi hM_
              exact goal_no rfl rfl (by decide) ⟨fun c h => Option.some.inj (Option.some.inj h), hM_⟩
            · intro D V w_ hd hi hM_
              exact goal_no rfl rfl (by decide) ⟨fun c h => Option.some.inj (Option.some.inj h), hM_⟩
            · intro D V w_ hd hi hM_
              exact goal_no rfl rfl (by decide) ⟨fun c h => Option.some.inj (Option.some.inj h), hM_⟩
            · intro D V w_ hd hi hM_
              exact goal_no rfl rfl (by decide) ⟨fun c h => Option.some.inj (Option.some.inj h), hM_⟩
            · intro D V w_ hd hi hM_
              exact goal_no rfl rfl (by decide) ⟨fun c h => Option.some.inj (Option.some.inj h), hM_⟩
            · intro D V w_ hd hi hM_
              exact goal_no rfl rfl (by decide) ⟨fun c h => Option.some.inj (Option.some.inj h), hM_⟩
            · intro D V w_ hd hi hM_
              exact goal_no rfl rfl (by decide) ⟨fun c h => Option.some.inj (Option.some.inj h), hM_⟩
            · intro D V w_ hd hi hM_
              exact goal_no rfl rfl (by decide) ⟨fun c h => Option.some.inj (Option.some.inj h), hM_⟩
            · intro D V w_ hd hi hM_
              refine goal_yes [(55, Value.bool false), (66, undef)] rfl rfl ⟨rfl, rfl, trivial⟩ rfl ?_
              exact run_val (Value.bool false) (rfl) ⟨fun c h => Option.some.inj (Option.some.inj h), hM_⟩
            · intro D V w_ hd hi hM_
              refine goal_of [(52, Value.bool false), (67, Value.bool false)] rfl ⟨rfl, rfl, trivial⟩ rfl ?_
              exact run_val (Value.bool false) (rfl) ⟨fun c h => Option.some.inj (Option.some.inj h), hM_⟩
          intro D V w22 hall hM23
          refine ends_sub [(0, Value.slice Al nl cl), (1, Value.slice Ab nb cb), (2, Value.int .i64 limit), (7, Value.slice A rows.length rows.length), (9, Value.map (some bo)), (10, Value.int .i64 (i : Int)), (11, Value.slice ra.A ra.xs.length ra.xs.length), (37, Value.slice A rows.length rows.length), (38, Value.int .i64 (rows.length : Int)), (39, Value.int .i64 (i : Int)), (68, Value.bool false)] ⟨rfl, rfl, rfl, rfl, rfl, rfl, rfl, rfl, rfl, rfl, rfl, trivial⟩ ?_
          refine e_then ?_
          refine k_cond_false rfl rfl ?_
          refine k_skip ?_
          refine e_then ?_
          refine k_seq ?_
          refine k_region ?_
          refine r_val (v := Value.slice ra.A ra.xs.length ra.xs.length) (w' := w22) rfl rfl (rfl) ?_
          refine r_val (v := Value.int .i64 (ra.xs.length : Int)) (w' := w22) rfl rfl (x_len rfl rfl) ?_
          refine r_val (v := Value.int .i64 0) (w' := w22) rfl rfl (rfl) ?_
          refine r_nil ?_
          refine ends_sub [(0, Value.slice Al nl cl), (1, Value.slice Ab nb cb), (2, Value.int .i64 limit), (7, Value.slice A rows.length rows.length), (9, Value.map (some bo)), (10, Value.int .i64 (i : Int)), (37, Value.slice A rows.length rows.length), (38, Value.int .i64 (rows.length : Int)), (39, Value.int .i64 (i : Int)), (69, Value.slice ra.A ra.xs.length ra.xs.length), (70, Value.int .i64 (ra.xs.length : Int)), (71, Value.int .i64 0)] ⟨rfl, rfl, rfl, rfl, rfl, rfl, rfl, rfl, rfl, rfl, rfl, rfl, trivial⟩ ?_
          refine e_then ?_
          refine k_block ?_
          refine k_loop (σ := Nat) (fun k => [(0, Value.slice Al nl cl), (1, Value.slice Ab nb cb), (2, Value.int .i64 limit), (7, Value.slice A rows.length rows.length), (9, Value.map (some bo)), (10, Value.int .i64 (i : Int)), (37, Value.slice A rows.length rows.length), (38, Value.int .i64 (rows.length : Int)), (39, Value.int .i64 (i : Int)), (69, Value.slice ra.A ra.xs.length ra.xs.length), (70, Value.int .i64 (ra.xs.length : Int)), (71, Value.int .i64 (k : Int))]) (fun k w_ => Mem w No w_ ((bo, mapO (esOf (plTo (idsG l nl f) i k)) (plTo (idsG l nl f) i k).length) :: (Lo ++ rows.flatMap ORow.L)) ∧ k ≤ ra.xs.length) (fun k => ra.xs.length - k) 0 ⟨rfl, rfl, rfl, rfl, rfl, rfl, rfl, rfl, rfl, rfl, rfl, rfl, trivial⟩ ⟨hM23, Nat.zero_le _⟩ ?_
          rintro k w24 ⟨hM25, hk⟩
          refine wpK_sub [(0, Value.slice Al nl cl), (1, Value.slice Ab nb cb), (2, Value.int .i64 limit), (7, Value.slice A rows.length rows.length), (9, Value.map (some bo)), (10, Value.int .i64 (i : Int)), (37, Value.slice A rows.length rows.length), (38, Value.int .i64 (rows.length : Int)), (39, Value.int .i64 (i : Int)), (69, Value.slice ra.A ra.xs.length ra.xs.length), (70, Value.int .i64 (ra.xs.length : Int)), (71, Value.int .i64 (k : Int))] ⟨rfl, rfl, rfl, rfl, rfl, rfl, rfl, rfl, rfl, rfl, rfl, rfl, trivial⟩ ?_
          refine k_seq ?_
          refine k_region ?_
          refine r_val (v := Value.bool (decide ((k : Int) < (ra.xs.length : Int)))) (w' := w24) rfl rfl (rfl) ?_
          refine r_nil ?_
          refine ends_sub [(0, Value.slice Al nl cl), (1, Value.slice Ab nb cb), (2, Value.int .i64 limit), (7, Value.slice A rows.length rows.length), (9, Value.map (some bo)), (10, Value.int .i64 (i : Int)), (37, Value.slice A rows.length rows.length), (38, Value.int .i64 (rows.length : Int)), (39, Value.int .i64 (i : Int)), (69, Value.slice ra.A ra.xs.length ra.xs.length), (70, Value.int .i64 (ra.xs.length : Int)), (71, Value.int .i64 (k : Int)), (72, Value.bool (decide ((k : Int) < (ra.xs.length : Int))))] ⟨rfl, rfl, rfl, rfl, rfl, rfl, rfl, rfl, rfl, rfl, rfl, rfl, rfl, trivial⟩ ?_
          refine e_then ?_
          refine k_seq ?_
          refine k_cond rfl rfl (fun h2 => ?_) (fun h2 => ?_)
          · try simp only [decide_eq_true_eq, decide_eq_false_iff_not, Bool.and_eq_true, Bool.or_eq_true, Bool.or_eq_false_iff, Bool.not_eq_true', Bool.not_eq_false', beq_iff_eq, bne_iff_ne, beq_eq_false_iff_ne, bne_eq_false_iff_eq, Int.not_lt, Int.not_le, ne_eq, Bool.not_eq_true, Bool.not_eq_false] at h2
            refine k_skip ?_
            refine e_then ?_
            refine k_seq ?_
            refine k_block ?_
            refine k_seq ?_
            refine k_region ?_
            obtain ⟨y, hy⟩ : ∃ y, ra.xs[k]? = some y := ⟨ra.xs[k]'(by omega), by simp⟩
            have hmg := esOf_none (plTo_new hnd hids hy)
            refine r_val (v := Value.pointer (some ((adr ra.A).add (k * 1)))) (w' := w24) rfl rfl (x_indexAddrN (i := k) (sz := 1) (hss.2 ra hram).here (by omega) rfl rfl rfl rfl) ?_
            refine r_val (v := Value.int .i64 y) (w' := w24) rfl rfl (x_loadEInt ((SSok_of' hM25.tail hro hrok).2 ra hram) hy rfl rfl) ?_
            refine r_val (v := Value.int .i64 y) (w' := w24) rfl rfl (rfl) ?_
            refine r_nil ?_
            refine ends_sub [(0, Value.slice Al nl cl), (1, Value.slice Ab nb cb), (2, Value.int .i64 limit), (7, Value.slice A rows.length rows.length), (9, Value.map (some bo)), (10, Value.int .i64 (i : Int)), (13, Value.int .i64 y), (37, Value.slice A rows.length rows.length), (38, Value.int .i64 (rows.length : Int)), (39, Value.int .i64 (i : Int)), (69, Value.slice ra.A ra.xs.length ra.xs.length), (70, Value.int .i64 (ra.xs.length : Int)), (71, Value.int .i64 (k : Int))] ⟨rfl, rfl, rfl, rfl, rfl, rfl, rfl, rfl, rfl, rfl, rfl, rfl, rfl, trivial⟩ ?_
            refine e_then ?_
            refine k_seq ?_
            refine k_seq ?_
            refine k_region ?_
            refine r_val (v := Value.map (some bo)) (w' := w24) rfl rfl (rfl) ?_
            refine r_val (v := Value.int .i64 y) (w' := w24) rfl rfl (rfl) ?_
            refine r_val (v := Value.tuple #[Value.int .i64 0, Value.bool false]) (w' := w24) rfl rfl (x_lookupOkN (k := y) (hM25.get 0 rfl) hmg rfl rfl rfl rfl rfl) ?_
            refine r_val (v := Value.tuple #[Value.int .i64 0, Value.bool false]) (w' := w24) rfl rfl (rfl) ?_
            refine r_val (v := Value.int .i64 0) (w' := w24) rfl rfl (rfl) ?_
            refine r_val (v := Value.bool false) (w' := w24) rfl rfl (rfl) ?_
            refine r_val (v := Value.int .i64 0) (w' := w24) rfl rfl (rfl) ?_
            refine r_val (v := Value.bool false) (w' := w24) rfl rfl (rfl) ?_
            refine r_nil ?_
            refine ends_sub [(0, Value.slice Al nl cl), (1, Value.slice Ab nb cb), (2, Value.int .i64 limit), (7, Value.slice A rows.length rows.length), (9, Value.map (some bo)), (10, Value.int .i64 (i : Int)), (13, Value.int .i64 y), (15, Value.bool false), (37, Value.slice A rows.length rows.length), (38, Value.int .i64 (rows.length : Int)), (39, Value.int .i64 (i : Int)), (69, Value.slice ra.A ra.xs.length ra.xs.length), (70, Value.int .i64 (ra.xs.length : Int)), (71, Value.int .i64 (k : Int))] ⟨rfl, rfl, rfl, rfl, rfl, rfl, rfl, rfl, rfl, rfl, rfl, rfl, rfl, rfl, trivial⟩ ?_
            refine e_then ?_
            refine k_seq ?_
            refine k_region ?_
            refine r_val (v := Value.bool false) (w' := w24) rfl rfl (rfl) ?_
            refine r_nil ?_
            refine ends_sub [(0, Value.slice Al nl cl), (1, Value.slice Ab nb cb), (2, Value.int .i64 limit), (7, Value.slice A rows.length rows.length), (9, Value.map (some bo)), (10, Value.int .i64 (i : Int)), (13, Value.int .i64 y), (37, Value.slice A rows.length rows.length), (38, Value.int .i64 (rows.length : Int)), (39, Value.int .i64 (i : Int)), (69, Value.slice ra.A ra.xs.length ra.xs.length), (70, Value.int .i64 (ra.xs.length : Int)), (71, Value.int .i64 (k : Int)), (81, Value.bool false)] ⟨rfl, rfl, rfl, rfl, rfl, rfl, rfl, rfl, rfl, rfl, rfl, rfl, rfl, rfl, trivial⟩ ?_
            refine e_then ?_
            refine k_cond_false rfl rfl ?_
            refine k_skip ?_
            refine e_then ?_
            refine k_region ?_
            refine r_val (v := Value.map (some bo)) (w' := w24) rfl rfl (rfl) ?_
            refine r_val (v := Value.int .i64 y) (w' := w24) rfl rfl (rfl) ?_
            refine r_val (v := Value.int .i64 (i : Int)) (w' := w24) rfl rfl (rfl) ?_
            refine r_mapNew (k := y) hM25 0 rfl hmg rfl rfl rfl rfl rfl rfl ?_
            intro w26 hM27
            replace hM27 : Mem w No w26 ((bo, mapO (esOf (plTo (idsG l nl f) i k) ++ [(⟨y, .int .i64 (i : Int), (plTo (idsG l nl f) i k).length⟩ : Ent)]) ((plTo (idsG l nl f) i k).length + 1)) :: (Lo ++ rows.flatMap ORow.L)) := hM27
            refine r_nil ?_
            refine ends_sub [(0, Value.slice Al nl cl), (1, Value.slice Ab nb cb), (2, Value.int .i64 limit), (7, Value.slice A rows.length rows.length), (9, Value.map (some bo)), (10, Value.int .i64 (i : Int)), (37, Value.slice A rows.length rows.length), (38, Value.int .i64 (rows.length : Int)), (39, Value.int .i64 (i : Int)), (69, Value.slice ra.A ra.xs.length ra.xs.length), (70, Value.int .i64 (ra.xs.length : Int)), (71, Value.int .i64 (k : Int))] ⟨rfl, rfl, rfl, rfl, rfl, rfl, rfl, rfl, rfl, rfl, rfl, rfl, trivial⟩ ?_
            refine e_blk ?_
            refine e_then ?_
            refine k_region ?_
            refine r_val (v := Value.int .i64 ((k : Int) + 1)) (w' := w26) rfl rfl (x_addE rfl (by omega) (by omega) rfl rfl) ?_
            refine r_val (v := Value.int .i64 ((k : Int) + 1)) (w' := w26) rfl rfl (rfl) ?_
            refine r_nil ?_
            refine ends_sub [(0, Value.slice Al nl cl), (1, Value.slice Ab nb cb), (2, Value.int .i64 limit), (7, Value.slice A rows.length rows.length), (9, Value.map (some bo)), (10, Value.int .i64 (i : Int)), (37, Value.slice A rows.length rows.length), (38, Value.int .i64 (rows.length : Int)), (39, Value.int .i64 (i : Int)), (69, Value.slice ra.A ra.xs.length ra.xs.length), (70, Value.int .i64 (ra.xs.length : Int)), (71, Value.int .i64 ((k : Int) + 1))] ⟨rfl, rfl, rfl, rfl, rfl, rfl, rfl, rfl, rfl, rfl, rfl, rfl, trivial⟩ ?_
            refine e_loop (k + 1) ⟨rfl, rfl, rfl, rfl, rfl, rfl, rfl, rfl, rfl, rfl, rfl, rfl, trivial⟩ ?_ ?_
            · exact ⟨by rw [plTo_step hids hy, esOf_snoc, List.length_append]; exact hM27, by omega⟩
            · (try dsimp only); omega
          · try simp only [decide_eq_true_eq, decide_eq_false_iff_not, Bool.and_eq_true, Bool.or_eq_true, Bool.or_eq_false_iff, Bool.not_eq_true', Bool.not_eq_false', beq_iff_eq, bne_iff_ne, beq_eq_false_iff_ne, bne_eq_false_iff_eq, Int.not_lt, Int.not_le, ne_eq, Bool.not_eq_true, Bool.not_eq_false] at h2
            refine k_exit ?_
            refine e_then_exit ?_
            refine e_loop_exit ?_
            refine e_blk_exit ?_
            refine e_blk ?_
            refine e_then ?_
            refine k_region ?_
            refine r_val (v := Value.int .i64 ((i : Int) + 1)) (w' := w24) rfl rfl (x_addE rfl (by omega) (by omega) rfl rfl) ?_
            refine r_val (v := Value.int .i64 ((i : Int) + 1)) (w' := w24) rfl rfl (rfl) ?_
            refine r_nil ?_
            refine ends_sub [(0, Value.slice Al nl cl), (1, Value.slice Ab nb cb), (2, Value.int .i64 limit), (7, Value.slice A rows.length rows.length), (9, Value.map (some bo)), (37, Value.slice A rows.length rows.length), (38, Value.int .i64 (rows.length : Int)), (39, Value.int .i64 ((i : Int) + 1))] ⟨rfl, rfl, rfl, rfl, rfl, rfl, rfl, rfl, trivial⟩ ?_
            refine e_loop (i + 1) ⟨rfl, rfl, rfl, rfl, rfl, rfl, rfl, rfl, trivial⟩ ?_ ?_
            · exact ⟨by rw [← plTo_row hids (k := k) (by omega)]; exact hM25, by omega⟩
            · (try dsimp only); omega
    · try simp only [decide_eq_true_eq, decide_eq_false_iff_not, Bool.and_eq_true, Bool.or_eq_true, Bool.or_eq_false_iff, Bool.not_eq_true', Bool.not_eq_false', beq_iff_eq, bne_iff_ne, beq_eq_false_iff_ne, bne_eq_false_iff_eq, Int.not_lt, Int.not_le, ne_eq, Bool.not_eq_true, Bool.not_eq_false] at h
      refine k_exit ?_
      refine e_then_exit ?_
      refine e_loop_exit ?_
      refine e_blk_exit ?_
      refine e_then ?_
      refine k_seq ?_
      refine k_seq ?_
      refine k_region ?_
      have hil : i = rows.length := by omega
      rw [hil] at hM9
      have hM28 : Mem w No w8 ((bo, mapO (esOf (plTo (idsG l nl f) rows.length 0)) (plTo (idsG l nl f) rows.length 0).length) :: (Lo ++ rows.flatMap ORow.L)) := hM9
      refine r_val (v := Value.map (some bo)) (w' := w8) rfl rfl (rfl) ?_
      refine r_val (v := Value.int .i64 (nl : Int)) (w' := w8) rfl rfl (x_lenMapE (plTo_len hgd.sorted hll hf hidl) (hM28.get 0 rfl) rfl rfl) ?_
      refine r_val (v := Value.slice Al nl cl) (w' := w8) rfl rfl (rfl) ?_
      refine r_val (v := Value.int .i64 (nl : Int)) (w' := w8) rfl rfl (x_len rfl rfl) ?_
      refine r_val (v := Value.bool ((nl : Int) != (nl : Int))) (w' := w8) rfl rfl (rfl) ?_
      refine r_nil ?_
      refine ends_sub [(0, Value.slice Al nl cl), (1, Value.slice Ab nb cb), (2, Value.int .i64 limit), (7, Value.slice A rows.length rows.length), (9, Value.map (some bo)), (91, Value.bool ((nl : Int) != (nl : Int)))] ⟨rfl, rfl, rfl, rfl, rfl, rfl, trivial⟩ ?_
      refine e_then ?_
      refine k_cond_false rfl (congrArg Value.bool (by simp)) ?_
      refine k_skip ?_
      refine e_then ?_
      refine k_seq ?_
      refine k_region ?_
      refine r_new (fun b => .map (some b)) (pmapO encP2 [] 0) hM28 (by kernel_rfl) rfl rfl ?_
      intro bp w29 hM30 hbp
      replace hM30 : Mem w No w29 ((bp, pmapO encP2 [] 0) :: (bo, mapO (esOf (plTo (idsG l nl f) rows.length 0)) (plTo (idsG l nl f) rows.length 0).length) :: (Lo ++ rows.flatMap ORow.L)) := hM30
      refine r_val (v := Value.map (some bp)) (w' := w29) rfl rfl (rfl) ?_
      refine r_nil ?_
      refine ends_sub [(0, Value.slice Al nl cl), (1, Value.slice Ab nb cb), (2, Value.int .i64 limit), (7, Value.slice A rows.length rows.length), (9, Value.map (some bo)), (16, Value.map (some bp))] ⟨rfl, rfl, rfl, rfl, rfl, rfl, trivial⟩ ?_
      refine e_then ?_
      refine k_seq ?_
      refine k_seq ?_
      refine k_region ?_
      refine r_val (v := Value.slice Ab nb cb) (w' := w29) rfl rfl (rfl) ?_
      refine r_val (v := Value.int .i64 (nb : Int)) (w' := w29) rfl rfl (x_len rfl rfl) ?_
      refine r_val (v := Value.int .i64 0) (w' := w29) rfl rfl (rfl) ?_
      refine r_nil ?_
      refine ends_sub [(0, Value.slice Al nl cl), (2, Value.int .i64 limit), (7, Value.slice A rows.length rows.length), (9, Value.map (some bo)), (16, Value.map (some bp)), (93, Value.slice Ab nb cb), (94, Value.int .i64 (nb : Int)), (95, Value.int .i64 0)] ⟨rfl, rfl, rfl, rfl, rfl, rfl, rfl, rfl, trivial⟩ ?_
      refine e_then ?_
      refine k_block ?_
      refine k_loop (σ := Nat × List (PEnt (Int × Int)) × Nat) (fun ⟨k, es, ck⟩ => [(0, Value.slice Al nl cl), (2, Value.int .i64 limit), (7, Value.slice A rows.length rows.length), (9, Value.map (some bo)), (16, Value.map (some bp)), (93, Value.slice Ab nb cb), (94, Value.int .i64 (nb : Int)), (95, Value.int .i64 (k : Int))]) (fun ⟨k, es, ck⟩ w_ => Mem w No w_ ((bp, pmapO encP2 es ck) :: (bo, mapO (esOf (plTo (idsG l nl f) rows.length 0)) (plTo (idsG l nl f) rows.length 0).length) :: (Lo ++ rows.flatMap ORow.L)) ∧ k ≤ nb ∧ ApOk l nl f es (bs.take k)) (fun ⟨k, es, ck⟩ => nb - k) (0, [], 0) ⟨rfl, rfl, rfl, rfl, rfl, rfl, rfl, rfl, trivial⟩ ⟨hM30, Nat.zero_le _, fun b hb => by simp at hb⟩ ?_
      rintro ⟨k, es, ck⟩ w31 ⟨hM32, hk, ha⟩
      refine wpK_sub [(0, Value.slice Al nl cl), (2, Value.int .i64 limit), (7, Value.slice A rows.length rows.length), (9, Value.map (some bo)), (16, Value.map (some bp)), (93, Value.slice Ab nb cb), (94, Value.int .i64 (nb : Int)), (95, Value.int .i64 (k : Int))] ⟨rfl, rfl, rfl, rfl, rfl, rfl, rfl, rfl, trivial⟩ ?_
      refine k_seq ?_
      refine k_region ?_
      refine r_val (v := Value.bool (decide ((k : Int) < (nb : Int)))) (w' := w31) rfl rfl (rfl) ?_
      refine r_nil ?_
      refine ends_sub [(0, Value.slice Al nl cl), (2, Value.int .i64 limit), (7, Value.slice A rows.length rows.length), (9, Value.map (some bo)), (16, Value.map (some bp)), (93, Value.slice Ab nb cb), (94, Value.int .i64 (nb : Int)), (95, Value.int .i64 (k : Int)), (96, Value.bool (decide ((k : Int) < (nb : Int))))] ⟨rfl, rfl, rfl, rfl, rfl, rfl, rfl, rfl, rfl, trivial⟩ ?_
      refine e_then ?_
      refine k_seq ?_
      refine k_cond rfl rfl (fun h3 => ?_) (fun h3 => ?_)
      · try simp only [decide_eq_true_eq, decide_eq_false_iff_not, Bool.and_eq_true, Bool.or_eq_true, Bool.or_eq_false_iff, Bool.not_eq_true', Bool.not_eq_false', beq_iff_eq, bne_iff_ne, beq_eq_false_iff_ne, bne_eq_false_iff_eq, Int.not_lt, Int.not_le, ne_eq, Bool.not_eq_true, Bool.not_eq_false] at h3
        refine k_skip ?_
        refine e_then ?_
        refine k_seq ?_
        refine k_block ?_
        refine k_seq ?_
        refine k_region ?_
        obtain ⟨b, hbk⟩ : ∃ b, bs[k]? = some b := ⟨bs[k]'(by omega), by simp⟩
        have hbm := List.mem_of_getElem? hbk
        obtain ⟨hoa, hob, _⟩ := bonds_ok hcl.2.2 b hbm
        have hpa := place_lt hgd.sorted hoa
        have hpb := place_lt hgd.sorted hob
        rw [hll] at hpa hpb
        obtain ⟨ja, hja⟩ := hf.idx hpa
        obtain ⟨jb, hjb⟩ := hf.idx hpb
        have hma := of_id hgd.sorted hll hf hidl hoa hja
        have hmb := of_id hgd.sorted hll hf hidl hob hjb
        have hmust := bond_must hR hcb hbm hja hjb
        refine r_val (v := Value.pointer (some ((adr Ab).add (k * 3)))) (w' := w31) rfl rfl (x_indexAddrN (i := k) (sz := 3) hb.here (by omega) rfl rfl rfl rfl) ?_
        refine r_val (v := Value.agg (#[Value.int .i64 b.a, Value.int .i64 b.b, Value.bool b.must])) (w' := w31) rfl rfl (x_loadElem (enc := bondE) (e := b) (hb.up hM32) hbk rfl rfl rfl) ?_
        refine r_alloc hM32 (z := Value.agg #[Value.int .i64 0, Value.int .i64 0, Value.bool false]) rfl rfl ?_
        intro b35 w33 hM34 hb35
        replace hM34 : Mem w No w33 ((b35, .cells #[Value.int .i64 0, Value.int .i64 0, Value.bool false] 35 (0, 0)) :: (bp, pmapO encP2 es ck) :: (bo, mapO (esOf (plTo (idsG l nl f) rows.length 0)) (plTo (idsG l nl f) rows.length 0).length) :: (Lo ++ rows.flatMap ORow.L)) := hM34
        refine r_storeRow (vs := (#[Value.int .i64 b.a, Value.int .i64 b.b, Value.bool b.must])) hM34 0 rfl (by rw [show (#[Value.int .i64 b.a, Value.int .i64 b.b, Value.bool b.must]).size = 3 from (by simp [ints_size, *])]; rfl) (by first | (simp [Value.oneCell']; done) | (simp only [List.mem_cons, List.not_mem_nil, or_false, forall_eq_or_imp, forall_eq]; (repeat' constructor) <;> first | assumption | rfl)) (by rw [show (#[Value.int .i64 b.a, Value.int .i64 b.b, Value.bool b.must]).size = 3 from (by simp [ints_size, *])]; rfl) rfl rfl rfl ?_
        intro w36 hM37
        replace hM37 : Mem w No w36 ((b35, .cells (#[Value.int .i64 b.a, Value.int .i64 b.b, Value.bool b.must]) 35 (0, 0)) :: (bp, pmapO encP2 es ck) :: (bo, mapO (esOf (plTo (idsG l nl f) rows.length 0)) (plTo (idsG l nl f) rows.length 0).length) :: (Lo ++ rows.flatMap ORow.L)) := hM37
        refine r_nil ?_
        refine ends_sub [(0, Value.slice Al nl cl), (2, Value.int .i64 limit), (7, Value.slice A rows.length rows.length), (9, Value.map (some bo)), (16, Value.map (some bp)), (18, Value.pointer (some ⟨b35, 0, none⟩)), (93, Value.slice Ab nb cb), (94, Value.int .i64 (nb : Int)), (95, Value.int .i64 (k : Int))] ⟨rfl, rfl, rfl, rfl, rfl, rfl, rfl, rfl, rfl, trivial⟩ ?_
        refine e_then ?_
        refine k_seq ?_
        refine k_draw mixed [0, 0, 2, 7, 0, 0, 32, 112, 15, 511] [some (Value.map (some bo)), some (Value.pointer (some ⟨b35, 0, none⟩)), some (Value.int .i64 b.a), some (Value.int .i64 (ja : Int)), some (Value.map (some bo)), some (Value.pointer (some ⟨b35, 1, none⟩)), some (Value.int .i64 b.b), some (Value.int .i64 (jb : Int)), some (Value.int .i64 (ja : Int)), some (Value.int .i64 (jb : Int))] (by kernel_rfl) (fun D V w_ => Mem w No w_ ((b35, .cells (#[Value.int .i64 b.a, Value.int .i64 b.b, Value.bool b.must]) 35 (0, 0)) :: (bp, pmapO encP2 es ck) :: (bo, mapO (esOf (plTo (idsG l nl f) rows.length 0)) (plTo (idsG l nl f) rows.length 0).length) :: (Lo ++ rows.flatMap ORow.L))) (fun V => hM37.drew) ?_ ?_
        · refine ⟨?_, ?_, ?_, ?_, ?_, ?_, ?_, ?_, ?_, ?_, trivial⟩
          · intro D V w_ hd hi hM_
            refine goal_of [(9, Value.map (some bo))] rfl ⟨rfl, trivial⟩ rfl ?_
            exact run_val (Value.map (some bo)) (rfl) ⟨fun c h => Option.some.inj (Option.some.inj h), hM_⟩
          · intro D V w_ hd hi hM_
            refine goal_of [(18, Value.pointer (some ⟨b35, 0, none⟩))] rfl ⟨rfl, trivial⟩ rfl ?_
            exact run_val (Value.pointer (some ⟨b35, 0, none⟩)) (rfl) ⟨fun c h => Option.some.inj (Option.some.inj h), hM_⟩
          · intro D V w_ hd hi hM_
            refine goal_of [(100, Value.pointer (some ⟨b35, 0, none⟩))] rfl ⟨rfl, trivial⟩ rfl ?_
            exact run_val (Value.int .i64 b.a) (x_load (hM_.cell 0 rfl rfl) rfl rfl) ⟨fun c h => Option.some.inj (Option.some.inj h), hM_⟩
          · intro D V w_ hd hi hM_
            refine goal_of [(99, Value.map (some bo)), (101, Value.int .i64 b.a)] rfl ⟨rfl, rfl, trivial⟩ rfl ?_
            exact run_val (Value.int .i64 (ja : Int)) (x_lookupS (hM_.get 2 rfl) hma rfl rfl rfl rfl rfl) ⟨fun c h => Option.some.inj (Option.some.inj h), hM_⟩
          · intro D V w_ hd hi hM_
            refine goal_of [(9, Value.map (some bo))] rfl ⟨rfl, trivial⟩ rfl ?_
            exact run_val (Value.map (some bo)) (rfl) ⟨fun c h => Option.some.inj (Option.some.inj h), hM_⟩
          · intro D V w_ hd hi hM_
            refine goal_of [(18, Value.pointer (some ⟨b35, 0, none⟩))] rfl ⟨rfl, trivial⟩ rfl ?_
            exact run_val (Value.pointer (some ⟨b35, 1, none⟩)) (rfl) ⟨fun c h => Option.some.inj (Option.some.inj h), hM_⟩
          · intro D V w_ hd hi hM_
            refine goal_of [(104, Value.pointer (some ⟨b35, 1, none⟩))] rfl ⟨rfl, trivial⟩ rfl ?_
            exact run_val (Value.int .i64 b.b) (x_load (hM_.cell 0 rfl rfl) rfl rfl) ⟨fun c h => Option.some.inj (Option.some.inj h), hM_⟩
          · intro D V w_ hd hi hM_
            refine goal_of [(103, Value.map (some bo)), (105, Value.int .i64 b.b)] rfl ⟨rfl, rfl, trivial⟩ rfl ?_
            exact run_val (Value.int .i64 (jb : Int)) (x_lookupS (hM_.get 2 rfl) hmb rfl rfl rfl rfl rfl) ⟨fun c h => Option.some.inj (Option.some.inj h), hM_⟩
          · intro D V w_ hd hi hM_
            refine goal_of [(102, Value.int .i64 (ja : Int))] rfl ⟨rfl, trivial⟩ rfl ?_
            exact run_val (Value.int .i64 (ja : Int)) (rfl) ⟨fun c h => Option.some.inj (Option.some.inj h), hM_⟩
          · intro D V w_ hd hi hM_
            refine goal_of [(106, Value.int .i64 (jb : Int))] rfl ⟨rfl, trivial⟩ rfl ?_
            exact run_val (Value.int .i64 (jb : Int)) (rfl) ⟨fun c h => Option.some.inj (Option.some.inj h), hM_⟩
        intro D V w38 hall hM39
        refine ends_sub [(0, Value.slice Al nl cl), (2, Value.int .i64 limit), (7, Value.slice A rows.length rows.length), (9, Value.map (some bo)), (16, Value.map (some bp)), (18, Value.pointer (some ⟨b35, 0, none⟩)), (19, Value.int .i64 (ja : Int)), (20, Value.int .i64 (jb : Int)), (93, Value.slice Ab nb cb), (94, Value.int .i64 (nb : Int)), (95, Value.int .i64 (k : Int))] ⟨rfl, rfl, rfl, rfl, rfl, rfl, rfl, rfl, rfl, rfl, rfl, trivial⟩ ?_
        refine e_then ?_
        refine k_seq ?_
        refine k_seq ?_
        refine k_region ?_
        refine r_val (v := Value.pointer (some ⟨b35, 2, none⟩)) (w' := w38) rfl rfl (rfl) ?_
        refine r_val (v := Value.bool b.must) (w' := w38) rfl rfl (x_load (hM39.cell 0 rfl rfl) rfl rfl) ?_
        refine r_val (v := Value.int .i64 (ja : Int)) (w' := w38) rfl rfl (rfl) ?_
        refine r_val (v := Value.int .i64 (jb : Int)) (w' := w38) rfl rfl (rfl) ?_
        refine r_val (v := Value.bool ((ja : Int) == (jb : Int))) (w' := w38) rfl rfl (rfl) ?_
        refine r_val (v := Value.bool (b.must != ((ja : Int) == (jb : Int)))) (w' := w38) rfl rfl (rfl) ?_
        refine r_nil ?_
        refine ends_sub [(0, Value.slice Al nl cl), (2, Value.int .i64 limit), (7, Value.slice A rows.length rows.length), (9, Value.map (some bo)), (16, Value.map (some bp)), (18, Value.pointer (some ⟨b35, 0, none⟩)), (19, Value.int .i64 (ja : Int)), (20, Value.int .i64 (jb : Int)), (93, Value.slice Ab nb cb), (94, Value.int .i64 (nb : Int)), (95, Value.int .i64 (k : Int)), (112, Value.bool (b.must != ((ja : Int) == (jb : Int))))] ⟨rfl, rfl, rfl, rfl, rfl, rfl, rfl, rfl, rfl, rfl, rfl, rfl, trivial⟩ ?_
        refine e_then ?_
        refine k_cond_false rfl (congrArg Value.bool (hmust)) ?_
        refine k_skip ?_
        refine e_then ?_
        refine k_seq ?_
        refine k_region ?_
        refine r_val (v := Value.pointer (some ⟨b35, 2, none⟩)) (w' := w38) rfl rfl (rfl) ?_
        refine r_val (v := Value.bool b.must) (w' := w38) rfl rfl (x_load (hM39.cell 0 rfl rfl) rfl rfl) ?_
        refine r_val (v := Value.bool (!b.must)) (w' := w38) rfl rfl (rfl) ?_
        refine r_nil ?_
        refine ends_sub [(0, Value.slice Al nl cl), (2, Value.int .i64 limit), (7, Value.slice A rows.length rows.length), (9, Value.map (some bo)), (16, Value.map (some bp)), (19, Value.int .i64 (ja : Int)), (20, Value.int .i64 (jb : Int)), (93, Value.slice Ab nb cb), (94, Value.int .i64 (nb : Int)), (95, Value.int .i64 (k : Int)), (115, Value.bool (!b.must))] ⟨rfl, rfl, rfl, rfl, rfl, rfl, rfl, rfl, rfl, rfl, rfl, trivial⟩ ?_
        refine e_then ?_
        refine k_cond rfl rfl (fun h4 => ?_) (fun h4 => ?_)
        · try simp only [decide_eq_true_eq, decide_eq_false_iff_not, Bool.and_eq_true, Bool.or_eq_true, Bool.or_eq_false_iff, Bool.not_eq_true', Bool.not_eq_false', beq_iff_eq, bne_iff_ne, beq_eq_false_iff_ne, bne_eq_false_iff_eq, Int.not_lt, Int.not_le, ne_eq, Bool.not_eq_true, Bool.not_eq_false] at h4
          refine k_region ?_
          refine r_val (v := Value.map (some bp)) (w' := w38) rfl rfl (rfl) ?_
          refine r_val (v := Value.int .i64 (ja : Int)) (w' := w38) rfl rfl (rfl) ?_
          refine r_val (v := Value.int .i64 (jb : Int)) (w' := w38) rfl rfl (rfl) ?_
          refine r_val (v := Value.int .i64 (min (ja : Int) (jb : Int))) (w' := w38) rfl rfl (x_min rfl rfl) ?_
          refine r_val (v := Value.int .i64 (ja : Int)) (w' := w38) rfl rfl (rfl) ?_
          refine r_val (v := Value.int .i64 (jb : Int)) (w' := w38) rfl rfl (rfl) ?_
          refine r_val (v := Value.int .i64 (max (ja : Int) (jb : Int))) (w' := w38) rfl rfl (x_max rfl rfl) ?_
          refine r_val (v := Value.agg (#[Value.int .i64 (min (ja : Int) (jb : Int)), Value.int .i64 (max (ja : Int) (jb : Int))])) (w' := w38) rfl rfl (by kernel_rfl) ?_
          refine rp_set (k := (min (ja : Int) (jb : Int), max (ja : Int) (jb : Int))) pairL hM39 1 rfl rfl rfl rfl rfl rfl ?_
          intro w40 hM41
          replace hM41 : Mem w No w40 ((b35, .cells (#[Value.int .i64 b.a, Value.int .i64 b.b, Value.bool b.must]) 35 (0, 0)) :: (bp, pmapO encP2 (pset (min (ja : Int) (jb : Int), max (ja : Int) (jb : Int)) (.bool true) ck es).1 (pset (min (ja : Int) (jb : Int), max (ja : Int) (jb : Int)) (.bool true) ck es).2) :: (bo, mapO (esOf (plTo (idsG l nl f) rows.length 0)) (plTo (idsG l nl f) rows.length 0).length) :: (Lo ++ rows.flatMap ORow.L)) := hM41
          refine r_nil ?_
          refine ends_sub [(0, Value.slice Al nl cl), (2, Value.int .i64 limit), (7, Value.slice A rows.length rows.length), (9, Value.map (some bo)), (16, Value.map (some bp)), (93, Value.slice Ab nb cb), (94, Value.int .i64 (nb : Int)), (95, Value.int .i64 (k : Int))] ⟨rfl, rfl, rfl, rfl, rfl, rfl, rfl, rfl, trivial⟩ ?_
          refine e_blk ?_
          refine e_then ?_
          refine k_region ?_
          refine r_val (v := Value.int .i64 ((k : Int) + 1)) (w' := w40) rfl rfl (x_addE rfl (by omega) (by omega) rfl rfl) ?_
          refine r_val (v := Value.int .i64 ((k : Int) + 1)) (w' := w40) rfl rfl (rfl) ?_
          refine r_nil ?_
          refine ends_sub [(0, Value.slice Al nl cl), (2, Value.int .i64 limit), (7, Value.slice A rows.length rows.length), (9, Value.map (some bo)), (16, Value.map (some bp)), (93, Value.slice Ab nb cb), (94, Value.int .i64 (nb : Int)), (95, Value.int .i64 ((k : Int) + 1))] ⟨rfl, rfl, rfl, rfl, rfl, rfl, rfl, rfl, trivial⟩ ?_
          refine e_loop (k + 1, (pset (min (ja : Int) (jb : Int), max (ja : Int) (jb : Int)) (.bool true) ck es).1, (pset (min (ja : Int) (jb : Int), max (ja : Int) (jb : Int)) (.bool true) ck es).2) ⟨rfl, rfl, rfl, rfl, rfl, rfl, rfl, rfl, trivial⟩ ?_ ?_
          · exact ⟨(hM41.pickT [(b35, .cells (#[Value.int .i64 b.a, Value.int .i64 b.b, Value.bool b.must]) 35 (0, 0)), (bp, pmapO encP2 (pset (min (ja : Int) (jb : Int), max (ja : Int) (jb : Int)) (.bool true) ck es).1 (pset (min (ja : Int) (jb : Int), max (ja : Int) (jb : Int)) (.bool true) ck es).2), (bo, mapO (esOf (plTo (idsG l nl f) rows.length 0)) (plTo (idsG l nl f) rows.length 0).length)] (Lo ++ rows.flatMap ORow.L) rfl [1, 2] _ (by decide) rfl), by omega, ha.add hbk hja hjb⟩
          · (try dsimp only); omega
        · try simp only [decide_eq_true_eq, decide_eq_false_iff_not, Bool.and_eq_true, Bool.or_eq_true, Bool.or_eq_false_iff, Bool.not_eq_true', Bool.not_eq_false', beq_iff_eq, bne_iff_ne, beq_eq_false_iff_ne, bne_eq_false_iff_eq, Int.not_lt, Int.not_le, ne_eq, Bool.not_eq_true, Bool.not_eq_false] at h4
          refine k_skip ?_
          refine e_blk ?_
          refine e_then ?_
          refine k_region ?_
          refine r_val (v := Value.int .i64 ((k : Int) + 1)) (w' := w38) rfl rfl (x_addE rfl (by omega) (by omega) rfl rfl) ?_
          refine r_val (v := Value.int .i64 ((k : Int) + 1)) (w' := w38) rfl rfl (rfl) ?_
          refine r_nil ?_
          refine ends_sub [(0, Value.slice Al nl cl), (2, Value.int .i64 limit), (7, Value.slice A rows.length rows.length), (9, Value.map (some bo)), (16, Value.map (some bp)), (93, Value.slice Ab nb cb), (94, Value.int .i64 (nb : Int)), (95, Value.int .i64 ((k : Int) + 1))] ⟨rfl, rfl, rfl, rfl, rfl, rfl, rfl, rfl, trivial⟩ ?_
          refine e_loop (k + 1, es, ck) ⟨rfl, rfl, rfl, rfl, rfl, rfl, rfl, rfl, trivial⟩ ?_ ?_
          · exact ⟨(hM39.pickT [(b35, .cells (#[Value.int .i64 b.a, Value.int .i64 b.b, Value.bool b.must]) 35 (0, 0)), (bp, pmapO encP2 es ck), (bo, mapO (esOf (plTo (idsG l nl f) rows.length 0)) (plTo (idsG l nl f) rows.length 0).length)] (Lo ++ rows.flatMap ORow.L) rfl [1, 2] _ (by decide) rfl), by omega, ha.skip hbk h4⟩
          · (try dsimp only); omega
      · try simp only [decide_eq_true_eq, decide_eq_false_iff_not, Bool.and_eq_true, Bool.or_eq_true, Bool.or_eq_false_iff, Bool.not_eq_true', Bool.not_eq_false', beq_iff_eq, bne_iff_ne, beq_eq_false_iff_ne, bne_eq_false_iff_eq, Int.not_lt, Int.not_le, ne_eq, Bool.not_eq_true, Bool.not_eq_false] at h3
        refine k_exit ?_
        refine e_then_exit ?_
        refine e_loop_exit ?_
        refine e_blk_exit ?_
        refine e_then ?_
        refine k_seq ?_
        refine k_seq ?_
        refine k_region ?_
        have hkb : bs.take k = bs := List.take_of_length_le (by omega)
        rw [hkb] at ha
        refine r_val (v := Value.slice A rows.length rows.length) (w' := w31) rfl rfl (rfl) ?_
        refine r_val (v := Value.int .i64 (rows.length : Int)) (w' := w31) rfl rfl (x_len rfl rfl) ?_
        refine r_val (v := Value.int .i64 0) (w' := w31) rfl rfl (rfl) ?_
        refine r_nil ?_
        refine ends_sub [(0, Value.slice Al nl cl), (2, Value.int .i64 limit), (7, Value.slice A rows.length rows.length), (16, Value.map (some bp)), (126, Value.int .i64 (rows.length : Int)), (127, Value.int .i64 0)] ⟨rfl, rfl, rfl, rfl, rfl, rfl, trivial⟩ ?_
        refine e_then ?_
        refine k_block ?_
        refine k_loop (σ := Nat) (fun i => [(0, Value.slice Al nl cl), (2, Value.int .i64 limit), (7, Value.slice A rows.length rows.length), (16, Value.map (some bp)), (126, Value.int .i64 (rows.length : Int)), (127, Value.int .i64 (i : Int))]) (fun i w_ => Mem w No w_ ((bp, pmapO encP2 es ck) :: (bo, mapO (esOf (plTo (idsG l nl f) rows.length 0)) (plTo (idsG l nl f) rows.length 0).length) :: (Lo ++ rows.flatMap ORow.L)) ∧ i ≤ rows.length) (fun i => rows.length - i) 0 ⟨rfl, rfl, rfl, rfl, rfl, rfl, trivial⟩ ⟨hM32, Nat.zero_le _⟩ ?_
        rintro i w42 ⟨hM43, hi⟩
        refine wpK_sub [(0, Value.slice Al nl cl), (2, Value.int .i64 limit), (7, Value.slice A rows.length rows.length), (16, Value.map (some bp)), (126, Value.int .i64 (rows.length : Int)), (127, Value.int .i64 (i : Int))] ⟨rfl, rfl, rfl, rfl, rfl, rfl, trivial⟩ ?_
        refine k_seq ?_
        refine k_region ?_
        refine r_val (v := Value.bool (decide ((i : Int) < (rows.length : Int)))) (w' := w42) rfl rfl (rfl) ?_
        refine r_nil ?_
        refine ends_sub [(0, Value.slice Al nl cl), (2, Value.int .i64 limit), (7, Value.slice A rows.length rows.length), (16, Value.map (some bp)), (126, Value.int .i64 (rows.length : Int)), (127, Value.int .i64 (i : Int)), (128, Value.bool (decide ((i : Int) < (rows.length : Int))))] ⟨rfl, rfl, rfl, rfl, rfl, rfl, rfl, trivial⟩ ?_
        refine e_then ?_
        refine k_seq ?_
        refine k_cond rfl rfl (fun h5 => ?_) (fun h5 => ?_)
        · try simp only [decide_eq_true_eq, decide_eq_false_iff_not, Bool.and_eq_true, Bool.or_eq_true, Bool.or_eq_false_iff, Bool.not_eq_true', Bool.not_eq_false', beq_iff_eq, bne_iff_ne, beq_eq_false_iff_ne, bne_eq_false_iff_eq, Int.not_lt, Int.not_le, ne_eq, Bool.not_eq_true, Bool.not_eq_false] at h5
          refine k_skip ?_
          refine e_then ?_
          refine k_seq ?_
          refine k_block ?_
          refine k_seq ?_
          refine k_region ?_
          refine r_val (v := Value.int .i64 (i : Int)) (w' := w42) rfl rfl (rfl) ?_
          refine r_val (v := Value.int .i64 (i : Int)) (w' := w42) rfl rfl (rfl) ?_
          refine r_nil ?_
          refine ends_sub [(0, Value.slice Al nl cl), (2, Value.int .i64 limit), (7, Value.slice A rows.length rows.length), (16, Value.map (some bp)), (21, Value.int .i64 (i : Int)), (126, Value.int .i64 (rows.length : Int)), (127, Value.int .i64 (i : Int))] ⟨rfl, rfl, rfl, rfl, rfl, rfl, rfl, trivial⟩ ?_
          refine e_then ?_
          refine k_seq ?_
          refine k_region ?_
          refine r_val (v := Value.int .i64 (i : Int)) (w' := w42) rfl rfl (rfl) ?_
          refine r_val (v := Value.int .i64 0) (w' := w42) rfl rfl (rfl) ?_
          refine r_nil ?_
          refine ends_sub [(0, Value.slice Al nl cl), (2, Value.int .i64 limit), (7, Value.slice A rows.length rows.length), (16, Value.map (some bp)), (21, Value.int .i64 (i : Int)), (126, Value.int .i64 (rows.length : Int)), (127, Value.int .i64 (i : Int)), (130, Value.int .i64 (i : Int)), (131, Value.int .i64 0)] ⟨rfl, rfl, rfl, rfl, rfl, rfl, rfl, rfl, rfl, trivial⟩ ?_
          refine e_then ?_
          refine k_block ?_
          refine k_loop (σ := Nat) (fun k => [(0, Value.slice Al nl cl), (2, Value.int .i64 limit), (7, Value.slice A rows.length rows.length), (16, Value.map (some bp)), (21, Value.int .i64 (i : Int)), (126, Value.int .i64 (rows.length : Int)), (127, Value.int .i64 (i : Int)), (130, Value.int .i64 (i : Int)), (131, Value.int .i64 (k : Int))]) (fun k w_ => Mem w No w_ ((bp, pmapO encP2 es ck) :: (bo, mapO (esOf (plTo (idsG l nl f) rows.length 0)) (plTo (idsG l nl f) rows.length 0).length) :: (Lo ++ rows.flatMap ORow.L)) ∧ k ≤ i) (fun k => i - k) 0 ⟨rfl, rfl, rfl, rfl, rfl, rfl, rfl, rfl, rfl, trivial⟩ ⟨hM43, Nat.zero_le _⟩ ?_
          rintro k w44 ⟨hM45, hk⟩
          refine wpK_sub [(0, Value.slice Al nl cl), (2, Value.int .i64 limit), (7, Value.slice A rows.length rows.length), (16, Value.map (some bp)), (21, Value.int .i64 (i : Int)), (126, Value.int .i64 (rows.length : Int)), (127, Value.int .i64 (i : Int)), (130, Value.int .i64 (i : Int)), (131, Value.int .i64 (k : Int))] ⟨rfl, rfl, rfl, rfl, rfl, rfl, rfl, rfl, rfl, trivial⟩ ?_
          refine k_seq ?_
          refine k_region ?_
          refine r_val (v := Value.bool (decide ((k : Int) < (i : Int)))) (w' := w44) rfl rfl (rfl) ?_
          refine r_nil ?_
          refine ends_sub [(0, Value.slice Al nl cl), (2, Value.int .i64 limit), (7, Value.slice A rows.length rows.length), (16, Value.map (some bp)), (21, Value.int .i64 (i : Int)), (126, Value.int .i64 (rows.length : Int)), (127, Value.int .i64 (i : Int)), (130, Value.int .i64 (i : Int)), (131, Value.int .i64 (k : Int)), (132, Value.bool (decide ((k : Int) < (i : Int))))] ⟨rfl, rfl, rfl, rfl, rfl, rfl, rfl, rfl, rfl, rfl, trivial⟩ ?_
          refine e_then ?_
          refine k_seq ?_
          refine k_cond rfl rfl (fun h6 => ?_) (fun h6 => ?_)
          · try simp only [decide_eq_true_eq, decide_eq_false_iff_not, Bool.and_eq_true, Bool.or_eq_true, Bool.or_eq_false_iff, Bool.not_eq_true', Bool.not_eq_false', beq_iff_eq, bne_iff_ne, beq_eq_false_iff_ne, bne_eq_false_iff_eq, Int.not_lt, Int.not_le, ne_eq, Bool.not_eq_true, Bool.not_eq_false] at h6
            refine k_skip ?_
            refine e_then ?_
            refine k_seq ?_
            refine k_block ?_
            refine k_seq ?_
            refine k_region ?_
            obtain ⟨rk, hrk⟩ : ∃ r, rows[k]? = some r := ⟨rows[k]'(by omega), by simp⟩
            have hrkm := List.mem_of_getElem? hrk
            obtain ⟨xk, hxk⟩ : ∃ x, (keysOf nl f)[k]? = some x := ⟨(keysOf nl f)[k]'(by omega), by simp⟩
            have hxkk := mem_keysOf.1 (List.mem_of_getElem? hxk)
            have hrkx := row_ids hmapx hrk hxk
            have hrkl : rk.xs.length ≤ 300 := by rw [hrkx]; exact Nat.le_trans (by simp [idsAt]; exact members_len nl f xk) hl3
            have hrkf : rk.xs[0]? = some (idAt l xk) := by rw [hrkx]; exact idsAt_first hle hxkk
            have hrk0 : 0 < rk.xs.length := (List.getElem?_eq_some_iff.1 hrkf).1
            obtain ⟨ri, hri⟩ : ∃ r, rows[i]? = some r := ⟨rows[i]'(by omega), by simp⟩
            have hrim := List.mem_of_getElem? hri
            obtain ⟨xi, hxi⟩ : ∃ x, (keysOf nl f)[i]? = some x := ⟨(keysOf nl f)[i]'(by omega), by simp⟩
            have hxik := mem_keysOf.1 (List.mem_of_getElem? hxi)
            have hrix := row_ids hmapx hri hxi
            have hril : ri.xs.length ≤ 300 := by rw [hrix]; exact Nat.le_trans (by simp [idsAt]; exact members_len nl f xi) hl3
            have hrif : ri.xs[0]? = some (idAt l xi) := by rw [hrix]; exact idsAt_first hle hxik
            have hri0 : 0 < ri.xs.length := (List.getElem?_eq_some_iff.1 hrif).1
            have hge : gapErr l rk.xs ri.xs = 0 := by rw [hrkx, hrix]; exact gap_fine hgd hll hcl.1 hle hxkk hxik
            refine r_val (v := Value.int .i64 (k : Int)) (w' := w44) rfl rfl (rfl) ?_
            refine r_val (v := Value.int .i64 (k : Int)) (w' := w44) rfl rfl (rfl) ?_
            refine r_nil ?_
            refine ends_sub [(0, Value.slice Al nl cl), (2, Value.int .i64 limit), (7, Value.slice A rows.length rows.length), (16, Value.map (some bp)), (21, Value.int .i64 (i : Int)), (22, Value.int .i64 (k : Int)), (126, Value.int .i64 (rows.length : Int)), (127, Value.int .i64 (i : Int)), (130, Value.int .i64 (i : Int)), (131, Value.int .i64 (k : Int))] ⟨rfl, rfl, rfl, rfl, rfl, rfl, rfl, rfl, rfl, rfl, trivial⟩ ?_
            refine e_then ?_
            refine k_seq ?_
            refine k_draw mixed [0, 0, 0, 6, 14, 0, 0, 96, 224, 511, 1023, 2047, 2047, 4095, 16383] [some (Value.slice Al nl cl), some (Value.slice A rows.length rows.length), some (Value.int .i64 (k : Int)), some (Value.pointer (some ((adr A).add (k * 1)))), some (Value.slice rk.A rk.xs.length rk.xs.length), some (Value.slice A rows.length rows.length), some (Value.int .i64 (i : Int)), some (Value.pointer (some ((adr A).add (i * 1)))), some (Value.slice ri.A ri.xs.length ri.xs.length), some (Value.tuple #[Value.int .i64 (gapF l rk.xs ri.xs), Value.int .i64 0]), some (Value.tuple #[Value.int .i64 (gapF l rk.xs ri.xs), Value.int .i64 0]), some (Value.int .i64 (gapF l rk.xs ri.xs)), some (Value.int .i64 0), some (Value.int .i64 (gapF l rk.xs ri.xs)), some (Value.int .i64 0)] (by kernel_rfl) (fun D V w_ => Mem w No w_ ((bp, pmapO encP2 es ck) :: (bo, mapO (esOf (plTo (idsG l nl f) rows.length 0)) (plTo (idsG l nl f) rows.length 0).length) :: (Lo ++ rows.flatMap ORow.L))) (fun V => hM45.drew) ?_ ?_
            · refine ⟨?_, ?_, ?_, ?_, ?_, ?_, ?_, ?_, ?_, ?_, ?_, ?_, ?_, ?_, ?_, trivial⟩
              · intro D V w_ hd hi hM_
                refine goal_of [(0, Value.slice Al nl cl)] rfl ⟨rfl, trivial⟩ rfl ?_
                exact run_val (Value.slice Al nl cl) (rfl) ⟨fun c h => Option.some.inj (Option.some.inj h), hM_⟩
              · intro D V w_ hd hi hM_
                refine goal_of [(7, Value.slice A rows.length rows.length)] rfl ⟨rfl, trivial⟩ rfl ?_
                exact run_val (Value.slice A rows.length rows.length) (rfl) ⟨fun c h => Option.some.inj (Option.some.inj h), hM_⟩
              · intro D V w_ hd hi hM_
                refine goal_of [(22, Value.int .i64 (k : Int))] rfl ⟨rfl, trivial⟩ rfl ?_
                exact run_val (Value.int .i64 (k : Int)) (rfl) ⟨fun c h => Option.some.inj (Option.some.inj h), hM_⟩
              · intro D V w_ hd hi hM_
                refine goal_of [(136, Value.slice A rows.length rows.length), (137, Value.int .i64 (k : Int))] rfl ⟨rfl, rfl, trivial⟩ rfl ?_
                exact run_val (Value.pointer (some ((adr A).add (k * 1)))) (x_indexAddrN (i := k) (sz := 1) (SSok_of' hMr hro hrok).1.here (by omega) rfl rfl rfl rfl) ⟨fun c h => Option.some.inj (Option.some.inj h), hM_⟩
              · intro D V w_ hd hi hM_
                refine goal_of [(138, Value.pointer (some ((adr A).add (k * 1))))] rfl ⟨rfl, trivial⟩ rfl ?_
                exact run_val (Value.slice rk.A rk.xs.length rk.xs.length) (x_load ((SSok_of' hM_.tail.tail hro hrok).1.first hrk rfl) rfl rfl) ⟨fun c h => Option.some.inj (Option.some.inj h), hM_⟩
              · intro D V w_ hd hi hM_
                refine goal_of [(7, Value.slice A rows.length rows.length)] rfl ⟨rfl, trivial⟩ rfl ?_
                exact run_val (Value.slice A rows.length rows.length) (rfl) ⟨fun c h => Option.some.inj (Option.some.inj h), hM_⟩
              · intro D V w_ hd hi hM_
                refine goal_of [(21, Value.int .i64 (i : Int))] rfl ⟨rfl, trivial⟩ rfl ?_
                exact run_val (Value.int .i64 (i : Int)) (rfl) ⟨fun c h => Option.some.inj (Option.some.inj h), hM_⟩
              · intro D V w_ hd hi hM_
                refine goal_of [(140, Value.slice A rows.length rows.length), (141, Value.int .i64 (i : Int))] rfl ⟨rfl, rfl, trivial⟩ rfl ?_
                exact run_val (Value.pointer (some ((adr A).add (i * 1)))) (x_indexAddrN (i := i) (sz := 1) (SSok_of' hMr hro hrok).1.here (by omega) rfl rfl rfl rfl) ⟨fun c h => Option.some.inj (Option.some.inj h), hM_⟩
              · intro D V w_ hd hi hM_
                refine goal_of [(142, Value.pointer (some ((adr A).add (i * 1))))] rfl ⟨rfl, trivial⟩ rfl ?_
                exact run_val (Value.slice ri.A ri.xs.length ri.xs.length) (x_load ((SSok_of' hM_.tail.tail hro hrok).1.first hri rfl) rfl rfl) ⟨fun c h => Option.some.inj (Option.some.inj h), hM_⟩
              · intro D V w_ hd hi hM_
                refine goal_of [(135, Value.slice Al nl cl), (139, Value.slice rk.A rk.xs.length rk.xs.length), (143, Value.slice ri.A ri.xs.length ri.xs.length)] rfl ⟨rfl, rfl, rfl, trivial⟩ rfl ?_
                refine run_call (f := 8) (args := #[Value.slice Al nl cl, Value.slice rk.A rk.xs.length rk.xs.length, Value.slice ri.A ri.xs.length ri.xs.length]) (w' := w_) (x_call (vs := [Value.slice Al nl cl, Value.slice rk.A rk.xs.length rk.xs.length, Value.slice ri.A ri.xs.length ri.xs.length]) (enter8 _ _) rfl rfl) (gap_ok Al rk.A ri.A nl cl rk.xs.length ri.xs.length l rk.xs ri.xs w_ (hl.up hM_) ((SSok_of' hM_.tail.tail hro hrok).2 rk hrkm) ((SSok_of' hM_.tail.tail hro hrok).2 ri hrim) (by omega) (by omega) hge) ?_
                rintro v_ w2_ ⟨rfl, hM2_⟩
                exact ⟨fun c h => Option.some.inj (Option.some.inj h), hM_.grow hM2_.kept⟩
              · intro D V w_ hd hi hM_
                refine goal_of [(144, Value.tuple #[Value.int .i64 (gapF l rk.xs ri.xs), Value.int .i64 0])] rfl ⟨rfl, trivial⟩ rfl ?_
                exact run_val (Value.tuple #[Value.int .i64 (gapF l rk.xs ri.xs), Value.int .i64 0]) (rfl) ⟨fun c h => Option.some.inj (Option.some.inj h), hM_⟩
              · intro D V w_ hd hi hM_
                refine goal_of [(134, Value.tuple #[Value.int .i64 (gapF l rk.xs ri.xs), Value.int .i64 0])] rfl ⟨rfl, trivial⟩ rfl ?_
                exact run_val (Value.int .i64 (gapF l rk.xs ri.xs)) (rfl) ⟨fun c h => Option.some.inj (Option.some.inj h), hM_⟩
              · intro D V w_ hd hi hM_
                refine goal_of [(134, Value.tuple #[Value.int .i64 (gapF l rk.xs ri.xs), Value.int .i64 0])] rfl ⟨rfl, trivial⟩ rfl ?_
                exact run_val (Value.int .i64 0) (rfl) ⟨fun c h => Option.some.inj (Option.some.inj h), hM_⟩
              · intro D V w_ hd hi hM_
                refine goal_of [(145, Value.int .i64 (gapF l rk.xs ri.xs))] rfl ⟨rfl, trivial⟩ rfl ?_
                exact run_val (Value.int .i64 (gapF l rk.xs ri.xs)) (rfl) ⟨fun c h => Option.some.inj (Option.some.inj h), hM_⟩
              · intro D V w_ hd hi hM_
                refine goal_of [(146, Value.int .i64 0)] rfl ⟨rfl, trivial⟩ rfl ?_
                exact run_val (Value.int .i64 0) (rfl) ⟨fun c h => Option.some.inj (Option.some.inj h), hM_⟩
            intro D V w48 hall hM49
            refine ends_sub [(0, Value.slice Al nl cl), (2, Value.int .i64 limit), (7, Value.slice A rows.length rows.length), (16, Value.map (some bp)), (21, Value.int .i64 (i : Int)), (22, Value.int .i64 (k : Int)), (23, Value.int .i64 (gapF l rk.xs ri.xs)), (24, Value.int .i64 0), (126, Value.int .i64 (rows.length : Int)), (127, Value.int .i64 (i : Int)), (130, Value.int .i64 (i : Int)), (131, Value.int .i64 (k : Int))] ⟨rfl, rfl, rfl, rfl, rfl, rfl, rfl, rfl, rfl, rfl, rfl, rfl, trivial⟩ ?_
            refine e_then ?_
            refine k_seq ?_
            refine k_region ?_
            refine r_val (v := Value.int .i64 0) (w' := w48) rfl rfl (rfl) ?_
            refine r_val (v := Value.bool false) (w' := w48) rfl rfl (rfl) ?_
            refine r_val (v := Value.bool false) (w' := w48) rfl rfl (rfl) ?_
            refine r_yes rfl rfl ?_
            refine r_val (v := Value.int .i64 (gapF l rk.xs ri.xs)) (w' := w48) rfl rfl (rfl) ?_
            refine r_yes rfl rfl ?_
            refine r_val (v := Value.int .i64 limit) (w' := w48) rfl rfl (rfl) ?_
            refine r_yes rfl rfl ?_
            refine r_val (v := Value.bool (decide ((gapF l rk.xs ri.xs) ≤ limit))) (w' := w48) rfl rfl (rfl) ?_
            refine r_yes rfl rfl ?_
            refine r_val (v := Value.bool (decide ((gapF l rk.xs ri.xs) ≤ limit))) (w' := w48) rfl rfl (rfl) ?_
            rcases Bool.eq_false_or_eq_true (decide ((gapF l rk.xs ri.xs) ≤ limit)) with g2 | g2
            · refine wpR_sub [(0, Value.slice Al nl cl), (2, Value.int .i64 limit), (7, Value.slice A rows.length rows.length), (16, Value.map (some bp)), (21, Value.int .i64 (i : Int)), (22, Value.int .i64 (k : Int)), (126, Value.int .i64 (rows.length : Int)), (127, Value.int .i64 (i : Int)), (130, Value.int .i64 (i : Int)), (131, Value.int .i64 (k : Int)), (149, Value.bool false), (153, Value.bool true)] ⟨rfl, rfl, rfl, rfl, rfl, rfl, rfl, rfl, rfl, rfl, rfl, congrArg (fun z => some (Value.bool z)) g2, trivial⟩ ?_
              have hap := ha.get hxk hxi (by omega) (law_gap hgd hll hS hf hlim.1 hxk hxi (by omega) (gap := gapF l rk.xs ri.xs) (by rw [hrkx, hrix]; exact gapF_all _ _ _) (by simpa using g2))
              refine r_yes rfl rfl ?_
              refine r_val (v := Value.map (some bp)) (w' := w48) rfl rfl (rfl) ?_
              refine r_yes rfl rfl ?_
              refine r_val (v := Value.int .i64 (k : Int)) (w' := w48) rfl rfl (rfl) ?_
              refine r_yes rfl rfl ?_
              refine r_val (v := Value.int .i64 (i : Int)) (w' := w48) rfl rfl (rfl) ?_
              refine r_yes rfl rfl ?_
              refine r_val (v := Value.agg (#[Value.int .i64 (k : Int), Value.int .i64 (i : Int)])) (w' := w48) rfl rfl (by kernel_rfl) ?_
              refine r_yes rfl rfl ?_
              refine r_val (v := Value.bool true) (w' := w48) rfl rfl (xp_lookupS (k := ((k : Int), (i : Int))) pairL (hM49.get 0 rfl) hap rfl rfl rfl rfl) ?_
              refine r_yes rfl rfl ?_
              refine r_val (v := Value.bool false) (w' := w48) rfl rfl (rfl) ?_
              refine r_yes rfl rfl ?_
              refine r_val (v := Value.bool false) (w' := w48) rfl rfl (rfl) ?_
              refine r_val (v := Value.bool false) (w' := w48) rfl rfl (rfl) ?_
              refine r_nil ?_
              refine ends_sub [(0, Value.slice Al nl cl), (2, Value.int .i64 limit), (7, Value.slice A rows.length rows.length), (16, Value.map (some bp)), (21, Value.int .i64 (i : Int)), (126, Value.int .i64 (rows.length : Int)), (127, Value.int .i64 (i : Int)), (130, Value.int .i64 (i : Int)), (131, Value.int .i64 (k : Int)), (161, Value.bool false)] ⟨rfl, rfl, rfl, rfl, rfl, rfl, rfl, rfl, rfl, rfl, trivial⟩ ?_
              refine e_then ?_
              refine k_cond_false rfl rfl ?_
              refine k_skip ?_
              refine e_blk ?_
              refine e_then ?_
              refine k_region ?_
              refine r_val (v := Value.int .i64 ((k : Int) + 1)) (w' := w48) rfl rfl (x_addE rfl (by omega) (by omega) rfl rfl) ?_
              refine r_val (v := Value.int .i64 ((k : Int) + 1)) (w' := w48) rfl rfl (rfl) ?_
              refine r_nil ?_
              refine ends_sub [(0, Value.slice Al nl cl), (2, Value.int .i64 limit), (7, Value.slice A rows.length rows.length), (16, Value.map (some bp)), (21, Value.int .i64 (i : Int)), (126, Value.int .i64 (rows.length : Int)), (127, Value.int .i64 (i : Int)), (130, Value.int .i64 (i : Int)), (131, Value.int .i64 ((k : Int) + 1))] ⟨rfl, rfl, rfl, rfl, rfl, rfl, rfl, rfl, rfl, trivial⟩ ?_
              refine e_loop (k + 1) ⟨rfl, rfl, rfl, rfl, rfl, rfl, rfl, rfl, rfl, trivial⟩ ?_ ?_
              · exact ⟨hM49, by omega⟩
              · (try dsimp only); omega
            · refine wpR_sub [(0, Value.slice Al nl cl), (2, Value.int .i64 limit), (7, Value.slice A rows.length rows.length), (16, Value.map (some bp)), (21, Value.int .i64 (i : Int)), (22, Value.int .i64 (k : Int)), (126, Value.int .i64 (rows.length : Int)), (127, Value.int .i64 (i : Int)), (130, Value.int .i64 (i : Int)), (131, Value.int .i64 (k : Int)), (149, Value.bool false), (153, Value.bool false)] ⟨rfl, rfl, rfl, rfl, rfl, rfl, rfl, rfl, rfl, rfl, rfl, congrArg (fun z => some (Value.bool z)) g2, trivial⟩ ?_
              refine r_no rfl rfl (by decide) rfl ?_
              refine r_no rfl rfl (by decide) rfl ?_
              refine r_no rfl rfl (by decide) rfl ?_
              refine r_no rfl rfl (by decide) rfl ?_
              refine r_no rfl rfl (by decide) rfl ?_
              refine r_no rfl rfl (by decide) rfl ?_
              refine r_yes rfl rfl ?_
              refine r_val (v := Value.bool false) (w' := w48) rfl rfl (rfl) ?_
              refine r_val (v := Value.bool false) (w' := w48) rfl rfl (rfl) ?_
              refine r_nil ?_
              refine ends_sub [(0, Value.slice Al nl cl), (2, Value.int .i64 limit), (7, Value.slice A rows.length rows.length), (16, Value.map (some bp)), (21, Value.int .i64 (i : Int)), (126, Value.int .i64 (rows.length : Int)), (127, Value.int .i64 (i : Int)), (130, Value.int .i64 (i : Int)), (131, Value.int .i64 (k : Int)), (161, Value.bool false)] ⟨rfl, rfl, rfl, rfl, rfl, rfl, rfl, rfl, rfl, rfl, trivial⟩ ?_
              refine e_then ?_
              refine k_cond_false rfl rfl ?_
              refine k_skip ?_
              refine e_blk ?_
              refine e_then ?_
              refine k_region ?_
              refine r_val (v := Value.int .i64 ((k : Int) + 1)) (w' := w48) rfl rfl (x_addE rfl (by omega) (by omega) rfl rfl) ?_
              refine r_val (v := Value.int .i64 ((k : Int) + 1)) (w' := w48) rfl rfl (rfl) ?_
              refine r_nil ?_
              refine ends_sub [(0, Value.slice Al nl cl), (2, Value.int .i64 limit), (7, Value.slice A rows.length rows.length), (16, Value.map (some bp)), (21, Value.int .i64 (i : Int)), (126, Value.int .i64 (rows.length : Int)), (127, Value.int .i64 (i : Int)), (130, Value.int .i64 (i : Int)), (131, Value.int .i64 ((k : Int) + 1))] ⟨rfl, rfl, rfl, rfl, rfl, rfl, rfl, rfl, rfl, trivial⟩ ?_
              refine e_loop (k + 1) ⟨rfl, rfl, rfl, rfl, rfl, rfl, rfl, rfl, rfl, trivial⟩ ?_ ?_
              · exact ⟨hM49, by omega⟩
              · (try dsimp only); omega
          · try simp only [decide_eq_true_eq, decide_eq_false_iff_not, Bool.and_eq_true, Bool.or_eq_true, Bool.or_eq_false_iff, Bool.not_eq_true', Bool.not_eq_false', beq_iff_eq, bne_iff_ne, beq_eq_false_iff_ne, bne_eq_false_iff_eq, Int.not_lt, Int.not_le, ne_eq, Bool.not_eq_true, Bool.not_eq_false] at h6
            refine k_exit ?_
            refine e_then_exit ?_
            refine e_loop_exit ?_
            refine e_blk_exit ?_
            refine e_blk ?_
            refine e_then ?_
            refine k_region ?_
            refine r_val (v := Value.int .i64 ((i : Int) + 1)) (w' := w44) rfl rfl (x_addE rfl (by omega) (by omega) rfl rfl) ?_
            refine r_val (v := Value.int .i64 ((i : Int) + 1)) (w' := w44) rfl rfl (rfl) ?_
            refine r_nil ?_
            refine ends_sub [(0, Value.slice Al nl cl), (2, Value.int .i64 limit), (7, Value.slice A rows.length rows.length), (16, Value.map (some bp)), (126, Value.int .i64 (rows.length : Int)), (127, Value.int .i64 ((i : Int) + 1))] ⟨rfl, rfl, rfl, rfl, rfl, rfl, trivial⟩ ?_
            refine e_loop (i + 1) ⟨rfl, rfl, rfl, rfl, rfl, rfl, trivial⟩ ?_ ?_
            · exact ⟨hM45, by omega⟩
            · (try dsimp only); omega
        · try simp only [decide_eq_true_eq, decide_eq_false_iff_not, Bool.and_eq_true, Bool.or_eq_true, Bool.or_eq_false_iff, Bool.not_eq_true', Bool.not_eq_false', beq_iff_eq, bne_iff_ne, beq_eq_false_iff_ne, bne_eq_false_iff_eq, Int.not_lt, Int.not_le, ne_eq, Bool.not_eq_true, Bool.not_eq_false] at h5
          refine k_exit ?_
          refine e_then_exit ?_
          refine e_loop_exit ?_
          refine e_blk_exit ?_
          refine e_then ?_
          refine k_seq ?_
          refine k_region ?_
          refine r_val (v := Value.bool true) (w' := w42) rfl rfl (rfl) ?_
          refine r_nil ?_
          refine ends_sub [(6, Value.bool true)] ⟨rfl, trivial⟩ ?_
          refine e_then ?_
          refine k_ret ?_
          refine e_ret1 rfl rfl ?_
          exact ⟨_, rfl, rfl, hM43.drop⟩


end Go.Proofs.Ytddacakmafdgdaa
