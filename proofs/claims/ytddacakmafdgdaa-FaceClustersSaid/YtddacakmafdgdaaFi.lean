/- Fi: what Go functions of this seat come to, printed by walk.py over the engine. -/
import Derived.Test.YtddacakmafdgdaaFh
import Derived.Test.YtddacakmafdgdaaGt
set_option linter.unusedVariables false
set_option linter.unusedSimpArgs false
set_option maxRecDepth 100000
namespace Go.Proofs.Ytddacakmafdgdaa
open Go.RowKit Go.Kn

theorem newTable_s (Al A2 : Option Addr) (bm n cl nn cn ck : Nat) (l : List (List Int)) (gs : List Grp) (f : Nat → Nat) (ns : List (Nat × Nat)) (w : World) (hl : RdE intsE 14 w Al n l) (hgd : Kn.Good l) (hG : GMp tInt gs ck) (hF : IsG n f (view gs)) (hL : Kn.Holds w (GL bm gs ck)) (h2n : RdE pairE 2 w A2 nn ns) (hns : ∀ m ∈ ns, m.1 < n ∧ m.2 < n) (hn : n ≤ 300) (hnn : nn ≤ 1000) :
    Calls Try.prog 49 #[Value.slice Al n cl, Value.map (some bm), Value.slice A2 nn cn] w fun e w' => ∃ r, e = .returned r ∧ ∃ (tg ta : Nat) (rg ra : Nat → Nat) (g : Nat → Nat → Int) (a : Nat → Nat → Bool), r = .agg #[.slice (some ⟨tg, 0, none⟩) n n, .slice (some ⟨ta, 0, none⟩) n n] ∧ (GapIs l f (inN n) g ∧ ApartIs f ns a) ∧ Mem w No w' ((tg, .cells (topC n n rg) tInts (0, 0)) :: (ta, .cells (topC n n ra) tBools (0, 0)) :: (tabL tInt (.int .i64) n n rg g ++ tabL tBool .bool n n ra a)) := by
  refine calls_k (args := [Value.slice Al n cl, Value.map (some bm), Value.slice A2 nn cn]) 163 [(0, Value.slice Al n cl), (1, Value.map (some bm)), (2, Value.slice A2 nn cn)] Try.func49 rfl rfl ⟨rfl, rfl, rfl, trivial⟩ ?_
  have hM := Mem.nil w No
  have hll := hl.len
  have hnl := h2n.len
  obtain ⟨z0, hz0⟩ : ∃ z : Nat → Nat, z = fun _ => 0 := ⟨_, rfl⟩
  refine k_seq ?_
  refine k_region ?_
  refine r_alloc hM (z := Value.agg #[Value.slice none 0 0, Value.slice none 0 0]) rfl rfl ?_
  intro b3 w1 hM2 hb3
  replace hM2 : Mem w No w1 [(b3, .cells #[Value.slice none 0 0, Value.slice none 0 0] 94 (0, 0))] := hM2
  refine r_nil ?_
  refine ends_sub [(0, Value.slice Al n cl), (1, Value.map (some bm)), (2, Value.slice A2 nn cn), (6, Value.pointer (some ⟨b3, 0, none⟩))] ⟨rfl, rfl, rfl, rfl, trivial⟩ ?_
  refine e_then ?_
  refine k_seq ?_
  refine k_drawL mixed [0, 1, 3, 0, 8, 24, 63, 0, 255] [some (Value.slice Al n cl), some (Value.int .i64 (n : Int)), none, some (Value.slice Al n cl), some (Value.int .i64 (n : Int)), none, none, none, some (undef)] (by kernel_rfl) 8 rfl (by kernel_rfl) (fun D V w_ => ∃ bg ba bt : Nat, (D 2 = true → V 2 = .slice (some ⟨bg, 0, none⟩) n n) ∧ (D 5 = true → V 5 = .slice (some ⟨ba, 0, none⟩) n n) ∧ (D 6 = true → (D 2 = true ∧ D 5 = true) ∧ V 6 = .agg #[V 2, V 5]) ∧ (D 7 = true → V 7 = .pointer (some ⟨bt, 0, none⟩)) ∧ Mem w No w_ (cnd (D 2) (bg, .cells (topC 0 n z0) tInts (0, 0)) ++ (cnd (D 5) (ba, .cells (topC 0 n z0) tBools (0, 0)) ++ (cnd (D 7) (bt, .cells #[.slice none 0 0, .slice none 0 0] 94 (0, 0)) ++ [(b3, .cells #[.slice none 0 0, .slice none 0 0] 94 (0, 0))])))) (fun V w_ => ∃ bg ba bt : Nat, V 7 = .pointer (some ⟨bt, 0, none⟩) ∧ Mem w No w_ [(bg, .cells (topC 0 n z0) tInts (0, 0)), (ba, .cells (topC 0 n z0) tBools (0, 0)), (bt, .cells #[.slice (some ⟨bg, 0, none⟩) n n, .slice (some ⟨ba, 0, none⟩) n n] 94 (0, 0)), (b3, .cells #[.slice none 0 0, .slice none 0 0] 94 (0, 0))]) (fun V => ⟨0, 0, 0, fun h => Bool.noConfusion h, fun h => Bool.noConfusion h, fun h => Bool.noConfusion h, fun h => Bool.noConfusion h, hM2.drew⟩) ?_ ?_
  · refine ⟨?_, ?_, ?_, ?_, ?_, ?_, ?_, ?_, ?_, trivial⟩
    · intro D V w_ hd hi hM_
      refine goal_of [(0, Value.slice Al n cl)] rfl ⟨rfl, trivial⟩ rfl ?_
      exact run_val (Value.slice Al n cl) (rfl) ⟨fun c h => Option.some.inj (Option.some.inj h), hM_⟩
    · intro D V w_ hd hi hM_
      refine goal_of [(23, Value.slice Al n cl)] rfl ⟨rfl, trivial⟩ rfl ?_
      exact run_val (Value.int .i64 (n : Int)) (x_len rfl rfl) ⟨fun c h => Option.some.inj (Option.some.inj h), hM_⟩
    · intro D V w_ hd hi hM_
      refine goal_of [(24, Value.int .i64 (n : Int))] rfl ⟨rfl, trivial⟩ rfl ?_
      obtain ⟨bg, ba, bt, h2, h5, h6, h7, hM9⟩ := hM_
      rw [show D 2 = false from hi] at hM9
      exact run_val _ (x_makeSlice (bytes := 24) (z := .slice none 0 0) rfl rfl (by kernel_rfl) (by kernel_rfl) rfl (by omega) (by omega)) ⟨untold rfl, w_.heap.size, ba, bt, fun _ => rfl, h5, fun h => absurd (h6 h).1.1 (by rw [show D 2 = false from hi]; decide), h7, hM9.alloc _⟩
    · intro D V w_ hd hi hM_
      refine goal_of [(0, Value.slice Al n cl)] rfl ⟨rfl, trivial⟩ rfl ?_
      exact run_val (Value.slice Al n cl) (rfl) ⟨fun c h => Option.some.inj (Option.some.inj h), hM_⟩
    · intro D V w_ hd hi hM_
      refine goal_of [(26, Value.slice Al n cl)] rfl ⟨rfl, trivial⟩ rfl ?_
      exact run_val (Value.int .i64 (n : Int)) (x_len rfl rfl) ⟨fun c h => Option.some.inj (Option.some.inj h), hM_⟩
    · intro D V w_ hd hi hM_
      refine goal_of [(27, Value.int .i64 (n : Int))] rfl ⟨rfl, trivial⟩ rfl ?_
      obtain ⟨bg, ba, bt, h2, h5, h6, h7, hM9⟩ := hM_
      rw [show D 5 = false from hi] at hM9
      exact run_val _ (x_makeSlice (bytes := 24) (z := .slice none 0 0) rfl rfl (by kernel_rfl) (by kernel_rfl) rfl (by omega) (by omega)) ⟨untold rfl, bg, w_.heap.size, bt, h2, fun _ => rfl, fun h => absurd (h6 h).1.2 (by rw [show D 5 = false from hi]; decide), h7, (hM9.alloc _).ins1⟩
    · intro D V w_ hd hi hM_
      refine goal_of [(25, V 2), (28, V 5)] rfl ⟨rfl, rfl, trivial⟩ rfl ?_
      obtain ⟨bg, ba, bt, h2, h5, h6, h7, hM9⟩ := hM_
      have e2 := h2 (hd 2 rfl)
      have e5 := h5 (hd 5 rfl)
      rw [e2, e5]
      exact run_val (.agg #[.slice (some ⟨bg, 0, none⟩) n n, .slice (some ⟨ba, 0, none⟩) n n]) (by kernel_rfl) ⟨untold rfl, bg, ba, bt, h2, h5, fun _ => ⟨⟨hd 2 rfl, hd 5 rfl⟩, by show _ = Value.agg #[V 2, V 5]; rw [e2, e5]; rfl⟩, h7, hM9⟩
    · intro D V w_ hd hi hM_
      refine goal_of [] rfl trivial rfl ?_
      obtain ⟨bg, ba, bt, h2, h5, h6, h7, hM9⟩ := hM_
      rw [show D 7 = false from hi] at hM9
      exact run_val _ (x_alloc (z := .agg #[.slice none 0 0, .slice none 0 0]) rfl) ⟨untold rfl, bg, ba, w_.heap.size, h2, h5, h6, fun _ => rfl, (hM9.alloc _).ins2⟩
    · intro D V w_ hd hi hM_
      refine goal_of [(7, V 7), (29, V 6)] rfl ⟨rfl, rfl, trivial⟩ rfl ?_
      obtain ⟨bg, ba, bt, h2, h5, h6, h7, hM9⟩ := hM_
      have e2 := h2 (hd 2 rfl)
      have e5 := h5 (hd 5 rfl)
      have e7 := h7 (hd 7 rfl)
      have e6 := (h6 (hd 6 rfl)).2
      rw [e2, e5] at e6
      rw [e6, e7]
      rw [hd 2 rfl, hd 5 rfl, hd 7 rfl] at hM9
      obtain ⟨w9, hr9, hM8⟩ := x_storeRow (P := Try.prog) (ρ := St.ev [(7, .pointer (some ⟨bt, 0, none⟩)), (29, .agg #[.slice (some ⟨bg, 0, none⟩) n n, .slice (some ⟨ba, 0, none⟩) n n])]) (x := .tmp 7) (y := .tmp 29) (t := 94) hM9 2 rfl (vs := #[.slice (some ⟨bg, 0, none⟩) n n, .slice (some ⟨ba, 0, none⟩) n n]) rfl (by simp [Value.oneCell']) rfl rfl rfl
      exact run_skip hr9 ⟨fun c h => Option.some.inj (Option.some.inj h), bg, ba, bt, e7, hM8⟩
  intro V w14 hM15
  obtain ⟨bg, ba, bt, hV7, hM9⟩ := hM15
  refine ends_sub [(0, Value.slice Al n cl), (1, Value.map (some bm)), (2, Value.slice A2 nn cn), (6, Value.pointer (some ⟨b3, 0, none⟩)), (7, Value.pointer (some ⟨bt, 0, none⟩))] ⟨rfl, rfl, rfl, rfl, congrArg some hV7, trivial⟩ ?_
  refine e_then ?_
  refine k_seq ?_
  refine k_region ?_
  refine r_val (v := Value.slice Al n cl) (w' := w14) rfl rfl (rfl) ?_
  refine r_val (v := Value.int .i64 (n : Int)) (w' := w14) rfl rfl (x_len rfl rfl) ?_
  refine r_new (fun b => .slice (some ⟨b, 0, none⟩) n n) (.cells (rowC n (Value.int .i64) (fun _ => 0)) tInt (0, 0)) hM9 (x_makeSlice (bytes := 8) (z := .int .i64 0) rfl rfl (by kernel_rfl) (by kernel_rfl) rfl (by omega) (by omega)) rfl rfl ?_
  intro bo w16 hM17 hbo
  replace hM17 : Mem w No w16 [(bo, .cells (rowC n (Value.int .i64) (fun _ => 0)) tInt (0, 0)), (bg, .cells (topC 0 n z0) tInts (0, 0)), (ba, .cells (topC 0 n z0) tBools (0, 0)), (bt, .cells #[Value.slice (some ⟨bg, 0, none⟩) n n, Value.slice (some ⟨ba, 0, none⟩) n n] 94 (0, 0)), (b3, .cells #[Value.slice none 0 0, Value.slice none 0 0] 94 (0, 0))] := hM17
  have hbm : ∀ {W : World} {L : Hp}, Mem w No W L → W.heap[bm]? = some (mapO (gs.map Grp.ent) ck) := fun h => h.oldBlock (hL.at_ (bm, mapO (gs.map Grp.ent) ck) (by simp)) (fun h => h)
  refine r_val (v := Value.slice (some ⟨bo, 0, none⟩) n n) (w' := w16) rfl rfl (rfl) ?_
  refine r_nil ?_
  refine ends_sub [(0, Value.slice Al n cl), (1, Value.map (some bm)), (2, Value.slice A2 nn cn), (6, Value.pointer (some ⟨b3, 0, none⟩)), (7, Value.pointer (some ⟨bt, 0, none⟩)), (8, Value.slice (some ⟨bo, 0, none⟩) n n)] ⟨rfl, rfl, rfl, rfl, rfl, rfl, trivial⟩ ?_
  refine e_then ?_
  refine k_seq ?_
  refine k_seq ?_
  refine k_region ?_
  refine r_val (v := Value.map (some bm)) (w' := w16) rfl rfl (rfl) ?_
  refine r_rangeH hM17 (hbm hM17) rfl rfl rfl ?_
  intro bi w18 hM19 hbi
  replace hM19 : Mem w No w18 [(bi, .mapIter (some bm) ck #[] ck), (bo, .cells (rowC n (Value.int .i64) (fun _ => 0)) tInt (0, 0)), (bg, .cells (topC 0 n z0) tInts (0, 0)), (ba, .cells (topC 0 n z0) tBools (0, 0)), (bt, .cells #[Value.slice (some ⟨bg, 0, none⟩) n n, Value.slice (some ⟨ba, 0, none⟩) n n] 94 (0, 0)), (b3, .cells #[Value.slice none 0 0, Value.slice none 0 0] 94 (0, 0))] := hM19
  refine r_nil ?_
  refine ends_sub [(0, Value.slice Al n cl), (2, Value.slice A2 nn cn), (6, Value.pointer (some ⟨b3, 0, none⟩)), (7, Value.pointer (some ⟨bt, 0, none⟩)), (8, Value.slice (some ⟨bo, 0, none⟩) n n), (34, Value.pointer (some ⟨bi, 0, none⟩))] ⟨rfl, rfl, rfl, rfl, rfl, rfl, trivial⟩ ?_
  refine e_then ?_
  refine k_block ?_
  refine k_loop (σ := Array Nat × (Nat → Int)) (fun ⟨seen, o⟩ => [(0, Value.slice Al n cl), (2, Value.slice A2 nn cn), (6, Value.pointer (some ⟨b3, 0, none⟩)), (7, Value.pointer (some ⟨bt, 0, none⟩)), (8, Value.slice (some ⟨bo, 0, none⟩) n n), (34, Value.pointer (some ⟨bi, 0, none⟩))]) (fun ⟨seen, o⟩ w_ => Mem w No w_ [(bi, .mapIter (some bm) ck seen ck), (bo, .cells (rowC n (Value.int .i64) o) tInt (0, 0)), (bg, .cells (topC 0 n z0) tInts (0, 0)), (ba, .cells (topC 0 n z0) tBools (0, 0)), (bt, .cells #[Value.slice (some ⟨bg, 0, none⟩) n n, Value.slice (some ⟨ba, 0, none⟩) n n] 94 (0, 0)), (b3, .cells #[Value.slice none 0 0, Value.slice none 0 0] 94 (0, 0))] ∧ ofIn n gs seen o) (fun ⟨seen, o⟩ => todo gs seen) (#[], fun _ => 0) ⟨rfl, rfl, rfl, rfl, rfl, rfl, trivial⟩ ⟨hM19, fun q hq h => by simp at h⟩ ?_
  rintro ⟨seen, o⟩ w20 ⟨hM21, hof⟩
  refine wpK_sub [(0, Value.slice Al n cl), (2, Value.slice A2 nn cn), (6, Value.pointer (some ⟨b3, 0, none⟩)), (7, Value.pointer (some ⟨bt, 0, none⟩)), (8, Value.slice (some ⟨bo, 0, none⟩) n n), (34, Value.pointer (some ⟨bi, 0, none⟩))] ⟨rfl, rfl, rfl, rfl, rfl, rfl, trivial⟩ ?_
  refine k_seq ?_
  refine k_region ?_
  refine r_nextH hM21 0 rfl (hbm hM21) (ents_born hG) rfl rfl (fun hall w22 hM23 => ?_) (fun e_ he_ hns w22 hM23 => ?_)
  · skip
    have hfo := of_all hF hof (fun q hq => hall q.ent (List.mem_map.2 ⟨q, hq, rfl⟩))
    rw [rowC_congr hfo] at hM23
    have hM24 : Mem w No w22 [(bo, .cells (rowC n (Value.int .i64) (fun p => (f p : Int))) tInt (0, 0)), (bg, .cells (topC 0 n z0) tInts (0, 0)), (ba, .cells (topC 0 n z0) tBools (0, 0)), (bt, .cells #[Value.slice (some ⟨bg, 0, none⟩) n n, Value.slice (some ⟨ba, 0, none⟩) n n] 94 (0, 0)), (b3, .cells #[Value.slice none 0 0, Value.slice none 0 0] 94 (0, 0))] := hM23.tail
    refine r_val (v := Value.bool false) (w' := w22) rfl rfl (rfl) ?_
    refine r_nil ?_
    refine ends_sub [(0, Value.slice Al n cl), (2, Value.slice A2 nn cn), (6, Value.pointer (some ⟨b3, 0, none⟩)), (7, Value.pointer (some ⟨bt, 0, none⟩)), (8, Value.slice (some ⟨bo, 0, none⟩) n n), (34, Value.pointer (some ⟨bi, 0, none⟩)), (36, Value.bool false)] ⟨rfl, rfl, rfl, rfl, rfl, rfl, rfl, trivial⟩ ?_
    refine e_then ?_
    refine k_seq ?_
    refine k_cond_false rfl rfl ?_
    refine k_exit ?_
    refine e_then_exit ?_
    refine e_loop_exit ?_
    refine e_blk_exit ?_
    refine e_then ?_
    refine k_seq ?_
    refine k_seq ?_
    refine k_region ?_
    refine r_val (v := Value.slice Al n cl) (w' := w22) rfl rfl (rfl) ?_
    refine r_val (v := Value.int .i64 (n : Int)) (w' := w22) rfl rfl (x_len rfl rfl) ?_
    refine r_val (v := Value.int .i64 0) (w' := w22) rfl rfl (rfl) ?_
    refine r_nil ?_
    refine ends_sub [(0, Value.slice Al n cl), (2, Value.slice A2 nn cn), (6, Value.pointer (some ⟨b3, 0, none⟩)), (7, Value.pointer (some ⟨bt, 0, none⟩)), (8, Value.slice (some ⟨bo, 0, none⟩) n n), (52, Value.int .i64 (n : Int)), (53, Value.int .i64 0)] ⟨rfl, rfl, rfl, rfl, rfl, rfl, rfl, trivial⟩ ?_
    refine e_then ?_
    refine k_block ?_
    refine k_loop (σ := Nat × (Nat → Nat) × (Nat → Nat)) (fun ⟨i, rg, ra⟩ => [(0, Value.slice Al n cl), (2, Value.slice A2 nn cn), (6, Value.pointer (some ⟨b3, 0, none⟩)), (7, Value.pointer (some ⟨bt, 0, none⟩)), (8, Value.slice (some ⟨bo, 0, none⟩) n n), (52, Value.int .i64 (n : Int)), (53, Value.int .i64 (i : Int))]) (fun ⟨i, rg, ra⟩ w_ => Mem w No w_ ((bo, .cells (rowC n (Value.int .i64) (fun p => (f p : Int))) tInt (0, 0)) :: (bg, .cells (topC i n rg) tInts (0, 0)) :: (ba, .cells (topC i n ra) tBools (0, 0)) :: (bt, .cells #[Value.slice (some ⟨bg, 0, none⟩) n n, Value.slice (some ⟨ba, 0, none⟩) n n] 94 (0, 0)) :: (b3, .cells #[Value.slice none 0 0, Value.slice none 0 0] 94 (0, 0)) :: (tabL tInt (.int .i64) i n rg (fun _ _ => (774193 : Int)) ++ tabL tBool .bool i n ra (fun _ _ => false))) ∧ i ≤ n) (fun ⟨i, rg, ra⟩ => n - i) (0, z0, z0) ⟨rfl, rfl, rfl, rfl, rfl, rfl, rfl, trivial⟩ ⟨hM24, Nat.zero_le _⟩ ?_
    rintro ⟨i, rg, ra⟩ w25 ⟨hM26, hi⟩
    refine wpK_sub [(0, Value.slice Al n cl), (2, Value.slice A2 nn cn), (6, Value.pointer (some ⟨b3, 0, none⟩)), (7, Value.pointer (some ⟨bt, 0, none⟩)), (8, Value.slice (some ⟨bo, 0, none⟩) n n), (52, Value.int .i64 (n : Int)), (53, Value.int .i64 (i : Int))] ⟨rfl, rfl, rfl, rfl, rfl, rfl, rfl, trivial⟩ ?_
    refine k_seq ?_
    refine k_region ?_
    refine r_val (v := Value.bool (decide ((i : Int) < (n : Int)))) (w' := w25) rfl rfl (rfl) ?_
    refine r_nil ?_
    refine ends_sub [(0, Value.slice Al n cl), (2, Value.slice A2 nn cn), (6, Value.pointer (some ⟨b3, 0, none⟩)), (7, Value.pointer (some ⟨bt, 0, none⟩)), (8, Value.slice (some ⟨bo, 0, none⟩) n n), (52, Value.int .i64 (n : Int)), (53, Value.int .i64 (i : Int)), (54, Value.bool (decide ((i : Int) < (n : Int))))] ⟨rfl, rfl, rfl, rfl, rfl, rfl, rfl, rfl, trivial⟩ ?_
    refine e_then ?_
    refine k_seq ?_
    refine k_cond rfl rfl (fun h => ?_) (fun h => ?_)
    · try simp only [decide_eq_true_eq, decide_eq_false_iff_not, Bool.and_eq_true, Bool.or_eq_true, Bool.or_eq_false_iff, Bool.not_eq_true', Bool.not_eq_false', beq_iff_eq, bne_iff_ne, beq_eq_false_iff_ne, bne_eq_false_iff_eq, Int.not_lt, Int.not_le, ne_eq, Bool.not_eq_true, Bool.not_eq_false] at h
      refine k_skip ?_
      refine e_then ?_
      refine k_seq ?_
      refine k_block ?_
      refine k_seq ?_
      refine k_region ?_
      refine r_val (v := Value.int .i64 (i : Int)) (w' := w25) rfl rfl (rfl) ?_
      refine r_val (v := Value.int .i64 (i : Int)) (w' := w25) rfl rfl (rfl) ?_
      refine r_nil ?_
      refine ends_sub [(0, Value.slice Al n cl), (2, Value.slice A2 nn cn), (6, Value.pointer (some ⟨b3, 0, none⟩)), (7, Value.pointer (some ⟨bt, 0, none⟩)), (8, Value.slice (some ⟨bo, 0, none⟩) n n), (13, Value.int .i64 (i : Int)), (52, Value.int .i64 (n : Int)), (53, Value.int .i64 (i : Int))] ⟨rfl, rfl, rfl, rfl, rfl, rfl, rfl, rfl, trivial⟩ ?_
      refine e_then ?_
      refine k_seq ?_
      refine k_drawL mixed [0, 1, 0, 0, 8, 0, 0, 64, 192, 0, 512, 1536, 455, 4551, 16383, 32767] [some (Value.pointer (some ⟨bt, 0, none⟩)), some (Value.slice (some ⟨bg, 0, none⟩) n n), some (Value.int .i64 (i : Int)), some (Value.pointer (some ⟨bt, 1, none⟩)), some (Value.slice (some ⟨ba, 0, none⟩) n n), some (Value.int .i64 (i : Int)), some (Value.slice Al n cl), some (Value.int .i64 (n : Int)), none, some (Value.slice Al n cl), some (Value.int .i64 (n : Int)), none, some (Value.pointer (some ⟨bg, i, none⟩)), some (undef), some (Value.pointer (some ⟨ba, i, none⟩)), some (undef)] (by kernel_rfl) 15 rfl (by kernel_rfl) (fun D V w_ => ∃ e1 e2 : Nat, (D 8 = true → V 8 = .slice (some ⟨e1, 0, none⟩) n n) ∧ (D 11 = true → V 11 = .slice (some ⟨e2, 0, none⟩) n n) ∧ (D 13 = true → D 8 = true) ∧ Mem w No w_ (cnd (D 8) (e1, .cells (rowC n (Value.int .i64) (fun _ => 0)) tInt (0, 0)) ++ (cnd (D 11) (e2, .cells (rowC n Value.bool (fun _ => false)) tBool (0, 0)) ++ ((bo, .cells (rowC n (Value.int .i64) (fun p => (f p : Int))) tInt (0, 0)) :: (bg, .cells (if D 13 = true then ((topC i n rg).setIfInBounds i (.slice (some ⟨e1, 0, none⟩) n n)) else topC i n rg) tInts (0, 0)) :: (ba, .cells (topC i n ra) tBools (0, 0)) :: (bt, .cells #[Value.slice (some ⟨bg, 0, none⟩) n n, Value.slice (some ⟨ba, 0, none⟩) n n] 94 (0, 0)) :: (b3, .cells #[Value.slice none 0 0, Value.slice none 0 0] 94 (0, 0)) :: (tabL tInt (.int .i64) i n rg (fun _ _ => (774193 : Int)) ++ tabL tBool .bool i n ra (fun _ _ => false)))))) (fun V w_ => ∃ e1 e2 : Nat, Mem w No w_ ((e1, .cells (rowC n (Value.int .i64) (fun _ => 0)) tInt (0, 0)) :: (e2, .cells (rowC n Value.bool (fun _ => false)) tBool (0, 0)) :: (bo, .cells (rowC n (Value.int .i64) (fun p => (f p : Int))) tInt (0, 0)) :: (bg, .cells ((topC i n rg).setIfInBounds i (.slice (some ⟨e1, 0, none⟩) n n)) tInts (0, 0)) :: (ba, .cells ((topC i n ra).setIfInBounds i (.slice (some ⟨e2, 0, none⟩) n n)) tBools (0, 0)) :: (bt, .cells #[Value.slice (some ⟨bg, 0, none⟩) n n, Value.slice (some ⟨ba, 0, none⟩) n n] 94 (0, 0)) :: (b3, .cells #[Value.slice none 0 0, Value.slice none 0 0] 94 (0, 0)) :: (tabL tInt (.int .i64) i n rg (fun _ _ => (774193 : Int)) ++ tabL tBool .bool i n ra (fun _ _ => false)))) (fun V => ⟨0, 0, fun h => Bool.noConfusion h, fun h => Bool.noConfusion h, fun h => Bool.noConfusion h, hM26.drew⟩) ?_ ?_
      · refine ⟨?_, ?_, ?_, ?_, ?_, ?_, ?_, ?_, ?_, ?_, ?_, ?_, ?_, ?_, ?_, ?_, trivial⟩
        · intro D V w_ hd hi hM_
          refine goal_of [(7, Value.pointer (some ⟨bt, 0, none⟩))] rfl ⟨rfl, trivial⟩ rfl ?_
          exact run_val (Value.pointer (some ⟨bt, 0, none⟩)) (rfl) ⟨fun c h => Option.some.inj (Option.some.inj h), hM_⟩
        · intro D V w_ hd hi hM_
          refine goal_of [(56, Value.pointer (some ⟨bt, 0, none⟩))] rfl ⟨rfl, trivial⟩ rfl ?_
          exact run_val (Value.slice (some ⟨bg, 0, none⟩) n n) (by obtain ⟨e1, e2, h8, h11, h13, hM9⟩ := hM_; exact x_load (hM9.cellM (b := bt) (cs := #[Value.slice (some ⟨bg, 0, none⟩) n n, Value.slice (some ⟨ba, 0, none⟩) n n]) (e := 94) (fr := (0, 0)) (by simp) (j := 0) rfl) rfl rfl) ⟨fun c h => Option.some.inj (Option.some.inj h), hM_⟩
        · intro D V w_ hd hi hM_
          refine goal_of [(13, Value.int .i64 (i : Int))] rfl ⟨rfl, trivial⟩ rfl ?_
          exact run_val (Value.int .i64 (i : Int)) (rfl) ⟨fun c h => Option.some.inj (Option.some.inj h), hM_⟩
        · intro D V w_ hd hi hM_
          refine goal_of [(7, Value.pointer (some ⟨bt, 0, none⟩))] rfl ⟨rfl, trivial⟩ rfl ?_
          exact run_val (Value.pointer (some ⟨bt, 1, none⟩)) (rfl) ⟨fun c h => Option.some.inj (Option.some.inj h), hM_⟩
        · intro D V w_ hd hi hM_
          refine goal_of [(59, Value.pointer (some ⟨bt, 1, none⟩))] rfl ⟨rfl, trivial⟩ rfl ?_
          exact run_val (Value.slice (some ⟨ba, 0, none⟩) n n) (by obtain ⟨e1, e2, h8, h11, h13, hM9⟩ := hM_; exact x_load (hM9.cellM (b := bt) (cs := #[Value.slice (some ⟨bg, 0, none⟩) n n, Value.slice (some ⟨ba, 0, none⟩) n n]) (e := 94) (fr := (0, 0)) (by simp) (j := 1) rfl) rfl rfl) ⟨fun c h => Option.some.inj (Option.some.inj h), hM_⟩
        · intro D V w_ hd hi hM_
          refine goal_of [(13, Value.int .i64 (i : Int))] rfl ⟨rfl, trivial⟩ rfl ?_
          exact run_val (Value.int .i64 (i : Int)) (rfl) ⟨fun c h => Option.some.inj (Option.some.inj h), hM_⟩
        · intro D V w_ hd hi hM_
          refine goal_of [(0, Value.slice Al n cl)] rfl ⟨rfl, trivial⟩ rfl ?_
          exact run_val (Value.slice Al n cl) (rfl) ⟨fun c h => Option.some.inj (Option.some.inj h), hM_⟩
        · intro D V w_ hd hi hM_
          refine goal_of [(62, Value.slice Al n cl)] rfl ⟨rfl, trivial⟩ rfl ?_
          exact run_val (Value.int .i64 (n : Int)) (x_len rfl rfl) ⟨fun c h => Option.some.inj (Option.some.inj h), hM_⟩
        · intro D V w_ hd hi hM_
          refine goal_of [(63, Value.int .i64 (n : Int))] rfl ⟨rfl, trivial⟩ rfl ?_
          obtain ⟨e1, e2, h8, h11, h13, hM9⟩ := hM_
          have hn13 : D 13 = false := dno h13 hi
          rw [show D 8 = false from hi, hn13] at hM9
          simp only [Bool.false_eq_true, if_false] at hM9
          exact run_val _ (x_makeSlice (bytes := 8) (z := .int .i64 0) rfl rfl (by kernel_rfl) (by kernel_rfl) rfl (by omega) (by omega)) ⟨untold rfl, w_.heap.size, e2, fun _ => rfl, h11, fun _ => rfl, by rw [show upd D 8 true 13 = false from hn13]; simp only [Bool.false_eq_true, if_false]; exact hM9.alloc _⟩
        · intro D V w_ hd hi hM_
          refine goal_of [(0, Value.slice Al n cl)] rfl ⟨rfl, trivial⟩ rfl ?_
          exact run_val (Value.slice Al n cl) (rfl) ⟨fun c h => Option.some.inj (Option.some.inj h), hM_⟩
        · intro D V w_ hd hi hM_
          refine goal_of [(65, Value.slice Al n cl)] rfl ⟨rfl, trivial⟩ rfl ?_
          exact run_val (Value.int .i64 (n : Int)) (x_len rfl rfl) ⟨fun c h => Option.some.inj (Option.some.inj h), hM_⟩
        · intro D V w_ hd hi hM_
          refine goal_of [(66, Value.int .i64 (n : Int))] rfl ⟨rfl, trivial⟩ rfl ?_
          obtain ⟨e1, e2, h8, h11, h13, hM9⟩ := hM_
          rw [show D 11 = false from hi] at hM9
          exact run_val _ (x_makeSlice (bytes := 1) (z := .bool false) rfl rfl (by kernel_rfl) (by kernel_rfl) rfl (by omega) (by omega)) ⟨untold rfl, e1, w_.heap.size, h8, fun _ => rfl, h13, (hM9.alloc _).ins1⟩
        · intro D V w_ hd hi hM_
          refine goal_of [(57, Value.slice (some ⟨bg, 0, none⟩) n n), (58, Value.int .i64 (i : Int))] rfl ⟨rfl, rfl, trivial⟩ rfl ?_
          exact run_val (Value.pointer (some ⟨bg, i, none⟩)) (x_indexAddrL (i := i) (sz := 1) (by omega) rfl rfl rfl rfl (by omega)) ⟨fun c h => Option.some.inj (Option.some.inj h), hM_⟩
        · intro D V w_ hd hi hM_
          refine goal_of [(64, V 8), (68, Value.pointer (some ⟨bg, i, none⟩))] rfl ⟨rfl, rfl, trivial⟩ rfl ?_
          obtain ⟨e1, e2, h8, h11, h13, hM9⟩ := hM_
          have d8 := hd 8 rfl
          rw [h8 d8]
          rw [d8, show D 13 = false from hi] at hM9
          simp only [Bool.false_eq_true, if_false] at hM9
          cases h9 : D 11
          · rw [h9] at hM9
            exact o_store1 hM9 2 rfl (by rw [topC_size]; omega) rfl rfl rfl rfl (fun w' h => ⟨fun c h => Option.some.inj (Option.some.inj h), e1, e2, h8, h11, fun _ => d8, by rw [show upd D 13 true 8 = true from d8, show upd D 13 true 11 = false from h9]; exact h⟩)
          · rw [h9] at hM9
            exact o_store1 hM9 3 rfl (by rw [topC_size]; omega) rfl rfl rfl rfl (fun w' h => ⟨fun c h => Option.some.inj (Option.some.inj h), e1, e2, h8, h11, fun _ => d8, by rw [show upd D 13 true 8 = true from d8, show upd D 13 true 11 = true from h9]; exact h⟩)
        · intro D V w_ hd hi hM_
          refine goal_of [(60, Value.slice (some ⟨ba, 0, none⟩) n n), (61, Value.int .i64 (i : Int))] rfl ⟨rfl, rfl, trivial⟩ rfl ?_
          exact run_val (Value.pointer (some ⟨ba, i, none⟩)) (x_indexAddrL (i := i) (sz := 1) (by omega) rfl rfl rfl rfl (by omega)) ⟨fun c h => Option.some.inj (Option.some.inj h), hM_⟩
        · intro D V w_ hd hi hM_
          refine goal_of [(67, V 11), (69, Value.pointer (some ⟨ba, i, none⟩))] rfl ⟨rfl, rfl, trivial⟩ rfl ?_
          obtain ⟨e1, e2, h8, h11, h13, hM9⟩ := hM_
          rw [h11 (hd 11 rfl)]
          rw [hd 8 rfl, hd 11 rfl, hd 13 rfl] at hM9
          simp only [if_true] at hM9
          exact o_store1 hM9 4 rfl (by rw [topC_size]; omega) rfl rfl rfl rfl (fun w' h => ⟨fun c h => Option.some.inj (Option.some.inj h), e1, e2, h⟩)
      intro V w35 hM36
      obtain ⟨e1, e2, hM9⟩ := hM36
      refine ends_sub [(0, Value.slice Al n cl), (2, Value.slice A2 nn cn), (6, Value.pointer (some ⟨b3, 0, none⟩)), (7, Value.pointer (some ⟨bt, 0, none⟩)), (8, Value.slice (some ⟨bo, 0, none⟩) n n), (13, Value.int .i64 (i : Int)), (52, Value.int .i64 (n : Int)), (53, Value.int .i64 (i : Int))] ⟨rfl, rfl, rfl, rfl, rfl, rfl, rfl, rfl, trivial⟩ ?_
      refine e_then ?_
      refine k_seq ?_
      refine k_region ?_
      have hM37 : Mem w No w35 ((e1, .cells (rowC n (Value.int .i64) (fun q => if q < 0 then (774193 : Int) else 0)) tInt (0, 0)) :: (e2, .cells (rowC n Value.bool (fun _ => false)) tBool (0, 0)) :: (bo, .cells (rowC n (Value.int .i64) (fun p => (f p : Int))) tInt (0, 0)) :: (bg, .cells ((topC i n rg).setIfInBounds i (.slice (some ⟨e1, 0, none⟩) n n)) tInts (0, 0)) :: (ba, .cells ((topC i n ra).setIfInBounds i (.slice (some ⟨e2, 0, none⟩) n n)) tBools (0, 0)) :: (bt, .cells #[Value.slice (some ⟨bg, 0, none⟩) n n, Value.slice (some ⟨ba, 0, none⟩) n n] 94 (0, 0)) :: (b3, .cells #[Value.slice none 0 0, Value.slice none 0 0] 94 (0, 0)) :: (tabL tInt (.int .i64) i n rg (fun _ _ => (774193 : Int)) ++ tabL tBool .bool i n ra (fun _ _ => false))) := hM9
      refine r_val (v := Value.slice Al n cl) (w' := w35) rfl rfl (rfl) ?_
      refine r_val (v := Value.int .i64 (n : Int)) (w' := w35) rfl rfl (x_len rfl rfl) ?_
      refine r_val (v := Value.int .i64 0) (w' := w35) rfl rfl (rfl) ?_
      refine r_nil ?_
      refine ends_sub [(0, Value.slice Al n cl), (2, Value.slice A2 nn cn), (6, Value.pointer (some ⟨b3, 0, none⟩)), (7, Value.pointer (some ⟨bt, 0, none⟩)), (8, Value.slice (some ⟨bo, 0, none⟩) n n), (13, Value.int .i64 (i : Int)), (52, Value.int .i64 (n : Int)), (53, Value.int .i64 (i : Int)), (71, Value.int .i64 (n : Int)), (72, Value.int .i64 0)] ⟨rfl, rfl, rfl, rfl, rfl, rfl, rfl, rfl, rfl, rfl, trivial⟩ ?_
      refine e_then ?_
      refine k_block ?_
      refine k_loop (σ := Nat) (fun k => [(0, Value.slice Al n cl), (2, Value.slice A2 nn cn), (6, Value.pointer (some ⟨b3, 0, none⟩)), (7, Value.pointer (some ⟨bt, 0, none⟩)), (8, Value.slice (some ⟨bo, 0, none⟩) n n), (13, Value.int .i64 (i : Int)), (52, Value.int .i64 (n : Int)), (53, Value.int .i64 (i : Int)), (71, Value.int .i64 (n : Int)), (72, Value.int .i64 (k : Int))]) (fun k w_ => Mem w No w_ ((e1, .cells (rowC n (Value.int .i64) (fun q => if q < k then (774193 : Int) else 0)) tInt (0, 0)) :: (e2, .cells (rowC n Value.bool (fun _ => false)) tBool (0, 0)) :: (bo, .cells (rowC n (Value.int .i64) (fun p => (f p : Int))) tInt (0, 0)) :: (bg, .cells ((topC i n rg).setIfInBounds i (.slice (some ⟨e1, 0, none⟩) n n)) tInts (0, 0)) :: (ba, .cells ((topC i n ra).setIfInBounds i (.slice (some ⟨e2, 0, none⟩) n n)) tBools (0, 0)) :: (bt, .cells #[Value.slice (some ⟨bg, 0, none⟩) n n, Value.slice (some ⟨ba, 0, none⟩) n n] 94 (0, 0)) :: (b3, .cells #[Value.slice none 0 0, Value.slice none 0 0] 94 (0, 0)) :: (tabL tInt (.int .i64) i n rg (fun _ _ => (774193 : Int)) ++ tabL tBool .bool i n ra (fun _ _ => false))) ∧ k ≤ n) (fun k => n - k) 0 ⟨rfl, rfl, rfl, rfl, rfl, rfl, rfl, rfl, rfl, rfl, trivial⟩ ⟨hM37, Nat.zero_le _⟩ ?_
      rintro k w38 ⟨hM39, hk⟩
      refine wpK_sub [(0, Value.slice Al n cl), (2, Value.slice A2 nn cn), (6, Value.pointer (some ⟨b3, 0, none⟩)), (7, Value.pointer (some ⟨bt, 0, none⟩)), (8, Value.slice (some ⟨bo, 0, none⟩) n n), (13, Value.int .i64 (i : Int)), (52, Value.int .i64 (n : Int)), (53, Value.int .i64 (i : Int)), (71, Value.int .i64 (n : Int)), (72, Value.int .i64 (k : Int))] ⟨rfl, rfl, rfl, rfl, rfl, rfl, rfl, rfl, rfl, rfl, trivial⟩ ?_
      refine k_seq ?_
      refine k_region ?_
      refine r_val (v := Value.bool (decide ((k : Int) < (n : Int)))) (w' := w38) rfl rfl (rfl) ?_
      refine r_nil ?_
      refine ends_sub [(0, Value.slice Al n cl), (2, Value.slice A2 nn cn), (6, Value.pointer (some ⟨b3, 0, none⟩)), (7, Value.pointer (some ⟨bt, 0, none⟩)), (8, Value.slice (some ⟨bo, 0, none⟩) n n), (13, Value.int .i64 (i : Int)), (52, Value.int .i64 (n : Int)), (53, Value.int .i64 (i : Int)), (71, Value.int .i64 (n : Int)), (72, Value.int .i64 (k : Int)), (73, Value.bool (decide ((k : Int) < (n : Int))))] ⟨rfl, rfl, rfl, rfl, rfl, rfl, rfl, rfl, rfl, rfl, rfl, trivial⟩ ?_
      refine e_then ?_
      refine k_seq ?_
      refine k_cond rfl rfl (fun h2 => ?_) (fun h2 => ?_)
      · try simp only [decide_eq_true_eq, decide_eq_false_iff_not, Bool.and_eq_true, Bool.or_eq_true, Bool.or_eq_false_iff, Bool.not_eq_true', Bool.not_eq_false', beq_iff_eq, bne_iff_ne, beq_eq_false_iff_ne, bne_eq_false_iff_eq, Int.not_lt, Int.not_le, ne_eq, Bool.not_eq_true, Bool.not_eq_false] at h2
        refine k_skip ?_
        refine e_then ?_
        refine k_seq ?_
        refine k_block ?_
        refine k_seq ?_
        refine k_region ?_
        refine r_val (v := Value.int .i64 (k : Int)) (w' := w38) rfl rfl (rfl) ?_
        refine r_val (v := Value.int .i64 (k : Int)) (w' := w38) rfl rfl (rfl) ?_
        refine r_nil ?_
        refine ends_sub [(0, Value.slice Al n cl), (2, Value.slice A2 nn cn), (6, Value.pointer (some ⟨b3, 0, none⟩)), (7, Value.pointer (some ⟨bt, 0, none⟩)), (8, Value.slice (some ⟨bo, 0, none⟩) n n), (13, Value.int .i64 (i : Int)), (14, Value.int .i64 (k : Int)), (52, Value.int .i64 (n : Int)), (53, Value.int .i64 (i : Int)), (71, Value.int .i64 (n : Int)), (72, Value.int .i64 (k : Int))] ⟨rfl, rfl, rfl, rfl, rfl, rfl, rfl, rfl, rfl, rfl, rfl, trivial⟩ ?_
        refine e_then ?_
        refine k_region ?_
        refine r_val (v := Value.pointer (some ⟨bt, 0, none⟩)) (w' := w38) rfl rfl (rfl) ?_
        refine r_val (v := Value.slice (some ⟨bg, 0, none⟩) n n) (w' := w38) rfl rfl (x_load (hM39.cell 5 rfl rfl) rfl rfl) ?_
        refine r_val (v := Value.int .i64 (i : Int)) (w' := w38) rfl rfl (rfl) ?_
        refine r_val (v := Value.pointer (some ⟨bg, i, none⟩)) (w' := w38) rfl rfl (x_indexAddrL (i := i) (sz := 1) (by omega) rfl rfl rfl rfl (by omega)) ?_
        refine r_val (v := Value.slice (some ⟨e1, 0, none⟩) n n) (w' := w38) rfl rfl (x_load (hM39.cell 3 rfl (self_get (by rw [topC_size]; omega))) rfl rfl) ?_
        refine r_val (v := Value.int .i64 (k : Int)) (w' := w38) rfl rfl (rfl) ?_
        refine r_val (v := Value.pointer (some ⟨e1, k, none⟩)) (w' := w38) rfl rfl (x_indexAddrL (i := k) (sz := 1) (by omega) rfl rfl rfl rfl (by omega)) ?_
        refine r_store (v := Value.int .i64 774193) hM39 0 rfl (by rw [rowC_size]; omega) (by first | rfl | assumption) rfl rfl rfl rfl ?_
        intro w40 hM41
        replace hM41 : Mem w No w40 ((e1, .cells ((rowC n (Value.int .i64) (fun q => if q < k then (774193 : Int) else 0)).setIfInBounds k (Value.int .i64 774193)) tInt (0, 0)) :: (e2, .cells (rowC n Value.bool (fun _ => false)) tBool (0, 0)) :: (bo, .cells (rowC n (Value.int .i64) (fun p => (f p : Int))) tInt (0, 0)) :: (bg, .cells ((topC i n rg).setIfInBounds i (.slice (some ⟨e1, 0, none⟩) n n)) tInts (0, 0)) :: (ba, .cells ((topC i n ra).setIfInBounds i (.slice (some ⟨e2, 0, none⟩) n n)) tBools (0, 0)) :: (bt, .cells #[Value.slice (some ⟨bg, 0, none⟩) n n, Value.slice (some ⟨ba, 0, none⟩) n n] 94 (0, 0)) :: (b3, .cells #[Value.slice none 0 0, Value.slice none 0 0] 94 (0, 0)) :: (tabL tInt (.int .i64) i n rg (fun _ _ => (774193 : Int)) ++ tabL tBool .bool i n ra (fun _ _ => false))) := hM41
        refine r_nil ?_
        refine ends_sub [(0, Value.slice Al n cl), (2, Value.slice A2 nn cn), (6, Value.pointer (some ⟨b3, 0, none⟩)), (7, Value.pointer (some ⟨bt, 0, none⟩)), (8, Value.slice (some ⟨bo, 0, none⟩) n n), (13, Value.int .i64 (i : Int)), (52, Value.int .i64 (n : Int)), (53, Value.int .i64 (i : Int)), (71, Value.int .i64 (n : Int)), (72, Value.int .i64 (k : Int))] ⟨rfl, rfl, rfl, rfl, rfl, rfl, rfl, rfl, rfl, rfl, trivial⟩ ?_
        refine e_blk ?_
        refine e_then ?_
        refine k_region ?_
        rw [rowI_set (show k < n by omega), fill_step] at hM41
        have hM42 : Mem w No w40 ((e1, .cells (rowC n (Value.int .i64) (fun q => if q < k + 1 then (774193 : Int) else 0)) tInt (0, 0)) :: (e2, .cells (rowC n Value.bool (fun _ => false)) tBool (0, 0)) :: (bo, .cells (rowC n (Value.int .i64) (fun p => (f p : Int))) tInt (0, 0)) :: (bg, .cells ((topC i n rg).setIfInBounds i (.slice (some ⟨e1, 0, none⟩) n n)) tInts (0, 0)) :: (ba, .cells ((topC i n ra).setIfInBounds i (.slice (some ⟨e2, 0, none⟩) n n)) tBools (0, 0)) :: (bt, .cells #[Value.slice (some ⟨bg, 0, none⟩) n n, Value.slice (some ⟨ba, 0, none⟩) n n] 94 (0, 0)) :: (b3, .cells #[Value.slice none 0 0, Value.slice none 0 0] 94 (0, 0)) :: (tabL tInt (.int .i64) i n rg (fun _ _ => (774193 : Int)) ++ tabL tBool .bool i n ra (fun _ _ => false))) := hM41
        refine r_val (v := Value.int .i64 ((k : Int) + 1)) (w' := w40) rfl rfl (x_addE rfl (by omega) (by omega) rfl rfl) ?_
        refine r_val (v := Value.int .i64 ((k : Int) + 1)) (w' := w40) rfl rfl (rfl) ?_
        refine r_nil ?_
        refine ends_sub [(0, Value.slice Al n cl), (2, Value.slice A2 nn cn), (6, Value.pointer (some ⟨b3, 0, none⟩)), (7, Value.pointer (some ⟨bt, 0, none⟩)), (8, Value.slice (some ⟨bo, 0, none⟩) n n), (13, Value.int .i64 (i : Int)), (52, Value.int .i64 (n : Int)), (53, Value.int .i64 (i : Int)), (71, Value.int .i64 (n : Int)), (72, Value.int .i64 ((k : Int) + 1))] ⟨rfl, rfl, rfl, rfl, rfl, rfl, rfl, rfl, rfl, rfl, trivial⟩ ?_
        refine e_loop (k + 1) ⟨rfl, rfl, rfl, rfl, rfl, rfl, rfl, rfl, rfl, rfl, trivial⟩ ?_ ?_
        · exact ⟨hM42, by omega⟩
        · (try dsimp only); omega
      · try simp only [decide_eq_true_eq, decide_eq_false_iff_not, Bool.and_eq_true, Bool.or_eq_true, Bool.or_eq_false_iff, Bool.not_eq_true', Bool.not_eq_false', beq_iff_eq, bne_iff_ne, beq_eq_false_iff_ne, bne_eq_false_iff_eq, Int.not_lt, Int.not_le, ne_eq, Bool.not_eq_true, Bool.not_eq_false] at h2
        refine k_exit ?_
        refine e_then_exit ?_
        refine e_loop_exit ?_
        refine e_blk_exit ?_
        refine e_blk ?_
        refine e_then ?_
        refine k_region ?_
        have hkn : k = n := by omega
        rw [hkn, fill_all, topC_set (by omega), topC_set (by omega)] at hM39
        refine r_val (v := Value.int .i64 ((i : Int) + 1)) (w' := w38) rfl rfl (x_addE rfl (by omega) (by omega) rfl rfl) ?_
        refine r_val (v := Value.int .i64 ((i : Int) + 1)) (w' := w38) rfl rfl (rfl) ?_
        refine r_nil ?_
        refine ends_sub [(0, Value.slice Al n cl), (2, Value.slice A2 nn cn), (6, Value.pointer (some ⟨b3, 0, none⟩)), (7, Value.pointer (some ⟨bt, 0, none⟩)), (8, Value.slice (some ⟨bo, 0, none⟩) n n), (52, Value.int .i64 (n : Int)), (53, Value.int .i64 ((i : Int) + 1))] ⟨rfl, rfl, rfl, rfl, rfl, rfl, rfl, trivial⟩ ?_
        refine e_loop (i + 1, fun q => if q = i then e1 else rg q, fun q => if q = i then e2 else ra q) ⟨rfl, rfl, rfl, rfl, rfl, rfl, rfl, trivial⟩ ?_ ?_
        · exact ⟨by rw [tabL_snocC, tabL_snocC]; exact Mem.tabgrow (E := [_, _, _, _, _]) hM39, by omega⟩
        · (try dsimp only); omega
    · try simp only [decide_eq_true_eq, decide_eq_false_iff_not, Bool.and_eq_true, Bool.or_eq_true, Bool.or_eq_false_iff, Bool.not_eq_true', Bool.not_eq_false', beq_iff_eq, bne_iff_ne, beq_eq_false_iff_ne, bne_eq_false_iff_eq, Int.not_lt, Int.not_le, ne_eq, Bool.not_eq_true, Bool.not_eq_false] at h
      refine k_exit ?_
      refine e_then_exit ?_
      refine e_loop_exit ?_
      refine e_blk_exit ?_
      refine e_then ?_
      refine k_seq ?_
      refine k_seq ?_
      refine k_region ?_
      have hin : i = n := by omega
      rw [hin] at hM26
      have hM43 : Mem w No w25 ((bo, .cells (rowC n (Value.int .i64) (fun p => (f p : Int))) tInt (0, 0)) :: (bg, .cells (topC n n rg) tInts (0, 0)) :: (ba, .cells (topC n n ra) tBools (0, 0)) :: (bt, .cells #[Value.slice (some ⟨bg, 0, none⟩) n n, Value.slice (some ⟨ba, 0, none⟩) n n] 94 (0, 0)) :: (b3, .cells #[Value.slice none 0 0, Value.slice none 0 0] 94 (0, 0)) :: (tabL tInt (.int .i64) n n rg (fun _ _ => (774193 : Int)) ++ tabL tBool .bool n n ra (fun _ _ => false))) := hM26
      refine r_val (v := Value.slice Al n cl) (w' := w25) rfl rfl (rfl) ?_
      refine r_val (v := Value.int .i64 (n : Int)) (w' := w25) rfl rfl (x_len rfl rfl) ?_
      refine r_val (v := Value.int .i64 0) (w' := w25) rfl rfl (rfl) ?_
      refine r_nil ?_
      refine ends_sub [(0, Value.slice Al n cl), (2, Value.slice A2 nn cn), (6, Value.pointer (some ⟨b3, 0, none⟩)), (7, Value.pointer (some ⟨bt, 0, none⟩)), (8, Value.slice (some ⟨bo, 0, none⟩) n n), (85, Value.int .i64 (n : Int)), (86, Value.int .i64 0)] ⟨rfl, rfl, rfl, rfl, rfl, rfl, rfl, trivial⟩ ?_
      refine e_then ?_
      refine k_block ?_
      refine k_loop (σ := Nat × (Nat → Nat → Int)) (fun ⟨i, g⟩ => [(0, Value.slice Al n cl), (2, Value.slice A2 nn cn), (6, Value.pointer (some ⟨b3, 0, none⟩)), (7, Value.pointer (some ⟨bt, 0, none⟩)), (8, Value.slice (some ⟨bo, 0, none⟩) n n), (85, Value.int .i64 (n : Int)), (86, Value.int .i64 (i : Int))]) (fun ⟨i, g⟩ w_ => Mem w No w_ ((bo, .cells (rowC n (Value.int .i64) (fun p => (f p : Int))) tInt (0, 0)) :: (bg, .cells (topC n n rg) tInts (0, 0)) :: (ba, .cells (topC n n ra) tBools (0, 0)) :: (bt, .cells #[Value.slice (some ⟨bg, 0, none⟩) n n, Value.slice (some ⟨ba, 0, none⟩) n n] 94 (0, 0)) :: (b3, .cells #[Value.slice none 0 0, Value.slice none 0 0] 94 (0, 0)) :: (tabL tInt (.int .i64) n n rg g ++ tabL tBool .bool n n ra (fun _ _ => false))) ∧ i ≤ n ∧ GapIs l f (upTo n i 0) g) (fun ⟨i, g⟩ => n - i) (0, fun _ _ => 774193) ⟨rfl, rfl, rfl, rfl, rfl, rfl, rfl, trivial⟩ ⟨hM43, Nat.zero_le _, gap_none l f n⟩ ?_
      rintro ⟨i, g⟩ w44 ⟨hM45, hi, hg⟩
      refine wpK_sub [(0, Value.slice Al n cl), (2, Value.slice A2 nn cn), (6, Value.pointer (some ⟨b3, 0, none⟩)), (7, Value.pointer (some ⟨bt, 0, none⟩)), (8, Value.slice (some ⟨bo, 0, none⟩) n n), (85, Value.int .i64 (n : Int)), (86, Value.int .i64 (i : Int))] ⟨rfl, rfl, rfl, rfl, rfl, rfl, rfl, trivial⟩ ?_
      refine k_seq ?_
      refine k_region ?_
      refine r_val (v := Value.bool (decide ((i : Int) < (n : Int)))) (w' := w44) rfl rfl (rfl) ?_
      refine r_nil ?_
      refine ends_sub [(0, Value.slice Al n cl), (2, Value.slice A2 nn cn), (6, Value.pointer (some ⟨b3, 0, none⟩)), (7, Value.pointer (some ⟨bt, 0, none⟩)), (8, Value.slice (some ⟨bo, 0, none⟩) n n), (85, Value.int .i64 (n : Int)), (86, Value.int .i64 (i : Int)), (87, Value.bool (decide ((i : Int) < (n : Int))))] ⟨rfl, rfl, rfl, rfl, rfl, rfl, rfl, rfl, trivial⟩ ?_
      refine e_then ?_
      refine k_seq ?_
      refine k_cond rfl rfl (fun h => ?_) (fun h => ?_)
      · try simp only [decide_eq_true_eq, decide_eq_false_iff_not, Bool.and_eq_true, Bool.or_eq_true, Bool.or_eq_false_iff, Bool.not_eq_true', Bool.not_eq_false', beq_iff_eq, bne_iff_ne, beq_eq_false_iff_ne, bne_eq_false_iff_eq, Int.not_lt, Int.not_le, ne_eq, Bool.not_eq_true, Bool.not_eq_false] at h
        refine k_skip ?_
        refine e_then ?_
        refine k_seq ?_
        refine k_block ?_
        refine k_seq ?_
        refine k_region ?_
        obtain ⟨x, hx⟩ : ∃ x, l[i]? = some x := ⟨l[i]'(by omega), by simp⟩
        have hx14 : x.length = 14 := by have := hl.size' hx; simpa using this
        have hxm := List.mem_of_getElem? hx
        have hfi : f i < n := hF.lt (by omega)
        refine r_val (v := Value.int .i64 (i : Int)) (w' := w44) rfl rfl (rfl) ?_
        refine r_val (v := Value.int .i64 (i : Int)) (w' := w44) rfl rfl (rfl) ?_
        refine r_nil ?_
        refine ends_sub [(0, Value.slice Al n cl), (2, Value.slice A2 nn cn), (6, Value.pointer (some ⟨b3, 0, none⟩)), (7, Value.pointer (some ⟨bt, 0, none⟩)), (8, Value.slice (some ⟨bo, 0, none⟩) n n), (15, Value.int .i64 (i : Int)), (85, Value.int .i64 (n : Int)), (86, Value.int .i64 (i : Int))] ⟨rfl, rfl, rfl, rfl, rfl, rfl, rfl, rfl, trivial⟩ ?_
        refine e_then ?_
        refine k_seq ?_
        refine k_region ?_
        refine r_val (v := Value.slice Al n cl) (w' := w44) rfl rfl (rfl) ?_
        refine r_val (v := Value.int .i64 (n : Int)) (w' := w44) rfl rfl (x_len rfl rfl) ?_
        refine r_val (v := Value.int .i64 0) (w' := w44) rfl rfl (rfl) ?_
        refine r_nil ?_
        refine ends_sub [(0, Value.slice Al n cl), (2, Value.slice A2 nn cn), (6, Value.pointer (some ⟨b3, 0, none⟩)), (7, Value.pointer (some ⟨bt, 0, none⟩)), (8, Value.slice (some ⟨bo, 0, none⟩) n n), (15, Value.int .i64 (i : Int)), (85, Value.int .i64 (n : Int)), (86, Value.int .i64 (i : Int)), (90, Value.int .i64 (n : Int)), (91, Value.int .i64 0)] ⟨rfl, rfl, rfl, rfl, rfl, rfl, rfl, rfl, rfl, rfl, trivial⟩ ?_
        refine e_then ?_
        refine k_block ?_
        refine k_loop (σ := Nat × (Nat → Nat → Int)) (fun ⟨k, g⟩ => [(0, Value.slice Al n cl), (2, Value.slice A2 nn cn), (6, Value.pointer (some ⟨b3, 0, none⟩)), (7, Value.pointer (some ⟨bt, 0, none⟩)), (8, Value.slice (some ⟨bo, 0, none⟩) n n), (15, Value.int .i64 (i : Int)), (85, Value.int .i64 (n : Int)), (86, Value.int .i64 (i : Int)), (90, Value.int .i64 (n : Int)), (91, Value.int .i64 (k : Int))]) (fun ⟨k, g⟩ w_ => Mem w No w_ ((bo, .cells (rowC n (Value.int .i64) (fun p => (f p : Int))) tInt (0, 0)) :: (bg, .cells (topC n n rg) tInts (0, 0)) :: (ba, .cells (topC n n ra) tBools (0, 0)) :: (bt, .cells #[Value.slice (some ⟨bg, 0, none⟩) n n, Value.slice (some ⟨ba, 0, none⟩) n n] 94 (0, 0)) :: (b3, .cells #[Value.slice none 0 0, Value.slice none 0 0] 94 (0, 0)) :: (tabL tInt (.int .i64) n n rg g ++ tabL tBool .bool n n ra (fun _ _ => false))) ∧ k ≤ n ∧ GapIs l f (upTo n i k) g) (fun ⟨k, g⟩ => n - k) (0, g) ⟨rfl, rfl, rfl, rfl, rfl, rfl, rfl, rfl, rfl, rfl, trivial⟩ ⟨hM45, Nat.zero_le _, hg⟩ ?_
        rintro ⟨k, g⟩ w46 ⟨hM47, hk, hg⟩
        refine wpK_sub [(0, Value.slice Al n cl), (2, Value.slice A2 nn cn), (6, Value.pointer (some ⟨b3, 0, none⟩)), (7, Value.pointer (some ⟨bt, 0, none⟩)), (8, Value.slice (some ⟨bo, 0, none⟩) n n), (15, Value.int .i64 (i : Int)), (85, Value.int .i64 (n : Int)), (86, Value.int .i64 (i : Int)), (90, Value.int .i64 (n : Int)), (91, Value.int .i64 (k : Int))] ⟨rfl, rfl, rfl, rfl, rfl, rfl, rfl, rfl, rfl, rfl, trivial⟩ ?_
        refine k_seq ?_
        refine k_region ?_
        refine r_val (v := Value.bool (decide ((k : Int) < (n : Int)))) (w' := w46) rfl rfl (rfl) ?_
        refine r_nil ?_
        refine ends_sub [(0, Value.slice Al n cl), (2, Value.slice A2 nn cn), (6, Value.pointer (some ⟨b3, 0, none⟩)), (7, Value.pointer (some ⟨bt, 0, none⟩)), (8, Value.slice (some ⟨bo, 0, none⟩) n n), (15, Value.int .i64 (i : Int)), (85, Value.int .i64 (n : Int)), (86, Value.int .i64 (i : Int)), (90, Value.int .i64 (n : Int)), (91, Value.int .i64 (k : Int)), (92, Value.bool (decide ((k : Int) < (n : Int))))] ⟨rfl, rfl, rfl, rfl, rfl, rfl, rfl, rfl, rfl, rfl, rfl, trivial⟩ ?_
        refine e_then ?_
        refine k_seq ?_
        refine k_cond rfl rfl (fun h2 => ?_) (fun h2 => ?_)
        · try simp only [decide_eq_true_eq, decide_eq_false_iff_not, Bool.and_eq_true, Bool.or_eq_true, Bool.or_eq_false_iff, Bool.not_eq_true', Bool.not_eq_false', beq_iff_eq, bne_iff_ne, beq_eq_false_iff_ne, bne_eq_false_iff_eq, Int.not_lt, Int.not_le, ne_eq, Bool.not_eq_true, Bool.not_eq_false] at h2
          refine k_skip ?_
          refine e_then ?_
          refine k_seq ?_
          refine k_block ?_
          refine k_seq ?_
          refine k_region ?_
          obtain ⟨y, hy⟩ : ∃ x, l[k]? = some x := ⟨l[k]'(by omega), by simp⟩
          have hy14 : y.length = 14 := by have := hl.size' hy; simpa using this
          have hym := List.mem_of_getElem? hy
          have hfk : f k < n := hF.lt (by omega)
          have hfar : farAt l i k = farOf (vecOf x) (vecOf y) := by simp [farAt, hx, hy]
          refine r_val (v := Value.int .i64 (k : Int)) (w' := w46) rfl rfl (rfl) ?_
          refine r_val (v := Value.int .i64 (k : Int)) (w' := w46) rfl rfl (rfl) ?_
          refine r_nil ?_
          refine ends_sub [(0, Value.slice Al n cl), (2, Value.slice A2 nn cn), (6, Value.pointer (some ⟨b3, 0, none⟩)), (7, Value.pointer (some ⟨bt, 0, none⟩)), (8, Value.slice (some ⟨bo, 0, none⟩) n n), (15, Value.int .i64 (i : Int)), (16, Value.int .i64 (k : Int)), (85, Value.int .i64 (n : Int)), (86, Value.int .i64 (i : Int)), (90, Value.int .i64 (n : Int)), (91, Value.int .i64 (k : Int))] ⟨rfl, rfl, rfl, rfl, rfl, rfl, rfl, rfl, rfl, rfl, rfl, trivial⟩ ?_
          refine e_then ?_
          refine k_seq ?_
          refine k_draw mixed [0, 0, 3, 7, 0, 0, 48, 112, 15, 511] [some (Value.slice (some ⟨bo, 0, none⟩) n n), some (Value.int .i64 (i : Int)), some (Value.pointer (some ⟨bo, i, none⟩)), some (Value.int .i64 (f i : Int)), some (Value.slice (some ⟨bo, 0, none⟩) n n), some (Value.int .i64 (k : Int)), some (Value.pointer (some ⟨bo, k, none⟩)), some (Value.int .i64 (f k : Int)), some (Value.int .i64 (f i : Int)), some (Value.int .i64 (f k : Int))] (by kernel_rfl) (fun D V w_ => Mem w No w_ ((bo, .cells (rowC n (Value.int .i64) (fun p => (f p : Int))) tInt (0, 0)) :: (bg, .cells (topC n n rg) tInts (0, 0)) :: (ba, .cells (topC n n ra) tBools (0, 0)) :: (bt, .cells #[Value.slice (some ⟨bg, 0, none⟩) n n, Value.slice (some ⟨ba, 0, none⟩) n n] 94 (0, 0)) :: (b3, .cells #[Value.slice none 0 0, Value.slice none 0 0] 94 (0, 0)) :: (tabL tInt (.int .i64) n n rg g ++ tabL tBool .bool n n ra (fun _ _ => false)))) (fun V => hM47.drew) ?_ ?_
          · refine ⟨?_, ?_, ?_, ?_, ?_, ?_, ?_, ?_, ?_, ?_, trivial⟩
            · intro D V w_ hd hi hM_
              refine goal_of [(8, Value.slice (some ⟨bo, 0, none⟩) n n)] rfl ⟨rfl, trivial⟩ rfl ?_
              exact run_val (Value.slice (some ⟨bo, 0, none⟩) n n) (rfl) ⟨fun c h => Option.some.inj (Option.some.inj h), hM_⟩
            · intro D V w_ hd hi hM_
              refine goal_of [(15, Value.int .i64 (i : Int))] rfl ⟨rfl, trivial⟩ rfl ?_
              exact run_val (Value.int .i64 (i : Int)) (rfl) ⟨fun c h => Option.some.inj (Option.some.inj h), hM_⟩
            · intro D V w_ hd hi hM_
              refine goal_of [(94, Value.slice (some ⟨bo, 0, none⟩) n n), (95, Value.int .i64 (i : Int))] rfl ⟨rfl, rfl, trivial⟩ rfl ?_
              exact run_val (Value.pointer (some ⟨bo, i, none⟩)) (x_indexAddrL (i := i) (sz := 1) (by omega) rfl rfl rfl rfl (by omega)) ⟨fun c h => Option.some.inj (Option.some.inj h), hM_⟩
            · intro D V w_ hd hi hM_
              refine goal_of [(96, Value.pointer (some ⟨bo, i, none⟩))] rfl ⟨rfl, trivial⟩ rfl ?_
              exact run_val (Value.int .i64 (f i : Int)) (x_load (hM_.cell 0 rfl (rowC_get (by omega))) rfl rfl) ⟨fun c h => Option.some.inj (Option.some.inj h), hM_⟩
            · intro D V w_ hd hi hM_
              refine goal_of [(8, Value.slice (some ⟨bo, 0, none⟩) n n)] rfl ⟨rfl, trivial⟩ rfl ?_
              exact run_val (Value.slice (some ⟨bo, 0, none⟩) n n) (rfl) ⟨fun c h => Option.some.inj (Option.some.inj h), hM_⟩
            · intro D V w_ hd hi hM_
              refine goal_of [(16, Value.int .i64 (k : Int))] rfl ⟨rfl, trivial⟩ rfl ?_
              exact run_val (Value.int .i64 (k : Int)) (rfl) ⟨fun c h => Option.some.inj (Option.some.inj h), hM_⟩
            · intro D V w_ hd hi hM_
              refine goal_of [(98, Value.slice (some ⟨bo, 0, none⟩) n n), (99, Value.int .i64 (k : Int))] rfl ⟨rfl, rfl, trivial⟩ rfl ?_
              exact run_val (Value.pointer (some ⟨bo, k, none⟩)) (x_indexAddrL (i := k) (sz := 1) (by omega) rfl rfl rfl rfl (by omega)) ⟨fun c h => Option.some.inj (Option.some.inj h), hM_⟩
            · intro D V w_ hd hi hM_
              refine goal_of [(100, Value.pointer (some ⟨bo, k, none⟩))] rfl ⟨rfl, trivial⟩ rfl ?_
              exact run_val (Value.int .i64 (f k : Int)) (x_load (hM_.cell 0 rfl (rowC_get (by omega))) rfl rfl) ⟨fun c h => Option.some.inj (Option.some.inj h), hM_⟩
            · intro D V w_ hd hi hM_
              refine goal_of [(97, Value.int .i64 (f i : Int))] rfl ⟨rfl, trivial⟩ rfl ?_
              exact run_val (Value.int .i64 (f i : Int)) (rfl) ⟨fun c h => Option.some.inj (Option.some.inj h), hM_⟩
            · intro D V w_ hd hi hM_
              refine goal_of [(101, Value.int .i64 (f k : Int))] rfl ⟨rfl, trivial⟩ rfl ?_
              exact run_val (Value.int .i64 (f k : Int)) (rfl) ⟨fun c h => Option.some.inj (Option.some.inj h), hM_⟩
          intro D V w48 hall hM49
          refine ends_sub [(0, Value.slice Al n cl), (2, Value.slice A2 nn cn), (6, Value.pointer (some ⟨b3, 0, none⟩)), (7, Value.pointer (some ⟨bt, 0, none⟩)), (8, Value.slice (some ⟨bo, 0, none⟩) n n), (15, Value.int .i64 (i : Int)), (16, Value.int .i64 (k : Int)), (17, Value.int .i64 (f i : Int)), (18, Value.int .i64 (f k : Int)), (85, Value.int .i64 (n : Int)), (86, Value.int .i64 (i : Int)), (90, Value.int .i64 (n : Int)), (91, Value.int .i64 (k : Int))] ⟨rfl, rfl, rfl, rfl, rfl, rfl, rfl, rfl, rfl, rfl, rfl, rfl, rfl, trivial⟩ ?_
          refine e_then ?_
          refine k_drawL mixed [0, 1, 0, 7, 15, 0, 0, 64, 0, 448, 960, 0, 4032, 8128, 0, 0, 49152, 114688, 245760, 0, 0, 1572864, 3670016, 7864320, 16760832, 33554368, 67108863, 134217727] [some (Value.pointer (some ⟨bt, 0, none⟩)), some (Value.slice (some ⟨bg, 0, none⟩) n n), some (Value.int .i64 (f i : Int)), some (Value.pointer (some ⟨bg, (f i), none⟩)), some (Value.slice (some ⟨rg (f i), 0, none⟩) n n), some (Value.int .i64 (f k : Int)), some (Value.pointer (some ⟨bt, 0, none⟩)), some (Value.slice (some ⟨bg, 0, none⟩) n n), some (Value.int .i64 (f i : Int)), some (Value.pointer (some ⟨bg, (f i), none⟩)), some (Value.slice (some ⟨rg (f i), 0, none⟩) n n), some (Value.int .i64 (f k : Int)), some (Value.pointer (some ⟨rg (f i), (f k), none⟩)), some (Value.int .i64 (g (f i) (f k))), some (Value.slice Al n cl), some (Value.int .i64 (i : Int)), some (Value.pointer (some ((adr Al).add (i * 14)))), some (Value.pointer (some (((adr Al).add (i * 14)).add 2))), some (Value.agg (ints (vecOf x))), some (Value.slice Al n cl), some (Value.int .i64 (k : Int)), some (Value.pointer (some ((adr Al).add (k * 14)))), some (Value.pointer (some (((adr Al).add (k * 14)).add 2))), some (Value.agg (ints (vecOf y))), some (Value.int .i64 (farOf (vecOf x) (vecOf y))), some (Value.int .i64 (min (g (f i) (f k)) (farOf (vecOf x) (vecOf y)))), some (Value.pointer (some ⟨rg (f i), (f k), none⟩)), some (undef)] (by kernel_rfl) 27 rfl (by kernel_rfl) (fun D V w_ => Mem w No w_ ((bo, .cells (rowC n (Value.int .i64) (fun p => (f p : Int))) tInt (0, 0)) :: (bg, .cells (topC n n rg) tInts (0, 0)) :: (ba, .cells (topC n n ra) tBools (0, 0)) :: (bt, .cells #[Value.slice (some ⟨bg, 0, none⟩) n n, Value.slice (some ⟨ba, 0, none⟩) n n] 94 (0, 0)) :: (b3, .cells #[Value.slice none 0 0, Value.slice none 0 0] 94 (0, 0)) :: (tabL tInt (.int .i64) n n rg g ++ tabL tBool .bool n n ra (fun _ _ => false)))) (fun V w_ => Mem w No w_ ((bo, .cells (rowC n (Value.int .i64) (fun p => (f p : Int))) tInt (0, 0)) :: (bg, .cells (topC n n rg) tInts (0, 0)) :: (ba, .cells (topC n n ra) tBools (0, 0)) :: (bt, .cells #[Value.slice (some ⟨bg, 0, none⟩) n n, Value.slice (some ⟨ba, 0, none⟩) n n] 94 (0, 0)) :: (b3, .cells #[Value.slice none 0 0, Value.slice none 0 0] 94 (0, 0)) :: (tabL tInt (.int .i64) n n rg (upd2 g (f i) (f k) (min (g (f i) (f k)) (farOf (vecOf x) (vecOf y)))) ++ tabL tBool .bool n n ra (fun _ _ => false)))) (fun V => hM49.drew) ?_ ?_
          · refine ⟨?_, ?_, ?_, ?_, ?_, ?_, ?_, ?_, ?_, ?_, ?_, ?_, ?_, ?_, ?_, ?_, ?_, ?_, ?_, ?_, ?_, ?_, ?_, ?_, ?_, ?_, ?_, ?_, trivial⟩
            · intro D V w_ hd hi hM_
              refine goal_of [(7, Value.pointer (some ⟨bt, 0, none⟩))] rfl ⟨rfl, trivial⟩ rfl ?_
              exact run_val (Value.pointer (some ⟨bt, 0, none⟩)) (rfl) ⟨fun c h => Option.some.inj (Option.some.inj h), hM_⟩
            · intro D V w_ hd hi hM_
              refine goal_of [(102, Value.pointer (some ⟨bt, 0, none⟩))] rfl ⟨rfl, trivial⟩ rfl ?_
              exact run_val (Value.slice (some ⟨bg, 0, none⟩) n n) (x_load (hM_.cell 3 rfl rfl) rfl rfl) ⟨fun c h => Option.some.inj (Option.some.inj h), hM_⟩
            · intro D V w_ hd hi hM_
              refine goal_of [(17, Value.int .i64 (f i : Int))] rfl ⟨rfl, trivial⟩ rfl ?_
              exact run_val (Value.int .i64 (f i : Int)) (rfl) ⟨fun c h => Option.some.inj (Option.some.inj h), hM_⟩
            · intro D V w_ hd hi hM_
              refine goal_of [(103, Value.slice (some ⟨bg, 0, none⟩) n n), (104, Value.int .i64 (f i : Int))] rfl ⟨rfl, rfl, trivial⟩ rfl ?_
              exact run_val (Value.pointer (some ⟨bg, (f i), none⟩)) (x_indexAddrL (i := f i) (sz := 1) (by omega) rfl rfl rfl rfl (by omega)) ⟨fun c h => Option.some.inj (Option.some.inj h), hM_⟩
            · intro D V w_ hd hi hM_
              refine goal_of [(105, Value.pointer (some ⟨bg, (f i), none⟩))] rfl ⟨rfl, trivial⟩ rfl ?_
              exact run_val (Value.slice (some ⟨rg (f i), 0, none⟩) n n) (x_load (hM_.cell 1 rfl (topC_get (by omega) (by omega))) rfl rfl) ⟨fun c h => Option.some.inj (Option.some.inj h), hM_⟩
            · intro D V w_ hd hi hM_
              refine goal_of [(18, Value.int .i64 (f k : Int))] rfl ⟨rfl, trivial⟩ rfl ?_
              exact run_val (Value.int .i64 (f k : Int)) (rfl) ⟨fun c h => Option.some.inj (Option.some.inj h), hM_⟩
            · intro D V w_ hd hi hM_
              refine goal_of [(7, Value.pointer (some ⟨bt, 0, none⟩))] rfl ⟨rfl, trivial⟩ rfl ?_
              exact run_val (Value.pointer (some ⟨bt, 0, none⟩)) (rfl) ⟨fun c h => Option.some.inj (Option.some.inj h), hM_⟩
            · intro D V w_ hd hi hM_
              refine goal_of [(108, Value.pointer (some ⟨bt, 0, none⟩))] rfl ⟨rfl, trivial⟩ rfl ?_
              exact run_val (Value.slice (some ⟨bg, 0, none⟩) n n) (x_load (hM_.cell 3 rfl rfl) rfl rfl) ⟨fun c h => Option.some.inj (Option.some.inj h), hM_⟩
            · intro D V w_ hd hi hM_
              refine goal_of [(17, Value.int .i64 (f i : Int))] rfl ⟨rfl, trivial⟩ rfl ?_
              exact run_val (Value.int .i64 (f i : Int)) (rfl) ⟨fun c h => Option.some.inj (Option.some.inj h), hM_⟩
            · intro D V w_ hd hi hM_
              refine goal_of [(109, Value.slice (some ⟨bg, 0, none⟩) n n), (110, Value.int .i64 (f i : Int))] rfl ⟨rfl, rfl, trivial⟩ rfl ?_
              exact run_val (Value.pointer (some ⟨bg, (f i), none⟩)) (x_indexAddrL (i := f i) (sz := 1) (by omega) rfl rfl rfl rfl (by omega)) ⟨fun c h => Option.some.inj (Option.some.inj h), hM_⟩
            · intro D V w_ hd hi hM_
              refine goal_of [(111, Value.pointer (some ⟨bg, (f i), none⟩))] rfl ⟨rfl, trivial⟩ rfl ?_
              exact run_val (Value.slice (some ⟨rg (f i), 0, none⟩) n n) (x_load (hM_.cell 1 rfl (topC_get (by omega) (by omega))) rfl rfl) ⟨fun c h => Option.some.inj (Option.some.inj h), hM_⟩
            · intro D V w_ hd hi hM_
              refine goal_of [(18, Value.int .i64 (f k : Int))] rfl ⟨rfl, trivial⟩ rfl ?_
              exact run_val (Value.int .i64 (f k : Int)) (rfl) ⟨fun c h => Option.some.inj (Option.some.inj h), hM_⟩
            · intro D V w_ hd hi hM_
              refine goal_of [(112, Value.slice (some ⟨rg (f i), 0, none⟩) n n), (113, Value.int .i64 (f k : Int))] rfl ⟨rfl, rfl, trivial⟩ rfl ?_
              exact run_val (Value.pointer (some ⟨rg (f i), (f k), none⟩)) (x_indexAddrL (i := f k) (sz := 1) (by omega) rfl rfl rfl rfl (by omega)) ⟨fun c h => Option.some.inj (Option.some.inj h), hM_⟩
            · intro D V w_ hd hi hM_
              refine goal_of [(114, Value.pointer (some ⟨rg (f i), (f k), none⟩))] rfl ⟨rfl, trivial⟩ rfl ?_
              exact run_val (Value.int .i64 (g (f i) (f k))) (x_load (hM_.tcell (n := n) (enc := .int .i64) (g := g) (ty := tInt) (i := (f i)) (List.mem_cons_of_mem _ (List.mem_cons_of_mem _ (List.mem_cons_of_mem _ (List.mem_cons_of_mem _ (List.mem_cons_of_mem _ (List.mem_append_left _ (tabL_mem (by omega)))))))) (by omega)) rfl rfl) ⟨fun c h => Option.some.inj (Option.some.inj h), hM_⟩
            · intro D V w_ hd hi hM_
              refine goal_of [(0, Value.slice Al n cl)] rfl ⟨rfl, trivial⟩ rfl ?_
              exact run_val (Value.slice Al n cl) (rfl) ⟨fun c h => Option.some.inj (Option.some.inj h), hM_⟩
            · intro D V w_ hd hi hM_
              refine goal_of [(15, Value.int .i64 (i : Int))] rfl ⟨rfl, trivial⟩ rfl ?_
              exact run_val (Value.int .i64 (i : Int)) (rfl) ⟨fun c h => Option.some.inj (Option.some.inj h), hM_⟩
            · intro D V w_ hd hi hM_
              refine goal_of [(116, Value.slice Al n cl), (117, Value.int .i64 (i : Int))] rfl ⟨rfl, rfl, trivial⟩ rfl ?_
              exact run_val (Value.pointer (some ((adr Al).add (i * 14)))) (x_indexAddrN (i := i) (sz := 14) hl.here (by omega) rfl rfl rfl rfl) ⟨fun c h => Option.some.inj (Option.some.inj h), hM_⟩
            · intro D V w_ hd hi hM_
              refine goal_of [(118, Value.pointer (some ((adr Al).add (i * 14))))] rfl ⟨rfl, trivial⟩ rfl ?_
              exact run_val (Value.pointer (some (((adr Al).add (i * 14)).add 2))) (rfl) ⟨fun c h => Option.some.inj (Option.some.inj h), hM_⟩
            · intro D V w_ hd hi hM_
              refine goal_of [(119, Value.pointer (some (((adr Al).add (i * 14)).add 2)))] rfl ⟨rfl, trivial⟩ rfl ?_
              exact run_val (Value.agg (ints (vecOf x))) (x_loadEPart (o := 2) (m := 12) (hl.up hM_) hx (by omega) rfl rfl rfl) ⟨fun c h => Option.some.inj (Option.some.inj h), hM_⟩
            · intro D V w_ hd hi hM_
              refine goal_of [(0, Value.slice Al n cl)] rfl ⟨rfl, trivial⟩ rfl ?_
              exact run_val (Value.slice Al n cl) (rfl) ⟨fun c h => Option.some.inj (Option.some.inj h), hM_⟩
            · intro D V w_ hd hi hM_
              refine goal_of [(16, Value.int .i64 (k : Int))] rfl ⟨rfl, trivial⟩ rfl ?_
              exact run_val (Value.int .i64 (k : Int)) (rfl) ⟨fun c h => Option.some.inj (Option.some.inj h), hM_⟩
            · intro D V w_ hd hi hM_
              refine goal_of [(121, Value.slice Al n cl), (122, Value.int .i64 (k : Int))] rfl ⟨rfl, rfl, trivial⟩ rfl ?_
              exact run_val (Value.pointer (some ((adr Al).add (k * 14)))) (x_indexAddrN (i := k) (sz := 14) hl.here (by omega) rfl rfl rfl rfl) ⟨fun c h => Option.some.inj (Option.some.inj h), hM_⟩
            · intro D V w_ hd hi hM_
              refine goal_of [(123, Value.pointer (some ((adr Al).add (k * 14))))] rfl ⟨rfl, trivial⟩ rfl ?_
              exact run_val (Value.pointer (some (((adr Al).add (k * 14)).add 2))) (rfl) ⟨fun c h => Option.some.inj (Option.some.inj h), hM_⟩
            · intro D V w_ hd hi hM_
              refine goal_of [(124, Value.pointer (some (((adr Al).add (k * 14)).add 2)))] rfl ⟨rfl, trivial⟩ rfl ?_
              exact run_val (Value.agg (ints (vecOf y))) (x_loadEPart (o := 2) (m := 12) (hl.up hM_) hy (by omega) rfl rfl rfl) ⟨fun c h => Option.some.inj (Option.some.inj h), hM_⟩
            · intro D V w_ hd hi hM_
              refine goal_of [(120, Value.agg (ints (vecOf x))), (125, Value.agg (ints (vecOf y)))] rfl ⟨rfl, rfl, trivial⟩ rfl ?_
              refine run_call (f := 28) (args := #[Value.agg (ints (vecOf x)), Value.agg (ints (vecOf y))]) (w' := w_) (x_call (vs := [Value.agg (ints (vecOf x)), Value.agg (ints (vecOf y))]) (enter28 _ _) rfl rfl) (far_s (vecOf x) (vecOf y) (by simp [vecOf]; omega) (by simp [vecOf]; omega) (hgd.vec x hxm) (hgd.vec y hym) w_) ?_
              rintro v_ w2_ ⟨rfl, hM2_⟩
              exact ⟨fun c h => Option.some.inj (Option.some.inj h), hM_.grow hM2_.kept⟩
            · intro D V w_ hd hi hM_
              refine goal_of [(115, Value.int .i64 (g (f i) (f k))), (126, Value.int .i64 (farOf (vecOf x) (vecOf y)))] rfl ⟨rfl, rfl, trivial⟩ rfl ?_
              exact run_val (Value.int .i64 (min (g (f i) (f k)) (farOf (vecOf x) (vecOf y)))) (x_min rfl rfl) ⟨fun c h => Option.some.inj (Option.some.inj h), hM_⟩
            · intro D V w_ hd hi hM_
              refine goal_of [(106, Value.slice (some ⟨rg (f i), 0, none⟩) n n), (107, Value.int .i64 (f k : Int))] rfl ⟨rfl, rfl, trivial⟩ rfl ?_
              exact run_val (Value.pointer (some ⟨rg (f i), (f k), none⟩)) (x_indexAddrL (i := f k) (sz := 1) (by omega) rfl rfl rfl rfl (by omega)) ⟨fun c h => Option.some.inj (Option.some.inj h), hM_⟩
            · intro D V w_ hd hi hM_
              refine goal_of [(127, Value.int .i64 (min (g (f i) (f k)) (farOf (vecOf x) (vecOf y)))), (128, Value.pointer (some ⟨rg (f i), (f k), none⟩))] rfl ⟨rfl, rfl, trivial⟩ rfl ?_
              exact o_storeT ([(bo, .cells (rowC n (Value.int .i64) (fun p => (f p : Int))) tInt (0, 0)), (bg, .cells (topC n n rg) tInts (0, 0)), (ba, .cells (topC n n ra) tBools (0, 0)), (bt, .cells #[Value.slice (some ⟨bg, 0, none⟩) n n, Value.slice (some ⟨ba, 0, none⟩) n n] 94 (0, 0)), (b3, .cells #[Value.slice none 0 0, Value.slice none 0 0] 94 (0, 0))] : Hp) hM_ hfi hfk rfl rfl rfl rfl (fun w' h => ⟨fun c h => Option.some.inj (Option.some.inj h), h⟩)
          intro V w54 hM55
          refine ends_sub [(0, Value.slice Al n cl), (2, Value.slice A2 nn cn), (6, Value.pointer (some ⟨b3, 0, none⟩)), (7, Value.pointer (some ⟨bt, 0, none⟩)), (8, Value.slice (some ⟨bo, 0, none⟩) n n), (15, Value.int .i64 (i : Int)), (85, Value.int .i64 (n : Int)), (86, Value.int .i64 (i : Int)), (90, Value.int .i64 (n : Int)), (91, Value.int .i64 (k : Int))] ⟨rfl, rfl, rfl, rfl, rfl, rfl, rfl, rfl, rfl, rfl, trivial⟩ ?_
          refine e_blk ?_
          refine e_then ?_
          refine k_region ?_
          refine r_val (v := Value.int .i64 ((k : Int) + 1)) (w' := w54) rfl rfl (x_addE rfl (by omega) (by omega) rfl rfl) ?_
          refine r_val (v := Value.int .i64 ((k : Int) + 1)) (w' := w54) rfl rfl (rfl) ?_
          refine r_nil ?_
          refine ends_sub [(0, Value.slice Al n cl), (2, Value.slice A2 nn cn), (6, Value.pointer (some ⟨b3, 0, none⟩)), (7, Value.pointer (some ⟨bt, 0, none⟩)), (8, Value.slice (some ⟨bo, 0, none⟩) n n), (15, Value.int .i64 (i : Int)), (85, Value.int .i64 (n : Int)), (86, Value.int .i64 (i : Int)), (90, Value.int .i64 (n : Int)), (91, Value.int .i64 ((k : Int) + 1))] ⟨rfl, rfl, rfl, rfl, rfl, rfl, rfl, rfl, rfl, rfl, trivial⟩ ?_
          refine e_loop (k + 1, upd2 g (f i) (f k) (min (g (f i) (f k)) (farAt l i k))) ⟨rfl, rfl, rfl, rfl, rfl, rfl, rfl, rfl, rfl, rfl, trivial⟩ ?_ ?_
          · exact ⟨by rw [hfar]; exact hM55, by omega, gap_step (by omega) (by omega) hg⟩
          · (try dsimp only); omega
        · try simp only [decide_eq_true_eq, decide_eq_false_iff_not, Bool.and_eq_true, Bool.or_eq_true, Bool.or_eq_false_iff, Bool.not_eq_true', Bool.not_eq_false', beq_iff_eq, bne_iff_ne, beq_eq_false_iff_ne, bne_eq_false_iff_eq, Int.not_lt, Int.not_le, ne_eq, Bool.not_eq_true, Bool.not_eq_false] at h2
          refine k_exit ?_
          refine e_then_exit ?_
          refine e_loop_exit ?_
          refine e_blk_exit ?_
          refine e_blk ?_
          refine e_then ?_
          refine k_region ?_
          have hkn : k = n := by omega
          rw [hkn] at hg
          refine r_val (v := Value.int .i64 ((i : Int) + 1)) (w' := w46) rfl rfl (x_addE rfl (by omega) (by omega) rfl rfl) ?_
          refine r_val (v := Value.int .i64 ((i : Int) + 1)) (w' := w46) rfl rfl (rfl) ?_
          refine r_nil ?_
          refine ends_sub [(0, Value.slice Al n cl), (2, Value.slice A2 nn cn), (6, Value.pointer (some ⟨b3, 0, none⟩)), (7, Value.pointer (some ⟨bt, 0, none⟩)), (8, Value.slice (some ⟨bo, 0, none⟩) n n), (85, Value.int .i64 (n : Int)), (86, Value.int .i64 ((i : Int) + 1))] ⟨rfl, rfl, rfl, rfl, rfl, rfl, rfl, trivial⟩ ?_
          refine e_loop (i + 1, g) ⟨rfl, rfl, rfl, rfl, rfl, rfl, rfl, trivial⟩ ?_ ?_
          · exact ⟨hM47, by omega, gap_row hg⟩
          · (try dsimp only); omega
      · try simp only [decide_eq_true_eq, decide_eq_false_iff_not, Bool.and_eq_true, Bool.or_eq_true, Bool.or_eq_false_iff, Bool.not_eq_true', Bool.not_eq_false', beq_iff_eq, bne_iff_ne, beq_eq_false_iff_ne, bne_eq_false_iff_eq, Int.not_lt, Int.not_le, ne_eq, Bool.not_eq_true, Bool.not_eq_false] at h
        refine k_exit ?_
        refine e_then_exit ?_
        refine e_loop_exit ?_
        refine e_blk_exit ?_
        refine e_then ?_
        refine k_seq ?_
        refine k_seq ?_
        refine k_region ?_
        have hin2 : i = n := by omega
        rw [hin2] at hg
        refine r_val (v := Value.slice A2 nn cn) (w' := w44) rfl rfl (rfl) ?_
        refine r_val (v := Value.int .i64 (nn : Int)) (w' := w44) rfl rfl (x_len rfl rfl) ?_
        refine r_val (v := Value.int .i64 0) (w' := w44) rfl rfl (rfl) ?_
        refine r_nil ?_
        refine ends_sub [(6, Value.pointer (some ⟨b3, 0, none⟩)), (7, Value.pointer (some ⟨bt, 0, none⟩)), (8, Value.slice (some ⟨bo, 0, none⟩) n n), (131, Value.slice A2 nn cn), (132, Value.int .i64 (nn : Int)), (133, Value.int .i64 0)] ⟨rfl, rfl, rfl, rfl, rfl, rfl, trivial⟩ ?_
        refine e_then ?_
        refine k_block ?_
        refine k_loop (σ := Nat × (Nat → Nat → Bool)) (fun ⟨k, a⟩ => [(6, Value.pointer (some ⟨b3, 0, none⟩)), (7, Value.pointer (some ⟨bt, 0, none⟩)), (8, Value.slice (some ⟨bo, 0, none⟩) n n), (131, Value.slice A2 nn cn), (132, Value.int .i64 (nn : Int)), (133, Value.int .i64 (k : Int))]) (fun ⟨k, a⟩ w_ => Mem w No w_ ((bo, .cells (rowC n (Value.int .i64) (fun p => (f p : Int))) tInt (0, 0)) :: (bg, .cells (topC n n rg) tInts (0, 0)) :: (ba, .cells (topC n n ra) tBools (0, 0)) :: (bt, .cells #[Value.slice (some ⟨bg, 0, none⟩) n n, Value.slice (some ⟨ba, 0, none⟩) n n] 94 (0, 0)) :: (b3, .cells #[Value.slice none 0 0, Value.slice none 0 0] 94 (0, 0)) :: (tabL tInt (.int .i64) n n rg g ++ tabL tBool .bool n n ra a)) ∧ k ≤ nn ∧ ApartIs f (ns.take k) a) (fun ⟨k, a⟩ => nn - k) (0, fun _ _ => false) ⟨rfl, rfl, rfl, rfl, rfl, rfl, trivial⟩ ⟨hM45, Nat.zero_le _, apart_none f⟩ ?_
        rintro ⟨k, a⟩ w56 ⟨hM57, hk, ha⟩
        refine wpK_sub [(6, Value.pointer (some ⟨b3, 0, none⟩)), (7, Value.pointer (some ⟨bt, 0, none⟩)), (8, Value.slice (some ⟨bo, 0, none⟩) n n), (131, Value.slice A2 nn cn), (132, Value.int .i64 (nn : Int)), (133, Value.int .i64 (k : Int))] ⟨rfl, rfl, rfl, rfl, rfl, rfl, trivial⟩ ?_
        refine k_seq ?_
        refine k_region ?_
        refine r_val (v := Value.bool (decide ((k : Int) < (nn : Int)))) (w' := w56) rfl rfl (rfl) ?_
        refine r_nil ?_
        refine ends_sub [(6, Value.pointer (some ⟨b3, 0, none⟩)), (7, Value.pointer (some ⟨bt, 0, none⟩)), (8, Value.slice (some ⟨bo, 0, none⟩) n n), (131, Value.slice A2 nn cn), (132, Value.int .i64 (nn : Int)), (133, Value.int .i64 (k : Int)), (134, Value.bool (decide ((k : Int) < (nn : Int))))] ⟨rfl, rfl, rfl, rfl, rfl, rfl, rfl, trivial⟩ ?_
        refine e_then ?_
        refine k_seq ?_
        refine k_cond rfl rfl (fun h3 => ?_) (fun h3 => ?_)
        · try simp only [decide_eq_true_eq, decide_eq_false_iff_not, Bool.and_eq_true, Bool.or_eq_true, Bool.or_eq_false_iff, Bool.not_eq_true', Bool.not_eq_false', beq_iff_eq, bne_iff_ne, beq_eq_false_iff_ne, bne_eq_false_iff_eq, Int.not_lt, Int.not_le, ne_eq, Bool.not_eq_true, Bool.not_eq_false] at h3
          refine k_skip ?_
          refine e_then ?_
          refine k_seq ?_
          refine k_block ?_
          refine k_seq ?_
          refine k_region ?_
          obtain ⟨m, hmk⟩ : ∃ m, ns[k]? = some m := ⟨ns[k]'(by omega), by simp⟩
          obtain ⟨hm1, hm2⟩ := hns m (List.mem_of_getElem? hmk)
          have hf1 := hF.lt hm1
          have hf2 := hF.lt hm2
          refine r_val (v := Value.pointer (some ((adr A2).add (k * 2)))) (w' := w56) rfl rfl (x_indexAddrN (i := k) (sz := 2) h2n.here (by omega) rfl rfl rfl rfl) ?_
          refine r_val (v := Value.agg (#[Value.int .i64 (m.1 : Int), Value.int .i64 (m.2 : Int)])) (w' := w56) rfl rfl (x_loadElem (enc := pairE) (e := m) (h2n.up hM57) hmk rfl rfl rfl) ?_
          refine r_alloc hM57 (z := Value.agg #[Value.int .i64 0, Value.int .i64 0]) rfl rfl ?_
          intro b60 w58 hM59 hb60
          replace hM59 : Mem w No w58 ((b60, .cells #[Value.int .i64 0, Value.int .i64 0] 36 (0, 0)) :: (bo, .cells (rowC n (Value.int .i64) (fun p => (f p : Int))) tInt (0, 0)) :: (bg, .cells (topC n n rg) tInts (0, 0)) :: (ba, .cells (topC n n ra) tBools (0, 0)) :: (bt, .cells #[Value.slice (some ⟨bg, 0, none⟩) n n, Value.slice (some ⟨ba, 0, none⟩) n n] 94 (0, 0)) :: (b3, .cells #[Value.slice none 0 0, Value.slice none 0 0] 94 (0, 0)) :: (tabL tInt (.int .i64) n n rg g ++ tabL tBool .bool n n ra a)) := hM59
          refine r_storeRow (vs := (#[Value.int .i64 (m.1 : Int), Value.int .i64 (m.2 : Int)])) hM59 0 rfl (by rw [show (#[Value.int .i64 (m.1 : Int), Value.int .i64 (m.2 : Int)]).size = 2 from (by simp [ints_size, *])]; rfl) (by first | (simp [Value.oneCell']; done) | (simp only [List.mem_cons, List.not_mem_nil, or_false, forall_eq_or_imp, forall_eq]; (repeat' constructor) <;> first | assumption | rfl)) (by rw [show (#[Value.int .i64 (m.1 : Int), Value.int .i64 (m.2 : Int)]).size = 2 from (by simp [ints_size, *])]; rfl) rfl rfl rfl ?_
          intro w61 hM62
          replace hM62 : Mem w No w61 ((b60, .cells (#[Value.int .i64 (m.1 : Int), Value.int .i64 (m.2 : Int)]) 36 (0, 0)) :: (bo, .cells (rowC n (Value.int .i64) (fun p => (f p : Int))) tInt (0, 0)) :: (bg, .cells (topC n n rg) tInts (0, 0)) :: (ba, .cells (topC n n ra) tBools (0, 0)) :: (bt, .cells #[Value.slice (some ⟨bg, 0, none⟩) n n, Value.slice (some ⟨ba, 0, none⟩) n n] 94 (0, 0)) :: (b3, .cells #[Value.slice none 0 0, Value.slice none 0 0] 94 (0, 0)) :: (tabL tInt (.int .i64) n n rg g ++ tabL tBool .bool n n ra a)) := hM62
          refine r_nil ?_
          refine ends_sub [(6, Value.pointer (some ⟨b3, 0, none⟩)), (7, Value.pointer (some ⟨bt, 0, none⟩)), (8, Value.slice (some ⟨bo, 0, none⟩) n n), (20, Value.pointer (some ⟨b60, 0, none⟩)), (131, Value.slice A2 nn cn), (132, Value.int .i64 (nn : Int)), (133, Value.int .i64 (k : Int))] ⟨rfl, rfl, rfl, rfl, rfl, rfl, rfl, trivial⟩ ?_
          refine e_then ?_
          refine k_seq ?_
          refine k_draw mixed [0, 0, 2, 7, 15, 0, 0, 64, 224, 480, 31, 2047] [some (Value.slice (some ⟨bo, 0, none⟩) n n), some (Value.pointer (some ⟨b60, 0, none⟩)), some (Value.int .i64 (m.1 : Int)), some (Value.pointer (some ⟨bo, m.1, none⟩)), some (Value.int .i64 (f m.1 : Int)), some (Value.slice (some ⟨bo, 0, none⟩) n n), some (Value.pointer (some ⟨b60, 1, none⟩)), some (Value.int .i64 (m.2 : Int)), some (Value.pointer (some ⟨bo, m.2, none⟩)), some (Value.int .i64 (f m.2 : Int)), some (Value.int .i64 (f m.1 : Int)), some (Value.int .i64 (f m.2 : Int))] (by kernel_rfl) (fun D V w_ => Mem w No w_ ((b60, .cells (#[Value.int .i64 (m.1 : Int), Value.int .i64 (m.2 : Int)]) 36 (0, 0)) :: (bo, .cells (rowC n (Value.int .i64) (fun p => (f p : Int))) tInt (0, 0)) :: (bg, .cells (topC n n rg) tInts (0, 0)) :: (ba, .cells (topC n n ra) tBools (0, 0)) :: (bt, .cells #[Value.slice (some ⟨bg, 0, none⟩) n n, Value.slice (some ⟨ba, 0, none⟩) n n] 94 (0, 0)) :: (b3, .cells #[Value.slice none 0 0, Value.slice none 0 0] 94 (0, 0)) :: (tabL tInt (.int .i64) n n rg g ++ tabL tBool .bool n n ra a))) (fun V => hM62.drew) ?_ ?_
          · refine ⟨?_, ?_, ?_, ?_, ?_, ?_, ?_, ?_, ?_, ?_, ?_, ?_, trivial⟩
            · intro D V w_ hd hi hM_
              refine goal_of [(8, Value.slice (some ⟨bo, 0, none⟩) n n)] rfl ⟨rfl, trivial⟩ rfl ?_
              exact run_val (Value.slice (some ⟨bo, 0, none⟩) n n) (rfl) ⟨fun c h => Option.some.inj (Option.some.inj h), hM_⟩
            · intro D V w_ hd hi hM_
              refine goal_of [(20, Value.pointer (some ⟨b60, 0, none⟩))] rfl ⟨rfl, trivial⟩ rfl ?_
              exact run_val (Value.pointer (some ⟨b60, 0, none⟩)) (x_indexAddrB (i := 0) (sz := 1) (by omega) rfl rfl rfl rfl (by omega)) ⟨fun c h => Option.some.inj (Option.some.inj h), hM_⟩
            · intro D V w_ hd hi hM_
              refine goal_of [(138, Value.pointer (some ⟨b60, 0, none⟩))] rfl ⟨rfl, trivial⟩ rfl ?_
              exact run_val (Value.int .i64 (m.1 : Int)) (x_load (hM_.cell 0 rfl rfl) rfl rfl) ⟨fun c h => Option.some.inj (Option.some.inj h), hM_⟩
            · intro D V w_ hd hi hM_
              refine goal_of [(137, Value.slice (some ⟨bo, 0, none⟩) n n), (139, Value.int .i64 (m.1 : Int))] rfl ⟨rfl, rfl, trivial⟩ rfl ?_
              exact run_val (Value.pointer (some ⟨bo, m.1, none⟩)) (x_indexAddrL (i := m.1) (sz := 1) (by omega) rfl rfl rfl rfl (by omega)) ⟨fun c h => Option.some.inj (Option.some.inj h), hM_⟩
            · intro D V w_ hd hi hM_
              refine goal_of [(140, Value.pointer (some ⟨bo, m.1, none⟩))] rfl ⟨rfl, trivial⟩ rfl ?_
              exact run_val (Value.int .i64 (f m.1 : Int)) (x_load (hM_.cell 1 rfl (rowC_get (by omega))) rfl rfl) ⟨fun c h => Option.some.inj (Option.some.inj h), hM_⟩
            · intro D V w_ hd hi hM_
              refine goal_of [(8, Value.slice (some ⟨bo, 0, none⟩) n n)] rfl ⟨rfl, trivial⟩ rfl ?_
              exact run_val (Value.slice (some ⟨bo, 0, none⟩) n n) (rfl) ⟨fun c h => Option.some.inj (Option.some.inj h), hM_⟩
            · intro D V w_ hd hi hM_
              refine goal_of [(20, Value.pointer (some ⟨b60, 0, none⟩))] rfl ⟨rfl, trivial⟩ rfl ?_
              exact run_val (Value.pointer (some ⟨b60, 1, none⟩)) (x_indexAddrB (i := 1) (sz := 1) (by omega) rfl rfl rfl rfl (by omega)) ⟨fun c h => Option.some.inj (Option.some.inj h), hM_⟩
            · intro D V w_ hd hi hM_
              refine goal_of [(143, Value.pointer (some ⟨b60, 1, none⟩))] rfl ⟨rfl, trivial⟩ rfl ?_
              exact run_val (Value.int .i64 (m.2 : Int)) (x_load (hM_.cell 0 rfl rfl) rfl rfl) ⟨fun c h => Option.some.inj (Option.some.inj h), hM_⟩
            · intro D V w_ hd hi hM_
              refine goal_of [(142, Value.slice (some ⟨bo, 0, none⟩) n n), (144, Value.int .i64 (m.2 : Int))] rfl ⟨rfl, rfl, trivial⟩ rfl ?_
              exact run_val (Value.pointer (some ⟨bo, m.2, none⟩)) (x_indexAddrL (i := m.2) (sz := 1) (by omega) rfl rfl rfl rfl (by omega)) ⟨fun c h => Option.some.inj (Option.some.inj h), hM_⟩
            · intro D V w_ hd hi hM_
              refine goal_of [(145, Value.pointer (some ⟨bo, m.2, none⟩))] rfl ⟨rfl, trivial⟩ rfl ?_
              exact run_val (Value.int .i64 (f m.2 : Int)) (x_load (hM_.cell 1 rfl (rowC_get (by omega))) rfl rfl) ⟨fun c h => Option.some.inj (Option.some.inj h), hM_⟩
            · intro D V w_ hd hi hM_
              refine goal_of [(141, Value.int .i64 (f m.1 : Int))] rfl ⟨rfl, trivial⟩ rfl ?_
              exact run_val (Value.int .i64 (f m.1 : Int)) (rfl) ⟨fun c h => Option.some.inj (Option.some.inj h), hM_⟩
            · intro D V w_ hd hi hM_
              refine goal_of [(146, Value.int .i64 (f m.2 : Int))] rfl ⟨rfl, trivial⟩ rfl ?_
              exact run_val (Value.int .i64 (f m.2 : Int)) (rfl) ⟨fun c h => Option.some.inj (Option.some.inj h), hM_⟩
          intro D V w63 hall hM64
          refine ends_sub [(6, Value.pointer (some ⟨b3, 0, none⟩)), (7, Value.pointer (some ⟨bt, 0, none⟩)), (8, Value.slice (some ⟨bo, 0, none⟩) n n), (21, Value.int .i64 (f m.1 : Int)), (22, Value.int .i64 (f m.2 : Int)), (131, Value.slice A2 nn cn), (132, Value.int .i64 (nn : Int)), (133, Value.int .i64 (k : Int))] ⟨rfl, rfl, rfl, rfl, rfl, rfl, rfl, rfl, trivial⟩ ?_
          refine e_then ?_
          refine k_drawL mixed [0, 1, 0, 7, 15, 0, 0, 64, 0, 448, 960, 0, 2047, 6143, 16383, 32767] [some (Value.pointer (some ⟨bt, 1, none⟩)), some (Value.slice (some ⟨ba, 0, none⟩) n n), some (Value.int .i64 (f m.1 : Int)), some (Value.pointer (some ⟨ba, (f m.1), none⟩)), some (Value.slice (some ⟨ra (f m.1), 0, none⟩) n n), some (Value.int .i64 (f m.2 : Int)), some (Value.pointer (some ⟨bt, 1, none⟩)), some (Value.slice (some ⟨ba, 0, none⟩) n n), some (Value.int .i64 (f m.2 : Int)), some (Value.pointer (some ⟨ba, (f m.2), none⟩)), some (Value.slice (some ⟨ra (f m.2), 0, none⟩) n n), some (Value.int .i64 (f m.1 : Int)), some (Value.pointer (some ⟨ra (f m.1), (f m.2), none⟩)), some (undef), some (Value.pointer (some ⟨ra (f m.2), (f m.1), none⟩)), some (undef)] (by kernel_rfl) 15 rfl (by kernel_rfl) (fun D V w_ => Mem w No w_ (([(b60, .cells (#[Value.int .i64 (m.1 : Int), Value.int .i64 (m.2 : Int)]) 36 (0, 0)), (bo, .cells (rowC n (Value.int .i64) (fun p => (f p : Int))) tInt (0, 0)), (bg, .cells (topC n n rg) tInts (0, 0)), (ba, .cells (topC n n ra) tBools (0, 0)), (bt, .cells #[Value.slice (some ⟨bg, 0, none⟩) n n, Value.slice (some ⟨ba, 0, none⟩) n n] 94 (0, 0)), (b3, .cells #[Value.slice none 0 0, Value.slice none 0 0] 94 (0, 0))] : Hp) ++ (tabL tInt (.int .i64) n n rg g ++ tabL tBool .bool n n ra (condU (D 13) (f m.1) (f m.2) true a)))) (fun V w_ => Mem w No w_ ((b60, .cells (#[Value.int .i64 (m.1 : Int), Value.int .i64 (m.2 : Int)]) 36 (0, 0)) :: (bo, .cells (rowC n (Value.int .i64) (fun p => (f p : Int))) tInt (0, 0)) :: (bg, .cells (topC n n rg) tInts (0, 0)) :: (ba, .cells (topC n n ra) tBools (0, 0)) :: (bt, .cells #[Value.slice (some ⟨bg, 0, none⟩) n n, Value.slice (some ⟨ba, 0, none⟩) n n] 94 (0, 0)) :: (b3, .cells #[Value.slice none 0 0, Value.slice none 0 0] 94 (0, 0)) :: (tabL tInt (.int .i64) n n rg g ++ tabL tBool .bool n n ra (upd2 (upd2 a (f m.1) (f m.2) true) (f m.2) (f m.1) true)))) (fun V => hM64.drew) ?_ ?_
          · refine ⟨?_, ?_, ?_, ?_, ?_, ?_, ?_, ?_, ?_, ?_, ?_, ?_, ?_, ?_, ?_, ?_, trivial⟩
            · intro D V w_ hd hi hM_
              refine goal_of [(7, Value.pointer (some ⟨bt, 0, none⟩))] rfl ⟨rfl, trivial⟩ rfl ?_
              exact run_val (Value.pointer (some ⟨bt, 1, none⟩)) (rfl) ⟨fun c h => Option.some.inj (Option.some.inj h), hM_⟩
            · intro D V w_ hd hi hM_
              refine goal_of [(147, Value.pointer (some ⟨bt, 1, none⟩))] rfl ⟨rfl, trivial⟩ rfl ?_
              exact run_val (Value.slice (some ⟨ba, 0, none⟩) n n) (x_load (hM_.cell 4 rfl rfl) rfl rfl) ⟨fun c h => Option.some.inj (Option.some.inj h), hM_⟩
            · intro D V w_ hd hi hM_
              refine goal_of [(21, Value.int .i64 (f m.1 : Int))] rfl ⟨rfl, trivial⟩ rfl ?_
              exact run_val (Value.int .i64 (f m.1 : Int)) (rfl) ⟨fun c h => Option.some.inj (Option.some.inj h), hM_⟩
            · intro D V w_ hd hi hM_
              refine goal_of [(148, Value.slice (some ⟨ba, 0, none⟩) n n), (149, Value.int .i64 (f m.1 : Int))] rfl ⟨rfl, rfl, trivial⟩ rfl ?_
              exact run_val (Value.pointer (some ⟨ba, (f m.1), none⟩)) (x_indexAddrL (i := f m.1) (sz := 1) (by omega) rfl rfl rfl rfl (by omega)) ⟨fun c h => Option.some.inj (Option.some.inj h), hM_⟩
            · intro D V w_ hd hi hM_
              refine goal_of [(150, Value.pointer (some ⟨ba, (f m.1), none⟩))] rfl ⟨rfl, trivial⟩ rfl ?_
              exact run_val (Value.slice (some ⟨ra (f m.1), 0, none⟩) n n) (x_load (hM_.cell 3 rfl (topC_get (by omega) (by omega))) rfl rfl) ⟨fun c h => Option.some.inj (Option.some.inj h), hM_⟩
            · intro D V w_ hd hi hM_
              refine goal_of [(22, Value.int .i64 (f m.2 : Int))] rfl ⟨rfl, trivial⟩ rfl ?_
              exact run_val (Value.int .i64 (f m.2 : Int)) (rfl) ⟨fun c h => Option.some.inj (Option.some.inj h), hM_⟩
            · intro D V w_ hd hi hM_
              refine goal_of [(7, Value.pointer (some ⟨bt, 0, none⟩))] rfl ⟨rfl, trivial⟩ rfl ?_
              exact run_val (Value.pointer (some ⟨bt, 1, none⟩)) (rfl) ⟨fun c h => Option.some.inj (Option.some.inj h), hM_⟩
            · intro D V w_ hd hi hM_
              refine goal_of [(153, Value.pointer (some ⟨bt, 1, none⟩))] rfl ⟨rfl, trivial⟩ rfl ?_
              exact run_val (Value.slice (some ⟨ba, 0, none⟩) n n) (x_load (hM_.cell 4 rfl rfl) rfl rfl) ⟨fun c h => Option.some.inj (Option.some.inj h), hM_⟩
            · intro D V w_ hd hi hM_
              refine goal_of [(22, Value.int .i64 (f m.2 : Int))] rfl ⟨rfl, trivial⟩ rfl ?_
              exact run_val (Value.int .i64 (f m.2 : Int)) (rfl) ⟨fun c h => Option.some.inj (Option.some.inj h), hM_⟩
            · intro D V w_ hd hi hM_
              refine goal_of [(154, Value.slice (some ⟨ba, 0, none⟩) n n), (155, Value.int .i64 (f m.2 : Int))] rfl ⟨rfl, rfl, trivial⟩ rfl ?_
              exact run_val (Value.pointer (some ⟨ba, (f m.2), none⟩)) (x_indexAddrL (i := f m.2) (sz := 1) (by omega) rfl rfl rfl rfl (by omega)) ⟨fun c h => Option.some.inj (Option.some.inj h), hM_⟩
            · intro D V w_ hd hi hM_
              refine goal_of [(156, Value.pointer (some ⟨ba, (f m.2), none⟩))] rfl ⟨rfl, trivial⟩ rfl ?_
              exact run_val (Value.slice (some ⟨ra (f m.2), 0, none⟩) n n) (x_load (hM_.cell 3 rfl (topC_get (by omega) (by omega))) rfl rfl) ⟨fun c h => Option.some.inj (Option.some.inj h), hM_⟩
            · intro D V w_ hd hi hM_
              refine goal_of [(21, Value.int .i64 (f m.1 : Int))] rfl ⟨rfl, trivial⟩ rfl ?_
              exact run_val (Value.int .i64 (f m.1 : Int)) (rfl) ⟨fun c h => Option.some.inj (Option.some.inj h), hM_⟩
            · intro D V w_ hd hi hM_
              refine goal_of [(151, Value.slice (some ⟨ra (f m.1), 0, none⟩) n n), (152, Value.int .i64 (f m.2 : Int))] rfl ⟨rfl, rfl, trivial⟩ rfl ?_
              exact run_val (Value.pointer (some ⟨ra (f m.1), (f m.2), none⟩)) (x_indexAddrL (i := f m.2) (sz := 1) (by omega) rfl rfl rfl rfl (by omega)) ⟨fun c h => Option.some.inj (Option.some.inj h), hM_⟩
            · intro D V w_ hd hi hM_
              refine goal_of [(159, Value.pointer (some ⟨ra (f m.1), (f m.2), none⟩))] rfl ⟨rfl, trivial⟩ rfl ?_
              rw [show D 13 = false from hi] at hM_
              exact o_storeT2 ([(b60, .cells (#[Value.int .i64 (m.1 : Int), Value.int .i64 (m.2 : Int)]) 36 (0, 0)), (bo, .cells (rowC n (Value.int .i64) (fun p => (f p : Int))) tInt (0, 0)), (bg, .cells (topC n n rg) tInts (0, 0)), (ba, .cells (topC n n ra) tBools (0, 0)), (bt, .cells #[Value.slice (some ⟨bg, 0, none⟩) n n, Value.slice (some ⟨ba, 0, none⟩) n n] 94 (0, 0)), (b3, .cells #[Value.slice none 0 0, Value.slice none 0 0] 94 (0, 0))] : Hp) hM_ hf1 hf2 rfl rfl rfl rfl (fun w' h => ⟨fun c h => Option.some.inj (Option.some.inj h), h⟩)
            · intro D V w_ hd hi hM_
              refine goal_of [(157, Value.slice (some ⟨ra (f m.2), 0, none⟩) n n), (158, Value.int .i64 (f m.1 : Int))] rfl ⟨rfl, rfl, trivial⟩ rfl ?_
              exact run_val (Value.pointer (some ⟨ra (f m.2), (f m.1), none⟩)) (x_indexAddrL (i := f m.1) (sz := 1) (by omega) rfl rfl rfl rfl (by omega)) ⟨fun c h => Option.some.inj (Option.some.inj h), hM_⟩
            · intro D V w_ hd hi hM_
              refine goal_of [(160, Value.pointer (some ⟨ra (f m.2), (f m.1), none⟩))] rfl ⟨rfl, trivial⟩ rfl ?_
              rw [hd 13 rfl] at hM_
              exact o_storeT2 ([(b60, .cells (#[Value.int .i64 (m.1 : Int), Value.int .i64 (m.2 : Int)]) 36 (0, 0)), (bo, .cells (rowC n (Value.int .i64) (fun p => (f p : Int))) tInt (0, 0)), (bg, .cells (topC n n rg) tInts (0, 0)), (ba, .cells (topC n n ra) tBools (0, 0)), (bt, .cells #[Value.slice (some ⟨bg, 0, none⟩) n n, Value.slice (some ⟨ba, 0, none⟩) n n] 94 (0, 0)), (b3, .cells #[Value.slice none 0 0, Value.slice none 0 0] 94 (0, 0))] : Hp) hM_ hf2 hf1 rfl rfl rfl rfl (fun w' h => ⟨fun c h => Option.some.inj (Option.some.inj h), h⟩)
          intro V w69 hM70
          refine ends_sub [(6, Value.pointer (some ⟨b3, 0, none⟩)), (7, Value.pointer (some ⟨bt, 0, none⟩)), (8, Value.slice (some ⟨bo, 0, none⟩) n n), (131, Value.slice A2 nn cn), (132, Value.int .i64 (nn : Int)), (133, Value.int .i64 (k : Int))] ⟨rfl, rfl, rfl, rfl, rfl, rfl, trivial⟩ ?_
          refine e_blk ?_
          refine e_then ?_
          refine k_region ?_
          refine r_val (v := Value.int .i64 ((k : Int) + 1)) (w' := w69) rfl rfl (x_addE rfl (by omega) (by omega) rfl rfl) ?_
          refine r_val (v := Value.int .i64 ((k : Int) + 1)) (w' := w69) rfl rfl (rfl) ?_
          refine r_nil ?_
          refine ends_sub [(6, Value.pointer (some ⟨b3, 0, none⟩)), (7, Value.pointer (some ⟨bt, 0, none⟩)), (8, Value.slice (some ⟨bo, 0, none⟩) n n), (131, Value.slice A2 nn cn), (132, Value.int .i64 (nn : Int)), (133, Value.int .i64 ((k : Int) + 1))] ⟨rfl, rfl, rfl, rfl, rfl, rfl, trivial⟩ ?_
          refine e_loop (k + 1, (upd2 (upd2 a (f m.1) (f m.2) true) (f m.2) (f m.1) true)) ⟨rfl, rfl, rfl, rfl, rfl, rfl, trivial⟩ ?_ ?_
          · exact ⟨(hM70.pickT [(b60, .cells (#[Value.int .i64 (m.1 : Int), Value.int .i64 (m.2 : Int)]) 36 (0, 0)), (bo, .cells (rowC n (Value.int .i64) (fun p => (f p : Int))) tInt (0, 0)), (bg, .cells (topC n n rg) tInts (0, 0)), (ba, .cells (topC n n ra) tBools (0, 0)), (bt, .cells #[Value.slice (some ⟨bg, 0, none⟩) n n, Value.slice (some ⟨ba, 0, none⟩) n n] 94 (0, 0)), (b3, .cells #[Value.slice none 0 0, Value.slice none 0 0] 94 (0, 0))] (tabL tInt (.int .i64) n n rg g ++ tabL tBool .bool n n ra (upd2 (upd2 a (f m.1) (f m.2) true) (f m.2) (f m.1) true)) rfl [1, 2, 3, 4, 5] _ (by decide) rfl), by omega, apart_step hmk ha⟩
          · (try dsimp only); omega
        · try simp only [decide_eq_true_eq, decide_eq_false_iff_not, Bool.and_eq_true, Bool.or_eq_true, Bool.or_eq_false_iff, Bool.not_eq_true', Bool.not_eq_false', beq_iff_eq, bne_iff_ne, beq_eq_false_iff_ne, bne_eq_false_iff_eq, Int.not_lt, Int.not_le, ne_eq, Bool.not_eq_true, Bool.not_eq_false] at h3
          refine k_exit ?_
          refine e_then_exit ?_
          refine e_loop_exit ?_
          refine e_blk_exit ?_
          refine e_then ?_
          refine k_seq ?_
          refine k_region ?_
          have hkn : ns.take k = ns := List.take_of_length_le (by omega)
          rw [hkn] at ha
          refine r_val (v := Value.agg (#[Value.slice (some ⟨bg, 0, none⟩) n n, Value.slice (some ⟨ba, 0, none⟩) n n])) (w' := w56) rfl rfl (x_loadPart hM57 3 rfl (o := 0) (l := [Value.slice (some ⟨bg, 0, none⟩) n n, Value.slice (some ⟨ba, 0, none⟩) n n]) rfl rfl rfl rfl) ?_
          refine r_storeRow (vs := (#[Value.slice (some ⟨bg, 0, none⟩) n n, Value.slice (some ⟨ba, 0, none⟩) n n])) hM57 4 rfl (by rw [show (#[Value.slice (some ⟨bg, 0, none⟩) n n, Value.slice (some ⟨ba, 0, none⟩) n n]).size = 2 from (by simp [ints_size, *])]; rfl) (by first | (simp [Value.oneCell']; done) | (simp only [List.mem_cons, List.not_mem_nil, or_false, forall_eq_or_imp, forall_eq]; (repeat' constructor) <;> first | assumption | rfl)) (by rw [show (#[Value.slice (some ⟨bg, 0, none⟩) n n, Value.slice (some ⟨ba, 0, none⟩) n n]).size = 2 from (by simp [ints_size, *])]; rfl) rfl rfl rfl ?_
          intro w71 hM72
          replace hM72 : Mem w No w71 ((bo, .cells (rowC n (Value.int .i64) (fun p => (f p : Int))) tInt (0, 0)) :: (bg, .cells (topC n n rg) tInts (0, 0)) :: (ba, .cells (topC n n ra) tBools (0, 0)) :: (bt, .cells #[Value.slice (some ⟨bg, 0, none⟩) n n, Value.slice (some ⟨ba, 0, none⟩) n n] 94 (0, 0)) :: (b3, .cells (#[Value.slice (some ⟨bg, 0, none⟩) n n, Value.slice (some ⟨ba, 0, none⟩) n n]) 94 (0, 0)) :: (tabL tInt (.int .i64) n n rg g ++ tabL tBool .bool n n ra a)) := hM72
          refine r_nil ?_
          refine ends_sub [(6, Value.pointer (some ⟨b3, 0, none⟩))] ⟨rfl, trivial⟩ ?_
          refine e_then ?_
          refine k_ret ?_
          refine e_retC rfl rfl (run_loadVarRow hM72 4 rfl rfl rfl) ?_
          exact ⟨_, rfl, bg, ba, rg, ra, g, a, rfl, ⟨gap_all hg, ha⟩, hM72.pickT ([(bo, .cells (rowC n (Value.int .i64) (fun p => (f p : Int))) tInt (0, 0)), (bg, .cells (topC n n rg) tInts (0, 0)), (ba, .cells (topC n n ra) tBools (0, 0)), (bt, .cells #[Value.slice (some ⟨bg, 0, none⟩) n n, Value.slice (some ⟨ba, 0, none⟩) n n] 94 (0, 0)), (b3, .cells (#[Value.slice (some ⟨bg, 0, none⟩) n n, Value.slice (some ⟨ba, 0, none⟩) n n]) 94 (0, 0))] : Hp) (tabL tInt (.int .i64) n n rg g ++ tabL tBool .bool n n ra a) rfl [1, 2] _ (by decide) rfl⟩
  · obtain ⟨q, hq, rfl⟩ := ent_mem he_
    replace hM23 : Mem w No w22 [(bi, .mapIter (some bm) ck (seen.push q.born) ck), (bo, .cells (rowC n (Value.int .i64) o) tInt (0, 0)), (bg, .cells (topC 0 n z0) tInts (0, 0)), (ba, .cells (topC 0 n z0) tBools (0, 0)), (bt, .cells #[Value.slice (some ⟨bg, 0, none⟩) n n, Value.slice (some ⟨ba, 0, none⟩) n n] 94 (0, 0)), (b3, .cells #[Value.slice none 0 0, Value.slice none 0 0] 94 (0, 0))] := hM23
    obtain ⟨A, c, hv, hnc, hcm, _⟩ := (hG.row q hq).slice
    have hrd : RdE intE 1 w A q.xs.length q.xs := (hv ▸ hG.row q hq).rdI (GL_row hL hq)
    obtain ⟨p0, hp0, hfp0, hkey, hxs⟩ := hF.xs hq
    have hql := hF.short hn q hq
    refine r_val (v := Value.bool true) (w' := w22) rfl rfl (rfl) ?_
    refine r_nil ?_
    refine ends_sub [(0, Value.slice Al n cl), (2, Value.slice A2 nn cn), (6, Value.pointer (some ⟨b3, 0, none⟩)), (7, Value.pointer (some ⟨bt, 0, none⟩)), (8, Value.slice (some ⟨bo, 0, none⟩) n n), (34, Value.pointer (some ⟨bi, 0, none⟩)), (36, Value.bool true)] ⟨rfl, rfl, rfl, rfl, rfl, rfl, rfl, trivial⟩ ?_
    refine e_then ?_
    refine k_seq ?_
    refine k_cond_true rfl rfl ?_
    refine k_skip ?_
    refine e_then ?_
    refine k_block ?_
    refine k_seq ?_
    refine k_region ?_
    refine r_val (v := Value.tuple #[Value.int .i64 q.key, Value.slice A q.xs.length c]) (w' := w22) rfl rfl (by rw [← hv]; exact x_entry (hM23.get 0 rfl) (hbm hM23) he_ (ents_bnd hG) rfl) ?_
    refine r_val (v := Value.int .i64 q.key) (w' := w22) rfl rfl (rfl) ?_
    refine r_val (v := Value.slice A q.xs.length c) (w' := w22) rfl rfl (rfl) ?_
    refine r_val (v := Value.int .i64 q.key) (w' := w22) rfl rfl (rfl) ?_
    refine r_val (v := Value.slice A q.xs.length c) (w' := w22) rfl rfl (rfl) ?_
    refine r_nil ?_
    refine ends_sub [(0, Value.slice Al n cl), (2, Value.slice A2 nn cn), (6, Value.pointer (some ⟨b3, 0, none⟩)), (7, Value.pointer (some ⟨bt, 0, none⟩)), (8, Value.slice (some ⟨bo, 0, none⟩) n n), (9, Value.int .i64 q.key), (10, Value.slice A q.xs.length c), (34, Value.pointer (some ⟨bi, 0, none⟩))] ⟨rfl, rfl, rfl, rfl, rfl, rfl, rfl, rfl, trivial⟩ ?_
    refine e_then ?_
    refine k_seq ?_
    refine k_region ?_
    refine r_val (v := Value.slice A q.xs.length c) (w' := w22) rfl rfl (rfl) ?_
    refine r_val (v := Value.int .i64 (q.xs.length : Int)) (w' := w22) rfl rfl (x_len rfl rfl) ?_
    refine r_val (v := Value.int .i64 0) (w' := w22) rfl rfl (rfl) ?_
    refine r_nil ?_
    refine ends_sub [(0, Value.slice Al n cl), (2, Value.slice A2 nn cn), (6, Value.pointer (some ⟨b3, 0, none⟩)), (7, Value.pointer (some ⟨bt, 0, none⟩)), (8, Value.slice (some ⟨bo, 0, none⟩) n n), (9, Value.int .i64 q.key), (34, Value.pointer (some ⟨bi, 0, none⟩)), (40, Value.slice A q.xs.length c), (41, Value.int .i64 (q.xs.length : Int)), (42, Value.int .i64 0)] ⟨rfl, rfl, rfl, rfl, rfl, rfl, rfl, rfl, rfl, rfl, trivial⟩ ?_
    refine e_then ?_
    refine k_block ?_
    refine k_loop (σ := Nat × (Nat → Int)) (fun ⟨k, o⟩ => [(0, Value.slice Al n cl), (2, Value.slice A2 nn cn), (6, Value.pointer (some ⟨b3, 0, none⟩)), (7, Value.pointer (some ⟨bt, 0, none⟩)), (8, Value.slice (some ⟨bo, 0, none⟩) n n), (9, Value.int .i64 q.key), (34, Value.pointer (some ⟨bi, 0, none⟩)), (40, Value.slice A q.xs.length c), (41, Value.int .i64 (q.xs.length : Int)), (42, Value.int .i64 (k : Int))]) (fun ⟨k, o⟩ w_ => Mem w No w_ [(bi, .mapIter (some bm) ck (seen.push q.born) ck), (bo, .cells (rowC n (Value.int .i64) o) tInt (0, 0)), (bg, .cells (topC 0 n z0) tInts (0, 0)), (ba, .cells (topC 0 n z0) tBools (0, 0)), (bt, .cells #[Value.slice (some ⟨bg, 0, none⟩) n n, Value.slice (some ⟨ba, 0, none⟩) n n] 94 (0, 0)), (b3, .cells #[Value.slice none 0 0, Value.slice none 0 0] 94 (0, 0))] ∧ k ≤ q.xs.length ∧ ofRow n gs seen q k o) (fun ⟨k, o⟩ => q.xs.length - k) (0, o) ⟨rfl, rfl, rfl, rfl, rfl, rfl, rfl, rfl, rfl, rfl, trivial⟩ ⟨hM23, Nat.zero_le _, row_start hof⟩ ?_
    rintro ⟨k, o⟩ w73 ⟨hM74, hk, hor⟩
    refine wpK_sub [(0, Value.slice Al n cl), (2, Value.slice A2 nn cn), (6, Value.pointer (some ⟨b3, 0, none⟩)), (7, Value.pointer (some ⟨bt, 0, none⟩)), (8, Value.slice (some ⟨bo, 0, none⟩) n n), (9, Value.int .i64 q.key), (34, Value.pointer (some ⟨bi, 0, none⟩)), (40, Value.slice A q.xs.length c), (41, Value.int .i64 (q.xs.length : Int)), (42, Value.int .i64 (k : Int))] ⟨rfl, rfl, rfl, rfl, rfl, rfl, rfl, rfl, rfl, rfl, trivial⟩ ?_
    refine k_seq ?_
    refine k_region ?_
    refine r_val (v := Value.bool (decide ((k : Int) < (q.xs.length : Int)))) (w' := w73) rfl rfl (rfl) ?_
    refine r_nil ?_
    refine ends_sub [(0, Value.slice Al n cl), (2, Value.slice A2 nn cn), (6, Value.pointer (some ⟨b3, 0, none⟩)), (7, Value.pointer (some ⟨bt, 0, none⟩)), (8, Value.slice (some ⟨bo, 0, none⟩) n n), (9, Value.int .i64 q.key), (34, Value.pointer (some ⟨bi, 0, none⟩)), (40, Value.slice A q.xs.length c), (41, Value.int .i64 (q.xs.length : Int)), (42, Value.int .i64 (k : Int)), (43, Value.bool (decide ((k : Int) < (q.xs.length : Int))))] ⟨rfl, rfl, rfl, rfl, rfl, rfl, rfl, rfl, rfl, rfl, rfl, trivial⟩ ?_
    refine e_then ?_
    refine k_seq ?_
    refine k_cond rfl rfl (fun h => ?_) (fun h => ?_)
    · try simp only [decide_eq_true_eq, decide_eq_false_iff_not, Bool.and_eq_true, Bool.or_eq_true, Bool.or_eq_false_iff, Bool.not_eq_true', Bool.not_eq_false', beq_iff_eq, bne_iff_ne, beq_eq_false_iff_ne, bne_eq_false_iff_eq, Int.not_lt, Int.not_le, ne_eq, Bool.not_eq_true, Bool.not_eq_false] at h
      refine k_skip ?_
      refine e_then ?_
      refine k_seq ?_
      refine k_block ?_
      refine k_seq ?_
      refine k_region ?_
      have hrl := hrd.len
      obtain ⟨y, hy⟩ : ∃ y, q.xs[k]? = some y := ⟨q.xs[k]'(by omega), by simp⟩
      obtain ⟨p, hpn, rfl⟩ : ∃ p : Nat, p < n ∧ y = (p : Int) := by have h3 := List.mem_of_getElem? hy; rw [hxs] at h3; obtain ⟨p, hp, rfl⟩ := List.mem_map.1 h3; exact ⟨p, (mem_members.1 hp).1, rfl⟩
      refine r_val (v := Value.pointer (some ((adr A).add (k * 1)))) (w' := w73) rfl rfl (x_indexAddrN (i := k) (sz := 1) hrd.here (by omega) rfl rfl rfl rfl) ?_
      refine r_val (v := Value.int .i64 (p : Int)) (w' := w73) rfl rfl (x_loadEInt (hrd.up hM74) hy rfl rfl) ?_
      refine r_val (v := Value.int .i64 (p : Int)) (w' := w73) rfl rfl (rfl) ?_
      refine r_nil ?_
      refine ends_sub [(0, Value.slice Al n cl), (2, Value.slice A2 nn cn), (6, Value.pointer (some ⟨b3, 0, none⟩)), (7, Value.pointer (some ⟨bt, 0, none⟩)), (8, Value.slice (some ⟨bo, 0, none⟩) n n), (9, Value.int .i64 q.key), (12, Value.int .i64 (p : Int)), (34, Value.pointer (some ⟨bi, 0, none⟩)), (40, Value.slice A q.xs.length c), (41, Value.int .i64 (q.xs.length : Int)), (42, Value.int .i64 (k : Int))] ⟨rfl, rfl, rfl, rfl, rfl, rfl, rfl, rfl, rfl, rfl, rfl, trivial⟩ ?_
      refine e_then ?_
      refine k_region ?_
      refine r_val (v := Value.slice (some ⟨bo, 0, none⟩) n n) (w' := w73) rfl rfl (rfl) ?_
      refine r_val (v := Value.int .i64 (p : Int)) (w' := w73) rfl rfl (rfl) ?_
      refine r_val (v := Value.int .i64 q.key) (w' := w73) rfl rfl (rfl) ?_
      refine r_val (v := Value.pointer (some ⟨bo, p, none⟩)) (w' := w73) rfl rfl (x_indexAddrL (i := p) (sz := 1) (by omega) rfl rfl rfl rfl (by omega)) ?_
      refine r_store (v := Value.int .i64 q.key) hM74 1 rfl (by rw [rowC_size]; omega) (by first | rfl | assumption) rfl rfl rfl rfl ?_
      intro w75 hM76
      replace hM76 : Mem w No w75 [(bi, .mapIter (some bm) ck (seen.push q.born) ck), (bo, .cells ((rowC n (Value.int .i64) o).setIfInBounds p (Value.int .i64 q.key)) tInt (0, 0)), (bg, .cells (topC 0 n z0) tInts (0, 0)), (ba, .cells (topC 0 n z0) tBools (0, 0)), (bt, .cells #[Value.slice (some ⟨bg, 0, none⟩) n n, Value.slice (some ⟨ba, 0, none⟩) n n] 94 (0, 0)), (b3, .cells #[Value.slice none 0 0, Value.slice none 0 0] 94 (0, 0))] := hM76
      refine r_nil ?_
      refine ends_sub [(0, Value.slice Al n cl), (2, Value.slice A2 nn cn), (6, Value.pointer (some ⟨b3, 0, none⟩)), (7, Value.pointer (some ⟨bt, 0, none⟩)), (8, Value.slice (some ⟨bo, 0, none⟩) n n), (9, Value.int .i64 q.key), (34, Value.pointer (some ⟨bi, 0, none⟩)), (40, Value.slice A q.xs.length c), (41, Value.int .i64 (q.xs.length : Int)), (42, Value.int .i64 (k : Int))] ⟨rfl, rfl, rfl, rfl, rfl, rfl, rfl, rfl, rfl, rfl, trivial⟩ ?_
      refine e_blk ?_
      refine e_then ?_
      refine k_region ?_
      rw [rowO_set hpn] at hM76
      have hM77 : Mem w No w75 [(bi, .mapIter (some bm) ck (seen.push q.born) ck), (bo, .cells (rowC n (Value.int .i64) (setO o p q.key)) tInt (0, 0)), (bg, .cells (topC 0 n z0) tInts (0, 0)), (ba, .cells (topC 0 n z0) tBools (0, 0)), (bt, .cells #[Value.slice (some ⟨bg, 0, none⟩) n n, Value.slice (some ⟨ba, 0, none⟩) n n] 94 (0, 0)), (b3, .cells #[Value.slice none 0 0, Value.slice none 0 0] 94 (0, 0))] := hM76
      refine r_val (v := Value.int .i64 ((k : Int) + 1)) (w' := w75) rfl rfl (x_addE rfl (by omega) (by omega) rfl rfl) ?_
      refine r_val (v := Value.int .i64 ((k : Int) + 1)) (w' := w75) rfl rfl (rfl) ?_
      refine r_nil ?_
      refine ends_sub [(0, Value.slice Al n cl), (2, Value.slice A2 nn cn), (6, Value.pointer (some ⟨b3, 0, none⟩)), (7, Value.pointer (some ⟨bt, 0, none⟩)), (8, Value.slice (some ⟨bo, 0, none⟩) n n), (9, Value.int .i64 q.key), (34, Value.pointer (some ⟨bi, 0, none⟩)), (40, Value.slice A q.xs.length c), (41, Value.int .i64 (q.xs.length : Int)), (42, Value.int .i64 ((k : Int) + 1))] ⟨rfl, rfl, rfl, rfl, rfl, rfl, rfl, rfl, rfl, rfl, trivial⟩ ?_
      refine e_loop (k + 1, setO o p q.key) ⟨rfl, rfl, rfl, rfl, rfl, rfl, rfl, rfl, rfl, rfl, trivial⟩ ?_ ?_
      · exact ⟨hM77, by omega, row_step hF (seen_ne hG hq hns) hq hy hor⟩
      · (try dsimp only); omega
    · try simp only [decide_eq_true_eq, decide_eq_false_iff_not, Bool.and_eq_true, Bool.or_eq_true, Bool.or_eq_false_iff, Bool.not_eq_true', Bool.not_eq_false', beq_iff_eq, bne_iff_ne, beq_eq_false_iff_ne, bne_eq_false_iff_eq, Int.not_lt, Int.not_le, ne_eq, Bool.not_eq_true, Bool.not_eq_false] at h
      refine k_exit ?_
      refine e_then_exit ?_
      refine e_loop_exit ?_
      refine e_blk_exit ?_
      refine e_blk ?_
      refine e_loop (seen.push q.born, o) ⟨rfl, rfl, rfl, rfl, rfl, rfl, trivial⟩ ?_ ?_
      · exact ⟨hM74, row_done (grp_inj hG) hq (by omega) hor⟩
      · exact todo_push hq hns


end Go.Proofs.Ytddacakmafdgdaa
