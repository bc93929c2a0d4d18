/- Parts of the proof, laid together: Fi, Gm, KnU, Gn, Fj, Gk, Go1, Fk, Ce, Fl, Gr. -/
import Derived.Test.YtddacakmafdgdaaJg3
section
/- Fi: what Go functions of this seat come to, printed by walk.py over the engine. -/
set_option linter.unusedVariables false
set_option linter.unusedSimpArgs false
set_option maxRecDepth 100000
namespace Go.Proofs.Ytddacakmafdgdaa
open Go.RowKit Go.Kn

theorem newTable_s (Al A2 : Option Addr) (bm n cl nn cn ck : Nat) (l : List (List Int)) (gs : List Grp) (f : Nat → Nat) (ns : List (Nat × Nat)) (w : World) (hl : RdE intsE 14 w Al n l) (hgd : Kn.Good l) (hG : GMp tInt gs ck) (hF : IsG n f (view gs)) (hL : Kn.Holds w (GL bm gs ck)) (h2n : RdE pairE 2 w A2 nn ns) (hns : ∀ m ∈ ns, m.1 < n ∧ m.2 < n) (hn : n ≤ 300) (hnn : nn ≤ 1000) :
  Calls Try.prog 49 #[Value.slice Al n cl, Value.map (some bm), Value.slice A2 nn cn] w fun e w' => ∃ r, e = .returned r ∧ ∃ (tg ta : Nat) (rg ra : Nat → Nat) (g : Nat → Nat → Int) (a : Nat → Nat → Bool), r = .agg #[.slice (some ⟨tg, 0, none⟩) n n, .slice (some ⟨ta, 0, none⟩) n n] ∧ (GapIs l f (inN n) g ∧ ApartIs f ns a) ∧ Mem w No w' ((tg, .cells (topC n n rg) tInts (0, 0)) :: (ta, .cells (topC n n ra) tBools (0, 0)) :: (tabL tInt (.int .i64) n n rg g ++ tabL tBool .bool n n ra a)) := by
 refine calls_k (args := [Value.slice Al n cl, Value.map (some bm), Value.slice A2 nn cn]) 163 [(0, Value.slice Al n cl), (1, Value.map (some bm)), (2, Value.slice A2 nn cn)] Try.func49 rfl rfl ⟨rfl, rfl, rfl, trivial⟩ ?_
 have hM := Mem.nil w No
 have hll := hl.len
 have hnl := h2n.len
 obtain ⟨z0, hz0⟩ : ∃ z : Nat → Nat, z = fun _ => 0 := ⟨_, rfl⟩
 refine k_seq (k_region (r_alloc hM (z := Value.agg #[Value.slice none 0 0, Value.slice none 0 0]) rfl rfl ?_))
 intro b3 w1 hM2 hb3
 replace hM2 : Mem w No w1 [(b3, .cells #[Value.slice none 0 0, Value.slice none 0 0] 94 (0, 0))] := hM2
 refine r_nil (e_then (k_seq ?_))
 refine k_drawL mixed [0, 1, 3, 0, 8, 24, 63, 0, 255] [some (Value.slice Al n cl), some (Value.int .i64 (n : Int)), none, some (Value.slice Al n cl), some (Value.int .i64 (n : Int)), none, none, none, some (undef)] (by kernel_rfl) 8 rfl (by kernel_rfl) (fun D V w_ => ∃ bg ba bt : Nat, (D 2 = true → V 2 = .slice (some ⟨bg, 0, none⟩) n n) ∧ (D 5 = true → V 5 = .slice (some ⟨ba, 0, none⟩) n n) ∧ (D 6 = true → (D 2 = true ∧ D 5 = true) ∧ V 6 = .agg #[V 2, V 5]) ∧ (D 7 = true → V 7 = .pointer (some ⟨bt, 0, none⟩)) ∧ Mem w No w_ (cnd (D 2) (bg, .cells (topC 0 n z0) tInts (0, 0)) ++ (cnd (D 5) (ba, .cells (topC 0 n z0) tBools (0, 0)) ++ (cnd (D 7) (bt, .cells #[.slice none 0 0, .slice none 0 0] 94 (0, 0)) ++ [(b3, .cells #[.slice none 0 0, .slice none 0 0] 94 (0, 0))])))) (fun V w_ => ∃ bg ba bt : Nat, V 7 = .pointer (some ⟨bt, 0, none⟩) ∧ Mem w No w_ [(bg, .cells (topC 0 n z0) tInts (0, 0)), (ba, .cells (topC 0 n z0) tBools (0, 0)), (bt, .cells #[.slice (some ⟨bg, 0, none⟩) n n, .slice (some ⟨ba, 0, none⟩) n n] 94 (0, 0)), (b3, .cells #[.slice none 0 0, .slice none 0 0] 94 (0, 0))]) (fun V => ⟨0, 0, 0, fun h => Bool.noConfusion h, fun h => Bool.noConfusion h, fun h => Bool.noConfusion h, fun h => Bool.noConfusion h, hM2.drew⟩) ?_ ?_
 ·refine ⟨?_, ?_, ?_, ?_, ?_, ?_, ?_, ?_, ?_, trivial⟩
  ·intro D V w_ hd hi hM_
   refine sqG [(0, .slice Al n cl)] rfl rfl rfl ?_
   exact run_val (.slice Al n cl) (rfl) ⟨sqT, hM_⟩
  ·intro D V w_ hd hi hM_
   refine sqG [(23, .slice Al n cl)] rfl rfl rfl ?_
   exact run_val (.int .i64 (n : Int)) (x_len rfl rfl) ⟨sqT, hM_⟩
  ·intro D V w_ hd hi hM_
   refine sqG [(24, .int .i64 (n : Int))] rfl rfl rfl ?_
   obtain ⟨bg, ba, bt, h2, h5, h6, h7, hM9⟩ := hM_
   rw [show D 2 = false from hi] at hM9
   exact run_val _ (x_makeSlice (bytes := 24) (z := .slice none 0 0) rfl rfl (by kernel_rfl) (by kernel_rfl) rfl (by omega) (by omega)) ⟨untold rfl, w_.heap.size, ba, bt, fun _ => rfl, h5, fun h => absurd (h6 h).1.1 (by rw [show D 2 = false from hi]; decide), h7, hM9.alloc _⟩
  ·intro D V w_ hd hi hM_
   refine sqG [(0, .slice Al n cl)] rfl rfl rfl ?_
   exact run_val (.slice Al n cl) (rfl) ⟨sqT, hM_⟩
  ·intro D V w_ hd hi hM_
   refine sqG [(26, .slice Al n cl)] rfl rfl rfl ?_
   exact run_val (.int .i64 (n : Int)) (x_len rfl rfl) ⟨sqT, hM_⟩
  ·intro D V w_ hd hi hM_
   refine sqG [(27, .int .i64 (n : Int))] rfl rfl rfl ?_
   obtain ⟨bg, ba, bt, h2, h5, h6, h7, hM9⟩ := hM_
   rw [show D 5 = false from hi] at hM9
   exact run_val _ (x_makeSlice (bytes := 24) (z := .slice none 0 0) rfl rfl (by kernel_rfl) (by kernel_rfl) rfl (by omega) (by omega)) ⟨untold rfl, bg, w_.heap.size, bt, h2, fun _ => rfl, fun h => absurd (h6 h).1.2 (by rw [show D 5 = false from hi]; decide), h7, (hM9.alloc _).ins1⟩
  ·intro D V w_ hd hi hM_
   refine sqG [(25, V 2), (28, V 5)] rfl rfl rfl ?_
   obtain ⟨bg, ba, bt, h2, h5, h6, h7, hM9⟩ := hM_
   have e2 := h2 (hd 2 rfl)
   have e5 := h5 (hd 5 rfl)
   rw [e2, e5]
   exact run_val (.agg #[.slice (some ⟨bg, 0, none⟩) n n, .slice (some ⟨ba, 0, none⟩) n n]) (by kernel_rfl) ⟨untold rfl, bg, ba, bt, h2, h5, fun _ => ⟨⟨hd 2 rfl, hd 5 rfl⟩, by show _ = Value.agg #[V 2, V 5]; rw [e2, e5]; rfl⟩, h7, hM9⟩
  ·intro D V w_ hd hi hM_
   refine goal_of [] rfl trivial rfl ?_
   obtain ⟨bg, ba, bt, h2, h5, h6, h7, hM9⟩ := hM_
   rw [show D 7 = false from hi] at hM9
   exact run_val _ (x_alloc (z := .agg #[.slice none 0 0, .slice none 0 0]) rfl) ⟨untold rfl, bg, ba, w_.heap.size, h2, h5, h6, fun _ => rfl, (hM9.alloc _).ins2⟩
  ·intro D V w_ hd hi hM_
   refine sqG [(7, V 7), (29, V 6)] rfl rfl rfl ?_
   obtain ⟨bg, ba, bt, h2, h5, h6, h7, hM9⟩ := hM_
   have e2 := h2 (hd 2 rfl)
   have e5 := h5 (hd 5 rfl)
   have e7 := h7 (hd 7 rfl)
   have e6 := (h6 (hd 6 rfl)).2
   rw [e2, e5] at e6
   rw [e6, e7]
   rw [hd 2 rfl, hd 5 rfl, hd 7 rfl] at hM9
   obtain ⟨w9, hr9, hM8⟩ := x_storeRow (P := Try.prog) (ρ := St.ev [(7, .pointer (some ⟨bt, 0, none⟩)), (29, .agg #[.slice (some ⟨bg, 0, none⟩) n n, .slice (some ⟨ba, 0, none⟩) n n])]) (x := .tmp 7) (y := .tmp 29) (t := 94) hM9 2 rfl (vs := #[.slice (some ⟨bg, 0, none⟩) n n, .slice (some ⟨ba, 0, none⟩) n n]) rfl (by simp [Value.oneCell']) rfl rfl rfl
   exact run_skip hr9 ⟨sqT, bg, ba, bt, e7, hM8⟩
 intro V w14 hM15
 obtain ⟨bg, ba, bt, hV7, hM9⟩ := hM15
 refine ends_sub [(0, Value.slice Al n cl), (1, Value.map (some bm)), (2, Value.slice A2 nn cn), (6, Value.pointer (some ⟨b3, 0, none⟩)), (7, Value.pointer (some ⟨bt, 0, none⟩))] ⟨rfl, rfl, rfl, rfl, congrArg some hV7, trivial⟩ ?_
 refine e_then (k_seq (k_region (sqV (.slice Al n cl) rfl rfl rfl ?_)))
 refine sqV (.int .i64 (n : Int)) rfl rfl (x_len rfl rfl) ?_
 refine r_new (fun b => .slice (some ⟨b, 0, none⟩) n n) (.cells (rowC n (Value.int .i64) (fun _ => 0)) tInt (0, 0)) hM9 (x_makeSlice (bytes := 8) (z := .int .i64 0) rfl rfl (by kernel_rfl) (by kernel_rfl) rfl (by omega) (by omega)) rfl rfl ?_
 intro bo w16 hM17 hbo
 replace hM17 : Mem w No w16 [(bo, .cells (rowC n (Value.int .i64) (fun _ => 0)) tInt (0, 0)), (bg, .cells (topC 0 n z0) tInts (0, 0)), (ba, .cells (topC 0 n z0) tBools (0, 0)), (bt, .cells #[Value.slice (some ⟨bg, 0, none⟩) n n, Value.slice (some ⟨ba, 0, none⟩) n n] 94 (0, 0)), (b3, .cells #[Value.slice none 0 0, Value.slice none 0 0] 94 (0, 0))] := hM17
 have hbm : ∀ {W : World} {L : Hp}, Mem w No W L → W.heap[bm]? = some (mapO (gs.map Grp.ent) ck) := fun h => h.oldBlock (hL.at_ (bm, mapO (gs.map Grp.ent) ck) (by simp)) (fun h => h)
 refine sqV (.slice (some ⟨bo, 0, none⟩) n n) rfl rfl rfl ?_
 refine r_nil (e_then (k_seq (k_seq (k_region (sqV (.map (some bm)) rfl rfl rfl ?_)))))
 refine r_rangeH hM17 (hbm hM17) rfl rfl rfl ?_
 intro bi w18 hM19 hbi
 replace hM19 : Mem w No w18 [(bi, .mapIter (some bm) ck #[] ck), (bo, .cells (rowC n (Value.int .i64) (fun _ => 0)) tInt (0, 0)), (bg, .cells (topC 0 n z0) tInts (0, 0)), (ba, .cells (topC 0 n z0) tBools (0, 0)), (bt, .cells #[Value.slice (some ⟨bg, 0, none⟩) n n, Value.slice (some ⟨ba, 0, none⟩) n n] 94 (0, 0)), (b3, .cells #[Value.slice none 0 0, Value.slice none 0 0] 94 (0, 0))] := hM19
 refine r_nil (e_then (k_block (k_loop (σ := Array Nat × (Nat → Int)) (fun ⟨seen, o⟩ => [(0, .slice Al n cl), (2, .slice A2 nn cn), (6, .pointer (some ⟨b3, 0, none⟩)), (7, .pointer (some ⟨bt, 0, none⟩)), (8, .slice (some ⟨bo, 0, none⟩) n n), (34, .pointer (some ⟨bi, 0, none⟩))]) (fun ⟨seen, o⟩ w_ => Mem w No w_ [(bi, .mapIter (some bm) ck seen ck), (bo, .cells (rowC n (.int .i64) o) tInt (0, 0)), (bg, .cells (topC 0 n z0) tInts (0, 0)), (ba, .cells (topC 0 n z0) tBools (0, 0)), (bt, .cells #[.slice (some ⟨bg, 0, none⟩) n n, .slice (some ⟨ba, 0, none⟩) n n] 94 (0, 0)), (b3, .cells #[.slice none 0 0, .slice none 0 0] 94 (0, 0))] ∧ ofIn n gs seen o) (fun ⟨seen, o⟩ => todo gs seen) (#[], fun _ => 0) (sqS rfl) ⟨hM19, fun q hq h => by simp at h⟩ ?_)))
 rintro ⟨seen, o⟩ w20 ⟨hM21, hof⟩
 refine sqK [(0, .slice Al n cl), (2, .slice A2 nn cn), (6, .pointer (some ⟨b3, 0, none⟩)), (7, .pointer (some ⟨bt, 0, none⟩)), (8, .slice (some ⟨bo, 0, none⟩) n n), (34, .pointer (some ⟨bi, 0, none⟩))] rfl (k_seq (k_region ?_))
 refine r_nextH hM21 0 rfl (hbm hM21) (ents_born hG) rfl rfl (fun hall w22 hM23 => ?_) (fun e_ he_ hns w22 hM23 => ?_)
 ·skip
  have hfo := of_all hF hof (fun q hq => hall q.ent (List.mem_map.2 ⟨q, hq, rfl⟩))
  rw [rowC_congr hfo] at hM23
  have hM24 : Mem w No w22 [(bo, .cells (rowC n (Value.int .i64) (fun p => (f p : Int))) tInt (0, 0)), (bg, .cells (topC 0 n z0) tInts (0, 0)), (ba, .cells (topC 0 n z0) tBools (0, 0)), (bt, .cells #[Value.slice (some ⟨bg, 0, none⟩) n n, Value.slice (some ⟨ba, 0, none⟩) n n] 94 (0, 0)), (b3, .cells #[Value.slice none 0 0, Value.slice none 0 0] 94 (0, 0))] := hM23.tail
  refine sqV (.bool false) rfl rfl rfl ?_
  refine r_nil (sqE [(0, .slice Al n cl), (2, .slice A2 nn cn), (6, .pointer (some ⟨b3, 0, none⟩)), (7, .pointer (some ⟨bt, 0, none⟩)), (8, .slice (some ⟨bo, 0, none⟩) n n), (34, .pointer (some ⟨bi, 0, none⟩)), (36, .bool false)] rfl (e_then (k_seq (k_cond_false rfl rfl ?_))))
  refine k_exit (e_then_exit (e_loop_exit (e_blk_exit (e_then (k_seq (k_seq (k_region (sqV (.slice Al n cl) rfl rfl rfl ?_))))))))
  refine sqV (.int .i64 (n : Int)) rfl rfl (x_len rfl rfl) ?_
  refine sqV (.int .i64 0) rfl rfl rfl ?_
  refine r_nil (e_then (k_block (k_loop (σ := Nat × (Nat → Nat) × (Nat → Nat)) (fun ⟨i, rg, ra⟩ => [(0, .slice Al n cl), (2, .slice A2 nn cn), (6, .pointer (some ⟨b3, 0, none⟩)), (7, .pointer (some ⟨bt, 0, none⟩)), (8, .slice (some ⟨bo, 0, none⟩) n n), (52, .int .i64 (n : Int)), (53, .int .i64 (i : Int))]) (fun ⟨i, rg, ra⟩ w_ => Mem w No w_ ((bo, .cells (rowC n (.int .i64) (fun p => (f p : Int))) tInt (0, 0)) :: (bg, .cells (topC i n rg) tInts (0, 0)) :: (ba, .cells (topC i n ra) tBools (0, 0)) :: (bt, .cells #[.slice (some ⟨bg, 0, none⟩) n n, .slice (some ⟨ba, 0, none⟩) n n] 94 (0, 0)) :: (b3, .cells #[.slice none 0 0, .slice none 0 0] 94 (0, 0)) :: (tabL tInt (.int .i64) i n rg (fun _ _ => (774193 : Int)) ++ tabL tBool .bool i n ra (fun _ _ => false))) ∧ i ≤ n) (fun ⟨i, rg, ra⟩ => n - i) (0, z0, z0) (sqS rfl) ⟨hM24, Nat.zero_le _⟩ ?_)))
  rintro ⟨i, rg, ra⟩ w25 ⟨hM26, hi⟩
  refine sqK [(0, .slice Al n cl), (2, .slice A2 nn cn), (6, .pointer (some ⟨b3, 0, none⟩)), (7, .pointer (some ⟨bt, 0, none⟩)), (8, .slice (some ⟨bo, 0, none⟩) n n), (52, .int .i64 (n : Int)), (53, .int .i64 (i : Int))] rfl (k_seq (k_region (sqV (.bool (decide ((i : Int) < (n : Int)))) rfl rfl rfl ?_)))
  refine r_nil (e_then (k_seq ?_))
  refine k_cond rfl rfl (fun h => ?_) (fun h => ?_)
  ·try simp only [sqC] at h
   refine k_skip (e_then (k_seq (k_block (k_seq (k_region (sqV (.int .i64 (i : Int)) rfl rfl rfl ?_))))))
   refine sqV (.int .i64 (i : Int)) rfl rfl rfl ?_
   refine r_nil (e_then (k_seq ?_))
   refine k_drawL mixed [0, 1, 0, 0, 8, 0, 0, 64, 192, 0, 512, 1536, 455, 4551, 16383, 32767] [some (Value.pointer (some ⟨bt, 0, none⟩)), some (Value.slice (some ⟨bg, 0, none⟩) n n), some (Value.int .i64 (i : Int)), some (Value.pointer (some ⟨bt, 1, none⟩)), some (Value.slice (some ⟨ba, 0, none⟩) n n), some (Value.int .i64 (i : Int)), some (Value.slice Al n cl), some (Value.int .i64 (n : Int)), none, some (Value.slice Al n cl), some (Value.int .i64 (n : Int)), none, some (Value.pointer (some ⟨bg, i, none⟩)), some (undef), some (Value.pointer (some ⟨ba, i, none⟩)), some (undef)] (by kernel_rfl) 15 rfl (by kernel_rfl) (fun D V w_ => ∃ e1 e2 : Nat, (D 8 = true → V 8 = .slice (some ⟨e1, 0, none⟩) n n) ∧ (D 11 = true → V 11 = .slice (some ⟨e2, 0, none⟩) n n) ∧ (D 13 = true → D 8 = true) ∧ Mem w No w_ (cnd (D 8) (e1, .cells (rowC n (Value.int .i64) (fun _ => 0)) tInt (0, 0)) ++ (cnd (D 11) (e2, .cells (rowC n Value.bool (fun _ => false)) tBool (0, 0)) ++ ((bo, .cells (rowC n (Value.int .i64) (fun p => (f p : Int))) tInt (0, 0)) :: (bg, .cells (if D 13 = true then ((topC i n rg).setIfInBounds i (.slice (some ⟨e1, 0, none⟩) n n)) else topC i n rg) tInts (0, 0)) :: (ba, .cells (topC i n ra) tBools (0, 0)) :: (bt, .cells #[Value.slice (some ⟨bg, 0, none⟩) n n, Value.slice (some ⟨ba, 0, none⟩) n n] 94 (0, 0)) :: (b3, .cells #[Value.slice none 0 0, Value.slice none 0 0] 94 (0, 0)) :: (tabL tInt (.int .i64) i n rg (fun _ _ => (774193 : Int)) ++ tabL tBool .bool i n ra (fun _ _ => false)))))) (fun V w_ => ∃ e1 e2 : Nat, Mem w No w_ ((e1, .cells (rowC n (Value.int .i64) (fun _ => 0)) tInt (0, 0)) :: (e2, .cells (rowC n Value.bool (fun _ => false)) tBool (0, 0)) :: (bo, .cells (rowC n (Value.int .i64) (fun p => (f p : Int))) tInt (0, 0)) :: (bg, .cells ((topC i n rg).setIfInBounds i (.slice (some ⟨e1, 0, none⟩) n n)) tInts (0, 0)) :: (ba, .cells ((topC i n ra).setIfInBounds i (.slice (some ⟨e2, 0, none⟩) n n)) tBools (0, 0)) :: (bt, .cells #[Value.slice (some ⟨bg, 0, none⟩) n n, Value.slice (some ⟨ba, 0, none⟩) n n] 94 (0, 0)) :: (b3, .cells #[Value.slice none 0 0, Value.slice none 0 0] 94 (0, 0)) :: (tabL tInt (.int .i64) i n rg (fun _ _ => (774193 : Int)) ++ tabL tBool .bool i n ra (fun _ _ => false)))) (fun V => ⟨0, 0, fun h => Bool.noConfusion h, fun h => Bool.noConfusion h, fun h => Bool.noConfusion h, hM26.drew⟩) ?_ ?_
   ·refine ⟨?_, ?_, ?_, ?_, ?_, ?_, ?_, ?_, ?_, ?_, ?_, ?_, ?_, ?_, ?_, ?_, trivial⟩
    ·intro D V w_ hd hi hM_
     refine sqG [(7, .pointer (some ⟨bt, 0, none⟩))] rfl rfl rfl ?_
     exact run_val (.pointer (some ⟨bt, 0, none⟩)) (rfl) ⟨sqT, hM_⟩
    ·intro D V w_ hd hi hM_
     refine sqG [(56, .pointer (some ⟨bt, 0, none⟩))] rfl rfl rfl ?_
     exact run_val (.slice (some ⟨bg, 0, none⟩) n n) (by obtain ⟨e1, e2, h8, h11, h13, hM9⟩ := hM_; exact x_load (hM9.cellM (b := bt) (cs := #[Value.slice (some ⟨bg, 0, none⟩) n n, Value.slice (some ⟨ba, 0, none⟩) n n]) (e := 94) (fr := (0, 0)) (by simp) (j := 0) rfl) rfl rfl) ⟨sqT, hM_⟩
    ·intro D V w_ hd hi hM_
     refine sqG [(13, .int .i64 (i : Int))] rfl rfl rfl ?_
     exact run_val (.int .i64 (i : Int)) (rfl) ⟨sqT, hM_⟩
    ·intro D V w_ hd hi hM_
     refine sqG [(7, .pointer (some ⟨bt, 0, none⟩))] rfl rfl rfl ?_
     exact run_val (.pointer (some ⟨bt, 1, none⟩)) (rfl) ⟨sqT, hM_⟩
    ·intro D V w_ hd hi hM_
     refine sqG [(59, .pointer (some ⟨bt, 1, none⟩))] rfl rfl rfl ?_
     exact run_val (.slice (some ⟨ba, 0, none⟩) n n) (by obtain ⟨e1, e2, h8, h11, h13, hM9⟩ := hM_; exact x_load (hM9.cellM (b := bt) (cs := #[Value.slice (some ⟨bg, 0, none⟩) n n, Value.slice (some ⟨ba, 0, none⟩) n n]) (e := 94) (fr := (0, 0)) (by simp) (j := 1) rfl) rfl rfl) ⟨sqT, hM_⟩
    ·intro D V w_ hd hi hM_
     refine sqG [(13, .int .i64 (i : Int))] rfl rfl rfl ?_
     exact run_val (.int .i64 (i : Int)) (rfl) ⟨sqT, hM_⟩
    ·intro D V w_ hd hi hM_
     refine sqG [(0, .slice Al n cl)] rfl rfl rfl ?_
     exact run_val (.slice Al n cl) (rfl) ⟨sqT, hM_⟩
    ·intro D V w_ hd hi hM_
     refine sqG [(62, .slice Al n cl)] rfl rfl rfl ?_
     exact run_val (.int .i64 (n : Int)) (x_len rfl rfl) ⟨sqT, hM_⟩
    ·intro D V w_ hd hi hM_
     refine sqG [(63, .int .i64 (n : Int))] rfl rfl rfl ?_
     obtain ⟨e1, e2, h8, h11, h13, hM9⟩ := hM_
     have hn13 : D 13 = false := dno h13 hi
     rw [show D 8 = false from hi, hn13] at hM9
     simp only [Bool.false_eq_true, if_false] at hM9
     exact run_val _ (x_makeSlice (bytes := 8) (z := .int .i64 0) rfl rfl (by kernel_rfl) (by kernel_rfl) rfl (by omega) (by omega)) ⟨untold rfl, w_.heap.size, e2, fun _ => rfl, h11, fun _ => rfl, by rw [show upd D 8 true 13 = false from hn13]; simp only [Bool.false_eq_true, if_false]; exact hM9.alloc _⟩
    ·intro D V w_ hd hi hM_
     refine sqG [(0, .slice Al n cl)] rfl rfl rfl ?_
     exact run_val (.slice Al n cl) (rfl) ⟨sqT, hM_⟩
    ·intro D V w_ hd hi hM_
     refine sqG [(65, .slice Al n cl)] rfl rfl rfl ?_
     exact run_val (.int .i64 (n : Int)) (x_len rfl rfl) ⟨sqT, hM_⟩
    ·intro D V w_ hd hi hM_
     refine sqG [(66, .int .i64 (n : Int))] rfl rfl rfl ?_
     obtain ⟨e1, e2, h8, h11, h13, hM9⟩ := hM_
     rw [show D 11 = false from hi] at hM9
     exact run_val _ (x_makeSlice (bytes := 1) (z := .bool false) rfl rfl (by kernel_rfl) (by kernel_rfl) rfl (by omega) (by omega)) ⟨untold rfl, e1, w_.heap.size, h8, fun _ => rfl, h13, (hM9.alloc _).ins1⟩
    ·intro D V w_ hd hi hM_
     refine sqG [(57, .slice (some ⟨bg, 0, none⟩) n n), (58, .int .i64 (i : Int))] rfl rfl rfl ?_
     exact run_val (.pointer (some ⟨bg, i, none⟩)) (x_indexAddrL (i := i) (sz := 1) (by omega) rfl rfl rfl rfl (by omega)) ⟨sqT, hM_⟩
    ·intro D V w_ hd hi hM_
     refine sqG [(64, V 8), (68, .pointer (some ⟨bg, i, none⟩))] rfl rfl rfl ?_
     obtain ⟨e1, e2, h8, h11, h13, hM9⟩ := hM_
     have d8 := hd 8 rfl
     rw [h8 d8]
     rw [d8, show D 13 = false from hi] at hM9
     simp only [Bool.false_eq_true, if_false] at hM9
     cases h9 : D 11
     ·rw [h9] at hM9
      exact o_store1 hM9 2 rfl (by rw [topC_size]; omega) rfl rfl rfl rfl (fun w' h => ⟨sqT, e1, e2, h8, h11, fun _ => d8, by rw [show upd D 13 true 8 = true from d8, show upd D 13 true 11 = false from h9]; exact h⟩)
     ·rw [h9] at hM9
      exact o_store1 hM9 3 rfl (by rw [topC_size]; omega) rfl rfl rfl rfl (fun w' h => ⟨sqT, e1, e2, h8, h11, fun _ => d8, by rw [show upd D 13 true 8 = true from d8, show upd D 13 true 11 = true from h9]; exact h⟩)
    ·intro D V w_ hd hi hM_
     refine sqG [(60, .slice (some ⟨ba, 0, none⟩) n n), (61, .int .i64 (i : Int))] rfl rfl rfl ?_
     exact run_val (.pointer (some ⟨ba, i, none⟩)) (x_indexAddrL (i := i) (sz := 1) (by omega) rfl rfl rfl rfl (by omega)) ⟨sqT, hM_⟩
    ·intro D V w_ hd hi hM_
     refine sqG [(67, V 11), (69, .pointer (some ⟨ba, i, none⟩))] rfl rfl rfl ?_
     obtain ⟨e1, e2, h8, h11, h13, hM9⟩ := hM_
     rw [h11 (hd 11 rfl)]
     rw [hd 8 rfl, hd 11 rfl, hd 13 rfl] at hM9
     simp only [if_true] at hM9
     exact o_store1 hM9 4 rfl (by rw [topC_size]; omega) rfl rfl rfl rfl (fun w' h => ⟨sqT, e1, e2, h⟩)
   intro V w35 hM36
   obtain ⟨e1, e2, hM9⟩ := hM36
   refine sqE [(0, .slice Al n cl), (2, .slice A2 nn cn), (6, .pointer (some ⟨b3, 0, none⟩)), (7, .pointer (some ⟨bt, 0, none⟩)), (8, .slice (some ⟨bo, 0, none⟩) n n), (13, .int .i64 (i : Int)), (52, .int .i64 (n : Int)), (53, .int .i64 (i : Int))] rfl (e_then (k_seq (k_region ?_)))
   have hM37 : Mem w No w35 ((e1, .cells (rowC n (Value.int .i64) (fun q => if q < 0 then (774193 : Int) else 0)) tInt (0, 0)) :: (e2, .cells (rowC n Value.bool (fun _ => false)) tBool (0, 0)) :: (bo, .cells (rowC n (Value.int .i64) (fun p => (f p : Int))) tInt (0, 0)) :: (bg, .cells ((topC i n rg).setIfInBounds i (.slice (some ⟨e1, 0, none⟩) n n)) tInts (0, 0)) :: (ba, .cells ((topC i n ra).setIfInBounds i (.slice (some ⟨e2, 0, none⟩) n n)) tBools (0, 0)) :: (bt, .cells #[Value.slice (some ⟨bg, 0, none⟩) n n, Value.slice (some ⟨ba, 0, none⟩) n n] 94 (0, 0)) :: (b3, .cells #[Value.slice none 0 0, Value.slice none 0 0] 94 (0, 0)) :: (tabL tInt (.int .i64) i n rg (fun _ _ => (774193 : Int)) ++ tabL tBool .bool i n ra (fun _ _ => false))) := hM9
   refine sqV (.slice Al n cl) rfl rfl rfl ?_
   refine sqV (.int .i64 (n : Int)) rfl rfl (x_len rfl rfl) ?_
   refine sqV (.int .i64 0) rfl rfl rfl ?_
   refine r_nil (e_then (k_block (k_loop (σ := Nat) (fun k => [(0, .slice Al n cl), (2, .slice A2 nn cn), (6, .pointer (some ⟨b3, 0, none⟩)), (7, .pointer (some ⟨bt, 0, none⟩)), (8, .slice (some ⟨bo, 0, none⟩) n n), (13, .int .i64 (i : Int)), (52, .int .i64 (n : Int)), (53, .int .i64 (i : Int)), (71, .int .i64 (n : Int)), (72, .int .i64 (k : Int))]) (fun k w_ => Mem w No w_ ((e1, .cells (rowC n (.int .i64) (fun q => if q < k then (774193 : Int) else 0)) tInt (0, 0)) :: (e2, .cells (rowC n .bool (fun _ => false)) tBool (0, 0)) :: (bo, .cells (rowC n (.int .i64) (fun p => (f p : Int))) tInt (0, 0)) :: (bg, .cells ((topC i n rg).setIfInBounds i (.slice (some ⟨e1, 0, none⟩) n n)) tInts (0, 0)) :: (ba, .cells ((topC i n ra).setIfInBounds i (.slice (some ⟨e2, 0, none⟩) n n)) tBools (0, 0)) :: (bt, .cells #[.slice (some ⟨bg, 0, none⟩) n n, .slice (some ⟨ba, 0, none⟩) n n] 94 (0, 0)) :: (b3, .cells #[.slice none 0 0, .slice none 0 0] 94 (0, 0)) :: (tabL tInt (.int .i64) i n rg (fun _ _ => (774193 : Int)) ++ tabL tBool .bool i n ra (fun _ _ => false))) ∧ k ≤ n) (fun k => n - k) 0 (sqS rfl) ⟨hM37, Nat.zero_le _⟩ ?_)))
   rintro k w38 ⟨hM39, hk⟩
   refine sqK [(0, .slice Al n cl), (2, .slice A2 nn cn), (6, .pointer (some ⟨b3, 0, none⟩)), (7, .pointer (some ⟨bt, 0, none⟩)), (8, .slice (some ⟨bo, 0, none⟩) n n), (13, .int .i64 (i : Int)), (52, .int .i64 (n : Int)), (53, .int .i64 (i : Int)), (71, .int .i64 (n : Int)), (72, .int .i64 (k : Int))] rfl (k_seq (k_region (sqV (.bool (decide ((k : Int) < (n : Int)))) rfl rfl rfl ?_)))
   refine r_nil (e_then (k_seq ?_))
   refine k_cond rfl rfl (fun h2 => ?_) (fun h2 => ?_)
   ·try simp only [sqC] at h2
    refine k_skip (e_then (k_seq (k_block (k_seq (k_region (sqV (.int .i64 (k : Int)) rfl rfl rfl ?_))))))
    refine sqV (.int .i64 (k : Int)) rfl rfl rfl ?_
    refine r_nil (e_then (k_region (sqV (.pointer (some ⟨bt, 0, none⟩)) rfl rfl rfl ?_)))
    refine sqV (.slice (some ⟨bg, 0, none⟩) n n) rfl rfl (x_load (hM39.cell 5 rfl rfl) rfl rfl) ?_
    refine sqV (.int .i64 (i : Int)) rfl rfl rfl ?_
    refine sqV (.pointer (some ⟨bg, i, none⟩)) rfl rfl (x_indexAddrL (i := i) (sz := 1) (by omega) rfl rfl rfl rfl (by omega)) ?_
    refine sqV (.slice (some ⟨e1, 0, none⟩) n n) rfl rfl (x_load (hM39.cell 3 rfl (self_get (by rw [topC_size]; omega))) rfl rfl) ?_
    refine sqV (.int .i64 (k : Int)) rfl rfl rfl ?_
    refine sqV (.pointer (some ⟨e1, k, none⟩)) rfl rfl (x_indexAddrL (i := k) (sz := 1) (by omega) rfl rfl rfl rfl (by omega)) ?_
    refine r_store (v := Value.int .i64 774193) hM39 0 rfl (by rw [rowC_size]; omega) (by first | rfl | assumption) rfl rfl rfl rfl ?_
    intro w40 hM41
    replace hM41 : Mem w No w40 ((e1, .cells ((rowC n (Value.int .i64) (fun q => if q < k then (774193 : Int) else 0)).setIfInBounds k (Value.int .i64 774193)) tInt (0, 0)) :: (e2, .cells (rowC n Value.bool (fun _ => false)) tBool (0, 0)) :: (bo, .cells (rowC n (Value.int .i64) (fun p => (f p : Int))) tInt (0, 0)) :: (bg, .cells ((topC i n rg).setIfInBounds i (.slice (some ⟨e1, 0, none⟩) n n)) tInts (0, 0)) :: (ba, .cells ((topC i n ra).setIfInBounds i (.slice (some ⟨e2, 0, none⟩) n n)) tBools (0, 0)) :: (bt, .cells #[Value.slice (some ⟨bg, 0, none⟩) n n, Value.slice (some ⟨ba, 0, none⟩) n n] 94 (0, 0)) :: (b3, .cells #[Value.slice none 0 0, Value.slice none 0 0] 94 (0, 0)) :: (tabL tInt (.int .i64) i n rg (fun _ _ => (774193 : Int)) ++ tabL tBool .bool i n ra (fun _ _ => false))) := hM41
    refine r_nil (sqE [(0, .slice Al n cl), (2, .slice A2 nn cn), (6, .pointer (some ⟨b3, 0, none⟩)), (7, .pointer (some ⟨bt, 0, none⟩)), (8, .slice (some ⟨bo, 0, none⟩) n n), (13, .int .i64 (i : Int)), (52, .int .i64 (n : Int)), (53, .int .i64 (i : Int)), (71, .int .i64 (n : Int)), (72, .int .i64 (k : Int))] rfl (e_blk (e_then (k_region ?_))))
    rw [rowI_set (show k < n by omega), fill_step] at hM41
    have hM42 : Mem w No w40 ((e1, .cells (rowC n (Value.int .i64) (fun q => if q < k + 1 then (774193 : Int) else 0)) tInt (0, 0)) :: (e2, .cells (rowC n Value.bool (fun _ => false)) tBool (0, 0)) :: (bo, .cells (rowC n (Value.int .i64) (fun p => (f p : Int))) tInt (0, 0)) :: (bg, .cells ((topC i n rg).setIfInBounds i (.slice (some ⟨e1, 0, none⟩) n n)) tInts (0, 0)) :: (ba, .cells ((topC i n ra).setIfInBounds i (.slice (some ⟨e2, 0, none⟩) n n)) tBools (0, 0)) :: (bt, .cells #[Value.slice (some ⟨bg, 0, none⟩) n n, Value.slice (some ⟨ba, 0, none⟩) n n] 94 (0, 0)) :: (b3, .cells #[Value.slice none 0 0, Value.slice none 0 0] 94 (0, 0)) :: (tabL tInt (.int .i64) i n rg (fun _ _ => (774193 : Int)) ++ tabL tBool .bool i n ra (fun _ _ => false))) := hM41
    refine sqV (.int .i64 ((k : Int) + 1)) rfl rfl (x_addE rfl (by omega) (by omega) rfl rfl) ?_
    refine sqV (.int .i64 ((k : Int) + 1)) rfl rfl rfl ?_
    refine r_nil ?_
    refine e_loop (k + 1) (sqS rfl) ?_ ?_
    ·exact ⟨hM42, by omega⟩
    ·(try dsimp only); omega
   ·try simp only [sqC] at h2
    refine k_exit (e_then_exit (e_loop_exit (e_blk_exit (e_blk (e_then (k_region ?_))))))
    have hkn : k = n := by omega
    rw [hkn, fill_all, topC_set (by omega), topC_set (by omega)] at hM39
    refine sqV (.int .i64 ((i : Int) + 1)) rfl rfl (x_addE rfl (by omega) (by omega) rfl rfl) ?_
    refine sqV (.int .i64 ((i : Int) + 1)) rfl rfl rfl ?_
    refine r_nil ?_
    refine e_loop (i + 1, fun q => if q = i then e1 else rg q, fun q => if q = i then e2 else ra q) (sqS rfl) ?_ ?_
    ·exact ⟨by rw [tabL_snocC, tabL_snocC]; exact Mem.tabgrow (E := [_, _, _, _, _]) hM39, by omega⟩
    ·(try dsimp only); omega
  ·try simp only [sqC] at h
   refine k_exit (e_then_exit (e_loop_exit (e_blk_exit (e_then (k_seq (k_seq (k_region ?_)))))))
   have hin : i = n := by omega
   rw [hin] at hM26
   have hM43 : Mem w No w25 ((bo, .cells (rowC n (Value.int .i64) (fun p => (f p : Int))) tInt (0, 0)) :: (bg, .cells (topC n n rg) tInts (0, 0)) :: (ba, .cells (topC n n ra) tBools (0, 0)) :: (bt, .cells #[Value.slice (some ⟨bg, 0, none⟩) n n, Value.slice (some ⟨ba, 0, none⟩) n n] 94 (0, 0)) :: (b3, .cells #[Value.slice none 0 0, Value.slice none 0 0] 94 (0, 0)) :: (tabL tInt (.int .i64) n n rg (fun _ _ => (774193 : Int)) ++ tabL tBool .bool n n ra (fun _ _ => false))) := hM26
   refine sqV (.slice Al n cl) rfl rfl rfl ?_
   refine sqV (.int .i64 (n : Int)) rfl rfl (x_len rfl rfl) ?_
   refine sqV (.int .i64 0) rfl rfl rfl ?_
   refine r_nil (e_then (k_block (k_loop (σ := Nat × (Nat → Nat → Int)) (fun ⟨i, g⟩ => [(0, .slice Al n cl), (2, .slice A2 nn cn), (6, .pointer (some ⟨b3, 0, none⟩)), (7, .pointer (some ⟨bt, 0, none⟩)), (8, .slice (some ⟨bo, 0, none⟩) n n), (85, .int .i64 (n : Int)), (86, .int .i64 (i : Int))]) (fun ⟨i, g⟩ w_ => Mem w No w_ ((bo, .cells (rowC n (.int .i64) (fun p => (f p : Int))) tInt (0, 0)) :: (bg, .cells (topC n n rg) tInts (0, 0)) :: (ba, .cells (topC n n ra) tBools (0, 0)) :: (bt, .cells #[.slice (some ⟨bg, 0, none⟩) n n, .slice (some ⟨ba, 0, none⟩) n n] 94 (0, 0)) :: (b3, .cells #[.slice none 0 0, .slice none 0 0] 94 (0, 0)) :: (tabL tInt (.int .i64) n n rg g ++ tabL tBool .bool n n ra (fun _ _ => false))) ∧ i ≤ n ∧ GapIs l f (upTo n i 0) g) (fun ⟨i, g⟩ => n - i) (0, fun _ _ => 774193) (sqS rfl) ⟨hM43, Nat.zero_le _, gap_none l f n⟩ ?_)))
   rintro ⟨i, g⟩ w44 ⟨hM45, hi, hg⟩
   refine sqK [(0, .slice Al n cl), (2, .slice A2 nn cn), (6, .pointer (some ⟨b3, 0, none⟩)), (7, .pointer (some ⟨bt, 0, none⟩)), (8, .slice (some ⟨bo, 0, none⟩) n n), (85, .int .i64 (n : Int)), (86, .int .i64 (i : Int))] rfl (k_seq (k_region (sqV (.bool (decide ((i : Int) < (n : Int)))) rfl rfl rfl ?_)))
   refine r_nil (sqE [(0, .slice Al n cl), (2, .slice A2 nn cn), (6, .pointer (some ⟨b3, 0, none⟩)), (7, .pointer (some ⟨bt, 0, none⟩)), (8, .slice (some ⟨bo, 0, none⟩) n n), (85, .int .i64 (n : Int)), (86, .int .i64 (i : Int)), (87, .bool (decide ((i : Int) < (n : Int))))] rfl (e_then (k_seq ?_)))
   refine k_cond rfl rfl (fun h => ?_) (fun h => ?_)
   ·try simp only [sqC] at h
    refine k_skip (e_then (k_seq (k_block (k_seq (k_region ?_)))))
    obtain ⟨x, hx⟩ : ∃ x, l[i]? = some x := ⟨l[i]'(by omega), by simp⟩
    have hx14 : x.length = 14 := by have := hl.size' hx; simpa using this
    have hxm := List.mem_of_getElem? hx
    have hfi : f i < n := hF.lt (by omega)
    refine sqV (.int .i64 (i : Int)) rfl rfl rfl ?_
    refine sqV (.int .i64 (i : Int)) rfl rfl rfl ?_
    refine r_nil (e_then (k_seq (k_region (sqV (.slice Al n cl) rfl rfl rfl ?_))))
    refine sqV (.int .i64 (n : Int)) rfl rfl (x_len rfl rfl) ?_
    refine sqV (.int .i64 0) rfl rfl rfl ?_
    refine r_nil (e_then (k_block (k_loop (σ := Nat × (Nat → Nat → Int)) (fun ⟨k, g⟩ => [(0, .slice Al n cl), (2, .slice A2 nn cn), (6, .pointer (some ⟨b3, 0, none⟩)), (7, .pointer (some ⟨bt, 0, none⟩)), (8, .slice (some ⟨bo, 0, none⟩) n n), (15, .int .i64 (i : Int)), (85, .int .i64 (n : Int)), (86, .int .i64 (i : Int)), (90, .int .i64 (n : Int)), (91, .int .i64 (k : Int))]) (fun ⟨k, g⟩ w_ => Mem w No w_ ((bo, .cells (rowC n (.int .i64) (fun p => (f p : Int))) tInt (0, 0)) :: (bg, .cells (topC n n rg) tInts (0, 0)) :: (ba, .cells (topC n n ra) tBools (0, 0)) :: (bt, .cells #[.slice (some ⟨bg, 0, none⟩) n n, .slice (some ⟨ba, 0, none⟩) n n] 94 (0, 0)) :: (b3, .cells #[.slice none 0 0, .slice none 0 0] 94 (0, 0)) :: (tabL tInt (.int .i64) n n rg g ++ tabL tBool .bool n n ra (fun _ _ => false))) ∧ k ≤ n ∧ GapIs l f (upTo n i k) g) (fun ⟨k, g⟩ => n - k) (0, g) (sqS rfl) ⟨hM45, Nat.zero_le _, hg⟩ ?_)))
    rintro ⟨k, g⟩ w46 ⟨hM47, hk, hg⟩
    refine sqK [(0, .slice Al n cl), (2, .slice A2 nn cn), (6, .pointer (some ⟨b3, 0, none⟩)), (7, .pointer (some ⟨bt, 0, none⟩)), (8, .slice (some ⟨bo, 0, none⟩) n n), (15, .int .i64 (i : Int)), (85, .int .i64 (n : Int)), (86, .int .i64 (i : Int)), (90, .int .i64 (n : Int)), (91, .int .i64 (k : Int))] rfl (k_seq (k_region (sqV (.bool (decide ((k : Int) < (n : Int)))) rfl rfl rfl ?_)))
    refine r_nil (e_then (k_seq ?_))
    refine k_cond rfl rfl (fun h2 => ?_) (fun h2 => ?_)
    ·try simp only [sqC] at h2
     refine k_skip (e_then (k_seq (k_block (k_seq (k_region ?_)))))
     obtain ⟨y, hy⟩ : ∃ x, l[k]? = some x := ⟨l[k]'(by omega), by simp⟩
     have hy14 : y.length = 14 := by have := hl.size' hy; simpa using this
     have hym := List.mem_of_getElem? hy
     have hfk : f k < n := hF.lt (by omega)
     have hfar : farAt l i k = farOf (vecOf x) (vecOf y) := by simp [farAt, hx, hy]
     refine sqV (.int .i64 (k : Int)) rfl rfl rfl ?_
     refine sqV (.int .i64 (k : Int)) rfl rfl rfl ?_
     refine r_nil (sqE [(0, .slice Al n cl), (2, .slice A2 nn cn), (6, .pointer (some ⟨b3, 0, none⟩)), (7, .pointer (some ⟨bt, 0, none⟩)), (8, .slice (some ⟨bo, 0, none⟩) n n), (15, .int .i64 (i : Int)), (16, .int .i64 (k : Int)), (85, .int .i64 (n : Int)), (86, .int .i64 (i : Int)), (90, .int .i64 (n : Int)), (91, .int .i64 (k : Int))] rfl (e_then (k_seq ?_)))
     refine k_draw mixed [0, 0, 3, 7, 0, 0, 48, 112, 15, 511] [some (Value.slice (some ⟨bo, 0, none⟩) n n), some (Value.int .i64 (i : Int)), some (Value.pointer (some ⟨bo, i, none⟩)), some (Value.int .i64 (f i : Int)), some (Value.slice (some ⟨bo, 0, none⟩) n n), some (Value.int .i64 (k : Int)), some (Value.pointer (some ⟨bo, k, none⟩)), some (Value.int .i64 (f k : Int)), some (Value.int .i64 (f i : Int)), some (Value.int .i64 (f k : Int))] (by kernel_rfl) (fun D V w_ => Mem w No w_ ((bo, .cells (rowC n (Value.int .i64) (fun p => (f p : Int))) tInt (0, 0)) :: (bg, .cells (topC n n rg) tInts (0, 0)) :: (ba, .cells (topC n n ra) tBools (0, 0)) :: (bt, .cells #[Value.slice (some ⟨bg, 0, none⟩) n n, Value.slice (some ⟨ba, 0, none⟩) n n] 94 (0, 0)) :: (b3, .cells #[Value.slice none 0 0, Value.slice none 0 0] 94 (0, 0)) :: (tabL tInt (.int .i64) n n rg g ++ tabL tBool .bool n n ra (fun _ _ => false)))) (fun V => hM47.drew) ?_ ?_
     ·refine ⟨?_, ?_, ?_, ?_, ?_, ?_, ?_, ?_, ?_, ?_, trivial⟩
      ·intro D V w_ hd hi hM_
       refine sqG [(8, .slice (some ⟨bo, 0, none⟩) n n)] rfl rfl rfl ?_
       exact run_val (.slice (some ⟨bo, 0, none⟩) n n) (rfl) ⟨sqT, hM_⟩
      ·intro D V w_ hd hi hM_
       refine sqG [(15, .int .i64 (i : Int))] rfl rfl rfl ?_
       exact run_val (.int .i64 (i : Int)) (rfl) ⟨sqT, hM_⟩
      ·intro D V w_ hd hi hM_
       refine sqG [(94, .slice (some ⟨bo, 0, none⟩) n n), (95, .int .i64 (i : Int))] rfl rfl rfl ?_
       exact run_val (.pointer (some ⟨bo, i, none⟩)) (x_indexAddrL (i := i) (sz := 1) (by omega) rfl rfl rfl rfl (by omega)) ⟨sqT, hM_⟩
      ·intro D V w_ hd hi hM_
       refine sqG [(96, .pointer (some ⟨bo, i, none⟩))] rfl rfl rfl ?_
       exact run_val (.int .i64 (f i : Int)) (x_load (hM_.cell 0 rfl (rowC_get (by omega))) rfl rfl) ⟨sqT, hM_⟩
      ·intro D V w_ hd hi hM_
       refine sqG [(8, .slice (some ⟨bo, 0, none⟩) n n)] rfl rfl rfl ?_
       exact run_val (.slice (some ⟨bo, 0, none⟩) n n) (rfl) ⟨sqT, hM_⟩
      ·intro D V w_ hd hi hM_
       refine sqG [(16, .int .i64 (k : Int))] rfl rfl rfl ?_
       exact run_val (.int .i64 (k : Int)) (rfl) ⟨sqT, hM_⟩
      ·intro D V w_ hd hi hM_
       refine sqG [(98, .slice (some ⟨bo, 0, none⟩) n n), (99, .int .i64 (k : Int))] rfl rfl rfl ?_
       exact run_val (.pointer (some ⟨bo, k, none⟩)) (x_indexAddrL (i := k) (sz := 1) (by omega) rfl rfl rfl rfl (by omega)) ⟨sqT, hM_⟩
      ·intro D V w_ hd hi hM_
       refine sqG [(100, .pointer (some ⟨bo, k, none⟩))] rfl rfl rfl ?_
       exact run_val (.int .i64 (f k : Int)) (x_load (hM_.cell 0 rfl (rowC_get (by omega))) rfl rfl) ⟨sqT, hM_⟩
      ·intro D V w_ hd hi hM_
       refine sqG [(97, .int .i64 (f i : Int))] rfl rfl rfl ?_
       exact run_val (.int .i64 (f i : Int)) (rfl) ⟨sqT, hM_⟩
      ·intro D V w_ hd hi hM_
       refine sqG [(101, .int .i64 (f k : Int))] rfl rfl rfl ?_
       exact run_val (.int .i64 (f k : Int)) (rfl) ⟨sqT, hM_⟩
     intro D V w48 hall hM49
     refine e_then ?_
     refine k_drawL mixed [0, 1, 0, 7, 15, 0, 0, 64, 0, 448, 960, 0, 4032, 8128, 0, 0, 49152, 114688, 245760, 0, 0, 1572864, 3670016, 7864320, 16760832, 33554368, 67108863, 134217727] [some (Value.pointer (some ⟨bt, 0, none⟩)), some (Value.slice (some ⟨bg, 0, none⟩) n n), some (Value.int .i64 (f i : Int)), some (Value.pointer (some ⟨bg, (f i), none⟩)), some (Value.slice (some ⟨rg (f i), 0, none⟩) n n), some (Value.int .i64 (f k : Int)), some (Value.pointer (some ⟨bt, 0, none⟩)), some (Value.slice (some ⟨bg, 0, none⟩) n n), some (Value.int .i64 (f i : Int)), some (Value.pointer (some ⟨bg, (f i), none⟩)), some (Value.slice (some ⟨rg (f i), 0, none⟩) n n), some (Value.int .i64 (f k : Int)), some (Value.pointer (some ⟨rg (f i), (f k), none⟩)), some (Value.int .i64 (g (f i) (f k))), some (Value.slice Al n cl), some (Value.int .i64 (i : Int)), some (Value.pointer (some ((adr Al).add (i * 14)))), some (Value.pointer (some (((adr Al).add (i * 14)).add 2))), some (Value.agg (ints (vecOf x))), some (Value.slice Al n cl), some (Value.int .i64 (k : Int)), some (Value.pointer (some ((adr Al).add (k * 14)))), some (Value.pointer (some (((adr Al).add (k * 14)).add 2))), some (Value.agg (ints (vecOf y))), some (Value.int .i64 (farOf (vecOf x) (vecOf y))), some (Value.int .i64 (min (g (f i) (f k)) (farOf (vecOf x) (vecOf y)))), some (Value.pointer (some ⟨rg (f i), (f k), none⟩)), some (undef)] (by kernel_rfl) 27 rfl (by kernel_rfl) (fun D V w_ => Mem w No w_ ((bo, .cells (rowC n (Value.int .i64) (fun p => (f p : Int))) tInt (0, 0)) :: (bg, .cells (topC n n rg) tInts (0, 0)) :: (ba, .cells (topC n n ra) tBools (0, 0)) :: (bt, .cells #[Value.slice (some ⟨bg, 0, none⟩) n n, Value.slice (some ⟨ba, 0, none⟩) n n] 94 (0, 0)) :: (b3, .cells #[Value.slice none 0 0, Value.slice none 0 0] 94 (0, 0)) :: (tabL tInt (.int .i64) n n rg g ++ tabL tBool .bool n n ra (fun _ _ => false)))) (fun V w_ => Mem w No w_ ((bo, .cells (rowC n (Value.int .i64) (fun p => (f p : Int))) tInt (0, 0)) :: (bg, .cells (topC n n rg) tInts (0, 0)) :: (ba, .cells (topC n n ra) tBools (0, 0)) :: (bt, .cells #[Value.slice (some ⟨bg, 0, none⟩) n n, Value.slice (some ⟨ba, 0, none⟩) n n] 94 (0, 0)) :: (b3, .cells #[Value.slice none 0 0, Value.slice none 0 0] 94 (0, 0)) :: (tabL tInt (.int .i64) n n rg (upd2 g (f i) (f k) (min (g (f i) (f k)) (farOf (vecOf x) (vecOf y)))) ++ tabL tBool .bool n n ra (fun _ _ => false)))) (fun V => hM49.drew) ?_ ?_
     ·refine ⟨?_, ?_, ?_, ?_, ?_, ?_, ?_, ?_, ?_, ?_, ?_, ?_, ?_, ?_, ?_, ?_, ?_, ?_, ?_, ?_, ?_, ?_, ?_, ?_, ?_, ?_, ?_, ?_, trivial⟩
      ·intro D V w_ hd hi hM_
       refine sqG [(7, .pointer (some ⟨bt, 0, none⟩))] rfl rfl rfl ?_
       exact run_val (.pointer (some ⟨bt, 0, none⟩)) (rfl) ⟨sqT, hM_⟩
      ·intro D V w_ hd hi hM_
       refine sqG [(102, .pointer (some ⟨bt, 0, none⟩))] rfl rfl rfl ?_
       exact run_val (.slice (some ⟨bg, 0, none⟩) n n) (x_load (hM_.cell 3 rfl rfl) rfl rfl) ⟨sqT, hM_⟩
      ·intro D V w_ hd hi hM_
       refine sqG [(17, .int .i64 (f i : Int))] rfl rfl rfl ?_
       exact run_val (.int .i64 (f i : Int)) (rfl) ⟨sqT, hM_⟩
      ·intro D V w_ hd hi hM_
       refine sqG [(103, .slice (some ⟨bg, 0, none⟩) n n), (104, .int .i64 (f i : Int))] rfl rfl rfl ?_
       exact run_val (.pointer (some ⟨bg, (f i), none⟩)) (x_indexAddrL (i := f i) (sz := 1) (by omega) rfl rfl rfl rfl (by omega)) ⟨sqT, hM_⟩
      ·intro D V w_ hd hi hM_
       refine sqG [(105, .pointer (some ⟨bg, (f i), none⟩))] rfl rfl rfl ?_
       exact run_val (.slice (some ⟨rg (f i), 0, none⟩) n n) (x_load (hM_.cell 1 rfl (topC_get (by omega) (by omega))) rfl rfl) ⟨sqT, hM_⟩
      ·intro D V w_ hd hi hM_
       refine sqG [(18, .int .i64 (f k : Int))] rfl rfl rfl ?_
       exact run_val (.int .i64 (f k : Int)) (rfl) ⟨sqT, hM_⟩
      ·intro D V w_ hd hi hM_
       refine sqG [(7, .pointer (some ⟨bt, 0, none⟩))] rfl rfl rfl ?_
       exact run_val (.pointer (some ⟨bt, 0, none⟩)) (rfl) ⟨sqT, hM_⟩
      ·intro D V w_ hd hi hM_
       refine sqG [(108, .pointer (some ⟨bt, 0, none⟩))] rfl rfl rfl ?_
       exact run_val (.slice (some ⟨bg, 0, none⟩) n n) (x_load (hM_.cell 3 rfl rfl) rfl rfl) ⟨sqT, hM_⟩
      ·intro D V w_ hd hi hM_
       refine sqG [(17, .int .i64 (f i : Int))] rfl rfl rfl ?_
       exact run_val (.int .i64 (f i : Int)) (rfl) ⟨sqT, hM_⟩
      ·intro D V w_ hd hi hM_
       refine sqG [(109, .slice (some ⟨bg, 0, none⟩) n n), (110, .int .i64 (f i : Int))] rfl rfl rfl ?_
       exact run_val (.pointer (some ⟨bg, (f i), none⟩)) (x_indexAddrL (i := f i) (sz := 1) (by omega) rfl rfl rfl rfl (by omega)) ⟨sqT, hM_⟩
      ·intro D V w_ hd hi hM_
       refine sqG [(111, .pointer (some ⟨bg, (f i), none⟩))] rfl rfl rfl ?_
       exact run_val (.slice (some ⟨rg (f i), 0, none⟩) n n) (x_load (hM_.cell 1 rfl (topC_get (by omega) (by omega))) rfl rfl) ⟨sqT, hM_⟩
      ·intro D V w_ hd hi hM_
       refine sqG [(18, .int .i64 (f k : Int))] rfl rfl rfl ?_
       exact run_val (.int .i64 (f k : Int)) (rfl) ⟨sqT, hM_⟩
      ·intro D V w_ hd hi hM_
       refine sqG [(112, .slice (some ⟨rg (f i), 0, none⟩) n n), (113, .int .i64 (f k : Int))] rfl rfl rfl ?_
       exact run_val (.pointer (some ⟨rg (f i), (f k), none⟩)) (x_indexAddrL (i := f k) (sz := 1) (by omega) rfl rfl rfl rfl (by omega)) ⟨sqT, hM_⟩
      ·intro D V w_ hd hi hM_
       refine sqG [(114, .pointer (some ⟨rg (f i), (f k), none⟩))] rfl rfl rfl ?_
       exact run_val (Value.int .i64 (g (f i) (f k))) (x_load (hM_.tcell (n := n) (enc := .int .i64) (g := g) (ty := tInt) (i := (f i)) (List.mem_cons_of_mem _ (List.mem_cons_of_mem _ (List.mem_cons_of_mem _ (List.mem_cons_of_mem _ (List.mem_cons_of_mem _ (List.mem_append_left _ (tabL_mem (by omega)))))))) (by omega)) rfl rfl) ⟨sqT, hM_⟩
      ·intro D V w_ hd hi hM_
       refine sqG [(0, .slice Al n cl)] rfl rfl rfl ?_
       exact run_val (.slice Al n cl) (rfl) ⟨sqT, hM_⟩
      ·intro D V w_ hd hi hM_
       refine sqG [(15, .int .i64 (i : Int))] rfl rfl rfl ?_
       exact run_val (.int .i64 (i : Int)) (rfl) ⟨sqT, hM_⟩
      ·intro D V w_ hd hi hM_
       refine sqG [(116, .slice Al n cl), (117, .int .i64 (i : Int))] rfl rfl rfl ?_
       exact run_val (.pointer (some ((adr Al).add (i * 14)))) (x_indexAddrN (i := i) (sz := 14) hl.here (by omega) rfl rfl rfl rfl) ⟨sqT, hM_⟩
      ·intro D V w_ hd hi hM_
       refine sqG [(118, .pointer (some ((adr Al).add (i * 14))))] rfl rfl rfl ?_
       exact run_val (.pointer (some (((adr Al).add (i * 14)).add 2))) (rfl) ⟨sqT, hM_⟩
      ·intro D V w_ hd hi hM_
       refine sqG [(119, .pointer (some (((adr Al).add (i * 14)).add 2)))] rfl rfl rfl ?_
       exact run_val (.agg (ints (vecOf x))) (x_loadEPart (o := 2) (m := 12) (hl.up hM_) hx (by omega) rfl rfl rfl) ⟨sqT, hM_⟩
      ·intro D V w_ hd hi hM_
       refine sqG [(0, .slice Al n cl)] rfl rfl rfl ?_
       exact run_val (.slice Al n cl) (rfl) ⟨sqT, hM_⟩
      ·intro D V w_ hd hi hM_
       refine sqG [(16, .int .i64 (k : Int))] rfl rfl rfl ?_
       exact run_val (.int .i64 (k : Int)) (rfl) ⟨sqT, hM_⟩
      ·intro D V w_ hd hi hM_
       refine sqG [(121, .slice Al n cl), (122, .int .i64 (k : Int))] rfl rfl rfl ?_
       exact run_val (.pointer (some ((adr Al).add (k * 14)))) (x_indexAddrN (i := k) (sz := 14) hl.here (by omega) rfl rfl rfl rfl) ⟨sqT, hM_⟩
      ·intro D V w_ hd hi hM_
       refine sqG [(123, .pointer (some ((adr Al).add (k * 14))))] rfl rfl rfl ?_
       exact run_val (.pointer (some (((adr Al).add (k * 14)).add 2))) (rfl) ⟨sqT, hM_⟩
      ·intro D V w_ hd hi hM_
       refine sqG [(124, .pointer (some (((adr Al).add (k * 14)).add 2)))] rfl rfl rfl ?_
       exact run_val (.agg (ints (vecOf y))) (x_loadEPart (o := 2) (m := 12) (hl.up hM_) hy (by omega) rfl rfl rfl) ⟨sqT, hM_⟩
      ·intro D V w_ hd hi hM_
       refine sqG [(120, .agg (ints (vecOf x))), (125, .agg (ints (vecOf y)))] rfl rfl rfl ?_
       refine run_call (f := 28) (args := #[Value.agg (ints (vecOf x)), Value.agg (ints (vecOf y))]) (w' := w_) (x_call (vs := [Value.agg (ints (vecOf x)), Value.agg (ints (vecOf y))]) (enter28 _ _) rfl rfl) (far_s (vecOf x) (vecOf y) (by simp [vecOf]; omega) (by simp [vecOf]; omega) (hgd.vec x hxm) (hgd.vec y hym) w_) ?_
       rintro v_ w2_ ⟨rfl, hM2_⟩
       exact ⟨sqT, hM_.grow hM2_.kept⟩
      ·intro D V w_ hd hi hM_
       refine sqG [(115, .int .i64 (g (f i) (f k))), (126, .int .i64 (farOf (vecOf x) (vecOf y)))] rfl rfl rfl ?_
       exact run_val (Value.int .i64 (min (g (f i) (f k)) (farOf (vecOf x) (vecOf y)))) (x_min rfl rfl) ⟨sqT, hM_⟩
      ·intro D V w_ hd hi hM_
       refine sqG [(106, .slice (some ⟨rg (f i), 0, none⟩) n n), (107, .int .i64 (f k : Int))] rfl rfl rfl ?_
       exact run_val (.pointer (some ⟨rg (f i), (f k), none⟩)) (x_indexAddrL (i := f k) (sz := 1) (by omega) rfl rfl rfl rfl (by omega)) ⟨sqT, hM_⟩
      ·intro D V w_ hd hi hM_
       refine sqG [(127, .int .i64 (min (g (f i) (f k)) (farOf (vecOf x) (vecOf y)))), (128, .pointer (some ⟨rg (f i), (f k), none⟩))] rfl rfl rfl ?_
       exact o_storeT ([(bo, .cells (rowC n (Value.int .i64) (fun p => (f p : Int))) tInt (0, 0)), (bg, .cells (topC n n rg) tInts (0, 0)), (ba, .cells (topC n n ra) tBools (0, 0)), (bt, .cells #[Value.slice (some ⟨bg, 0, none⟩) n n, Value.slice (some ⟨ba, 0, none⟩) n n] 94 (0, 0)), (b3, .cells #[Value.slice none 0 0, Value.slice none 0 0] 94 (0, 0))] : Hp) hM_ hfi hfk rfl rfl rfl rfl (fun w' h => ⟨sqT, h⟩)
     intro V w54 hM55
     refine e_blk (e_then (k_region (sqV (.int .i64 ((k : Int) + 1)) rfl rfl (x_addE rfl (by omega) (by omega) rfl rfl) ?_)))
     refine sqV (.int .i64 ((k : Int) + 1)) rfl rfl rfl ?_
     refine r_nil ?_
     refine e_loop (k + 1, upd2 g (f i) (f k) (min (g (f i) (f k)) (farAt l i k))) (sqS rfl) ?_ ?_
     ·exact ⟨by rw [hfar]; exact hM55, by omega, gap_step (by omega) (by omega) hg⟩
     ·(try dsimp only); omega
    ·try simp only [sqC] at h2
     refine k_exit (e_then_exit (e_loop_exit (e_blk_exit (e_blk (e_then (k_region ?_))))))
     have hkn : k = n := by omega
     rw [hkn] at hg
     refine sqV (.int .i64 ((i : Int) + 1)) rfl rfl (x_addE rfl (by omega) (by omega) rfl rfl) ?_
     refine sqV (.int .i64 ((i : Int) + 1)) rfl rfl rfl ?_
     refine r_nil (sqE [(0, .slice Al n cl), (2, .slice A2 nn cn), (6, .pointer (some ⟨b3, 0, none⟩)), (7, .pointer (some ⟨bt, 0, none⟩)), (8, .slice (some ⟨bo, 0, none⟩) n n), (85, .int .i64 (n : Int)), (86, .int .i64 ((i : Int) + 1))] rfl ?_)
     refine e_loop (i + 1, g) (sqS rfl) ?_ ?_
     ·exact ⟨hM47, by omega, gap_row hg⟩
     ·(try dsimp only); omega
   ·try simp only [sqC] at h
    refine k_exit (e_then_exit (e_loop_exit (e_blk_exit (e_then (k_seq (k_seq (k_region ?_)))))))
    have hin2 : i = n := by omega
    rw [hin2] at hg
    refine sqV (.slice A2 nn cn) rfl rfl rfl ?_
    refine sqV (.int .i64 (nn : Int)) rfl rfl (x_len rfl rfl) ?_
    refine sqV (.int .i64 0) rfl rfl rfl ?_
    refine r_nil (e_then (k_block (k_loop (σ := Nat × (Nat → Nat → Bool)) (fun ⟨k, a⟩ => [(6, .pointer (some ⟨b3, 0, none⟩)), (7, .pointer (some ⟨bt, 0, none⟩)), (8, .slice (some ⟨bo, 0, none⟩) n n), (131, .slice A2 nn cn), (132, .int .i64 (nn : Int)), (133, .int .i64 (k : Int))]) (fun ⟨k, a⟩ w_ => Mem w No w_ ((bo, .cells (rowC n (.int .i64) (fun p => (f p : Int))) tInt (0, 0)) :: (bg, .cells (topC n n rg) tInts (0, 0)) :: (ba, .cells (topC n n ra) tBools (0, 0)) :: (bt, .cells #[.slice (some ⟨bg, 0, none⟩) n n, .slice (some ⟨ba, 0, none⟩) n n] 94 (0, 0)) :: (b3, .cells #[.slice none 0 0, .slice none 0 0] 94 (0, 0)) :: (tabL tInt (.int .i64) n n rg g ++ tabL tBool .bool n n ra a)) ∧ k ≤ nn ∧ ApartIs f (ns.take k) a) (fun ⟨k, a⟩ => nn - k) (0, fun _ _ => false) (sqS rfl) ⟨hM45, Nat.zero_le _, apart_none f⟩ ?_)))
    rintro ⟨k, a⟩ w56 ⟨hM57, hk, ha⟩
    refine sqK [(6, .pointer (some ⟨b3, 0, none⟩)), (7, .pointer (some ⟨bt, 0, none⟩)), (8, .slice (some ⟨bo, 0, none⟩) n n), (131, .slice A2 nn cn), (132, .int .i64 (nn : Int)), (133, .int .i64 (k : Int))] rfl (k_seq (k_region (sqV (.bool (decide ((k : Int) < (nn : Int)))) rfl rfl rfl ?_)))
    refine r_nil (e_then (k_seq ?_))
    refine k_cond rfl rfl (fun h3 => ?_) (fun h3 => ?_)
    ·try simp only [sqC] at h3
     refine k_skip (e_then (k_seq (k_block (k_seq (k_region ?_)))))
     obtain ⟨m, hmk⟩ : ∃ m, ns[k]? = some m := ⟨ns[k]'(by omega), by simp⟩
     obtain ⟨hm1, hm2⟩ := hns m (List.mem_of_getElem? hmk)
     have hf1 := hF.lt hm1
     have hf2 := hF.lt hm2
     refine sqV (.pointer (some ((adr A2).add (k * 2)))) rfl rfl (x_indexAddrN (i := k) (sz := 2) h2n.here (by omega) rfl rfl rfl rfl) ?_
     refine sqV (.agg (#[.int .i64 (m.1 : Int), .int .i64 (m.2 : Int)])) rfl rfl (x_loadElem (enc := pairE) (e := m) (h2n.up hM57) hmk rfl rfl rfl) ?_
     refine r_alloc hM57 (z := Value.agg #[Value.int .i64 0, Value.int .i64 0]) rfl rfl ?_
     intro b60 w58 hM59 hb60
     replace hM59 : Mem w No w58 ((b60, .cells #[Value.int .i64 0, Value.int .i64 0] 36 (0, 0)) :: (bo, .cells (rowC n (Value.int .i64) (fun p => (f p : Int))) tInt (0, 0)) :: (bg, .cells (topC n n rg) tInts (0, 0)) :: (ba, .cells (topC n n ra) tBools (0, 0)) :: (bt, .cells #[Value.slice (some ⟨bg, 0, none⟩) n n, Value.slice (some ⟨ba, 0, none⟩) n n] 94 (0, 0)) :: (b3, .cells #[Value.slice none 0 0, Value.slice none 0 0] 94 (0, 0)) :: (tabL tInt (.int .i64) n n rg g ++ tabL tBool .bool n n ra a)) := hM59
     refine r_storeRow (vs := (#[Value.int .i64 (m.1 : Int), Value.int .i64 (m.2 : Int)])) hM59 0 rfl (by rw [show (#[Value.int .i64 (m.1 : Int), Value.int .i64 (m.2 : Int)]).size = 2 from (by simp [ints_size, *])]; rfl) (by first | (simp [Value.oneCell']; done) | (simp only [List.mem_cons, List.not_mem_nil, or_false, forall_eq_or_imp, forall_eq]; (repeat' constructor) <;> first | assumption | rfl)) (by rw [show (#[Value.int .i64 (m.1 : Int), Value.int .i64 (m.2 : Int)]).size = 2 from (by simp [ints_size, *])]; rfl) rfl rfl rfl ?_
     intro w61 hM62
     replace hM62 : Mem w No w61 ((b60, .cells (#[Value.int .i64 (m.1 : Int), Value.int .i64 (m.2 : Int)]) 36 (0, 0)) :: (bo, .cells (rowC n (Value.int .i64) (fun p => (f p : Int))) tInt (0, 0)) :: (bg, .cells (topC n n rg) tInts (0, 0)) :: (ba, .cells (topC n n ra) tBools (0, 0)) :: (bt, .cells #[Value.slice (some ⟨bg, 0, none⟩) n n, Value.slice (some ⟨ba, 0, none⟩) n n] 94 (0, 0)) :: (b3, .cells #[Value.slice none 0 0, Value.slice none 0 0] 94 (0, 0)) :: (tabL tInt (.int .i64) n n rg g ++ tabL tBool .bool n n ra a)) := hM62
     refine r_nil (e_then (k_seq ?_))
     refine k_draw mixed [0, 0, 2, 7, 15, 0, 0, 64, 224, 480, 31, 2047] [some (Value.slice (some ⟨bo, 0, none⟩) n n), some (Value.pointer (some ⟨b60, 0, none⟩)), some (Value.int .i64 (m.1 : Int)), some (Value.pointer (some ⟨bo, m.1, none⟩)), some (Value.int .i64 (f m.1 : Int)), some (Value.slice (some ⟨bo, 0, none⟩) n n), some (Value.pointer (some ⟨b60, 1, none⟩)), some (Value.int .i64 (m.2 : Int)), some (Value.pointer (some ⟨bo, m.2, none⟩)), some (Value.int .i64 (f m.2 : Int)), some (Value.int .i64 (f m.1 : Int)), some (Value.int .i64 (f m.2 : Int))] (by kernel_rfl) (fun D V w_ => Mem w No w_ ((b60, .cells (#[Value.int .i64 (m.1 : Int), Value.int .i64 (m.2 : Int)]) 36 (0, 0)) :: (bo, .cells (rowC n (Value.int .i64) (fun p => (f p : Int))) tInt (0, 0)) :: (bg, .cells (topC n n rg) tInts (0, 0)) :: (ba, .cells (topC n n ra) tBools (0, 0)) :: (bt, .cells #[Value.slice (some ⟨bg, 0, none⟩) n n, Value.slice (some ⟨ba, 0, none⟩) n n] 94 (0, 0)) :: (b3, .cells #[Value.slice none 0 0, Value.slice none 0 0] 94 (0, 0)) :: (tabL tInt (.int .i64) n n rg g ++ tabL tBool .bool n n ra a))) (fun V => hM62.drew) ?_ ?_
     ·refine ⟨?_, ?_, ?_, ?_, ?_, ?_, ?_, ?_, ?_, ?_, ?_, ?_, trivial⟩
      ·intro D V w_ hd hi hM_
       refine sqG [(8, .slice (some ⟨bo, 0, none⟩) n n)] rfl rfl rfl ?_
       exact run_val (.slice (some ⟨bo, 0, none⟩) n n) (rfl) ⟨sqT, hM_⟩
      ·intro D V w_ hd hi hM_
       refine sqG [(20, .pointer (some ⟨b60, 0, none⟩))] rfl rfl rfl ?_
       exact run_val (.pointer (some ⟨b60, 0, none⟩)) (x_indexAddrB (i := 0) (sz := 1) (by omega) rfl rfl rfl rfl (by omega)) ⟨sqT, hM_⟩
      ·intro D V w_ hd hi hM_
       refine sqG [(138, .pointer (some ⟨b60, 0, none⟩))] rfl rfl rfl ?_
       exact run_val (.int .i64 (m.1 : Int)) (x_load (hM_.cell 0 rfl rfl) rfl rfl) ⟨sqT, hM_⟩
      ·intro D V w_ hd hi hM_
       refine sqG [(137, .slice (some ⟨bo, 0, none⟩) n n), (139, .int .i64 (m.1 : Int))] rfl rfl rfl ?_
       exact run_val (.pointer (some ⟨bo, m.1, none⟩)) (x_indexAddrL (i := m.1) (sz := 1) (by omega) rfl rfl rfl rfl (by omega)) ⟨sqT, hM_⟩
      ·intro D V w_ hd hi hM_
       refine sqG [(140, .pointer (some ⟨bo, m.1, none⟩))] rfl rfl rfl ?_
       exact run_val (.int .i64 (f m.1 : Int)) (x_load (hM_.cell 1 rfl (rowC_get (by omega))) rfl rfl) ⟨sqT, hM_⟩
      ·intro D V w_ hd hi hM_
       refine sqG [(8, .slice (some ⟨bo, 0, none⟩) n n)] rfl rfl rfl ?_
       exact run_val (.slice (some ⟨bo, 0, none⟩) n n) (rfl) ⟨sqT, hM_⟩
      ·intro D V w_ hd hi hM_
       refine sqG [(20, .pointer (some ⟨b60, 0, none⟩))] rfl rfl rfl ?_
       exact run_val (.pointer (some ⟨b60, 1, none⟩)) (x_indexAddrB (i := 1) (sz := 1) (by omega) rfl rfl rfl rfl (by omega)) ⟨sqT, hM_⟩
      ·intro D V w_ hd hi hM_
       refine sqG [(143, .pointer (some ⟨b60, 1, none⟩))] rfl rfl rfl ?_
       exact run_val (.int .i64 (m.2 : Int)) (x_load (hM_.cell 0 rfl rfl) rfl rfl) ⟨sqT, hM_⟩
      ·intro D V w_ hd hi hM_
       refine sqG [(142, .slice (some ⟨bo, 0, none⟩) n n), (144, .int .i64 (m.2 : Int))] rfl rfl rfl ?_
       exact run_val (.pointer (some ⟨bo, m.2, none⟩)) (x_indexAddrL (i := m.2) (sz := 1) (by omega) rfl rfl rfl rfl (by omega)) ⟨sqT, hM_⟩
      ·intro D V w_ hd hi hM_
       refine sqG [(145, .pointer (some ⟨bo, m.2, none⟩))] rfl rfl rfl ?_
       exact run_val (.int .i64 (f m.2 : Int)) (x_load (hM_.cell 1 rfl (rowC_get (by omega))) rfl rfl) ⟨sqT, hM_⟩
      ·intro D V w_ hd hi hM_
       refine sqG [(141, .int .i64 (f m.1 : Int))] rfl rfl rfl ?_
       exact run_val (.int .i64 (f m.1 : Int)) (rfl) ⟨sqT, hM_⟩
      ·intro D V w_ hd hi hM_
       refine sqG [(146, .int .i64 (f m.2 : Int))] rfl rfl rfl ?_
       exact run_val (.int .i64 (f m.2 : Int)) (rfl) ⟨sqT, hM_⟩
     intro D V w63 hall hM64
     refine sqE [(6, .pointer (some ⟨b3, 0, none⟩)), (7, .pointer (some ⟨bt, 0, none⟩)), (8, .slice (some ⟨bo, 0, none⟩) n n), (21, .int .i64 (f m.1 : Int)), (22, .int .i64 (f m.2 : Int)), (131, .slice A2 nn cn), (132, .int .i64 (nn : Int)), (133, .int .i64 (k : Int))] rfl (e_then ?_)
     refine k_drawL mixed [0, 1, 0, 7, 15, 0, 0, 64, 0, 448, 960, 0, 2047, 6143, 16383, 32767] [some (Value.pointer (some ⟨bt, 1, none⟩)), some (Value.slice (some ⟨ba, 0, none⟩) n n), some (Value.int .i64 (f m.1 : Int)), some (Value.pointer (some ⟨ba, (f m.1), none⟩)), some (Value.slice (some ⟨ra (f m.1), 0, none⟩) n n), some (Value.int .i64 (f m.2 : Int)), some (Value.pointer (some ⟨bt, 1, none⟩)), some (Value.slice (some ⟨ba, 0, none⟩) n n), some (Value.int .i64 (f m.2 : Int)), some (Value.pointer (some ⟨ba, (f m.2), none⟩)), some (Value.slice (some ⟨ra (f m.2), 0, none⟩) n n), some (Value.int .i64 (f m.1 : Int)), some (Value.pointer (some ⟨ra (f m.1), (f m.2), none⟩)), some (undef), some (Value.pointer (some ⟨ra (f m.2), (f m.1), none⟩)), some (undef)] (by kernel_rfl) 15 rfl (by kernel_rfl) (fun D V w_ => Mem w No w_ (([(b60, .cells (#[Value.int .i64 (m.1 : Int), Value.int .i64 (m.2 : Int)]) 36 (0, 0)), (bo, .cells (rowC n (Value.int .i64) (fun p => (f p : Int))) tInt (0, 0)), (bg, .cells (topC n n rg) tInts (0, 0)), (ba, .cells (topC n n ra) tBools (0, 0)), (bt, .cells #[Value.slice (some ⟨bg, 0, none⟩) n n, Value.slice (some ⟨ba, 0, none⟩) n n] 94 (0, 0)), (b3, .cells #[Value.slice none 0 0, Value.slice none 0 0] 94 (0, 0))] : Hp) ++ (tabL tInt (.int .i64) n n rg g ++ tabL tBool .bool n n ra (condU (D 13) (f m.1) (f m.2) true a)))) (fun V w_ => Mem w No w_ ((b60, .cells (#[Value.int .i64 (m.1 : Int), Value.int .i64 (m.2 : Int)]) 36 (0, 0)) :: (bo, .cells (rowC n (Value.int .i64) (fun p => (f p : Int))) tInt (0, 0)) :: (bg, .cells (topC n n rg) tInts (0, 0)) :: (ba, .cells (topC n n ra) tBools (0, 0)) :: (bt, .cells #[Value.slice (some ⟨bg, 0, none⟩) n n, Value.slice (some ⟨ba, 0, none⟩) n n] 94 (0, 0)) :: (b3, .cells #[Value.slice none 0 0, Value.slice none 0 0] 94 (0, 0)) :: (tabL tInt (.int .i64) n n rg g ++ tabL tBool .bool n n ra (upd2 (upd2 a (f m.1) (f m.2) true) (f m.2) (f m.1) true)))) (fun V => hM64.drew) ?_ ?_
     ·refine ⟨?_, ?_, ?_, ?_, ?_, ?_, ?_, ?_, ?_, ?_, ?_, ?_, ?_, ?_, ?_, ?_, trivial⟩
      ·intro D V w_ hd hi hM_
       refine sqG [(7, .pointer (some ⟨bt, 0, none⟩))] rfl rfl rfl ?_
       exact run_val (.pointer (some ⟨bt, 1, none⟩)) (rfl) ⟨sqT, hM_⟩
      ·intro D V w_ hd hi hM_
       refine sqG [(147, .pointer (some ⟨bt, 1, none⟩))] rfl rfl rfl ?_
       exact run_val (.slice (some ⟨ba, 0, none⟩) n n) (x_load (hM_.cell 4 rfl rfl) rfl rfl) ⟨sqT, hM_⟩
      ·intro D V w_ hd hi hM_
       refine sqG [(21, .int .i64 (f m.1 : Int))] rfl rfl rfl ?_
       exact run_val (.int .i64 (f m.1 : Int)) (rfl) ⟨sqT, hM_⟩
      ·intro D V w_ hd hi hM_
       refine sqG [(148, .slice (some ⟨ba, 0, none⟩) n n), (149, .int .i64 (f m.1 : Int))] rfl rfl rfl ?_
       exact run_val (.pointer (some ⟨ba, (f m.1), none⟩)) (x_indexAddrL (i := f m.1) (sz := 1) (by omega) rfl rfl rfl rfl (by omega)) ⟨sqT, hM_⟩
      ·intro D V w_ hd hi hM_
       refine sqG [(150, .pointer (some ⟨ba, (f m.1), none⟩))] rfl rfl rfl ?_
       exact run_val (.slice (some ⟨ra (f m.1), 0, none⟩) n n) (x_load (hM_.cell 3 rfl (topC_get (by omega) (by omega))) rfl rfl) ⟨sqT, hM_⟩
      ·intro D V w_ hd hi hM_
       refine sqG [(22, .int .i64 (f m.2 : Int))] rfl rfl rfl ?_
       exact run_val (.int .i64 (f m.2 : Int)) (rfl) ⟨sqT, hM_⟩
      ·intro D V w_ hd hi hM_
       refine sqG [(7, .pointer (some ⟨bt, 0, none⟩))] rfl rfl rfl ?_
       exact run_val (.pointer (some ⟨bt, 1, none⟩)) (rfl) ⟨sqT, hM_⟩
      ·intro D V w_ hd hi hM_
       refine sqG [(153, .pointer (some ⟨bt, 1, none⟩))] rfl rfl rfl ?_
       exact run_val (.slice (some ⟨ba, 0, none⟩) n n) (x_load (hM_.cell 4 rfl rfl) rfl rfl) ⟨sqT, hM_⟩
      ·intro D V w_ hd hi hM_
       refine sqG [(22, .int .i64 (f m.2 : Int))] rfl rfl rfl ?_
       exact run_val (.int .i64 (f m.2 : Int)) (rfl) ⟨sqT, hM_⟩
      ·intro D V w_ hd hi hM_
       refine sqG [(154, .slice (some ⟨ba, 0, none⟩) n n), (155, .int .i64 (f m.2 : Int))] rfl rfl rfl ?_
       exact run_val (.pointer (some ⟨ba, (f m.2), none⟩)) (x_indexAddrL (i := f m.2) (sz := 1) (by omega) rfl rfl rfl rfl (by omega)) ⟨sqT, hM_⟩
      ·intro D V w_ hd hi hM_
       refine sqG [(156, .pointer (some ⟨ba, (f m.2), none⟩))] rfl rfl rfl ?_
       exact run_val (.slice (some ⟨ra (f m.2), 0, none⟩) n n) (x_load (hM_.cell 3 rfl (topC_get (by omega) (by omega))) rfl rfl) ⟨sqT, hM_⟩
      ·intro D V w_ hd hi hM_
       refine sqG [(21, .int .i64 (f m.1 : Int))] rfl rfl rfl ?_
       exact run_val (.int .i64 (f m.1 : Int)) (rfl) ⟨sqT, hM_⟩
      ·intro D V w_ hd hi hM_
       refine sqG [(151, .slice (some ⟨ra (f m.1), 0, none⟩) n n), (152, .int .i64 (f m.2 : Int))] rfl rfl rfl ?_
       exact run_val (.pointer (some ⟨ra (f m.1), (f m.2), none⟩)) (x_indexAddrL (i := f m.2) (sz := 1) (by omega) rfl rfl rfl rfl (by omega)) ⟨sqT, hM_⟩
      ·intro D V w_ hd hi hM_
       refine sqG [(159, .pointer (some ⟨ra (f m.1), (f m.2), none⟩))] rfl rfl rfl ?_
       rw [show D 13 = false from hi] at hM_
       exact o_storeT2 ([(b60, .cells (#[Value.int .i64 (m.1 : Int), Value.int .i64 (m.2 : Int)]) 36 (0, 0)), (bo, .cells (rowC n (Value.int .i64) (fun p => (f p : Int))) tInt (0, 0)), (bg, .cells (topC n n rg) tInts (0, 0)), (ba, .cells (topC n n ra) tBools (0, 0)), (bt, .cells #[Value.slice (some ⟨bg, 0, none⟩) n n, Value.slice (some ⟨ba, 0, none⟩) n n] 94 (0, 0)), (b3, .cells #[Value.slice none 0 0, Value.slice none 0 0] 94 (0, 0))] : Hp) hM_ hf1 hf2 rfl rfl rfl rfl (fun w' h => ⟨sqT, h⟩)
      ·intro D V w_ hd hi hM_
       refine sqG [(157, .slice (some ⟨ra (f m.2), 0, none⟩) n n), (158, .int .i64 (f m.1 : Int))] rfl rfl rfl ?_
       exact run_val (.pointer (some ⟨ra (f m.2), (f m.1), none⟩)) (x_indexAddrL (i := f m.1) (sz := 1) (by omega) rfl rfl rfl rfl (by omega)) ⟨sqT, hM_⟩
      ·intro D V w_ hd hi hM_
       refine sqG [(160, .pointer (some ⟨ra (f m.2), (f m.1), none⟩))] rfl rfl rfl ?_
       rw [hd 13 rfl] at hM_
       exact o_storeT2 ([(b60, .cells (#[Value.int .i64 (m.1 : Int), Value.int .i64 (m.2 : Int)]) 36 (0, 0)), (bo, .cells (rowC n (Value.int .i64) (fun p => (f p : Int))) tInt (0, 0)), (bg, .cells (topC n n rg) tInts (0, 0)), (ba, .cells (topC n n ra) tBools (0, 0)), (bt, .cells #[Value.slice (some ⟨bg, 0, none⟩) n n, Value.slice (some ⟨ba, 0, none⟩) n n] 94 (0, 0)), (b3, .cells #[Value.slice none 0 0, Value.slice none 0 0] 94 (0, 0))] : Hp) hM_ hf2 hf1 rfl rfl rfl rfl (fun w' h => ⟨sqT, h⟩)
     intro V w69 hM70
     refine e_blk (e_then (k_region (sqV (.int .i64 ((k : Int) + 1)) rfl rfl (x_addE rfl (by omega) (by omega) rfl rfl) ?_)))
     refine sqV (.int .i64 ((k : Int) + 1)) rfl rfl rfl ?_
     refine r_nil ?_
     refine e_loop (k + 1, (upd2 (upd2 a (f m.1) (f m.2) true) (f m.2) (f m.1) true)) (sqS rfl) ?_ ?_
     ·exact ⟨(hM70.pickT [(b60, .cells (#[Value.int .i64 (m.1 : Int), Value.int .i64 (m.2 : Int)]) 36 (0, 0)), (bo, .cells (rowC n (Value.int .i64) (fun p => (f p : Int))) tInt (0, 0)), (bg, .cells (topC n n rg) tInts (0, 0)), (ba, .cells (topC n n ra) tBools (0, 0)), (bt, .cells #[Value.slice (some ⟨bg, 0, none⟩) n n, Value.slice (some ⟨ba, 0, none⟩) n n] 94 (0, 0)), (b3, .cells #[Value.slice none 0 0, Value.slice none 0 0] 94 (0, 0))] (tabL tInt (.int .i64) n n rg g ++ tabL tBool .bool n n ra (upd2 (upd2 a (f m.1) (f m.2) true) (f m.2) (f m.1) true)) rfl [1, 2, 3, 4, 5] _ (by decide) rfl), by omega, apart_step hmk ha⟩
     ·(try dsimp only); omega
    ·try simp only [sqC] at h3
     refine k_exit (e_then_exit (e_loop_exit (e_blk_exit (e_then (k_seq (k_region ?_))))))
     have hkn : ns.take k = ns := List.take_of_length_le (by omega)
     rw [hkn] at ha
     refine sqV (.agg (#[.slice (some ⟨bg, 0, none⟩) n n, .slice (some ⟨ba, 0, none⟩) n n])) rfl rfl (x_loadPart hM57 3 rfl (o := 0) (l := [Value.slice (some ⟨bg, 0, none⟩) n n, Value.slice (some ⟨ba, 0, none⟩) n n]) rfl rfl rfl rfl) ?_
     refine r_storeRow (vs := (#[Value.slice (some ⟨bg, 0, none⟩) n n, Value.slice (some ⟨ba, 0, none⟩) n n])) hM57 4 rfl (by rw [show (#[Value.slice (some ⟨bg, 0, none⟩) n n, Value.slice (some ⟨ba, 0, none⟩) n n]).size = 2 from (by simp [ints_size, *])]; rfl) (by first | (simp [Value.oneCell']; done) | (simp only [List.mem_cons, List.not_mem_nil, or_false, forall_eq_or_imp, forall_eq]; (repeat' constructor) <;> first | assumption | rfl)) (by rw [show (#[Value.slice (some ⟨bg, 0, none⟩) n n, Value.slice (some ⟨ba, 0, none⟩) n n]).size = 2 from (by simp [ints_size, *])]; rfl) rfl rfl rfl ?_
     intro w71 hM72
     replace hM72 : Mem w No w71 ((bo, .cells (rowC n (Value.int .i64) (fun p => (f p : Int))) tInt (0, 0)) :: (bg, .cells (topC n n rg) tInts (0, 0)) :: (ba, .cells (topC n n ra) tBools (0, 0)) :: (bt, .cells #[Value.slice (some ⟨bg, 0, none⟩) n n, Value.slice (some ⟨ba, 0, none⟩) n n] 94 (0, 0)) :: (b3, .cells (#[Value.slice (some ⟨bg, 0, none⟩) n n, Value.slice (some ⟨ba, 0, none⟩) n n]) 94 (0, 0)) :: (tabL tInt (.int .i64) n n rg g ++ tabL tBool .bool n n ra a)) := hM72
     refine r_nil (e_then (k_ret (e_retC rfl rfl (run_loadVarRow hM72 4 rfl rfl rfl) ?_)))
     exact ⟨_, rfl, bg, ba, rg, ra, g, a, rfl, ⟨gap_all hg, ha⟩, hM72.pickT ([(bo, .cells (rowC n (Value.int .i64) (fun p => (f p : Int))) tInt (0, 0)), (bg, .cells (topC n n rg) tInts (0, 0)), (ba, .cells (topC n n ra) tBools (0, 0)), (bt, .cells #[Value.slice (some ⟨bg, 0, none⟩) n n, Value.slice (some ⟨ba, 0, none⟩) n n] 94 (0, 0)), (b3, .cells (#[Value.slice (some ⟨bg, 0, none⟩) n n, Value.slice (some ⟨ba, 0, none⟩) n n]) 94 (0, 0))] : Hp) (tabL tInt (.int .i64) n n rg g ++ tabL tBool .bool n n ra a) rfl [1, 2] _ (by decide) rfl⟩
 ·obtain ⟨q, hq, rfl⟩ := ent_mem he_
  replace hM23 : Mem w No w22 [(bi, .mapIter (some bm) ck (seen.push q.born) ck), (bo, .cells (rowC n (Value.int .i64) o) tInt (0, 0)), (bg, .cells (topC 0 n z0) tInts (0, 0)), (ba, .cells (topC 0 n z0) tBools (0, 0)), (bt, .cells #[Value.slice (some ⟨bg, 0, none⟩) n n, Value.slice (some ⟨ba, 0, none⟩) n n] 94 (0, 0)), (b3, .cells #[Value.slice none 0 0, Value.slice none 0 0] 94 (0, 0))] := hM23
  obtain ⟨A, c, hv, hnc, hcm, _⟩ := (hG.row q hq).slice
  have hrd : RdE intE 1 w A q.xs.length q.xs := (hv ▸ hG.row q hq).rdI (GL_row hL hq)
  obtain ⟨p0, hp0, hfp0, hkey, hxs⟩ := hF.xs hq
  have hql := hF.short hn q hq
  refine sqV (.bool true) rfl rfl rfl ?_
  refine r_nil (sqE [(0, .slice Al n cl), (2, .slice A2 nn cn), (6, .pointer (some ⟨b3, 0, none⟩)), (7, .pointer (some ⟨bt, 0, none⟩)), (8, .slice (some ⟨bo, 0, none⟩) n n), (34, .pointer (some ⟨bi, 0, none⟩)), (36, .bool true)] rfl (e_then (k_seq (k_cond_true rfl rfl ?_))))
  refine k_skip (e_then (k_block (k_seq (k_region (sqV (.tuple #[.int .i64 q.key, .slice A q.xs.length c]) rfl rfl (by rw [← hv]; exact x_entry (hM23.get 0 rfl) (hbm hM23) he_ (ents_bnd hG) rfl) ?_)))))
  refine sqV (.int .i64 q.key) rfl rfl rfl ?_
  refine sqV (.slice A q.xs.length c) rfl rfl rfl ?_
  refine sqV (.int .i64 q.key) rfl rfl rfl ?_
  refine sqV (.slice A q.xs.length c) rfl rfl rfl ?_
  refine r_nil (e_then (k_seq (k_region (sqV (.slice A q.xs.length c) rfl rfl rfl ?_))))
  refine sqV (.int .i64 (q.xs.length : Int)) rfl rfl (x_len rfl rfl) ?_
  refine sqV (.int .i64 0) rfl rfl rfl ?_
  refine r_nil (e_then (k_block (k_loop (σ := Nat × (Nat → Int)) (fun ⟨k, o⟩ => [(0, .slice Al n cl), (2, .slice A2 nn cn), (6, .pointer (some ⟨b3, 0, none⟩)), (7, .pointer (some ⟨bt, 0, none⟩)), (8, .slice (some ⟨bo, 0, none⟩) n n), (9, .int .i64 q.key), (34, .pointer (some ⟨bi, 0, none⟩)), (40, .slice A q.xs.length c), (41, .int .i64 (q.xs.length : Int)), (42, .int .i64 (k : Int))]) (fun ⟨k, o⟩ w_ => Mem w No w_ [(bi, .mapIter (some bm) ck (seen.push q.born) ck), (bo, .cells (rowC n (.int .i64) o) tInt (0, 0)), (bg, .cells (topC 0 n z0) tInts (0, 0)), (ba, .cells (topC 0 n z0) tBools (0, 0)), (bt, .cells #[.slice (some ⟨bg, 0, none⟩) n n, .slice (some ⟨ba, 0, none⟩) n n] 94 (0, 0)), (b3, .cells #[.slice none 0 0, .slice none 0 0] 94 (0, 0))] ∧ k ≤ q.xs.length ∧ ofRow n gs seen q k o) (fun ⟨k, o⟩ => q.xs.length - k) (0, o) (sqS rfl) ⟨hM23, Nat.zero_le _, row_start hof⟩ ?_)))
  rintro ⟨k, o⟩ w73 ⟨hM74, hk, hor⟩
  refine sqK [(0, .slice Al n cl), (2, .slice A2 nn cn), (6, .pointer (some ⟨b3, 0, none⟩)), (7, .pointer (some ⟨bt, 0, none⟩)), (8, .slice (some ⟨bo, 0, none⟩) n n), (9, .int .i64 q.key), (34, .pointer (some ⟨bi, 0, none⟩)), (40, .slice A q.xs.length c), (41, .int .i64 (q.xs.length : Int)), (42, .int .i64 (k : Int))] rfl (k_seq (k_region (sqV (.bool (decide ((k : Int) < (q.xs.length : Int)))) rfl rfl rfl ?_)))
  refine r_nil (e_then (k_seq ?_))
  refine k_cond rfl rfl (fun h => ?_) (fun h => ?_)
  ·try simp only [sqC] at h
   refine k_skip (e_then (k_seq (k_block (k_seq (k_region ?_)))))
   have hrl := hrd.len
   obtain ⟨y, hy⟩ : ∃ y, q.xs[k]? = some y := ⟨q.xs[k]'(by omega), by simp⟩
   obtain ⟨p, hpn, rfl⟩ : ∃ p : Nat, p < n ∧ y = (p : Int) := by have h3 := List.mem_of_getElem? hy; rw [hxs] at h3; obtain ⟨p, hp, rfl⟩ := List.mem_map.1 h3; exact ⟨p, (mem_members.1 hp).1, rfl⟩
   refine sqV (.pointer (some ((adr A).add (k * 1)))) rfl rfl (x_indexAddrN (i := k) (sz := 1) hrd.here (by omega) rfl rfl rfl rfl) ?_
   refine sqV (.int .i64 (p : Int)) rfl rfl (x_loadEInt (hrd.up hM74) hy rfl rfl) ?_
   refine sqV (.int .i64 (p : Int)) rfl rfl rfl ?_
   refine r_nil (sqE [(0, .slice Al n cl), (2, .slice A2 nn cn), (6, .pointer (some ⟨b3, 0, none⟩)), (7, .pointer (some ⟨bt, 0, none⟩)), (8, .slice (some ⟨bo, 0, none⟩) n n), (9, .int .i64 q.key), (12, .int .i64 (p : Int)), (34, .pointer (some ⟨bi, 0, none⟩)), (40, .slice A q.xs.length c), (41, .int .i64 (q.xs.length : Int)), (42, .int .i64 (k : Int))] rfl (e_then (k_region (sqV (.slice (some ⟨bo, 0, none⟩) n n) rfl rfl rfl ?_))))
   refine sqV (.int .i64 (p : Int)) rfl rfl rfl ?_
   refine sqV (.int .i64 q.key) rfl rfl rfl ?_
   refine sqV (.pointer (some ⟨bo, p, none⟩)) rfl rfl (x_indexAddrL (i := p) (sz := 1) (by omega) rfl rfl rfl rfl (by omega)) ?_
   refine r_store (v := Value.int .i64 q.key) hM74 1 rfl (by rw [rowC_size]; omega) (by first | rfl | assumption) rfl rfl rfl rfl ?_
   intro w75 hM76
   replace hM76 : Mem w No w75 [(bi, .mapIter (some bm) ck (seen.push q.born) ck), (bo, .cells ((rowC n (Value.int .i64) o).setIfInBounds p (Value.int .i64 q.key)) tInt (0, 0)), (bg, .cells (topC 0 n z0) tInts (0, 0)), (ba, .cells (topC 0 n z0) tBools (0, 0)), (bt, .cells #[Value.slice (some ⟨bg, 0, none⟩) n n, Value.slice (some ⟨ba, 0, none⟩) n n] 94 (0, 0)), (b3, .cells #[Value.slice none 0 0, Value.slice none 0 0] 94 (0, 0))] := hM76
   refine r_nil (e_blk (e_then (k_region ?_)))
   rw [rowO_set hpn] at hM76
   have hM77 : Mem w No w75 [(bi, .mapIter (some bm) ck (seen.push q.born) ck), (bo, .cells (rowC n (Value.int .i64) (setO o p q.key)) tInt (0, 0)), (bg, .cells (topC 0 n z0) tInts (0, 0)), (ba, .cells (topC 0 n z0) tBools (0, 0)), (bt, .cells #[Value.slice (some ⟨bg, 0, none⟩) n n, Value.slice (some ⟨ba, 0, none⟩) n n] 94 (0, 0)), (b3, .cells #[Value.slice none 0 0, Value.slice none 0 0] 94 (0, 0))] := hM76
   refine sqV (.int .i64 ((k : Int) + 1)) rfl rfl (x_addE rfl (by omega) (by omega) rfl rfl) ?_
   refine sqV (.int .i64 ((k : Int) + 1)) rfl rfl rfl ?_
   refine r_nil ?_
   refine e_loop (k + 1, setO o p q.key) (sqS rfl) ?_ ?_
   ·exact ⟨hM77, by omega, row_step hF (seen_ne hG hq hns) hq hy hor⟩
   ·(try dsimp only); omega
  ·try simp only [sqC] at h
   refine k_exit (e_then_exit (e_loop_exit (e_blk_exit (e_blk ?_))))
   refine e_loop (seen.push q.born, o) (sqS rfl) ?_ ?_
   ·exact ⟨hM74, row_done (grp_inj hG) hq (by omega) hor⟩
   ·exact todo_push hq hns


end Go.Proofs.Ytddacakmafdgdaa
end
section
/- Two rows of the table made one. -/
set_option linter.unusedVariables false
set_option linter.unusedSimpArgs false
namespace Go.Kn
open Go.RowKit Go.Proofs.Ytddacakmafdgdaa
def mgG (x y : Nat) (g : Nat → Nat → Int) : Nat → Nat → Nat → Int
  | 0 => g
  | k + 1 => upd2 (upd2 (mgG x y g k) x k (min (mgG x y g k x k) (mgG x y g k y k))) k x (min (mgG x y g k x k) (mgG x y g k y k))
def mgA (x y : Nat) (a : Nat → Nat → Bool) : Nat → Nat → Nat → Bool
  | 0 => a
  | k + 1 => upd2 (upd2 (mgA x y a k) x k (mgA x y a k x k || mgA x y a k y k)) k x (mgA x y a k x k || mgA x y a k y k)
theorem mgA_true {x y k : Nat} {a : Nat → Nat → Bool} (h : mgA x y a k x k = true) : mgA x y a (k + 1) = upd2 (upd2 (mgA x y a k) x k true) k x true := by
  show upd2 (upd2 (mgA x y a k) x k (mgA x y a k x k || mgA x y a k y k)) k x (mgA x y a k x k || mgA x y a k y k) = _
  rw [h]; rfl
theorem mgA_false {x y k : Nat} {a : Nat → Nat → Bool} (h : mgA x y a k x k = false) : mgA x y a (k + 1) = upd2 (upd2 (mgA x y a k) x k (mgA x y a k y k)) k x (mgA x y a k y k) := by
  show upd2 (upd2 (mgA x y a k) x k (mgA x y a k x k || mgA x y a k y k)) k x (mgA x y a k x k || mgA x y a k y k) = _
  rw [h]; rfl
/-- off x's row and column nothing turns -/
theorem mgG_off {x y : Nat} {g : Nat → Nat → Int} {p q : Nat} (hp : p ≠ x) (hq : q ≠ x) : ∀ k, mgG x y g k p q = g p q
  | 0 => rfl
  | k + 1 => by
    show upd2 (upd2 (mgG x y g k) x k _) k x _ p q = _
    unfold upd2
    rw [if_neg (by omega), if_neg (by omega)]
    exact mgG_off hp hq k
theorem mgA_off {x y : Nat} {a : Nat → Nat → Bool} {p q : Nat} (hp : p ≠ x) (hq : q ≠ x) : ∀ k, mgA x y a k p q = a p q
  | 0 => rfl
  | k + 1 => by
    show upd2 (upd2 (mgA x y a k) x k _) k x _ p q = _
    unfold upd2
    rw [if_neg (by omega), if_neg (by omega)]
    exact mgA_off hp hq k
theorem upd2_eq {α : Type} {g : Nat → Nat → α} {i j : Nat} {v : α} : upd2 g i j v i j = v := by simp [upd2]
theorem upd2_ne {α : Type} {g : Nat → Nat → α} {i j p q : Nat} {v : α} (h : ¬ (p = i ∧ q = j)) : upd2 g i j v p q = g p q := by unfold upd2; rw [if_neg h]
theorem mgG_row {x y : Nat} {g : Nat → Nat → Int} (hxy : x ≠ y) {q : Nat} (hq : q ≠ x) : ∀ k, mgG x y g k x q = (if q < k then min (g x q) (g y q) else g x q) ∧ (mgG x y g k q x = if q < k then min (g x q) (g y q) else g q x)
  | 0 => ⟨by rw [if_neg (by omega)]; rfl, by rw [if_neg (by omega)]; rfl⟩
  | k + 1 => by
    obtain ⟨h1, h2⟩ := mgG_row (g := g) hxy hq k
    have h3 : mgG x y g k y q = g y q := mgG_off (fun e => hxy e.symm) hq k
    by_cases hk : q = k
    · subst hk
      have e1 : mgG x y g (q + 1) x q = min (mgG x y g q x q) (mgG x y g q y q) := by
        show upd2 (upd2 _ _ _ _) _ _ _ x q = _
        rw [upd2_ne (by omega), upd2_eq]
      have e2 : mgG x y g (q + 1) q x = min (mgG x y g q x q) (mgG x y g q y q) := by
        show upd2 (upd2 _ _ _ _) _ _ _ q x = _
        rw [upd2_eq]
      rw [if_neg (Nat.lt_irrefl q)] at h1
      have hlt : q < q + 1 := Nat.lt_succ_self q
      rw [e1, e2, h1, h3, if_pos hlt, if_pos hlt]
      exact ⟨rfl, rfl⟩
    · have e1 : mgG x y g (k + 1) x q = mgG x y g k x q := by
        show upd2 (upd2 _ _ _ _) _ _ _ x q = _
        rw [upd2_ne (by omega), upd2_ne (by omega)]
      have e2 : mgG x y g (k + 1) q x = mgG x y g k q x := by
        show upd2 (upd2 _ _ _ _) _ _ _ q x = _
        rw [upd2_ne (by omega), upd2_ne (by omega)]
      have hiff : (q < k + 1) = (q < k) := by apply propext; omega
      rw [e1, e2, h1, h2]
      simp only [hiff, and_self]
theorem mgA_row {x y : Nat} {a : Nat → Nat → Bool} (hxy : x ≠ y) {q : Nat} (hq : q ≠ x) : ∀ k, mgA x y a k x q = (if q < k then (a x q || a y q) else a x q) ∧ (mgA x y a k q x = if q < k then (a x q || a y q) else a q x)
  | 0 => ⟨by rw [if_neg (by omega)]; rfl, by rw [if_neg (by omega)]; rfl⟩
  | k + 1 => by
    obtain ⟨h1, h2⟩ := mgA_row (a := a) hxy hq k
    have h3 : mgA x y a k y q = a y q := mgA_off (fun e => hxy e.symm) hq k
    by_cases hk : q = k
    · subst hk
      have e1 : mgA x y a (q + 1) x q = (mgA x y a q x q || mgA x y a q y q) := by
        show upd2 (upd2 _ _ _ _) _ _ _ x q = _
        rw [upd2_ne (by omega), upd2_eq]
      have e2 : mgA x y a (q + 1) q x = (mgA x y a q x q || mgA x y a q y q) := by
        show upd2 (upd2 _ _ _ _) _ _ _ q x = _
        rw [upd2_eq]
      rw [if_neg (Nat.lt_irrefl q)] at h1
      have hlt : q < q + 1 := Nat.lt_succ_self q
      rw [e1, e2, h1, h3, if_pos hlt, if_pos hlt]
      exact ⟨rfl, rfl⟩
    · have e1 : mgA x y a (k + 1) x q = mgA x y a k x q := by
        show upd2 (upd2 _ _ _ _) _ _ _ x q = _
        rw [upd2_ne (by omega), upd2_ne (by omega)]
      have e2 : mgA x y a (k + 1) q x = mgA x y a k q x := by
        show upd2 (upd2 _ _ _ _) _ _ _ q x = _
        rw [upd2_ne (by omega), upd2_ne (by omega)]
      have hiff : (q < k + 1) = (q < k) := by apply propext; omega
      rw [e1, e2, h1, h2]
      simp only [hiff, and_self]
def isKey (n : Nat) (f : Nat → Nat) (x : Nat) : Prop := x < n ∧ f x = x
/-- the table at the keys of f -/
structure TabK (l : List (List Int)) (n : Nat) (f : Nat → Nat) (ns : List (Nat × Nat)) (g : Nat → Nat → Int) (a : Nat → Nat → Bool) : Prop where
  gap : ∀ x y, isKey n f x → isKey n f y → x ≠ y → ∀ v, v ≤ g x y ↔ v ≤ 774193 ∧ ∀ p q, p < n → q < n → f p = x → f q = y → v ≤ farAt l p q
  apart : ∀ x y, isKey n f x → isKey n f y → x ≠ y → (a x y = true ↔ ∃ m ∈ ns, (f m.1 = x ∧ f m.2 = y) ∨ (f m.2 = x ∧ f m.1 = y))
theorem tabK_of {l : List (List Int)} {n : Nat} {f : Nat → Nat} {ns : List (Nat × Nat)} {g : Nat → Nat → Int} {a : Nat → Nat → Bool} (hg : GapIs l f (inN n) g) (ha : ApartIs f ns a) : TabK l n f ns g a :=
  ⟨fun x y _ _ _ v => by
    rw [hg x y v]
    exact ⟨fun h => ⟨h.1, fun p q hp hq => h.2 p q ⟨hp, hq⟩⟩, fun h => ⟨h.1, fun p q hd => h.2 p q hd.1 hd.2⟩⟩, fun x y _ _ _ => ha x y⟩
theorem farTo_symm (a b : List Int) : ∀ k, farTo a b k = farTo b a k
  | 0 => rfl
  | k + 1 => by
    unfold farTo
    rw [farTo_symm a b k]
    congr 1
    rw [show a.getD k 0 - b.getD k 0 = -(b.getD k 0 - a.getD k 0) by omega, Int.neg_mul_neg]
theorem farAt_symm (l : List (List Int)) (p q : Nat) : farAt l p q = farAt l q p := farTo_symm _ _ 12
section
variable {l : List (List Int)} {n : Nat} {f : Nat → Nat} {ns : List (Nat × Nat)} {g : Nat → Nat → Int} {a : Nat → Nat → Bool} {x y : Nat}
theorem joinF_eq (hxy : x < y) (p : Nat) : joinF x y f p = if f p = y then x else f p := by
  unfold joinF
  rw [Nat.max_eq_right (by omega), Nat.min_eq_left (by omega)]
theorem key_join (hxy : x < y) (hx : isKey n f x) (hy : isKey n f y) {p : Nat} (h : isKey n (joinF x y f) p) : isKey n f p ∧ p ≠ y := by
  obtain ⟨h1, h2⟩ := h
  rw [joinF_eq hxy] at h2
  split at h2
  · rename_i h3
    subst h2
    rw [hx.2] at h3
    omega
  · rename_i h3
    exact ⟨⟨h1, h2⟩, fun e => h3 (by rw [e]; exact hy.2)⟩
theorem first_x (hxy : x < y) (p : Nat) : joinF x y f p = x ↔ f p = x ∨ f p = y := by
  rw [joinF_eq hxy]
  split
  · rename_i h; simp [h]
  · rename_i h; constructor
    · exact .inl
    · rintro (h1 | h1)
      · exact h1
      · exact absurd h1 h
theorem first_other (hxy : x < y) {q : Nat} (hqx : q ≠ x) (hqy : q ≠ y) (p : Nat) : joinF x y f p = q ↔ f p = q := by
  rw [joinF_eq hxy]
  split
  · rename_i h
    rw [h]
    exact ⟨fun e => absurd e.symm hqx, fun e => absurd e.symm hqy⟩
  · exact Iff.rfl
theorem tabK_merge (h : TabK l n f ns g a) (hxy : x < y) (hx : isKey n f x) (hy : isKey n f y) : TabK l n (joinF x y f) ns (mgG x y g n) (mgA x y a n) := by
  have hne : x ≠ y := by omega
  refine ⟨fun p q hp hq hpq v => ?_, fun p q hp hq hpq => ?_⟩
  · obtain ⟨hp1, hpy⟩ := key_join hxy hx hy hp
    obtain ⟨hq1, hqy⟩ := key_join hxy hx hy hq
    by_cases e1 : p = x
    · subst e1
      have hr := (mgG_row (g := g) hne (fun e => hpq e.symm : q ≠ p) n).1
      rw [if_pos hq1.1] at hr
      rw [hr, Int.le_min, h.gap p q hp1 hq1 hpq v, h.gap y q hy hq1 (fun e => hqy e.symm) v]
      constructor
      · rintro ⟨⟨h1, h2⟩, _, h4⟩
        refine ⟨h1, fun i k hi hk hfi hfk => ?_⟩
        rw [first_other hxy (fun e => hpq e.symm) hqy] at hfk
        rcases (first_x hxy i).1 hfi with h5 | h5
        · exact h2 i k hi hk h5 hfk
        · exact h4 i k hi hk h5 hfk
      · rintro ⟨h1, h2⟩
        exact ⟨⟨h1, fun i k hi hk hfi hfk => h2 i k hi hk ((first_x hxy i).2 (.inl hfi)) ((first_other hxy (fun e => hpq e.symm) hqy k).2 hfk)⟩, h1,
          fun i k hi hk hfi hfk => h2 i k hi hk ((first_x hxy i).2 (.inr hfi)) ((first_other hxy (fun e => hpq e.symm) hqy k).2 hfk)⟩
    · by_cases e2 : q = x
      · subst e2
        have hr := (mgG_row (g := g) hne hpq n).2
        rw [if_pos hp1.1] at hr
        rw [hr, Int.le_min, h.gap q p hq1 hp1 (fun e => hpq e.symm) v, h.gap y p hy hp1 (fun e => hpy e.symm) v]
        constructor
        · rintro ⟨⟨h1, h2⟩, _, h4⟩
          refine ⟨h1, fun i k hi hk hfi hfk => ?_⟩
          rw [first_other hxy hpq hpy] at hfi
          rw [farAt_symm]
          rcases (first_x hxy k).1 hfk with h5 | h5
          · exact h2 k i hk hi h5 hfi
          · exact h4 k i hk hi h5 hfi
        · rintro ⟨h1, h2⟩
          exact ⟨⟨h1, fun i k hi hk hfi hfk => by rw [farAt_symm]; exact h2 k i hk hi ((first_other hxy hpq hpy k).2 hfk) ((first_x hxy i).2 (.inl hfi))⟩, h1,
            fun i k hi hk hfi hfk => by rw [farAt_symm]; exact h2 k i hk hi ((first_other hxy hpq hpy k).2 hfk) ((first_x hxy i).2 (.inr hfi))⟩
      · rw [mgG_off e1 e2, h.gap p q hp1 hq1 hpq v]
        simp only [first_other hxy e1 hpy, first_other hxy e2 hqy]
  · obtain ⟨hp1, hpy⟩ := key_join hxy hx hy hp
    obtain ⟨hq1, hqy⟩ := key_join hxy hx hy hq
    by_cases e1 : p = x
    · subst e1
      have hr := (mgA_row (a := a) hne (fun e => hpq e.symm : q ≠ p) n).1
      rw [if_pos hq1.1] at hr
      rw [hr, Bool.or_eq_true, h.apart p q hp1 hq1 hpq, h.apart y q hy hq1 (fun e => hqy e.symm)]
      simp only [first_x hxy, first_other hxy (fun e => hpq e.symm : q ≠ p) hqy]
      constructor
      · rintro (⟨m, hm, h1⟩ | ⟨m, hm, h1⟩)
        · exact ⟨m, hm, by rcases h1 with h1 | h1 <;> simp [h1]⟩
        · exact ⟨m, hm, by rcases h1 with h1 | h1 <;> simp [h1]⟩
      · rintro ⟨m, hm, ⟨h1 | h1, h2⟩ | ⟨h1 | h1, h2⟩⟩
        · exact .inl ⟨m, hm, .inl ⟨h1, h2⟩⟩
        · exact .inr ⟨m, hm, .inl ⟨h1, h2⟩⟩
        · exact .inl ⟨m, hm, .inr ⟨h1, h2⟩⟩
        · exact .inr ⟨m, hm, .inr ⟨h1, h2⟩⟩
    · by_cases e2 : q = x
      · subst e2
        have hr := (mgA_row (a := a) hne hpq n).2
        rw [if_pos hp1.1] at hr
        rw [hr, Bool.or_eq_true, h.apart q p hq1 hp1 (fun e => hpq e.symm), h.apart y p hy hp1 (fun e => hpy e.symm)]
        simp only [first_x hxy, first_other hxy hpq hpy]
        constructor
        · rintro (⟨m, hm, h1⟩ | ⟨m, hm, h1⟩)
          · exact ⟨m, hm, by rcases h1 with h1 | h1 <;> simp [h1]⟩
          · exact ⟨m, hm, by rcases h1 with h1 | h1 <;> simp [h1]⟩
        · rintro ⟨m, hm, ⟨h2, h1 | h1⟩ | ⟨h2, h1 | h1⟩⟩
          · exact .inl ⟨m, hm, .inr ⟨h1, h2⟩⟩
          · exact .inr ⟨m, hm, .inr ⟨h1, h2⟩⟩
          · exact .inl ⟨m, hm, .inl ⟨h1, h2⟩⟩
          · exact .inr ⟨m, hm, .inl ⟨h1, h2⟩⟩
      · rw [mgA_off e1 e2, h.apart p q hp1 hq1 hpq]
        simp only [first_other hxy e1 hpy, first_other hxy e2 hqy]
end
abbrev TabH (n tg ta : Nat) (rg ra : Nat → Nat) (g : Nat → Nat → Int) (a : Nat → Nat → Bool) : Hp :=
  (tg, .cells (topC n n rg) tInts (0, 0)) :: (ta, .cells (topC n n ra) tBools (0, 0)) :: (tabL tInt (.int .i64) n n rg g ++ tabL tBool .bool n n ra a)
end Go.Kn
end
section
/- Parts of slices. -/
set_option linter.unusedVariables false
set_option linter.unusedSimpArgs false
namespace Go.Kn
open Go.RowKit
section
variable {P : Program} {w : World} {ρ : Operand → Value} {dst : Option Tmp} {type : TypeId} {pos : String} {after : Array Edge} {guard : Option (Nat × Bool)}
theorem x_sliceLow {t e : TypeId} {x lo : Operand} {A : Option Addr} {n c l sz : Nat} {k : IntKind} (hl : l ≤ n) (hx : ρ x = .slice A n c) (hlo : ρ lo = .int k (l : Int)) (ht : (underlying t).run P w = .ok (.slice e) w) (hs : (sizeOf e).run P w = .ok sz w) :
    (execOp ρ ⟨dst, .slice t x (some lo) none none, type, pos, after, guard⟩).run P w = .ok (.value (.slice (if c = l then A else A.map (·.add (l * sz))) (n - l) (c - l))) w := by
  have h1 : (0 : Int) ≤ (l : Int) ∧ (l : Int) ≤ (n : Int) := by omega
  simp [execOp, hx, hlo, Instr.sliceAt, Instr.slice, Instr.sliceBounds, Instr.sliceBound, asIntOf, ht, hs, h1]
  intro hlt
  omega
theorem add_zero (a : Addr) : a.add 0 = a := by simp [Addr.add]
theorem x_sliceClip {t e : TypeId} {x hi mx : Operand} {A : Option Addr} {n c sz : Nat} {k k' : IntKind} (hc : n ≤ c) (hx : ρ x = .slice A n c) (hhi : ρ hi = .int k (n : Int)) (hmx : ρ mx = .int k' (n : Int)) (ht : (underlying t).run P w = .ok (.slice e) w) (hs : (sizeOf e).run P w = .ok sz w) :
    (execOp ρ ⟨dst, .slice t x none (some hi) (some mx), type, pos, after, guard⟩).run P w = .ok (.value (.slice A n n)) w := by
  have h1 : (0 : Int) ≤ (n : Int) ∧ (n : Int) ≤ (c : Int) := by omega
  have h2 : (0 : Int) ≤ (n : Int) ∧ (n : Int) ≤ (n : Int) := by omega
  have h3 : (if n = 0 then A else A.map fun x => x.add 0) = A := by
    split
    · rfl
    · cases A <;> simp [add_zero]
  simp [execOp, hx, hhi, hmx, Instr.sliceAt, Instr.slice, Instr.sliceBounds, Instr.sliceBound, asIntOf, ht, hs, h1, h3]
  intro hlt
  omega
/-- up to a length -/
theorem x_sliceHigh {t e : TypeId} {x hi : Operand} {A : Option Addr} {n c h sz : Nat} {k : IntKind} (hc : h ≤ c) (hx : ρ x = .slice A n c) (hhi : ρ hi = .int k (h : Int)) (ht : (underlying t).run P w = .ok (.slice e) w) (hs : (sizeOf e).run P w = .ok sz w) :
    (execOp ρ ⟨dst, .slice t x none (some hi) none, type, pos, after, guard⟩).run P w = .ok (.value (.slice A h c)) w := by
  have h1 : (0 : Int) ≤ (h : Int) ∧ (h : Int) ≤ (c : Int) := by omega
  have h3 : (if c = 0 then A else A.map fun x => x.add 0) = A := by
    split
    · rfl
    · cases A <;> simp [add_zero]
  simp [execOp, hx, hhi, Instr.sliceAt, Instr.slice, Instr.sliceBounds, Instr.sliceBound, asIntOf, ht, hs, h1, h3]
  intro hlt
  omega
end
end Go.Kn
end
section
/- The next two groups. -/
set_option linter.unusedVariables false
set_option linter.unusedSimpArgs false
namespace Go.Kn
open Go.RowKit Go.Proofs.Ytddacakmafdgdaa
section
variable {g : Nat → Nat → Int} {a : Nat → Nat → Bool} {limit : Int} {ks : List Nat} {D E : Nat → Nat → Prop} {x y u v : Nat} {least : Int} {i j k : Nat}
def Cand (g : Nat → Nat → Int) (a : Nat → Nat → Bool) (limit : Int) (ks : List Nat) (i j x y : Nat) : Prop := ks[i]? = some x ∧ ks[j]? = some y ∧ a x y = false ∧ g x y ≤ limit
def Best (g : Nat → Nat → Int) (a : Nat → Nat → Bool) (limit : Int) (ks : List Nat) (D : Nat → Nat → Prop) (x y : Nat) (least : Int) : Prop :=
  (least = limit + 1 ∧ ∀ i j u v, D i j → ¬ Cand g a limit ks i j u v) ∨
  (∃ i0 j0, D i0 j0 ∧ Cand g a limit ks i0 j0 x y ∧ least = g x y ∧ ∀ i j u v, D i j → Cand g a limit ks i j u v → g x y < g u v ∨ (g x y = g u v ∧ (i0 < i ∨ (i0 = i ∧ j0 ≤ j))))
/-- pairs of places that have been looked at -/
def upP (n i k : Nat) (p q : Nat) : Prop := p < q ∧ q < n ∧ (p < i ∨ (p = i ∧ q < i + 1 + k))
theorem best_none (g : Nat → Nat → Int) (a : Nat → Nat → Bool) (limit : Int) (ks : List Nat) (n : Nat) : Best g a limit ks (upP n 0 0) 0 0 (limit + 1) :=
  .inl ⟨rfl, fun i j u v hd => by unfold upP at hd; omega⟩
theorem best_congr (h : Best g a limit ks D x y least) (hD : ∀ i j, D i j ↔ E i j) : Best g a limit ks E x y least := by
  have : D = E := by funext i j; exact propext (hD i j)
  rw [← this]; exact h
theorem best_row {n : Nat} (hk : n ≤ i + 1 + k) (h : Best g a limit ks (upP n i k) x y least) : Best g a limit ks (upP n (i + 1) 0) x y least :=
  best_congr h (fun p q => by unfold upP; omega)
/-- the pair at (i, i + 1 + k) is better -/
theorem best_yes {n : Nat} (hi : ks[i]? = some u) (hj : ks[i + 1 + k]? = some v) (hn : i + 1 + k < n) (h : Best g a limit ks (upP n i k) x y least) (ha : a u v = false) (hg : g u v < least) : Best g a limit ks (upP n i (k + 1)) u v (g u v) := by
  have hlim : g u v ≤ limit := by
    rcases h with ⟨h1, _⟩ | ⟨_, _, _, hc, h2, _⟩
    · omega
    · have := hc.2.2.2; omega
  refine .inr ⟨i, i + 1 + k, by unfold upP; omega, ⟨hi, hj, ha, hlim⟩, rfl, fun p q r s hd hc => ?_⟩
  by_cases hold : upP n i k p q
  · left
    rcases h with ⟨_, h2⟩ | ⟨_, _, _, _, h3, h4⟩
    · exact absurd hc (h2 p q r s hold)
    · have := h4 p q r s hold hc; omega
  · have hp : p = i ∧ q = i + 1 + k := by unfold upP at hd hold; omega
    obtain ⟨rfl, rfl⟩ := hp
    obtain ⟨h5, h6, _⟩ := hc
    rw [hi] at h5; rw [hj] at h6
    injection h5 with h5; injection h6 with h6
    subst h5; subst h6
    right; exact ⟨rfl, .inr ⟨rfl, Nat.le_refl _⟩⟩
theorem best_no {n : Nat} (hi : ks[i]? = some u) (hj : ks[i + 1 + k]? = some v) (h : Best g a limit ks (upP n i k) x y least) (hno : a u v = true ∨ least ≤ g u v) : Best g a limit ks (upP n i (k + 1)) x y least := by
  have hnew : ∀ p q, upP n i (k + 1) p q → ¬ upP n i k p q → p = i ∧ q = i + 1 + k := by intro p q hd hold; unfold upP at hd hold; omega
  have hmono : ∀ p q, upP n i k p q → upP n i (k + 1) p q := by intro p q; unfold upP; omega
  rcases h with ⟨h1, h2⟩ | ⟨i0, j0, hd0, hc0, h3, h4⟩
  · refine .inl ⟨h1, fun p q r s hd hc => ?_⟩
    by_cases hold : upP n i k p q
    · exact h2 p q r s hold hc
    · obtain ⟨rfl, rfl⟩ := hnew p q hd hold
      obtain ⟨h5, h6, h7, h8⟩ := hc
      rw [hi] at h5; rw [hj] at h6
      injection h5 with h5; injection h6 with h6
      subst h5; subst h6
      rcases hno with h9 | h9
      · rw [h9] at h7; cases h7
      · omega
  · refine .inr ⟨i0, j0, hmono _ _ hd0, hc0, h3, fun p q r s hd hc => ?_⟩
    by_cases hold : upP n i k p q
    · exact h4 p q r s hold hc
    · obtain ⟨rfl, rfl⟩ := hnew p q hd hold
      obtain ⟨h5, h6, h7, h8⟩ := hc
      rw [hi] at h5; rw [hj] at h6
      injection h5 with h5; injection h6 with h6
      subst h5; subst h6
      rcases hno with h9 | h9
      · rw [h9] at h7; cases h7
      · have hb : i0 < p ∨ (i0 = p ∧ j0 ≤ p + 1 + k) := by unfold upP at hd0; omega
        by_cases he : g x y = g u v
        · exact .inr ⟨he, hb⟩
        · left; omega
end
abbrev natsI (ks : List Nat) : List Int := ks.map fun (k : Nat) => (k : Int)
theorem natsI_get {ks : List Nat} {i x : Nat} (h : ks[i]? = some x) : (natsI ks)[i]? = some (x : Int) := by simp [natsI, h]
end Go.Kn
end
section
/- Fj: what Go functions of this seat come to, printed by walk.py over the engine. -/
set_option linter.unusedVariables false
set_option linter.unusedSimpArgs false
set_option maxRecDepth 100000
namespace Go.Proofs.Ytddacakmafdgdaa
open Go.RowKit Go.Kn

theorem merge_s (n tg ta : Nat) (rg ra : Nat → Nat) (g : Nat → Nat → Int) (a : Nat → Nat → Bool) (x y : Nat) (w : World) (hL : Kn.Holds w (TabH n tg ta rg ra g a)) (hx : x < n) (hy : y < n) (hn : n ≤ 300) :
  Calls Try.prog 54 #[Value.agg (#[Value.slice (some ⟨tg, 0, none⟩) n n, Value.slice (some ⟨ta, 0, none⟩) n n]), Value.int .i64 (x : Int), Value.int .i64 (y : Int)] w fun e w' => ∃ r, e = .returned r ∧ r = .tuple #[] ∧ Mem w (keys (TabH n tg ta rg ra g a)) w' (TabH n tg ta rg ra (mgG x y g n) (mgA x y a n)) := by
 refine calls_k (args := [Value.agg (#[Value.slice (some ⟨tg, 0, none⟩) n n, Value.slice (some ⟨ta, 0, none⟩) n n]), Value.int .i64 (x : Int), Value.int .i64 (y : Int)]) 83 [(0, Value.agg (#[Value.slice (some ⟨tg, 0, none⟩) n n, Value.slice (some ⟨ta, 0, none⟩) n n])), (1, Value.int .i64 (x : Int)), (2, Value.int .i64 (y : Int))] Try.func54 rfl rfl ⟨rfl, rfl, rfl, trivial⟩ ?_
 have hM := hL.mem
 refine k_seq (k_region (r_box hM rfl rfl ?_))
 intro b3 w1 hM2 hb3
 replace hM2 : Mem w (keys (TabH n tg ta rg ra g a)) w1 ((b3, .cells (#[Value.slice (some ⟨tg, 0, none⟩) n n, Value.slice (some ⟨ta, 0, none⟩) n n]) 94 (0, 0)) :: (tg, .cells (topC n n rg) tInts (0, 0)) :: (ta, .cells (topC n n ra) tBools (0, 0)) :: (tabL tInt (.int .i64) n n rg g ++ tabL tBool .bool n n ra a)) := hM2
 refine r_nil (e_then (k_seq (k_region (sqV (.pointer (some ⟨b3, 0, none⟩)) rfl rfl rfl ?_))))
 refine sqV (.slice (some ⟨tg, 0, none⟩) n n) rfl rfl (x_load (hM2.cell 0 rfl rfl) rfl rfl) ?_
 refine sqV (.int .i64 (n : Int)) rfl rfl (x_len rfl rfl) ?_
 refine sqV (.int .i64 0) rfl rfl rfl ?_
 refine r_nil (e_then (k_block (k_loop (σ := Nat) (fun k => [(1, .int .i64 (x : Int)), (2, .int .i64 (y : Int)), (3, .pointer (some ⟨b3, 0, none⟩)), (11, .int .i64 (n : Int)), (12, .int .i64 (k : Int))]) (fun k w_ => Mem w (keys (TabH n tg ta rg ra g a)) w_ ((b3, .cells (#[.slice (some ⟨tg, 0, none⟩) n n, .slice (some ⟨ta, 0, none⟩) n n]) 94 (0, 0)) :: (tg, .cells (topC n n rg) tInts (0, 0)) :: (ta, .cells (topC n n ra) tBools (0, 0)) :: (tabL tInt (.int .i64) n n rg (mgG x y g k) ++ tabL tBool .bool n n ra (mgA x y a k))) ∧ k ≤ n) (fun k => n - k) 0 (sqS rfl) ⟨hM2, Nat.zero_le _⟩ ?_)))
 rintro k w4 ⟨hM5, hk⟩
 refine sqK [(1, .int .i64 (x : Int)), (2, .int .i64 (y : Int)), (3, .pointer (some ⟨b3, 0, none⟩)), (11, .int .i64 (n : Int)), (12, .int .i64 (k : Int))] rfl (k_seq (k_region (sqV (.bool (decide ((k : Int) < (n : Int)))) rfl rfl rfl ?_)))
 refine r_nil (e_then (k_seq ?_))
 refine k_cond rfl rfl (fun h => ?_) (fun h => ?_)
 ·try simp only [sqC] at h
  refine k_skip (e_then (k_seq (k_block (k_seq (k_region (sqV (.int .i64 (k : Int)) rfl rfl rfl ?_))))))
  refine sqV (.int .i64 (k : Int)) rfl rfl rfl ?_
  refine r_nil (sqE [(1, .int .i64 (x : Int)), (2, .int .i64 (y : Int)), (3, .pointer (some ⟨b3, 0, none⟩)), (6, .int .i64 (k : Int)), (11, .int .i64 (n : Int)), (12, .int .i64 (k : Int))] rfl (e_then (k_seq ?_)))
  refine k_draw mixed [0, 1, 0, 7, 15, 0, 63, 127, 0, 256, 0, 1792, 3840, 0, 16128, 32512, 65535, 131071] [some (Value.pointer (some ⟨b3, 0, none⟩)), some (Value.slice (some ⟨tg, 0, none⟩) n n), some (Value.int .i64 (x : Int)), some (Value.pointer (some ⟨tg, x, none⟩)), some (Value.slice (some ⟨rg x, 0, none⟩) n n), some (Value.int .i64 (k : Int)), some (Value.pointer (some ⟨rg x, k, none⟩)), some (Value.int .i64 ((mgG x y g k) x k)), some (Value.pointer (some ⟨b3, 0, none⟩)), some (Value.slice (some ⟨tg, 0, none⟩) n n), some (Value.int .i64 (y : Int)), some (Value.pointer (some ⟨tg, y, none⟩)), some (Value.slice (some ⟨rg y, 0, none⟩) n n), some (Value.int .i64 (k : Int)), some (Value.pointer (some ⟨rg y, k, none⟩)), some (Value.int .i64 ((mgG x y g k) y k)), some (Value.int .i64 (min ((mgG x y g k) x k) ((mgG x y g k) y k))), some (Value.int .i64 (min ((mgG x y g k) x k) ((mgG x y g k) y k)))] (by kernel_rfl) (fun D V w_ => Mem w (keys (TabH n tg ta rg ra g a)) w_ ((b3, .cells (#[Value.slice (some ⟨tg, 0, none⟩) n n, Value.slice (some ⟨ta, 0, none⟩) n n]) 94 (0, 0)) :: (tg, .cells (topC n n rg) tInts (0, 0)) :: (ta, .cells (topC n n ra) tBools (0, 0)) :: (tabL tInt (.int .i64) n n rg (mgG x y g k) ++ tabL tBool .bool n n ra (mgA x y a k)))) (fun V => hM5.drew) ?_ ?_
  ·refine ⟨?_, ?_, ?_, ?_, ?_, ?_, ?_, ?_, ?_, ?_, ?_, ?_, ?_, ?_, ?_, ?_, ?_, ?_, trivial⟩
   ·intro D V w_ hd hi hM_
    refine sqG [(3, .pointer (some ⟨b3, 0, none⟩))] rfl rfl rfl ?_
    exact run_val (.pointer (some ⟨b3, 0, none⟩)) (rfl) ⟨sqT, hM_⟩
   ·intro D V w_ hd hi hM_
    refine sqG [(15, .pointer (some ⟨b3, 0, none⟩))] rfl rfl rfl ?_
    exact run_val (.slice (some ⟨tg, 0, none⟩) n n) (x_load (hM_.cell 0 rfl rfl) rfl rfl) ⟨sqT, hM_⟩
   ·intro D V w_ hd hi hM_
    refine sqG [(1, .int .i64 (x : Int))] rfl rfl rfl ?_
    exact run_val (.int .i64 (x : Int)) (rfl) ⟨sqT, hM_⟩
   ·intro D V w_ hd hi hM_
    refine sqG [(16, .slice (some ⟨tg, 0, none⟩) n n), (17, .int .i64 (x : Int))] rfl rfl rfl ?_
    exact run_val (.pointer (some ⟨tg, x, none⟩)) (x_indexAddrL (i := x) (sz := 1) (by omega) rfl rfl rfl rfl (by omega)) ⟨sqT, hM_⟩
   ·intro D V w_ hd hi hM_
    refine sqG [(18, .pointer (some ⟨tg, x, none⟩))] rfl rfl rfl ?_
    exact run_val (.slice (some ⟨rg x, 0, none⟩) n n) (x_load (hM_.cell 1 rfl (topC_get (by omega) (by omega))) rfl rfl) ⟨sqT, hM_⟩
   ·intro D V w_ hd hi hM_
    refine sqG [(6, .int .i64 (k : Int))] rfl rfl rfl ?_
    exact run_val (.int .i64 (k : Int)) (rfl) ⟨sqT, hM_⟩
   ·intro D V w_ hd hi hM_
    refine sqG [(19, .slice (some ⟨rg x, 0, none⟩) n n), (20, .int .i64 (k : Int))] rfl rfl rfl ?_
    exact run_val (.pointer (some ⟨rg x, k, none⟩)) (x_indexAddrL (i := k) (sz := 1) (by omega) rfl rfl rfl rfl (by omega)) ⟨sqT, hM_⟩
   ·intro D V w_ hd hi hM_
    refine sqG [(21, .pointer (some ⟨rg x, k, none⟩))] rfl rfl rfl ?_
    exact run_val (.int .i64 ((mgG x y g k) x k)) (x_load (hM_.tcell (n := n) (enc := .int .i64) (g := (mgG x y g k)) (ty := tInt) (i := x) (List.mem_cons_of_mem _ (List.mem_cons_of_mem _ (List.mem_cons_of_mem _ (List.mem_append_left _ (tabL_mem (by omega)))))) (by omega)) rfl rfl) ⟨sqT, hM_⟩
   ·intro D V w_ hd hi hM_
    refine sqG [(3, .pointer (some ⟨b3, 0, none⟩))] rfl rfl rfl ?_
    exact run_val (.pointer (some ⟨b3, 0, none⟩)) (rfl) ⟨sqT, hM_⟩
   ·intro D V w_ hd hi hM_
    refine sqG [(23, .pointer (some ⟨b3, 0, none⟩))] rfl rfl rfl ?_
    exact run_val (.slice (some ⟨tg, 0, none⟩) n n) (x_load (hM_.cell 0 rfl rfl) rfl rfl) ⟨sqT, hM_⟩
   ·intro D V w_ hd hi hM_
    refine sqG [(2, .int .i64 (y : Int))] rfl rfl rfl ?_
    exact run_val (.int .i64 (y : Int)) (rfl) ⟨sqT, hM_⟩
   ·intro D V w_ hd hi hM_
    refine sqG [(24, .slice (some ⟨tg, 0, none⟩) n n), (25, .int .i64 (y : Int))] rfl rfl rfl ?_
    exact run_val (.pointer (some ⟨tg, y, none⟩)) (x_indexAddrL (i := y) (sz := 1) (by omega) rfl rfl rfl rfl (by omega)) ⟨sqT, hM_⟩
   ·intro D V w_ hd hi hM_
    refine sqG [(26, .pointer (some ⟨tg, y, none⟩))] rfl rfl rfl ?_
    exact run_val (.slice (some ⟨rg y, 0, none⟩) n n) (x_load (hM_.cell 1 rfl (topC_get (by omega) (by omega))) rfl rfl) ⟨sqT, hM_⟩
   ·intro D V w_ hd hi hM_
    refine sqG [(6, .int .i64 (k : Int))] rfl rfl rfl ?_
    exact run_val (.int .i64 (k : Int)) (rfl) ⟨sqT, hM_⟩
   ·intro D V w_ hd hi hM_
    refine sqG [(27, .slice (some ⟨rg y, 0, none⟩) n n), (28, .int .i64 (k : Int))] rfl rfl rfl ?_
    exact run_val (.pointer (some ⟨rg y, k, none⟩)) (x_indexAddrL (i := k) (sz := 1) (by omega) rfl rfl rfl rfl (by omega)) ⟨sqT, hM_⟩
   ·intro D V w_ hd hi hM_
    refine sqG [(29, .pointer (some ⟨rg y, k, none⟩))] rfl rfl rfl ?_
    exact run_val (.int .i64 ((mgG x y g k) y k)) (x_load (hM_.tcell (n := n) (enc := .int .i64) (g := (mgG x y g k)) (ty := tInt) (i := y) (List.mem_cons_of_mem _ (List.mem_cons_of_mem _ (List.mem_cons_of_mem _ (List.mem_append_left _ (tabL_mem (by omega)))))) (by omega)) rfl rfl) ⟨sqT, hM_⟩
   ·intro D V w_ hd hi hM_
    refine sqG [(22, .int .i64 ((mgG x y g k) x k)), (30, .int .i64 ((mgG x y g k) y k))] rfl rfl rfl ?_
    exact run_val (Value.int .i64 (min ((mgG x y g k) x k) ((mgG x y g k) y k))) (x_min rfl rfl) ⟨sqT, hM_⟩
   ·intro D V w_ hd hi hM_
    refine sqG [(31, .int .i64 (min ((mgG x y g k) x k) ((mgG x y g k) y k)))] rfl rfl rfl ?_
    exact run_val (Value.int .i64 (min ((mgG x y g k) x k) ((mgG x y g k) y k))) (rfl) ⟨sqT, hM_⟩
  intro D V w6 hall hM7
  refine e_then (k_seq ?_)
  refine k_drawL mixed [0, 1, 0, 7, 15, 0, 0, 64, 0, 448, 960, 0, 0, 0, 6143, 22527, 65535, 131071] [some (Value.pointer (some ⟨b3, 0, none⟩)), some (Value.slice (some ⟨tg, 0, none⟩) n n), some (Value.int .i64 (x : Int)), some (Value.pointer (some ⟨tg, x, none⟩)), some (Value.slice (some ⟨rg x, 0, none⟩) n n), some (Value.int .i64 (k : Int)), some (Value.pointer (some ⟨b3, 0, none⟩)), some (Value.slice (some ⟨tg, 0, none⟩) n n), some (Value.int .i64 (k : Int)), some (Value.pointer (some ⟨tg, k, none⟩)), some (Value.slice (some ⟨rg k, 0, none⟩) n n), some (Value.int .i64 (x : Int)), some (Value.int .i64 (min ((mgG x y g k) x k) ((mgG x y g k) y k))), some (Value.int .i64 (min ((mgG x y g k) x k) ((mgG x y g k) y k))), some (Value.pointer (some ⟨rg x, k, none⟩)), some (undef), some (Value.pointer (some ⟨rg k, x, none⟩)), some (undef)] (by kernel_rfl) 17 rfl (by kernel_rfl) (fun D V w_ => Mem w (keys (TabH n tg ta rg ra g a)) w_ ((b3, .cells (#[Value.slice (some ⟨tg, 0, none⟩) n n, Value.slice (some ⟨ta, 0, none⟩) n n]) 94 (0, 0)) :: (tg, .cells (topC n n rg) tInts (0, 0)) :: (ta, .cells (topC n n ra) tBools (0, 0)) :: (tabL tInt (.int .i64) n n rg (condU (D 15) x k (min (mgG x y g k x k) (mgG x y g k y k)) (mgG x y g k)) ++ tabL tBool .bool n n ra (mgA x y a k)))) (fun V w_ => Mem w (keys (TabH n tg ta rg ra g a)) w_ ((b3, .cells (#[Value.slice (some ⟨tg, 0, none⟩) n n, Value.slice (some ⟨ta, 0, none⟩) n n]) 94 (0, 0)) :: (tg, .cells (topC n n rg) tInts (0, 0)) :: (ta, .cells (topC n n ra) tBools (0, 0)) :: (tabL tInt (.int .i64) n n rg (upd2 (upd2 (mgG x y g k) x k (min (mgG x y g k x k) (mgG x y g k y k))) k x (min (mgG x y g k x k) (mgG x y g k y k))) ++ tabL tBool .bool n n ra (mgA x y a k)))) (fun V => hM7.drew) ?_ ?_
  ·refine ⟨?_, ?_, ?_, ?_, ?_, ?_, ?_, ?_, ?_, ?_, ?_, ?_, ?_, ?_, ?_, ?_, ?_, ?_, trivial⟩
   ·intro D V w_ hd hi hM_
    refine sqG [(3, .pointer (some ⟨b3, 0, none⟩))] rfl rfl rfl ?_
    exact run_val (.pointer (some ⟨b3, 0, none⟩)) (rfl) ⟨sqT, hM_⟩
   ·intro D V w_ hd hi hM_
    refine sqG [(32, .pointer (some ⟨b3, 0, none⟩))] rfl rfl rfl ?_
    exact run_val (.slice (some ⟨tg, 0, none⟩) n n) (x_load (hM_.cell 0 rfl rfl) rfl rfl) ⟨sqT, hM_⟩
   ·intro D V w_ hd hi hM_
    refine sqG [(1, .int .i64 (x : Int))] rfl rfl rfl ?_
    exact run_val (.int .i64 (x : Int)) (rfl) ⟨sqT, hM_⟩
   ·intro D V w_ hd hi hM_
    refine sqG [(33, .slice (some ⟨tg, 0, none⟩) n n), (34, .int .i64 (x : Int))] rfl rfl rfl ?_
    exact run_val (.pointer (some ⟨tg, x, none⟩)) (x_indexAddrL (i := x) (sz := 1) (by omega) rfl rfl rfl rfl (by omega)) ⟨sqT, hM_⟩
   ·intro D V w_ hd hi hM_
    refine sqG [(35, .pointer (some ⟨tg, x, none⟩))] rfl rfl rfl ?_
    exact run_val (.slice (some ⟨rg x, 0, none⟩) n n) (x_load (hM_.cell 1 rfl (topC_get (by omega) (by omega))) rfl rfl) ⟨sqT, hM_⟩
   ·intro D V w_ hd hi hM_
    refine sqG [(6, .int .i64 (k : Int))] rfl rfl rfl ?_
    exact run_val (.int .i64 (k : Int)) (rfl) ⟨sqT, hM_⟩
   ·intro D V w_ hd hi hM_
    refine sqG [(3, .pointer (some ⟨b3, 0, none⟩))] rfl rfl rfl ?_
    exact run_val (.pointer (some ⟨b3, 0, none⟩)) (rfl) ⟨sqT, hM_⟩
   ·intro D V w_ hd hi hM_
    refine sqG [(38, .pointer (some ⟨b3, 0, none⟩))] rfl rfl rfl ?_
    exact run_val (.slice (some ⟨tg, 0, none⟩) n n) (x_load (hM_.cell 0 rfl rfl) rfl rfl) ⟨sqT, hM_⟩
   ·intro D V w_ hd hi hM_
    refine sqG [(6, .int .i64 (k : Int))] rfl rfl rfl ?_
    exact run_val (.int .i64 (k : Int)) (rfl) ⟨sqT, hM_⟩
   ·intro D V w_ hd hi hM_
    refine sqG [(39, .slice (some ⟨tg, 0, none⟩) n n), (40, .int .i64 (k : Int))] rfl rfl rfl ?_
    exact run_val (.pointer (some ⟨tg, k, none⟩)) (x_indexAddrL (i := k) (sz := 1) (by omega) rfl rfl rfl rfl (by omega)) ⟨sqT, hM_⟩
   ·intro D V w_ hd hi hM_
    refine sqG [(41, .pointer (some ⟨tg, k, none⟩))] rfl rfl rfl ?_
    exact run_val (.slice (some ⟨rg k, 0, none⟩) n n) (x_load (hM_.cell 1 rfl (topC_get (by omega) (by omega))) rfl rfl) ⟨sqT, hM_⟩
   ·intro D V w_ hd hi hM_
    refine sqG [(1, .int .i64 (x : Int))] rfl rfl rfl ?_
    exact run_val (.int .i64 (x : Int)) (rfl) ⟨sqT, hM_⟩
   ·intro D V w_ hd hi hM_
    refine sqG [(7, .int .i64 (min ((mgG x y g k) x k) ((mgG x y g k) y k)))] rfl rfl rfl ?_
    exact run_val (Value.int .i64 (min ((mgG x y g k) x k) ((mgG x y g k) y k))) (rfl) ⟨sqT, hM_⟩
   ·intro D V w_ hd hi hM_
    refine sqG [(7, .int .i64 (min ((mgG x y g k) x k) ((mgG x y g k) y k)))] rfl rfl rfl ?_
    exact run_val (Value.int .i64 (min ((mgG x y g k) x k) ((mgG x y g k) y k))) (rfl) ⟨sqT, hM_⟩
   ·intro D V w_ hd hi hM_
    refine sqG [(36, .slice (some ⟨rg x, 0, none⟩) n n), (37, .int .i64 (k : Int))] rfl rfl rfl ?_
    exact run_val (.pointer (some ⟨rg x, k, none⟩)) (x_indexAddrL (i := k) (sz := 1) (by omega) rfl rfl rfl rfl (by omega)) ⟨sqT, hM_⟩
   ·intro D V w_ hd hi hM_
    refine sqG [(44, .int .i64 (min ((mgG x y g k) x k) ((mgG x y g k) y k))), (46, .pointer (some ⟨rg x, k, none⟩))] rfl rfl rfl ?_
    rw [show D 15 = false from hi] at hM_
    exact o_storeT ([(b3, .cells (#[Value.slice (some ⟨tg, 0, none⟩) n n, Value.slice (some ⟨ta, 0, none⟩) n n]) 94 (0, 0)), (tg, .cells (topC n n rg) tInts (0, 0)), (ta, .cells (topC n n ra) tBools (0, 0))] : Hp) hM_ (by omega) (by omega) rfl rfl rfl rfl (fun w' h => ⟨sqT, h⟩)
   ·intro D V w_ hd hi hM_
    refine sqG [(42, .slice (some ⟨rg k, 0, none⟩) n n), (43, .int .i64 (x : Int))] rfl rfl rfl ?_
    exact run_val (.pointer (some ⟨rg k, x, none⟩)) (x_indexAddrL (i := x) (sz := 1) (by omega) rfl rfl rfl rfl (by omega)) ⟨sqT, hM_⟩
   ·intro D V w_ hd hi hM_
    refine sqG [(45, .int .i64 (min ((mgG x y g k) x k) ((mgG x y g k) y k))), (47, .pointer (some ⟨rg k, x, none⟩))] rfl rfl rfl ?_
    rw [hd 15 rfl] at hM_
    exact o_storeT ([(b3, .cells (#[Value.slice (some ⟨tg, 0, none⟩) n n, Value.slice (some ⟨ta, 0, none⟩) n n]) 94 (0, 0)), (tg, .cells (topC n n rg) tInts (0, 0)), (ta, .cells (topC n n ra) tBools (0, 0))] : Hp) hM_ (by omega) (by omega) rfl rfl rfl rfl (fun w' h => ⟨sqT, h⟩)
  intro V w12 hM13
  refine e_then (k_seq (k_region (sqV (.pointer (some ⟨b3, 1, none⟩)) rfl rfl rfl ?_)))
  refine sqV (.slice (some ⟨ta, 0, none⟩) n n) rfl rfl (x_load (hM13.cell 0 rfl rfl) rfl rfl) ?_
  refine sqV (.int .i64 (x : Int)) rfl rfl rfl ?_
  refine sqV (.pointer (some ⟨ta, x, none⟩)) rfl rfl (x_indexAddrL (i := x) (sz := 1) (by omega) rfl rfl rfl rfl (by omega)) ?_
  refine sqV (.slice (some ⟨ra x, 0, none⟩) n n) rfl rfl (x_load (hM13.cell 2 rfl (topC_get (by omega) (by omega))) rfl rfl) ?_
  refine sqV (.int .i64 (k : Int)) rfl rfl rfl ?_
  refine sqV (.pointer (some ⟨ra x, k, none⟩)) rfl rfl (x_indexAddrL (i := k) (sz := 1) (by omega) rfl rfl rfl rfl (by omega)) ?_
  refine sqV (.bool ((mgA x y a k) x k)) rfl rfl (x_load (hM13.tcell (n := n) (enc := .bool) (g := (mgA x y a k)) (ty := tBool) (i := x) (List.mem_cons_of_mem _ (List.mem_cons_of_mem _ (List.mem_cons_of_mem _ (List.mem_append_right _ (tabL_mem (by omega)))))) (by omega)) rfl rfl) ?_
  refine sqV (.bool ((mgA x y a k) x k)) rfl rfl rfl ?_
  rcases Bool.eq_false_or_eq_true ((mgA x y a k) x k) with g1 | g1
  ·refine wpR_sub [(1, Value.int .i64 (x : Int)), (2, Value.int .i64 (y : Int)), (3, Value.pointer (some ⟨b3, 0, none⟩)), (6, Value.int .i64 (k : Int)), (11, Value.int .i64 (n : Int)), (12, Value.int .i64 (k : Int)), (56, Value.bool true)] ⟨rfl, rfl, rfl, rfl, rfl, rfl, congrArg (fun z => some (Value.bool z)) g1, trivial⟩ ?_
   refine r_no rfl rfl (by decide) rfl ?_
   refine r_no rfl rfl (by decide) rfl ?_
   refine r_no rfl rfl (by decide) rfl ?_
   refine r_no rfl rfl (by decide) rfl ?_
   refine r_no rfl rfl (by decide) rfl ?_
   refine r_no rfl rfl (by decide) rfl ?_
   refine r_no rfl rfl (by decide) rfl ?_
   refine r_no rfl rfl (by decide) rfl ?_
   refine sqV (.bool true) rfl rfl rfl ?_
   refine sqV (.bool true) rfl rfl rfl ?_
   refine r_nil (e_then ?_)
   refine k_drawL mixed [0, 1, 0, 7, 15, 0, 0, 64, 0, 448, 960, 0, 0, 0, 6143, 22527, 65535, 131071] [some (Value.pointer (some ⟨b3, 1, none⟩)), some (Value.slice (some ⟨ta, 0, none⟩) n n), some (Value.int .i64 (x : Int)), some (Value.pointer (some ⟨ta, x, none⟩)), some (Value.slice (some ⟨ra x, 0, none⟩) n n), some (Value.int .i64 (k : Int)), some (Value.pointer (some ⟨b3, 1, none⟩)), some (Value.slice (some ⟨ta, 0, none⟩) n n), some (Value.int .i64 (k : Int)), some (Value.pointer (some ⟨ta, k, none⟩)), some (Value.slice (some ⟨ra k, 0, none⟩) n n), some (Value.int .i64 (x : Int)), some (Value.bool true), some (Value.bool true), some (Value.pointer (some ⟨ra x, k, none⟩)), some (undef), some (Value.pointer (some ⟨ra k, x, none⟩)), some (undef)] (by kernel_rfl) 17 rfl (by kernel_rfl) (fun D V w_ => Mem w (keys (TabH n tg ta rg ra g a)) w_ ((b3, .cells (#[Value.slice (some ⟨tg, 0, none⟩) n n, Value.slice (some ⟨ta, 0, none⟩) n n]) 94 (0, 0)) :: (tg, .cells (topC n n rg) tInts (0, 0)) :: (ta, .cells (topC n n ra) tBools (0, 0)) :: (tabL tInt (.int .i64) n n rg (upd2 (upd2 (mgG x y g k) x k (min (mgG x y g k x k) (mgG x y g k y k))) k x (min (mgG x y g k x k) (mgG x y g k y k))) ++ tabL tBool .bool n n ra (condU (D 15) x k true (mgA x y a k))))) (fun V w_ => Mem w (keys (TabH n tg ta rg ra g a)) w_ ((b3, .cells (#[Value.slice (some ⟨tg, 0, none⟩) n n, Value.slice (some ⟨ta, 0, none⟩) n n]) 94 (0, 0)) :: (tg, .cells (topC n n rg) tInts (0, 0)) :: (ta, .cells (topC n n ra) tBools (0, 0)) :: (tabL tInt (.int .i64) n n rg (upd2 (upd2 (mgG x y g k) x k (min (mgG x y g k x k) (mgG x y g k y k))) k x (min (mgG x y g k x k) (mgG x y g k y k))) ++ tabL tBool .bool n n ra (upd2 (upd2 (mgA x y a k) x k true) k x true)))) (fun V => hM13.drew) ?_ ?_
   ·refine ⟨?_, ?_, ?_, ?_, ?_, ?_, ?_, ?_, ?_, ?_, ?_, ?_, ?_, ?_, ?_, ?_, ?_, ?_, trivial⟩
    ·intro D V w_ hd hi hM_
     refine sqG [(3, .pointer (some ⟨b3, 0, none⟩))] rfl rfl rfl ?_
     exact run_val (.pointer (some ⟨b3, 1, none⟩)) (rfl) ⟨sqT, hM_⟩
    ·intro D V w_ hd hi hM_
     refine sqG [(66, .pointer (some ⟨b3, 1, none⟩))] rfl rfl rfl ?_
     exact run_val (.slice (some ⟨ta, 0, none⟩) n n) (x_load (hM_.cell 0 rfl rfl) rfl rfl) ⟨sqT, hM_⟩
    ·intro D V w_ hd hi hM_
     refine sqG [(1, .int .i64 (x : Int))] rfl rfl rfl ?_
     exact run_val (.int .i64 (x : Int)) (rfl) ⟨sqT, hM_⟩
    ·intro D V w_ hd hi hM_
     refine sqG [(67, .slice (some ⟨ta, 0, none⟩) n n), (68, .int .i64 (x : Int))] rfl rfl rfl ?_
     exact run_val (.pointer (some ⟨ta, x, none⟩)) (x_indexAddrL (i := x) (sz := 1) (by omega) rfl rfl rfl rfl (by omega)) ⟨sqT, hM_⟩
    ·intro D V w_ hd hi hM_
     refine sqG [(69, .pointer (some ⟨ta, x, none⟩))] rfl rfl rfl ?_
     exact run_val (.slice (some ⟨ra x, 0, none⟩) n n) (x_load (hM_.cell 2 rfl (topC_get (by omega) (by omega))) rfl rfl) ⟨sqT, hM_⟩
    ·intro D V w_ hd hi hM_
     refine sqG [(6, .int .i64 (k : Int))] rfl rfl rfl ?_
     exact run_val (.int .i64 (k : Int)) (rfl) ⟨sqT, hM_⟩
    ·intro D V w_ hd hi hM_
     refine sqG [(3, .pointer (some ⟨b3, 0, none⟩))] rfl rfl rfl ?_
     exact run_val (.pointer (some ⟨b3, 1, none⟩)) (rfl) ⟨sqT, hM_⟩
    ·intro D V w_ hd hi hM_
     refine sqG [(72, .pointer (some ⟨b3, 1, none⟩))] rfl rfl rfl ?_
     exact run_val (.slice (some ⟨ta, 0, none⟩) n n) (x_load (hM_.cell 0 rfl rfl) rfl rfl) ⟨sqT, hM_⟩
    ·intro D V w_ hd hi hM_
     refine sqG [(6, .int .i64 (k : Int))] rfl rfl rfl ?_
     exact run_val (.int .i64 (k : Int)) (rfl) ⟨sqT, hM_⟩
    ·intro D V w_ hd hi hM_
     refine sqG [(73, .slice (some ⟨ta, 0, none⟩) n n), (74, .int .i64 (k : Int))] rfl rfl rfl ?_
     exact run_val (.pointer (some ⟨ta, k, none⟩)) (x_indexAddrL (i := k) (sz := 1) (by omega) rfl rfl rfl rfl (by omega)) ⟨sqT, hM_⟩
    ·intro D V w_ hd hi hM_
     refine sqG [(75, .pointer (some ⟨ta, k, none⟩))] rfl rfl rfl ?_
     exact run_val (.slice (some ⟨ra k, 0, none⟩) n n) (x_load (hM_.cell 2 rfl (topC_get (by omega) (by omega))) rfl rfl) ⟨sqT, hM_⟩
    ·intro D V w_ hd hi hM_
     refine sqG [(1, .int .i64 (x : Int))] rfl rfl rfl ?_
     exact run_val (.int .i64 (x : Int)) (rfl) ⟨sqT, hM_⟩
    ·intro D V w_ hd hi hM_
     refine sqG [(8, .bool true)] rfl rfl rfl ?_
     exact run_val (.bool true) (rfl) ⟨sqT, hM_⟩
    ·intro D V w_ hd hi hM_
     refine sqG [(8, .bool true)] rfl rfl rfl ?_
     exact run_val (.bool true) (rfl) ⟨sqT, hM_⟩
    ·intro D V w_ hd hi hM_
     refine sqG [(70, .slice (some ⟨ra x, 0, none⟩) n n), (71, .int .i64 (k : Int))] rfl rfl rfl ?_
     exact run_val (.pointer (some ⟨ra x, k, none⟩)) (x_indexAddrL (i := k) (sz := 1) (by omega) rfl rfl rfl rfl (by omega)) ⟨sqT, hM_⟩
    ·intro D V w_ hd hi hM_
     refine sqG [(78, .bool true), (80, .pointer (some ⟨ra x, k, none⟩))] rfl rfl rfl ?_
     rw [show D 15 = false from hi] at hM_
     exact o_storeT2 ([(b3, .cells (#[Value.slice (some ⟨tg, 0, none⟩) n n, Value.slice (some ⟨ta, 0, none⟩) n n]) 94 (0, 0)), (tg, .cells (topC n n rg) tInts (0, 0)), (ta, .cells (topC n n ra) tBools (0, 0))] : Hp) hM_ (by omega) (by omega) rfl rfl rfl rfl (fun w' h => ⟨sqT, h⟩)
    ·intro D V w_ hd hi hM_
     refine sqG [(76, .slice (some ⟨ra k, 0, none⟩) n n), (77, .int .i64 (x : Int))] rfl rfl rfl ?_
     exact run_val (.pointer (some ⟨ra k, x, none⟩)) (x_indexAddrL (i := x) (sz := 1) (by omega) rfl rfl rfl rfl (by omega)) ⟨sqT, hM_⟩
    ·intro D V w_ hd hi hM_
     refine sqG [(79, .bool true), (81, .pointer (some ⟨ra k, x, none⟩))] rfl rfl rfl ?_
     rw [hd 15 rfl] at hM_
     exact o_storeT2 ([(b3, .cells (#[Value.slice (some ⟨tg, 0, none⟩) n n, Value.slice (some ⟨ta, 0, none⟩) n n]) 94 (0, 0)), (tg, .cells (topC n n rg) tInts (0, 0)), (ta, .cells (topC n n ra) tBools (0, 0))] : Hp) hM_ (by omega) (by omega) rfl rfl rfl rfl (fun w' h => ⟨sqT, h⟩)
   intro V w19 hM20
   refine sqE [(1, .int .i64 (x : Int)), (2, .int .i64 (y : Int)), (3, .pointer (some ⟨b3, 0, none⟩)), (11, .int .i64 (n : Int)), (12, .int .i64 (k : Int))] rfl (e_blk (e_then (k_region (sqV (.int .i64 ((k : Int) + 1)) rfl rfl (x_addE rfl (by omega) (by omega) rfl rfl) ?_))))
   refine sqV (.int .i64 ((k : Int) + 1)) rfl rfl rfl ?_
   refine r_nil ?_
   refine e_loop (k + 1) (sqS rfl) ?_ ?_
   ·exact ⟨by rw [mgA_true g1]; exact hM20, by omega⟩
   ·(try dsimp only); omega
  ·refine wpR_sub [(1, Value.int .i64 (x : Int)), (2, Value.int .i64 (y : Int)), (3, Value.pointer (some ⟨b3, 0, none⟩)), (6, Value.int .i64 (k : Int)), (11, Value.int .i64 (n : Int)), (12, Value.int .i64 (k : Int)), (56, Value.bool false)] ⟨rfl, rfl, rfl, rfl, rfl, rfl, congrArg (fun z => some (Value.bool z)) g1, trivial⟩ ?_
   refine r_yes rfl rfl ?_
   refine sqV (.pointer (some ⟨b3, 1, none⟩)) rfl rfl rfl ?_
   refine r_yes rfl rfl ?_
   refine sqV (.slice (some ⟨ta, 0, none⟩) n n) rfl rfl (x_load (hM13.cell 0 rfl rfl) rfl rfl) ?_
   refine r_yes rfl rfl ?_
   refine sqV (.int .i64 (y : Int)) rfl rfl rfl ?_
   refine r_yes rfl rfl ?_
   refine sqV (.pointer (some ⟨ta, y, none⟩)) rfl rfl (x_indexAddrL (i := y) (sz := 1) (by omega) rfl rfl rfl rfl (by omega)) ?_
   refine r_yes rfl rfl ?_
   refine sqV (.slice (some ⟨ra y, 0, none⟩) n n) rfl rfl (x_load (hM13.cell 2 rfl (topC_get (by omega) (by omega))) rfl rfl) ?_
   refine r_yes rfl rfl ?_
   refine sqV (.int .i64 (k : Int)) rfl rfl rfl ?_
   refine r_yes rfl rfl ?_
   refine sqV (.pointer (some ⟨ra y, k, none⟩)) rfl rfl (x_indexAddrL (i := k) (sz := 1) (by omega) rfl rfl rfl rfl (by omega)) ?_
   refine r_yes rfl rfl ?_
   refine sqV (.bool ((mgA x y a k) y k)) rfl rfl (x_load (hM13.tcell (n := n) (enc := .bool) (g := (mgA x y a k)) (ty := tBool) (i := y) (List.mem_cons_of_mem _ (List.mem_cons_of_mem _ (List.mem_cons_of_mem _ (List.mem_append_right _ (tabL_mem (by omega)))))) (by omega)) rfl rfl) ?_
   refine sqV (.bool ((mgA x y a k) y k)) rfl rfl rfl ?_
   refine sqV (.bool ((mgA x y a k) y k)) rfl rfl rfl ?_
   refine r_nil (e_then ?_)
   refine k_drawL mixed [0, 1, 0, 7, 15, 0, 0, 64, 0, 448, 960, 0, 0, 0, 6143, 22527, 65535, 131071] [some (Value.pointer (some ⟨b3, 1, none⟩)), some (Value.slice (some ⟨ta, 0, none⟩) n n), some (Value.int .i64 (x : Int)), some (Value.pointer (some ⟨ta, x, none⟩)), some (Value.slice (some ⟨ra x, 0, none⟩) n n), some (Value.int .i64 (k : Int)), some (Value.pointer (some ⟨b3, 1, none⟩)), some (Value.slice (some ⟨ta, 0, none⟩) n n), some (Value.int .i64 (k : Int)), some (Value.pointer (some ⟨ta, k, none⟩)), some (Value.slice (some ⟨ra k, 0, none⟩) n n), some (Value.int .i64 (x : Int)), some (Value.bool ((mgA x y a k) y k)), some (Value.bool ((mgA x y a k) y k)), some (Value.pointer (some ⟨ra x, k, none⟩)), some (undef), some (Value.pointer (some ⟨ra k, x, none⟩)), some (undef)] (by kernel_rfl) 17 rfl (by kernel_rfl) (fun D V w_ => Mem w (keys (TabH n tg ta rg ra g a)) w_ ((b3, .cells (#[Value.slice (some ⟨tg, 0, none⟩) n n, Value.slice (some ⟨ta, 0, none⟩) n n]) 94 (0, 0)) :: (tg, .cells (topC n n rg) tInts (0, 0)) :: (ta, .cells (topC n n ra) tBools (0, 0)) :: (tabL tInt (.int .i64) n n rg (upd2 (upd2 (mgG x y g k) x k (min (mgG x y g k x k) (mgG x y g k y k))) k x (min (mgG x y g k x k) (mgG x y g k y k))) ++ tabL tBool .bool n n ra (condU (D 15) x k (mgA x y a k y k) (mgA x y a k))))) (fun V w_ => Mem w (keys (TabH n tg ta rg ra g a)) w_ ((b3, .cells (#[Value.slice (some ⟨tg, 0, none⟩) n n, Value.slice (some ⟨ta, 0, none⟩) n n]) 94 (0, 0)) :: (tg, .cells (topC n n rg) tInts (0, 0)) :: (ta, .cells (topC n n ra) tBools (0, 0)) :: (tabL tInt (.int .i64) n n rg (upd2 (upd2 (mgG x y g k) x k (min (mgG x y g k x k) (mgG x y g k y k))) k x (min (mgG x y g k x k) (mgG x y g k y k))) ++ tabL tBool .bool n n ra (upd2 (upd2 (mgA x y a k) x k (mgA x y a k y k)) k x (mgA x y a k y k))))) (fun V => hM13.drew) ?_ ?_
   ·refine ⟨?_, ?_, ?_, ?_, ?_, ?_, ?_, ?_, ?_, ?_, ?_, ?_, ?_, ?_, ?_, ?_, ?_, ?_, trivial⟩
    ·intro D V w_ hd hi hM_
     refine sqG [(3, .pointer (some ⟨b3, 0, none⟩))] rfl rfl rfl ?_
     exact run_val (.pointer (some ⟨b3, 1, none⟩)) (rfl) ⟨sqT, hM_⟩
    ·intro D V w_ hd hi hM_
     refine sqG [(66, .pointer (some ⟨b3, 1, none⟩))] rfl rfl rfl ?_
     exact run_val (.slice (some ⟨ta, 0, none⟩) n n) (x_load (hM_.cell 0 rfl rfl) rfl rfl) ⟨sqT, hM_⟩
    ·intro D V w_ hd hi hM_
     refine sqG [(1, .int .i64 (x : Int))] rfl rfl rfl ?_
     exact run_val (.int .i64 (x : Int)) (rfl) ⟨sqT, hM_⟩
    ·intro D V w_ hd hi hM_
     refine sqG [(67, .slice (some ⟨ta, 0, none⟩) n n), (68, .int .i64 (x : Int))] rfl rfl rfl ?_
     exact run_val (.pointer (some ⟨ta, x, none⟩)) (x_indexAddrL (i := x) (sz := 1) (by omega) rfl rfl rfl rfl (by omega)) ⟨sqT, hM_⟩
    ·intro D V w_ hd hi hM_
     refine sqG [(69, .pointer (some ⟨ta, x, none⟩))] rfl rfl rfl ?_
     exact run_val (.slice (some ⟨ra x, 0, none⟩) n n) (x_load (hM_.cell 2 rfl (topC_get (by omega) (by omega))) rfl rfl) ⟨sqT, hM_⟩
    ·intro D V w_ hd hi hM_
     refine sqG [(6, .int .i64 (k : Int))] rfl rfl rfl ?_
     exact run_val (.int .i64 (k : Int)) (rfl) ⟨sqT, hM_⟩
    ·intro D V w_ hd hi hM_
     refine sqG [(3, .pointer (some ⟨b3, 0, none⟩))] rfl rfl rfl ?_
     exact run_val (.pointer (some ⟨b3, 1, none⟩)) (rfl) ⟨sqT, hM_⟩
    ·intro D V w_ hd hi hM_
     refine sqG [(72, .pointer (some ⟨b3, 1, none⟩))] rfl rfl rfl ?_
     exact run_val (.slice (some ⟨ta, 0, none⟩) n n) (x_load (hM_.cell 0 rfl rfl) rfl rfl) ⟨sqT, hM_⟩
    ·intro D V w_ hd hi hM_
     refine sqG [(6, .int .i64 (k : Int))] rfl rfl rfl ?_
     exact run_val (.int .i64 (k : Int)) (rfl) ⟨sqT, hM_⟩
    ·intro D V w_ hd hi hM_
     refine sqG [(73, .slice (some ⟨ta, 0, none⟩) n n), (74, .int .i64 (k : Int))] rfl rfl rfl ?_
     exact run_val (.pointer (some ⟨ta, k, none⟩)) (x_indexAddrL (i := k) (sz := 1) (by omega) rfl rfl rfl rfl (by omega)) ⟨sqT, hM_⟩
    ·intro D V w_ hd hi hM_
     refine sqG [(75, .pointer (some ⟨ta, k, none⟩))] rfl rfl rfl ?_
     exact run_val (.slice (some ⟨ra k, 0, none⟩) n n) (x_load (hM_.cell 2 rfl (topC_get (by omega) (by omega))) rfl rfl) ⟨sqT, hM_⟩
    ·intro D V w_ hd hi hM_
     refine sqG [(1, .int .i64 (x : Int))] rfl rfl rfl ?_
     exact run_val (.int .i64 (x : Int)) (rfl) ⟨sqT, hM_⟩
    ·intro D V w_ hd hi hM_
     refine sqG [(8, .bool ((mgA x y a k) y k))] rfl rfl rfl ?_
     exact run_val (.bool ((mgA x y a k) y k)) (rfl) ⟨sqT, hM_⟩
    ·intro D V w_ hd hi hM_
     refine sqG [(8, .bool ((mgA x y a k) y k))] rfl rfl rfl ?_
     exact run_val (.bool ((mgA x y a k) y k)) (rfl) ⟨sqT, hM_⟩
    ·intro D V w_ hd hi hM_
     refine sqG [(70, .slice (some ⟨ra x, 0, none⟩) n n), (71, .int .i64 (k : Int))] rfl rfl rfl ?_
     exact run_val (.pointer (some ⟨ra x, k, none⟩)) (x_indexAddrL (i := k) (sz := 1) (by omega) rfl rfl rfl rfl (by omega)) ⟨sqT, hM_⟩
    ·intro D V w_ hd hi hM_
     refine sqG [(78, .bool ((mgA x y a k) y k)), (80, .pointer (some ⟨ra x, k, none⟩))] rfl rfl rfl ?_
     rw [show D 15 = false from hi] at hM_
     exact o_storeT2 ([(b3, .cells (#[Value.slice (some ⟨tg, 0, none⟩) n n, Value.slice (some ⟨ta, 0, none⟩) n n]) 94 (0, 0)), (tg, .cells (topC n n rg) tInts (0, 0)), (ta, .cells (topC n n ra) tBools (0, 0))] : Hp) hM_ (by omega) (by omega) rfl rfl rfl rfl (fun w' h => ⟨sqT, h⟩)
    ·intro D V w_ hd hi hM_
     refine sqG [(76, .slice (some ⟨ra k, 0, none⟩) n n), (77, .int .i64 (x : Int))] rfl rfl rfl ?_
     exact run_val (.pointer (some ⟨ra k, x, none⟩)) (x_indexAddrL (i := x) (sz := 1) (by omega) rfl rfl rfl rfl (by omega)) ⟨sqT, hM_⟩
    ·intro D V w_ hd hi hM_
     refine sqG [(79, .bool ((mgA x y a k) y k)), (81, .pointer (some ⟨ra k, x, none⟩))] rfl rfl rfl ?_
     rw [hd 15 rfl] at hM_
     exact o_storeT2 ([(b3, .cells (#[Value.slice (some ⟨tg, 0, none⟩) n n, Value.slice (some ⟨ta, 0, none⟩) n n]) 94 (0, 0)), (tg, .cells (topC n n rg) tInts (0, 0)), (ta, .cells (topC n n ra) tBools (0, 0))] : Hp) hM_ (by omega) (by omega) rfl rfl rfl rfl (fun w' h => ⟨sqT, h⟩)
   intro V w25 hM26
   refine e_blk (e_then (k_region (sqV (.int .i64 ((k : Int) + 1)) rfl rfl (x_addE rfl (by omega) (by omega) rfl rfl) ?_)))
   refine sqV (.int .i64 ((k : Int) + 1)) rfl rfl rfl ?_
   refine r_nil (sqE [(1, .int .i64 (x : Int)), (2, .int .i64 (y : Int)), (3, .pointer (some ⟨b3, 0, none⟩)), (11, .int .i64 (n : Int)), (12, .int .i64 ((k : Int) + 1))] rfl ?_)
   refine e_loop (k + 1) (sqS rfl) ?_ ?_
   ·exact ⟨by rw [mgA_false g1]; exact hM26, by omega⟩
   ·(try dsimp only); omega
 ·try simp only [sqC] at h
  refine k_exit (e_then_exit (e_loop_exit (e_blk_exit ?_)))
  have hkn : k = n := by omega
  refine e_end0 rfl ?_
  exact ⟨_, rfl, rfl, by rw [hkn] at hM5; exact (hM5).tail⟩

theorem nearest_s (n tg ta : Nat) (rg ra : Nat → Nat) (g : Nat → Nat → Int) (a : Nat → Nat → Bool) (Af : Option Addr) (nf cf : Nat) (ks : List Nat) (limit : Int) (w : World) (hL : Kn.Holds w (TabH n tg ta rg ra g a)) (hf : RdE intE 1 w Af nf (natsI ks)) (hks : ∀ k ∈ ks, k < n) (hcf : nf ≤ cf) (hnf : nf ≤ 300) (hl0 : 0 ≤ limit) (hl1 : limit ≤ 774192) (hn : n ≤ 300) (hout : ∀ b, keys (TabH n tg ta rg ra g a) b → 0 < nf → b ≠ (adr Af).block) :
  Calls Try.prog 50 #[Value.agg (#[Value.slice (some ⟨tg, 0, none⟩) n n, Value.slice (some ⟨ta, 0, none⟩) n n]), Value.slice Af nf cf, Value.int .i64 limit] w fun e w' => ∃ r, e = .returned r ∧ ∃ (x y : Nat) (least : Int), r = .tuple #[.int .i64 (x : Int), .int .i64 (y : Int), .bool (decide (least ≤ limit))] ∧ Best g a limit ks (upP nf nf 0) x y least ∧ Mem w No w' [] := by
 refine calls_k (args := [Value.agg (#[Value.slice (some ⟨tg, 0, none⟩) n n, Value.slice (some ⟨ta, 0, none⟩) n n]), Value.slice Af nf cf, Value.int .i64 limit]) 70 [(0, Value.agg (#[Value.slice (some ⟨tg, 0, none⟩) n n, Value.slice (some ⟨ta, 0, none⟩) n n])), (1, Value.slice Af nf cf), (2, Value.int .i64 limit)] Try.func50 rfl rfl ⟨rfl, rfl, rfl, trivial⟩ ?_
 have hM := hL.mem
 have hfl := hf.len
 have hkl : ks.length = nf := by simpa [natsI] using hfl
 refine k_seq (k_region (r_box hM rfl rfl ?_))
 intro b3 w1 hM2 hb3
 replace hM2 : Mem w (keys (TabH n tg ta rg ra g a)) w1 ((b3, .cells (#[Value.slice (some ⟨tg, 0, none⟩) n n, Value.slice (some ⟨ta, 0, none⟩) n n]) 94 (0, 0)) :: (tg, .cells (topC n n rg) tInts (0, 0)) :: (ta, .cells (topC n n ra) tBools (0, 0)) :: (tabL tInt (.int .i64) n n rg g ++ tabL tBool .bool n n ra a)) := hM2
 refine sqV (.int .i64 0) rfl rfl rfl ?_
 refine sqV (.int .i64 0) rfl rfl rfl ?_
 refine sqV (.bool false) rfl rfl rfl ?_
 refine r_nil (e_then (k_seq (k_region (sqV (.int .i64 limit) rfl rfl rfl ?_))))
 refine sqV (.int .i64 (limit + 1)) rfl rfl (x_addE rfl (by omega) (by omega) rfl rfl) ?_
 refine sqV (.int .i64 (limit + 1)) rfl rfl rfl ?_
 refine r_nil (e_then (k_seq (k_seq (k_region (sqV (.slice Af nf cf) rfl rfl rfl ?_)))))
 refine sqV (.int .i64 (nf : Int)) rfl rfl (x_len rfl rfl) ?_
 refine sqV (.int .i64 0) rfl rfl rfl ?_
 refine r_nil (e_then (k_block (k_loop (σ := Nat × Nat × Nat × Int) (fun ⟨i, x, y, least⟩ => [(1, .slice Af nf cf), (2, .int .i64 limit), (3, .pointer (some ⟨b3, 0, none⟩)), (6, .int .i64 (x : Int)), (7, .int .i64 (y : Int)), (9, .int .i64 least), (16, .slice Af nf cf), (17, .int .i64 (nf : Int)), (18, .int .i64 (i : Int))]) (fun ⟨i, x, y, least⟩ w_ => Mem w (keys (TabH n tg ta rg ra g a)) w_ ((b3, .cells (#[.slice (some ⟨tg, 0, none⟩) n n, .slice (some ⟨ta, 0, none⟩) n n]) 94 (0, 0)) :: (tg, .cells (topC n n rg) tInts (0, 0)) :: (ta, .cells (topC n n ra) tBools (0, 0)) :: (tabL tInt (.int .i64) n n rg g ++ tabL tBool .bool n n ra a)) ∧ i ≤ nf ∧ Best g a limit ks (upP nf i 0) x y least) (fun ⟨i, x, y, least⟩ => nf - i) (0, 0, 0, limit + 1) (sqS rfl) ⟨hM2, Nat.zero_le _, best_none g a limit ks nf⟩ ?_)))
 rintro ⟨i, x, y, least⟩ w4 ⟨hM5, hi, hb⟩
 refine sqK [(1, .slice Af nf cf), (2, .int .i64 limit), (3, .pointer (some ⟨b3, 0, none⟩)), (6, .int .i64 (x : Int)), (7, .int .i64 (y : Int)), (9, .int .i64 least), (16, .slice Af nf cf), (17, .int .i64 (nf : Int)), (18, .int .i64 (i : Int))] rfl (k_seq (k_region (sqV (.bool (decide ((i : Int) < (nf : Int)))) rfl rfl rfl ?_)))
 refine r_nil (sqE [(1, .slice Af nf cf), (2, .int .i64 limit), (3, .pointer (some ⟨b3, 0, none⟩)), (6, .int .i64 (x : Int)), (7, .int .i64 (y : Int)), (9, .int .i64 least), (16, .slice Af nf cf), (17, .int .i64 (nf : Int)), (18, .int .i64 (i : Int)), (19, .bool (decide ((i : Int) < (nf : Int))))] rfl (e_then (k_seq ?_)))
 refine k_cond rfl rfl (fun h => ?_) (fun h => ?_)
 ·try simp only [sqC] at h
  refine k_skip (e_then (k_seq (k_block (k_seq (k_region ?_)))))
  obtain ⟨u, hu⟩ : ∃ x, ks[i]? = some x := ⟨ks[i]'(by omega), by simp⟩
  have hun := hks u (List.mem_of_getElem? hu)
  have hfw := hf.upS hM5 (fun hS => hout _ hS (by omega) rfl)
  refine sqV (.int .i64 (i : Int)) rfl rfl rfl ?_
  refine sqV (.pointer (some ((adr Af).add (i * 1)))) rfl rfl (x_indexAddrN (i := i) (sz := 1) hf.here (by omega) rfl rfl rfl rfl) ?_
  refine sqV (.int .i64 (u : Int)) rfl rfl (x_loadEInt (hf.upS hM5 (fun hS => hout _ hS (by omega) rfl)) (natsI_get hu) rfl rfl) ?_
  obtain ⟨A2, hA2⟩ : ∃ A2, A2 = (if cf = i + 1 then Af else Af.map (·.add ((i + 1) * 1))) := ⟨_, rfl⟩
  refine sqV (.int .i64 (i : Int)) rfl rfl rfl ?_
  refine sqV (.int .i64 (u : Int)) rfl rfl rfl ?_
  refine r_nil (e_then (k_seq (k_region (sqV (.slice Af nf cf) rfl rfl rfl ?_))))
  refine sqV (.int .i64 (i : Int)) rfl rfl rfl ?_
  refine sqV (.int .i64 ((i + 1 : Nat) : Int)) rfl rfl (x_addE (by omega) (by omega) (by omega) rfl rfl) ?_
  refine sqV (.slice A2 (nf - (i + 1)) (cf - (i + 1))) rfl rfl (by rw [hA2]; exact x_sliceLow (by omega) rfl rfl rfl rfl) ?_
  have hrd2 := hfw.dropN (i + 1) (by omega) A2 (fun hlt => by rw [hA2, if_neg (by omega)])
  have hblk : ∀ hp : 0 < nf - (i + 1), (adr A2).block = (adr Af).block := fun hp => by rw [hA2, if_neg (by omega)]; obtain ⟨ad, hAd⟩ := Option.isSome_iff_exists.1 (hf.here (by omega)); rw [hAd]; simp only [adr, Option.map_some, Option.getD_some]; unfold Addr.add; split <;> rfl
  refine sqV (.int .i64 (((nf - (i + 1)) : Nat) : Int)) rfl rfl (x_len rfl rfl) ?_
  refine sqV (.int .i64 0) rfl rfl rfl ?_
  refine r_nil (e_then (k_block (k_loop (σ := Nat × Nat × Nat × Int) (fun ⟨k, x, y, least⟩ => [(1, .slice Af nf cf), (2, .int .i64 limit), (3, .pointer (some ⟨b3, 0, none⟩)), (6, .int .i64 (x : Int)), (7, .int .i64 (y : Int)), (9, .int .i64 least), (11, .int .i64 (u : Int)), (16, .slice Af nf cf), (17, .int .i64 (nf : Int)), (18, .int .i64 (i : Int)), (26, .slice A2 (nf - (i + 1)) (cf - (i + 1))), (27, .int .i64 (((nf - (i + 1)) : Nat) : Int)), (28, .int .i64 (k : Int))]) (fun ⟨k, x, y, least⟩ w_ => Mem w (keys (TabH n tg ta rg ra g a)) w_ ((b3, .cells (#[.slice (some ⟨tg, 0, none⟩) n n, .slice (some ⟨ta, 0, none⟩) n n]) 94 (0, 0)) :: (tg, .cells (topC n n rg) tInts (0, 0)) :: (ta, .cells (topC n n ra) tBools (0, 0)) :: (tabL tInt (.int .i64) n n rg g ++ tabL tBool .bool n n ra a)) ∧ k ≤ nf - (i + 1) ∧ Best g a limit ks (upP nf i k) x y least) (fun ⟨k, x, y, least⟩ => nf - (i + 1) - k) (0, x, y, least) (sqS rfl) ⟨hM5, Nat.zero_le _, hb⟩ ?_)))
  rintro ⟨k, x, y, least⟩ w6 ⟨hM7, hk, hb⟩
  refine sqK [(1, .slice Af nf cf), (2, .int .i64 limit), (3, .pointer (some ⟨b3, 0, none⟩)), (6, .int .i64 (x : Int)), (7, .int .i64 (y : Int)), (9, .int .i64 least), (11, .int .i64 (u : Int)), (16, .slice Af nf cf), (17, .int .i64 (nf : Int)), (18, .int .i64 (i : Int)), (26, .slice A2 (nf - (i + 1)) (cf - (i + 1))), (27, .int .i64 (((nf - (i + 1)) : Nat) : Int)), (28, .int .i64 (k : Int))] rfl (k_seq (k_region (sqV (.bool (decide ((k : Int) < (((nf - (i + 1)) : Nat) : Int)))) rfl rfl rfl ?_)))
  refine r_nil (e_then (k_seq ?_))
  refine k_cond rfl rfl (fun h2 => ?_) (fun h2 => ?_)
  ·try simp only [sqC] at h2
   refine k_skip (e_then (k_seq (k_block (k_seq (k_region ?_)))))
   obtain ⟨v, hv⟩ : ∃ x, ks[i + 1 + k]? = some x := ⟨ks[i + 1 + k]'(by omega), by simp⟩
   have hvn := hks v (List.mem_of_getElem? hv)
   refine sqV (.pointer (some ((adr A2).add (k * 1)))) rfl rfl (x_indexAddrN (i := k) (sz := 1) hrd2.here (by omega) rfl rfl rfl rfl) ?_
   refine sqV (.int .i64 (v : Int)) rfl rfl (x_loadEInt ((hf.upS hM7 (fun hS => hout _ hS (by omega) rfl)).dropN (i + 1) (by omega) A2 (fun hlt => by rw [hA2, if_neg (by omega)])) (k := k) (by rw [List.getElem?_drop]; exact natsI_get hv) rfl rfl) ?_
   refine sqV (.int .i64 (v : Int)) rfl rfl rfl ?_
   refine r_nil (sqE [(1, .slice Af nf cf), (2, .int .i64 limit), (3, .pointer (some ⟨b3, 0, none⟩)), (6, .int .i64 (x : Int)), (7, .int .i64 (y : Int)), (9, .int .i64 least), (11, .int .i64 (u : Int)), (13, .int .i64 (v : Int)), (16, .slice Af nf cf), (17, .int .i64 (nf : Int)), (18, .int .i64 (i : Int)), (26, .slice A2 (nf - (i + 1)) (cf - (i + 1))), (27, .int .i64 (((nf - (i + 1)) : Nat) : Int)), (28, .int .i64 (k : Int))] rfl (e_then (k_seq (k_region (sqV (.pointer (some ⟨b3, 1, none⟩)) rfl rfl rfl ?_)))))
   refine sqV (.slice (some ⟨ta, 0, none⟩) n n) rfl rfl (x_load (hM7.cell 0 rfl rfl) rfl rfl) ?_
   refine sqV (.int .i64 (u : Int)) rfl rfl rfl ?_
   refine sqV (.pointer (some ⟨ta, u, none⟩)) rfl rfl (x_indexAddrL (i := u) (sz := 1) (by omega) rfl rfl rfl rfl (by omega)) ?_
   refine sqV (.slice (some ⟨ra u, 0, none⟩) n n) rfl rfl (x_load (hM7.cell 2 rfl (topC_get (by omega) (by omega))) rfl rfl) ?_
   refine sqV (.int .i64 (v : Int)) rfl rfl rfl ?_
   refine sqV (.pointer (some ⟨ra u, v, none⟩)) rfl rfl (x_indexAddrL (i := v) (sz := 1) (by omega) rfl rfl rfl rfl (by omega)) ?_
   refine sqV (.bool (a u v)) rfl rfl (x_load (hM7.tcell (n := n) (enc := .bool) (g := a) (ty := tBool) (i := u) (List.mem_cons_of_mem _ (List.mem_cons_of_mem _ (List.mem_cons_of_mem _ (List.mem_append_right _ (tabL_mem (by omega)))))) (by omega)) rfl rfl) ?_
   refine sqV (.bool (!(a u v))) rfl rfl rfl ?_
   refine sqV (.bool (!(a u v))) rfl rfl rfl ?_
   rcases Bool.eq_false_or_eq_true (!(a u v)) with g1 | g1
   ·refine wpR_sub [(1, Value.slice Af nf cf), (2, Value.int .i64 limit), (3, Value.pointer (some ⟨b3, 0, none⟩)), (6, Value.int .i64 (x : Int)), (7, Value.int .i64 (y : Int)), (9, Value.int .i64 least), (11, Value.int .i64 (u : Int)), (13, Value.int .i64 (v : Int)), (16, Value.slice Af nf cf), (17, Value.int .i64 (nf : Int)), (18, Value.int .i64 (i : Int)), (26, Value.slice A2 (nf - (i + 1)) (cf - (i + 1))), (27, Value.int .i64 (((nf - (i + 1)) : Nat) : Int)), (28, Value.int .i64 (k : Int)), (41, Value.bool true)] ⟨rfl, rfl, rfl, rfl, rfl, rfl, rfl, rfl, rfl, rfl, rfl, rfl, rfl, rfl, congrArg (fun z => some (Value.bool z)) g1, trivial⟩ ?_
    refine r_yes rfl rfl ?_
    refine sqV (.pointer (some ⟨b3, 0, none⟩)) rfl rfl rfl ?_
    refine r_yes rfl rfl ?_
    refine sqV (.slice (some ⟨tg, 0, none⟩) n n) rfl rfl (x_load (hM7.cell 0 rfl rfl) rfl rfl) ?_
    refine r_yes rfl rfl ?_
    refine sqV (.int .i64 (u : Int)) rfl rfl rfl ?_
    refine r_yes rfl rfl ?_
    refine sqV (.pointer (some ⟨tg, u, none⟩)) rfl rfl (x_indexAddrL (i := u) (sz := 1) (by omega) rfl rfl rfl rfl (by omega)) ?_
    refine r_yes rfl rfl ?_
    refine sqV (.slice (some ⟨rg u, 0, none⟩) n n) rfl rfl (x_load (hM7.cell 1 rfl (topC_get (by omega) (by omega))) rfl rfl) ?_
    refine r_yes rfl rfl ?_
    refine sqV (.int .i64 (v : Int)) rfl rfl rfl ?_
    refine r_yes rfl rfl ?_
    refine sqV (.pointer (some ⟨rg u, v, none⟩)) rfl rfl (x_indexAddrL (i := v) (sz := 1) (by omega) rfl rfl rfl rfl (by omega)) ?_
    refine r_yes rfl rfl ?_
    refine sqV (.int .i64 (g u v)) rfl rfl (x_load (hM7.tcell (n := n) (enc := .int .i64) (g := g) (ty := tInt) (i := u) (List.mem_cons_of_mem _ (List.mem_cons_of_mem _ (List.mem_cons_of_mem _ (List.mem_append_left _ (tabL_mem (by omega)))))) (by omega)) rfl rfl) ?_
    refine r_yes rfl rfl ?_
    refine sqV (.int .i64 least) rfl rfl rfl ?_
    refine r_yes rfl rfl ?_
    refine sqV (.bool (decide ((g u v) < least))) rfl rfl rfl ?_
    refine sqV (.bool (decide ((g u v) < least))) rfl rfl rfl ?_
    refine r_nil (e_then ?_)
    refine k_cond rfl rfl (fun h4 => ?_) (fun h4 => ?_)
    ·try simp only [sqC] at h4
     refine k_draw mixed [0, 0, 0, 4, 0, 28, 60, 0, 252, 508, 1, 1027, 4095] [some (Value.int .i64 (u : Int)), some (Value.int .i64 (v : Int)), some (Value.pointer (some ⟨b3, 0, none⟩)), some (Value.slice (some ⟨tg, 0, none⟩) n n), some (Value.int .i64 (u : Int)), some (Value.pointer (some ⟨tg, u, none⟩)), some (Value.slice (some ⟨rg u, 0, none⟩) n n), some (Value.int .i64 (v : Int)), some (Value.pointer (some ⟨rg u, v, none⟩)), some (Value.int .i64 (g u v)), some (Value.int .i64 (u : Int)), some (Value.int .i64 (v : Int)), some (Value.int .i64 (g u v))] (by kernel_rfl) (fun D V w_ => Mem w (keys (TabH n tg ta rg ra g a)) w_ ((b3, .cells (#[Value.slice (some ⟨tg, 0, none⟩) n n, Value.slice (some ⟨ta, 0, none⟩) n n]) 94 (0, 0)) :: (tg, .cells (topC n n rg) tInts (0, 0)) :: (ta, .cells (topC n n ra) tBools (0, 0)) :: (tabL tInt (.int .i64) n n rg g ++ tabL tBool .bool n n ra a))) (fun V => hM7.drew) ?_ ?_
     ·refine ⟨?_, ?_, ?_, ?_, ?_, ?_, ?_, ?_, ?_, ?_, ?_, ?_, ?_, trivial⟩
      ·intro D V w_ hd hi hM_
       refine sqG [(11, .int .i64 (u : Int))] rfl rfl rfl ?_
       exact run_val (.int .i64 (u : Int)) (rfl) ⟨sqT, hM_⟩
      ·intro D V w_ hd hi hM_
       refine sqG [(13, .int .i64 (v : Int))] rfl rfl rfl ?_
       exact run_val (.int .i64 (v : Int)) (rfl) ⟨sqT, hM_⟩
      ·intro D V w_ hd hi hM_
       refine sqG [(3, .pointer (some ⟨b3, 0, none⟩))] rfl rfl rfl ?_
       exact run_val (.pointer (some ⟨b3, 0, none⟩)) (rfl) ⟨sqT, hM_⟩
      ·intro D V w_ hd hi hM_
       refine sqG [(55, .pointer (some ⟨b3, 0, none⟩))] rfl rfl rfl ?_
       exact run_val (.slice (some ⟨tg, 0, none⟩) n n) (x_load (hM_.cell 0 rfl rfl) rfl rfl) ⟨sqT, hM_⟩
      ·intro D V w_ hd hi hM_
       refine sqG [(11, .int .i64 (u : Int))] rfl rfl rfl ?_
       exact run_val (.int .i64 (u : Int)) (rfl) ⟨sqT, hM_⟩
      ·intro D V w_ hd hi hM_
       refine sqG [(56, .slice (some ⟨tg, 0, none⟩) n n), (57, .int .i64 (u : Int))] rfl rfl rfl ?_
       exact run_val (.pointer (some ⟨tg, u, none⟩)) (x_indexAddrL (i := u) (sz := 1) (by omega) rfl rfl rfl rfl (by omega)) ⟨sqT, hM_⟩
      ·intro D V w_ hd hi hM_
       refine sqG [(58, .pointer (some ⟨tg, u, none⟩))] rfl rfl rfl ?_
       exact run_val (.slice (some ⟨rg u, 0, none⟩) n n) (x_load (hM_.cell 1 rfl (topC_get (by omega) (by omega))) rfl rfl) ⟨sqT, hM_⟩
      ·intro D V w_ hd hi hM_
       refine sqG [(13, .int .i64 (v : Int))] rfl rfl rfl ?_
       exact run_val (.int .i64 (v : Int)) (rfl) ⟨sqT, hM_⟩
      ·intro D V w_ hd hi hM_
       refine sqG [(59, .slice (some ⟨rg u, 0, none⟩) n n), (60, .int .i64 (v : Int))] rfl rfl rfl ?_
       exact run_val (.pointer (some ⟨rg u, v, none⟩)) (x_indexAddrL (i := v) (sz := 1) (by omega) rfl rfl rfl rfl (by omega)) ⟨sqT, hM_⟩
      ·intro D V w_ hd hi hM_
       refine sqG [(61, .pointer (some ⟨rg u, v, none⟩))] rfl rfl rfl ?_
       exact run_val (.int .i64 (g u v)) (x_load (hM_.tcell (n := n) (enc := .int .i64) (g := g) (ty := tInt) (i := u) (List.mem_cons_of_mem _ (List.mem_cons_of_mem _ (List.mem_cons_of_mem _ (List.mem_append_left _ (tabL_mem (by omega)))))) (by omega)) rfl rfl) ⟨sqT, hM_⟩
      ·intro D V w_ hd hi hM_
       refine sqG [(53, .int .i64 (u : Int))] rfl rfl rfl ?_
       exact run_val (.int .i64 (u : Int)) (rfl) ⟨sqT, hM_⟩
      ·intro D V w_ hd hi hM_
       refine sqG [(54, .int .i64 (v : Int))] rfl rfl rfl ?_
       exact run_val (.int .i64 (v : Int)) (rfl) ⟨sqT, hM_⟩
      ·intro D V w_ hd hi hM_
       refine sqG [(62, .int .i64 (g u v))] rfl rfl rfl ?_
       exact run_val (.int .i64 (g u v)) (rfl) ⟨sqT, hM_⟩
     intro D V w9 hall hM10
     refine e_blk (e_then (k_region (sqV (.int .i64 ((k : Int) + 1)) rfl rfl (x_addE rfl (by omega) (by omega) rfl rfl) ?_)))
     refine sqV (.int .i64 ((k : Int) + 1)) rfl rfl rfl ?_
     refine r_nil ?_
     refine e_loop (k + 1, u, v, g u v) (sqS rfl) ?_ ?_
     ·exact ⟨hM10, by omega, best_yes hu hv (by omega) hb (by simpa using g1) h4⟩
     ·(try dsimp only); omega
    ·try simp only [sqC] at h4
     refine k_skip (e_blk (e_then (k_region (sqV (.int .i64 ((k : Int) + 1)) rfl rfl (x_addE rfl (by omega) (by omega) rfl rfl) ?_))))
     refine sqV (.int .i64 ((k : Int) + 1)) rfl rfl rfl ?_
     refine r_nil (sqE [(1, .slice Af nf cf), (2, .int .i64 limit), (3, .pointer (some ⟨b3, 0, none⟩)), (6, .int .i64 (x : Int)), (7, .int .i64 (y : Int)), (9, .int .i64 least), (11, .int .i64 (u : Int)), (16, .slice Af nf cf), (17, .int .i64 (nf : Int)), (18, .int .i64 (i : Int)), (26, .slice A2 (nf - (i + 1)) (cf - (i + 1))), (27, .int .i64 (((nf - (i + 1)) : Nat) : Int)), (28, .int .i64 ((k : Int) + 1))] rfl ?_)
     refine e_loop (k + 1, x, y, least) (sqS rfl) ?_ ?_
     ·exact ⟨hM7, by omega, best_no hu hv hb (by omega)⟩
     ·(try dsimp only); omega
   ·refine wpR_sub [(1, Value.slice Af nf cf), (2, Value.int .i64 limit), (3, Value.pointer (some ⟨b3, 0, none⟩)), (6, Value.int .i64 (x : Int)), (7, Value.int .i64 (y : Int)), (9, Value.int .i64 least), (11, Value.int .i64 (u : Int)), (13, Value.int .i64 (v : Int)), (16, Value.slice Af nf cf), (17, Value.int .i64 (nf : Int)), (18, Value.int .i64 (i : Int)), (26, Value.slice A2 (nf - (i + 1)) (cf - (i + 1))), (27, Value.int .i64 (((nf - (i + 1)) : Nat) : Int)), (28, Value.int .i64 (k : Int)), (41, Value.bool false)] ⟨rfl, rfl, rfl, rfl, rfl, rfl, rfl, rfl, rfl, rfl, rfl, rfl, rfl, rfl, congrArg (fun z => some (Value.bool z)) g1, trivial⟩ ?_
    refine r_no rfl rfl (by decide) rfl ?_
    refine r_no rfl rfl (by decide) rfl ?_
    refine r_no rfl rfl (by decide) rfl ?_
    refine r_no rfl rfl (by decide) rfl ?_
    refine r_no rfl rfl (by decide) rfl ?_
    refine r_no rfl rfl (by decide) rfl ?_
    refine r_no rfl rfl (by decide) rfl ?_
    refine r_no rfl rfl (by decide) rfl ?_
    refine r_no rfl rfl (by decide) rfl ?_
    refine r_no rfl rfl (by decide) rfl ?_
    refine sqV (.bool false) rfl rfl rfl ?_
    refine r_nil (e_then (k_cond_false rfl rfl ?_))
    refine k_skip (e_blk (e_then (k_region (sqV (.int .i64 ((k : Int) + 1)) rfl rfl (x_addE rfl (by omega) (by omega) rfl rfl) ?_))))
    refine sqV (.int .i64 ((k : Int) + 1)) rfl rfl rfl ?_
    refine r_nil ?_
    refine e_loop (k + 1, x, y, least) (sqS rfl) ?_ ?_
    ·exact ⟨hM7, by omega, best_no hu hv hb (by simp at g1; exact .inl g1)⟩
    ·(try dsimp only); omega
  ·try simp only [sqC] at h2
   refine k_exit (e_then_exit (e_loop_exit (e_blk_exit (e_blk (e_then (k_region (sqV (.int .i64 ((i : Int) + 1)) rfl rfl (x_addE rfl (by omega) (by omega) rfl rfl) ?_)))))))
   refine sqV (.int .i64 ((i : Int) + 1)) rfl rfl rfl ?_
   refine r_nil ?_
   refine e_loop (i + 1, x, y, least) (sqS rfl) ?_ ?_
   ·exact ⟨hM7, by omega, best_row (by omega) hb⟩
   ·(try dsimp only); omega
 ·try simp only [sqC] at h
  refine k_exit (e_then_exit (e_loop_exit (e_blk_exit (e_then (k_seq (k_region ?_))))))
  have hin : i = nf := by omega
  rw [hin] at hb
  refine sqV (.int .i64 (x : Int)) rfl rfl rfl ?_
  refine sqV (.int .i64 (y : Int)) rfl rfl rfl ?_
  refine sqV (.int .i64 least) rfl rfl rfl ?_
  refine sqV (.int .i64 limit) rfl rfl rfl ?_
  refine sqV (.bool (decide (least ≤ limit))) rfl rfl rfl ?_
  refine sqV (.int .i64 (x : Int)) rfl rfl rfl ?_
  refine sqV (.int .i64 (y : Int)) rfl rfl rfl ?_
  refine sqV (.bool (decide (least ≤ limit))) rfl rfl rfl ?_
  refine r_nil (sqE [(6, .int .i64 (x : Int)), (7, .int .i64 (y : Int)), (8, .bool (decide (least ≤ limit)))] rfl (e_then (k_ret (e_ret3 rfl rfl rfl rfl ?_))))
  exact ⟨_, rfl, x, y, least, rfl, hb, Mem.ro hL (L' := ([(b3, .cells (#[Value.slice (some ⟨tg, 0, none⟩) n n, Value.slice (some ⟨ta, 0, none⟩) n n]) 94 (0, 0)), (tg, .cells (topC n n rg) tInts (0, 0)), (ta, .cells (topC n n ra) tBools (0, 0))] : Hp).take 1) hM5⟩


end Go.Proofs.Ytddacakmafdgdaa
end
section
/- The first ones of groups, rising; the steps of the clustering. -/
set_option linter.unusedVariables false
set_option linter.unusedSimpArgs false
namespace Go.Kn
open Go.RowKit Go.Proofs.Ytddacakmafdgdaa
def keysOf (n : Nat) (f : Nat → Nat) : List Nat := (List.range n).filter fun p => decide (f p = p)
theorem mem_keysOf {n p : Nat} {f : Nat → Nat} : p ∈ keysOf n f ↔ isKey n f p := by simp [keysOf, isKey]
theorem keysOf_sorted (n : Nat) (f : Nat → Nat) : (keysOf n f).Pairwise (· < ·) := List.Pairwise.filter _ List.pairwise_lt_range
theorem keysOf_len (n : Nat) (f : Nat → Nat) : (keysOf n f).length ≤ n := by
  have := List.length_filter_le (fun p => decide (f p = p)) (List.range n)
  simpa [keysOf] using this
theorem sorted_keys {n : Nat} {f : Nat → Nat} {gs : List Grp} (hF : IsG n f (view gs)) (hk : (gs.map Grp.key).Nodup) : sortI (gs.map Grp.key) = natsI (keysOf n f) := by
  refine sortI_eq ?_ (by rw [natsI, List.pairwise_map]; exact (keysOf_sorted n f).imp (fun h => by omega))
  rw [List.perm_ext_iff_of_nodup hk (by
    unfold natsI
    rw [List.Nodup, List.pairwise_map]
    exact (keysOf_sorted n f).imp (fun h e => by omega))]
  intro z
  constructor
  · intro hz
    obtain ⟨g, hg, rfl⟩ := List.mem_map.1 hz
    obtain ⟨p, h1, h2, h3, _⟩ := hF.xs hg
    rw [h3]
    exact List.mem_map.2 ⟨p, mem_keysOf.2 ⟨h1, h2⟩, rfl⟩
  · intro hz
    obtain ⟨p, hp, rfl⟩ := List.mem_map.1 hz
    obtain ⟨h1, h2⟩ := mem_keysOf.1 hp
    obtain ⟨g, hg, hgk⟩ := hF.has h1
    rw [h2] at hgk
    exact List.mem_map.2 ⟨g, hg, hgk⟩
theorem keys_gs_len {n : Nat} {f : Nat → Nat} {gs : List Grp} (hF : IsG n f (view gs)) (hk : (gs.map Grp.key).Nodup) : gs.length = (keysOf n f).length := by
  have h := congrArg List.length (sorted_keys hF hk)
  rw [sortI_len] at h
  simpa [natsI] using h
theorem keys_less {n x y : Nat} {f : Nat → Nat} (hxy : x < y) (hx : isKey n f x) (hy : isKey n f y) : (keysOf n (joinF x y f)).length < (keysOf n f).length := by
  have e : keysOf n (joinF x y f) = (keysOf n f).filter fun p => decide (p ≠ y) := by
    unfold keysOf
    rw [List.filter_filter]
    refine List.filter_congr fun p hp => ?_
    have hpn := List.mem_range.1 hp
    by_cases h : isKey n (joinF x y f) p
    · obtain ⟨h1, h2⟩ := key_join hxy hx hy h
      simp [h.2, h1.2, h2]
    · have h3 : ¬ joinF x y f p = p := fun e => h ⟨hpn, e⟩
      by_cases h4 : f p = p
      · by_cases h5 : p = y
        · subst h5; simp [h3]
        · exfalso
          apply h3
          rw [joinF_eq hxy, if_neg (by rw [h4]; exact h5), h4]
      · simp [h3, h4]
  rw [e]
  exact List.length_filter_lt_length_iff_exists.2 ⟨y, mem_keysOf.2 hy, by simp⟩
def all2 (p q : Nat) : Prop := p < q
/-- one joining; the end -/
def Step (l : List (List Int)) (n : Nat) (ns : List (Nat × Nat)) (limit : Int) (f f' : Nat → Nat) : Prop :=
  ∃ g a x y least, TabK l n f ns g a ∧ Best g a limit (keysOf n f) (upP (keysOf n f).length (keysOf n f).length 0) x y least ∧ least ≤ limit ∧ f' = joinF x y f
def Stop (l : List (List Int)) (n : Nat) (ns : List (Nat × Nat)) (limit : Int) (f : Nat → Nat) : Prop :=
  ∃ g a x y least, TabK l n f ns g a ∧ Best g a limit (keysOf n f) (upP (keysOf n f).length (keysOf n f).length 0) x y least ∧ ¬ least ≤ limit
inductive Runs (l : List (List Int)) (n : Nat) (ns : List (Nat × Nat)) (limit : Int) : (Nat → Nat) → (Nat → Nat) → Prop
  | refl (f : Nat → Nat) : Runs l n ns limit f f
  | snoc {f f' f'' : Nat → Nat} : Runs l n ns limit f f' → Step l n ns limit f' f'' → Runs l n ns limit f f''
theorem best_keys {g : Nat → Nat → Int} {a : Nat → Nat → Bool} {limit : Int} {n : Nat} {f : Nat → Nat} {x y : Nat} {least : Int} (h : Best g a limit (keysOf n f) (upP (keysOf n f).length (keysOf n f).length 0) x y least) (hl : least ≤ limit) : x < y ∧ isKey n f x ∧ isKey n f y := by
  rcases h with ⟨h1, _⟩ | ⟨i, j, hd, ⟨h2, h3, _, _⟩, _, _⟩
  · omega
  · refine ⟨?_, mem_keysOf.1 (List.mem_of_getElem? h2), mem_keysOf.1 (List.mem_of_getElem? h3)⟩
    obtain ⟨hi, rfl⟩ := List.getElem?_eq_some_iff.1 h2
    obtain ⟨hj, rfl⟩ := List.getElem?_eq_some_iff.1 h3
    exact List.pairwise_iff_getElem.1 (keysOf_sorted n f) i j hi hj hd.1
end Go.Kn
end
section
/- What a clustering needs of the parts. -/
set_option linter.unusedVariables false
set_option linter.unusedSimpArgs false
namespace Go.Proofs.Ytddacakmafdgdaa
open Go.RowKit Go.Kn
theorem sorted_f (bm bx n : Nat) (f : Nat → Nat) (gs : List Grp) (w : World) (hG : GMp tInt gs n) (hF : IsG n f (view gs)) (hn : n ≤ 300) (hm : w.heap[bm]? = some (mapO (gs.map Grp.ent) n)) (hx : w.heap[bx]? = some (.cells #[.map (some bm)] 87 (0, 0))) :
    Calls Try.prog 51 #[.func (.func 71) #[] #[.pointer (some ⟨bx, 0, none⟩)]] w fun e w' => ∃ r, e = .returned r ∧ ∃ L, OwnR tInt 1 r (keysOf n f).length ((natsI (keysOf n f)).map (.int .i64)) L ∧ Mem w No w' L := by
  have hlen := keys_gs_len hF hG.knd
  have hkl := keysOf_len n f
  have hek : (gs.map Grp.ent).map Ent.key = gs.map Grp.key := by rw [List.map_map]; rfl
  refine (sorted_s bm bx (gs.map Grp.ent) n w hm hx ?_ (ents_born hG) (ents_bnd hG) (ents_knd hG) (by rw [List.length_map]; omega)).mono ?_
  · intro e he
    obtain ⟨g, hg, rfl⟩ := ent_mem he
    obtain ⟨p, h1, _, h3, _⟩ := hF.xs hg
    show _ ≤ g.key ∧ g.key ≤ _
    rw [h3]
    omega
  · rintro e w' ⟨r, h1, L, h2, h3⟩
    rw [hek, sorted_keys hF hG.knd, List.length_map, hlen] at h2
    exact ⟨r, h1, L, h2, h3⟩
theorem join_k (bm : Nat) (gs : List Grp) (N : Nat) (hG : GMp tInt gs N) (f : Nat → Nat) (hF : IsG N f (view gs)) (hN : N ≤ 300) (x y : Nat) (hx : isKey N f x) (hy : isKey N f y) (w : World) (hL : Kn.Holds w (GL bm gs N)) :
    Calls Try.prog 53 #[.map (some bm), .int .i64 (x : Int), .int .i64 (y : Int)] w fun e w' => ∃ r, e = .returned r ∧ r = .tuple #[] ∧ ∃ gs', (GMp tInt gs' N ∧ IsG N (joinF x y f) (view gs')) ∧ Mem w (keys (GL bm gs N)) w' (GL bm gs' N) := by
  have h := join_f bm gs N hG N f hF hN x y hx.1 hy.1 w hL
  rw [hx.2, hy.2] at h
  exact h
theorem _root_.Go.Kn.OwnR.out {w0 w : World} {S : Nat → Prop} {e : TypeId} {sz n c : Nat} {A : Option Addr} {xs : List Value} {L X : Hp} (h : OwnR e sz (.slice A n c) n xs L) (hM : Mem w0 S w (L ++ X)) {b : Nat} (hb : keys X b) (hn : 0 < n) : b ≠ (adr A).block := by
  rcases h.2 with ⟨h1, h2, _⟩ | ⟨b', cap, cur, h2, _, _, _, _, rfl⟩
  · omega
  · injection h2 with h2 _ _
    subst h2
    have hnd := hM.holds.nodup
    rw [List.map_append, List.nodup_append] at hnd
    exact fun e => hnd.2.2 b' (by simp) b hb (by simpa [adr] using e.symm)
theorem _root_.Go.Kn.keys_right {A B : Hp} {b : Nat} (h : keys B b) : keys (A ++ B) b := by
  simp only [keys, List.map_append, List.mem_append]; exact .inr h
/-- rows that are read only from now on -/
structure ORow where
  A : Option Addr
  xs : List Int
  L : Hp
abbrev rowV (r : ORow) : Value := .slice r.A r.xs.length r.xs.length
abbrev encS (r : ORow) : List Value := [rowV r]
def ORow.ok (r : ORow) : Prop := ∃ c, OwnR tInt 1 (.slice r.A r.xs.length c) r.xs.length (r.xs.map (.int .i64)) r.L
def SSok (w : World) (A : Option Addr) (rows : List ORow) : Prop := RdE encS 1 w A rows.length rows ∧ ∀ r ∈ rows, RdE intE 1 w r.A r.xs.length r.xs
theorem SSok.up {w0 w : World} {A : Option Addr} {rows : List ORow} {L : Hp} (h : SSok w0 A rows) (hM : Mem w0 No w L) : SSok w A rows := ⟨h.1.up hM, fun r hr => (h.2 r hr).up hM⟩
theorem flatMap_encS (rows : List ORow) : rows.flatMap encS = rows.map rowV := by
  induction rows with
  | nil => rfl
  | cons a t ih => rw [List.flatMap_cons, ih]; rfl
theorem SSok_of {w0 w : World} {S : Nat → Prop} {A : Option Addr} {c : Nat} {rows : List ORow} {Lo R : Hp} (hM : Mem w0 S w (Lo ++ (rows.flatMap ORow.L ++ R))) (ho : OwnR tInts 1 (.slice A rows.length c) rows.length (rows.map rowV) Lo) (hr : ∀ r ∈ rows, r.ok) : SSok w A rows := by
  refine ⟨OwnR.rd (enc := encS) (by rw [flatMap_encS]; exact ho) hM.left.holds (by simp) (by decide), fun r hrm => ?_⟩
  obtain ⟨c', hc⟩ := hr r hrm
  refine hc.rdI ?_
  have h2 : Kn.Holds w (rows.flatMap ORow.L) := (Mem.left (Mem.right hM)).holds
  refine ⟨?_, fun p hp => h2.at_ p (List.mem_flatMap.2 ⟨r, hrm, hp⟩)⟩
  have hn := h2.nodup
  clear hM ho h2 hr
  induction rows with
  | nil => cases hrm
  | cons a t ih =>
    rw [List.flatMap_cons, List.map_append, List.nodup_append] at hn
    rcases List.mem_cons.1 hrm with rfl | h
    · exact hn.1
    · exact ih h hn.2.1
def idsAt (l : List (List Int)) (n : Nat) (f : Nat → Nat) (k : Nat) : List Int := (members n f k).map fun p => idOf (l.getD p [])
def idsG (l : List (List Int)) (n : Nat) (f : Nat → Nat) : List (List Int) := (keysOf n f).map (idsAt l n f)
theorem x_loadRowM {P : Program} {w w0 : World} {S : Nat → Prop} {L : Hp} {ρ : Operand → Value} {dst : Option Tmp} {type : TypeId} {pos : String} {after : Array Edge} {guard : Option (Nat × Bool)} {t e : TypeId} {x : Operand} {b : Nat} {cs : Array Value} (hM : Mem w0 S w L) (hm : (b, Obj.cells cs e (0, 0)) ∈ L) (hx : ρ x = .pointer (some ⟨b, 0, none⟩)) (hg : (isAgg t).run P w = .ok true w) (hs : (sizeOf t).run P w = .ok cs.size w) :
    (execOp ρ ⟨dst, .load t x, type, pos, after, guard⟩).run P w = .ok (.value (.agg cs)) w := by
  obtain ⟨i, hi⟩ := List.mem_iff_getElem?.1 hm
  exact x_loadRow hM i hi hx hg hs
theorem _root_.Go.Kn.IsG.row {n : Nat} {f : Nat → Nat} {gs : List Grp} (h : IsG n f (view gs)) {q : Grp} (hq : q ∈ gs) {x : Nat} (hk : q.key = (x : Int)) : q.xs = membersI n f x := by
  obtain ⟨p, _, _, h3, h4⟩ := h.xs hq
  have : p = x := by omega
  subst this
  exact h4
theorem _root_.Go.Kn.flat_row {w : World} {gs : List Grp} {g : Grp} (h : Kn.Holds w (gs.flatMap Grp.L)) (hg : g ∈ gs) : Kn.Holds w g.L := by
  refine ⟨?_, fun p hp => h.at_ p (List.mem_flatMap.2 ⟨g, hg, hp⟩)⟩
  have hn := h.nodup
  clear h
  induction gs with
  | nil => cases hg
  | cons a r ih =>
    rw [List.flatMap_cons, List.map_append, List.nodup_append] at hn
    rcases List.mem_cons.1 hg with rfl | hg
    · exact hn.1
    · exact ih hg hn.2.1
theorem members_get {n k x p : Nat} {f : Nat → Nat} (h : (members n f x)[k]? = some p) : (membersI n f x)[k]? = some (p : Int) := by simp [membersI, h]
theorem ids_snoc {l : List (List Int)} {n x k p : Nat} {f : Nat → Nat} {z : List Int} {v : Value} {L : Hp} (hp : (members n f x)[k]? = some p) (hz : l[p]? = some z) (h : OwnR tInt 1 v (k + 1) ((((members n f x).take k).map fun p => idOf (l.getD p [])).map (.int .i64) ++ [Value.int .i64 (idOf z)]) L) : OwnR tInt 1 v (k + 1) ((((members n f x).take (k + 1)).map fun p => idOf (l.getD p [])).map (.int .i64)) L := by
  rw [take_snoc' hp, List.map_append, List.map_append, show ([p].map fun p => idOf (l.getD p [])) = [idOf z] by simp [hz]]
  exact h
theorem rows_flat {rows : List ORow} {r : ORow} : (rows ++ [r]).flatMap ORow.L = rows.flatMap ORow.L ++ r.L := by simp
theorem _root_.Go.Kn.Mem.rowsnoc {w0 w : World} {S : Nat → Prop} {p : Nat × Obj} {A Li B R : Hp} (h : Mem w0 S w (p :: (A ++ (Li ++ (B ++ R))))) : Mem w0 S w (p :: (A ++ ((B ++ Li) ++ R))) := by
  refine h.perm (List.Perm.cons p (List.Perm.append_left A ?_))
  rw [List.append_assoc]
  exact List.perm_append_comm_assoc Li B R
end Go.Proofs.Ytddacakmafdgdaa
end
section
/- Fk: what Go functions of this seat come to, printed by walk.py over the engine. -/
set_option linter.unusedVariables false
set_option linter.unusedSimpArgs false
set_option maxRecDepth 100000
namespace Go.Proofs.Ytddacakmafdgdaa
open Go.RowKit Go.Kn

theorem clip_s (A : Option Addr) (n c : Nat) (w : World) (hc : n ≤ c) :
  Calls Try.prog 55 #[Value.slice A n c] w fun e w' => ∃ r, e = .returned r ∧ r = .slice A n n ∧ Mem w No w' [] := by
 refine calls_k (args := [Value.slice A n c]) 9 [(0, Value.slice A n c)] Try.func55 rfl rfl ⟨rfl, trivial⟩ ?_
 have hM := Mem.nil w No
 refine k_seq (k_region (sqV (.slice none 0 0) rfl rfl rfl ?_))
 refine r_nil (e_then (k_seq (k_region (sqV (.slice A n c) rfl rfl rfl ?_))))
 refine sqV (.slice A n c) rfl rfl rfl ?_
 refine sqV (.int .i64 (n : Int)) rfl rfl (x_len rfl rfl) ?_
 refine sqV (.slice A n c) rfl rfl rfl ?_
 refine sqV (.int .i64 (n : Int)) rfl rfl (x_len rfl rfl) ?_
 refine sqV (.slice A n n) rfl rfl (x_sliceClip hc rfl rfl rfl rfl rfl) ?_
 refine sqV (.slice A n n) rfl rfl rfl ?_
 refine r_nil (e_then (k_ret (e_ret1 rfl rfl ?_)))
 exact ⟨_, rfl, rfl, hM.drop⟩

theorem clips_s (A : Option Addr) (n c : Nat) (w : World) (hc : n ≤ c) :
  Calls Try.prog 56 #[Value.slice A n c] w fun e w' => ∃ r, e = .returned r ∧ r = .slice A n n ∧ Mem w No w' [] := by
 refine calls_k (args := [Value.slice A n c]) 9 [(0, Value.slice A n c)] Try.func56 rfl rfl ⟨rfl, trivial⟩ ?_
 have hM := Mem.nil w No
 refine k_seq (k_region (sqV (.slice none 0 0) rfl rfl rfl ?_))
 refine r_nil (e_then (k_seq (k_region (sqV (.slice A n c) rfl rfl rfl ?_))))
 refine sqV (.slice A n c) rfl rfl rfl ?_
 refine sqV (.int .i64 (n : Int)) rfl rfl (x_len rfl rfl) ?_
 refine sqV (.slice A n c) rfl rfl rfl ?_
 refine sqV (.int .i64 (n : Int)) rfl rfl (x_len rfl rfl) ?_
 refine sqV (.slice A n n) rfl rfl (x_sliceClip hc rfl rfl rfl rfl rfl) ?_
 refine sqV (.slice A n n) rfl rfl rfl ?_
 refine r_nil (sqE [(2, .slice A n n)] rfl (e_then (k_ret (e_ret1 rfl rfl ?_))))
 exact ⟨_, rfl, rfl, hM.drop⟩

theorem clustered_s (Al A1 A2 : Option Addr) (n cl nm cm nn cn : Nat) (l : List (List Int)) (ms ns : List (Nat × Nat)) (limit : Int) (w : World) (hl : RdE intsE 14 w Al n l) (hgd : Kn.Good l) (h1m : RdE pairE 2 w A1 nm ms) (h2n : RdE pairE 2 w A2 nn ns) (hms : ∀ m ∈ ms, m.1 < n ∧ m.2 < n) (hns : ∀ m ∈ ns, m.1 < n ∧ m.2 < n) (hn : n ≤ 300) (hnm : nm ≤ 1000) (hnn : nn ≤ 1000) (hl0 : 0 ≤ limit) (hl1 : limit ≤ 774192) :
  Calls Try.prog 22 #[Value.slice Al n cl, Value.agg (#[Value.slice A1 nm cm, Value.slice A2 nn cn]), Value.int .i64 limit] w fun e w' => ∃ r, e = .returned r ∧ ∃ fE, (Runs l n ns limit (joinAll ms) fE ∧ Stop l n ns limit fE ∧ (∀ p, p < n → fE p ≤ p) ∧ ∀ p, p < n → fE (fE p) = fE p) ∧ ∃ (A : Option Addr) (rows : List ORow), r = .slice A rows.length rows.length ∧ rows.map ORow.xs = idsG l n fE ∧ ∃ (c : Nat) (Lo : Hp), OwnR tInts 1 (.slice A rows.length c) rows.length (rows.map rowV) Lo ∧ (∀ r ∈ rows, r.ok) ∧ Mem w No w' (Lo ++ rows.flatMap ORow.L) := by
 refine calls_k (args := [Value.slice Al n cl, Value.agg (#[Value.slice A1 nm cm, Value.slice A2 nn cn]), Value.int .i64 limit]) 80 [(0, Value.slice Al n cl), (1, Value.agg (#[Value.slice A1 nm cm, Value.slice A2 nn cn])), (2, Value.int .i64 limit)] Try.func22 rfl rfl ⟨rfl, rfl, rfl, trivial⟩ ?_
 have hM := Mem.nil w No
 have hll := hl.len
 refine k_seq (k_region (r_box hM rfl rfl ?_))
 intro b3 w1 hM2 hb3
 replace hM2 : Mem w No w1 [(b3, .cells (#[Value.slice A1 nm cm, Value.slice A2 nn cn]) 57 (0, 0))] := hM2
 refine sqV (.slice none 0 0) rfl rfl rfl ?_
 refine r_nil (e_then (k_seq (k_region (sqV (.agg (#[.slice A1 nm cm, .slice A2 nn cn])) rfl rfl (x_loadPart hM2 0 rfl (o := 0) (l := [Value.slice A1 nm cm, Value.slice A2 nn cn]) rfl rfl rfl rfl) ?_))))
 refine sqV (.slice Al n cl) rfl rfl rfl ?_
 refine sqV (.int .i64 (n : Int)) rfl rfl (x_len rfl rfl) ?_
 refine r_call (f := 44) (args := #[Value.agg (#[Value.slice A1 nm cm, Value.slice A2 nn cn]), Value.int .i64 (n : Int)]) (w' := w1) rfl rfl (x_call (vs := [Value.agg (#[Value.slice A1 nm cm, Value.slice A2 nn cn]), Value.int .i64 (n : Int)]) (enter44 _ _) rfl rfl) (joined_s A1 A2 nm cm nn cn n ms w1 (h1m.up hM2) hms hn (by omega)) ?_
 rintro v_ w4 ⟨bm, gs0, rfl, ⟨hG0, hF0⟩, hM5⟩
 replace hM5 : Mem w No w4 ((b3, .cells (#[Value.slice A1 nm cm, Value.slice A2 nn cn]) 57 (0, 0)) :: (bm, mapO (gs0.map Grp.ent) n) :: gs0.flatMap Grp.L) := (Mem.call0 hM2 hM5).perm List.perm_append_comm
 refine sqV (.map (some bm)) rfl rfl rfl ?_
 refine r_nil (e_then (k_seq (k_region (sqV (.slice Al n cl) rfl rfl rfl ?_))))
 refine sqV (.map (some bm)) rfl rfl rfl ?_
 refine sqV (.pointer (some ⟨b3, 1, none⟩)) rfl rfl rfl ?_
 refine sqV (.slice A2 nn cn) rfl rfl (x_load (hM5.cell 0 rfl rfl) rfl rfl) ?_
 refine r_call (f := 49) (args := #[Value.slice Al n cl, Value.map (some bm), Value.slice A2 nn cn]) (w' := w4) rfl rfl (x_call (vs := [Value.slice Al n cl, Value.map (some bm), Value.slice A2 nn cn]) (enter49 _ _) rfl rfl) (newTable_s Al A2 bm n cl nn cn n l gs0 (joinAll ms) ns w4 (hl.up hM5) hgd hG0 hF0 hM5.tail.holds (h2n.up hM5) hns hn hnn) ?_
 rintro v_ w6 ⟨tg, ta, rg, ra, g0, a0, rfl, ⟨hg0, ha0⟩, hM7⟩
 replace hM7 : Mem w No w6 ((b3, .cells (#[Value.slice A1 nm cm, Value.slice A2 nn cn]) 57 (0, 0)) :: (bm, mapO (gs0.map Grp.ent) n) :: (gs0.flatMap Grp.L ++ (TabH n tg ta rg ra g0 a0))) := (Mem.call0 hM5 hM7).perm List.perm_append_comm
 refine r_alloc hM7 (z := Value.agg #[Value.slice none 0 0, Value.slice none 0 0]) rfl rfl ?_
 intro b10 w8 hM9 hb10
 replace hM9 : Mem w No w8 ((b10, .cells #[Value.slice none 0 0, Value.slice none 0 0] 94 (0, 0)) :: (b3, .cells (#[Value.slice A1 nm cm, Value.slice A2 nn cn]) 57 (0, 0)) :: (bm, mapO (gs0.map Grp.ent) n) :: (gs0.flatMap Grp.L ++ (TabH n tg ta rg ra g0 a0))) := hM9
 refine r_storeRow (vs := (#[Value.slice (some ⟨tg, 0, none⟩) n n, Value.slice (some ⟨ta, 0, none⟩) n n])) hM9 0 rfl (by rw [show (#[Value.slice (some ⟨tg, 0, none⟩) n n, Value.slice (some ⟨ta, 0, none⟩) n n]).size = 2 from (by simp [ints_size, *])]; rfl) (by first | (simp [Value.oneCell']; done) | (simp only [List.mem_cons, List.not_mem_nil, or_false, forall_eq_or_imp, forall_eq]; (repeat' constructor) <;> first | assumption | rfl)) (by rw [show (#[Value.slice (some ⟨tg, 0, none⟩) n n, Value.slice (some ⟨ta, 0, none⟩) n n]).size = 2 from (by simp [ints_size, *])]; rfl) rfl rfl rfl ?_
 intro w11 hM12
 replace hM12 : Mem w No w11 ((b10, .cells (#[Value.slice (some ⟨tg, 0, none⟩) n n, Value.slice (some ⟨ta, 0, none⟩) n n]) 94 (0, 0)) :: (b3, .cells (#[Value.slice A1 nm cm, Value.slice A2 nn cn]) 57 (0, 0)) :: (bm, mapO (gs0.map Grp.ent) n) :: (gs0.flatMap Grp.L ++ (TabH n tg ta rg ra g0 a0))) := hM12
 refine r_nil (e_then (k_seq (k_block (k_loop (σ := (Nat → Nat) × List Grp × (Nat → Nat → Int) × (Nat → Nat → Bool)) (fun ⟨f, gs, g, a⟩ => [(0, .slice Al n cl), (2, .int .i64 limit), (7, .map (some bm)), (8, .pointer (some ⟨b10, 0, none⟩))]) (fun ⟨f, gs, g, a⟩ w_ => Mem w No w_ ((b10, .cells (#[.slice (some ⟨tg, 0, none⟩) n n, .slice (some ⟨ta, 0, none⟩) n n]) 94 (0, 0)) :: (bm, mapO (gs.map Grp.ent) n) :: (gs.flatMap Grp.L ++ (TabH n tg ta rg ra g a))) ∧ GMp tInt gs n ∧ IsG n f (view gs) ∧ TabK l n f ns g a ∧ Runs l n ns limit (joinAll ms) f) (fun ⟨f, gs, g, a⟩ => (keysOf n f).length) (joinAll ms, gs0, g0, a0) (sqS rfl) ⟨(hM12.pickT [(b10, .cells (#[.slice (some ⟨tg, 0, none⟩) n n, .slice (some ⟨ta, 0, none⟩) n n]) 94 (0, 0)), (b3, .cells (#[.slice A1 nm cm, .slice A2 nn cn]) 57 (0, 0)), (bm, mapO (gs0.map Grp.ent) n)] (gs0.flatMap Grp.L ++ (TabH n tg ta rg ra g0 a0)) rfl [0, 2] _ (by decide) rfl), hG0, hF0, tabK_of hg0 ha0, .refl _⟩ ?_))))
 rintro ⟨f, gs, g, a⟩ w13 ⟨hM14, hG, hF, hT, hR⟩
 refine sqK [(0, .slice Al n cl), (2, .int .i64 limit), (7, .map (some bm)), (8, .pointer (some ⟨b10, 0, none⟩))] rfl (k_block (k_seq ?_))
 refine k_draw mixed [0, 0, 2, 6, 0, 31, 63, 127, 127, 127, 255, 1535, 4095] [some (Value.agg (#[Value.slice (some ⟨tg, 0, none⟩) n n, Value.slice (some ⟨ta, 0, none⟩) n n])), some (Value.map (some bm)), none, none, some (Value.int .i64 limit), none, none, none, none, none, none, none, none] (by kernel_rfl) (fun D V w_ => ∃ (bx : Nat) (L : Hp) (x y : Nat) (least : Int), (D 2 = true → V 2 = .func (.func 71) #[] #[.pointer (some ⟨bx, 0, none⟩)]) ∧ (D 3 = true → D 2 = true ∧ OwnR tInt 1 (V 3) (keysOf n f).length ((natsI (keysOf n f)).map (.int .i64)) L) ∧ (D 5 = true → V 5 = .tuple #[.int .i64 (x : Int), .int .i64 (y : Int), .bool (decide (least ≤ limit))] ∧ Best g a limit (keysOf n f) (upP (keysOf n f).length (keysOf n f).length 0) x y least) ∧ (D 6 = true → D 5 = true ∧ V 6 = .tuple #[.int .i64 (x : Int), .int .i64 (y : Int), .bool (decide (least ≤ limit))]) ∧ (D 7 = true → D 5 = true ∧ V 7 = .int .i64 (x : Int)) ∧ (D 8 = true → D 5 = true ∧ V 8 = .int .i64 (y : Int)) ∧ (D 9 = true → D 5 = true ∧ V 9 = .bool (decide (least ≤ limit))) ∧ (D 10 = true → D 5 = true ∧ V 10 = .int .i64 (x : Int)) ∧ (D 11 = true → D 5 = true ∧ V 11 = .int .i64 (y : Int)) ∧ (D 12 = true → D 5 = true ∧ V 12 = .bool (decide (least ≤ limit))) ∧ Mem w No w_ (L ++ (cnd (D 2) (bx, .cells #[.map (some bm)] 87 (0, 0)) ++ (([(b10, .cells (#[Value.slice (some ⟨tg, 0, none⟩) n n, Value.slice (some ⟨ta, 0, none⟩) n n]) 94 (0, 0)), (bm, mapO (gs.map Grp.ent) n)] : Hp) ++ (gs.flatMap Grp.L ++ (TabH n tg ta rg ra g a)))))) (fun V => ⟨0, [], 0, 0, 0, fun h => Bool.noConfusion h, fun h => Bool.noConfusion h, fun h => Bool.noConfusion h, fun h => Bool.noConfusion h, fun h => Bool.noConfusion h, fun h => Bool.noConfusion h, fun h => Bool.noConfusion h, fun h => Bool.noConfusion h, fun h => Bool.noConfusion h, fun h => Bool.noConfusion h, hM14.drew⟩) ?_ ?_
 ·refine ⟨?_, ?_, ?_, ?_, ?_, ?_, ?_, ?_, ?_, ?_, ?_, ?_, ?_, trivial⟩
  ·intro D V w_ hd hi hM_
   refine sqG [(8, .pointer (some ⟨b10, 0, none⟩))] rfl rfl rfl ?_
   exact run_val (.agg (#[.slice (some ⟨tg, 0, none⟩) n n, .slice (some ⟨ta, 0, none⟩) n n])) (by obtain ⟨bx, L, x, y, least, h2, h3, h5, h6, h7, h8, h9, h10, h11, h12, hM9⟩ := hM_; exact x_loadRowM (b := b10) (e := 94) hM9 (by simp) rfl rfl rfl) ⟨sqT, hM_⟩
  ·intro D V w_ hd hi hM_
   refine sqG [(7, .map (some bm))] rfl rfl rfl ?_
   exact run_val (.map (some bm)) (rfl) ⟨sqT, hM_⟩
  ·intro D V w_ hd hi hM_
   refine sqG [(29, .map (some bm))] rfl rfl rfl ?_
   obtain ⟨bx, L, x, y, least, h2, h3, h5, h6, h7, h8, h9, h10, h11, h12, hM9⟩ := hM_
   rw [show D 2 = false from hi] at hM9
   refine run_call (f := 52) (args := #[.map (some bm)]) (w' := w_) (x_call (vs := [.map (some bm)]) (enter52 _ _) rfl rfl) (keys_s bm w_) ?_
   rintro v_ w2_ ⟨bx2, rfl, hM2⟩
   exact ⟨untold rfl, bx2, L, x, y, least, fun _ => rfl, fun h => absurd (h3 h).1 (by rw [show D 2 = false from hi]; decide), h5, h6, h7, h8, h9, h10, h11, h12, Mem.ins1 (A := L) (Mem.call0 hM9 hM2)⟩
  ·intro D V w_ hd hi hM_
   refine sqG [(30, V 2)] rfl rfl rfl ?_
   obtain ⟨bx, L, x, y, least, h2, h3, h5, h6, h7, h8, h9, h10, h11, h12, hM9⟩ := hM_
   rw [h2 (hd 2 rfl)]
   rw [hd 2 rfl] at hM9
   refine run_call (f := 51) (args := #[.func (.func 71) #[] #[.pointer (some ⟨bx, 0, none⟩)]]) (w' := w_) (x_call (vs := [.func (.func 71) #[] #[.pointer (some ⟨bx, 0, none⟩)]]) (enter51 _ _) rfl rfl) (sorted_f bm bx n f gs w_ hG hF hn (hM9.holds.at_ (bm, mapO (gs.map Grp.ent) n) (by simp)) (hM9.holds.at_ (bx, .cells #[.map (some bm)] 87 (0, 0)) (by simp [cnd]))) ?_
   rintro v_ w2_ ⟨L2, ho2, hM2⟩
   exact ⟨untold rfl, bx, L2, x, y, least, h2, fun _ => ⟨hd 2 rfl, ho2⟩, h5, h6, h7, h8, h9, h10, h11, h12, by rw [show upd D 3 true 2 = true from hd 2 rfl]; exact Mem.call0 (Mem.right hM9) hM2⟩
  ·intro D V w_ hd hi hM_
   refine sqG [(2, .int .i64 limit)] rfl rfl rfl ?_
   exact run_val (.int .i64 limit) (rfl) ⟨sqT, hM_⟩
  ·intro D V w_ hd hi hM_
   refine sqG [(28, .agg (#[.slice (some ⟨tg, 0, none⟩) n n, .slice (some ⟨ta, 0, none⟩) n n])), (31, V 3), (32, .int .i64 limit)] rfl rfl rfl ?_
   obtain ⟨bx, L, x, y, least, h2, h3, h5, h6, h7, h8, h9, h10, h11, h12, hM9⟩ := hM_
   have ho := (h3 (hd 3 rfl)).2
   obtain ⟨A9, c9, hv9, hnc9, _, _⟩ := ho.slice
   rw [hv9] at ho
   rw [hv9]
   have hkl := keysOf_len n f
   have htab := (Mem.right (L := gs.flatMap Grp.L) (Mem.right (L := ([(b10, .cells (#[Value.slice (some ⟨tg, 0, none⟩) n n, Value.slice (some ⟨ta, 0, none⟩) n n]) 94 (0, 0)), (bm, mapO (gs.map Grp.ent) n)] : Hp)) (Mem.right (L := cnd (D 2) (bx, .cells #[.map (some bm)] 87 (0, 0))) (Mem.right (L := L) hM9)))).holds
   refine run_call (f := 50) (args := #[.agg #[Value.slice (some ⟨tg, 0, none⟩) n n, Value.slice (some ⟨ta, 0, none⟩) n n], .slice A9 (keysOf n f).length c9, .int .i64 limit]) (w' := w_) (x_call (vs := [.agg #[Value.slice (some ⟨tg, 0, none⟩) n n, Value.slice (some ⟨ta, 0, none⟩) n n], .slice A9 (keysOf n f).length c9, .int .i64 limit]) (enter50 _ _) rfl rfl) (nearest_s n tg ta rg ra g a A9 (keysOf n f).length c9 (keysOf n f) limit w_ htab (ho.rdI (Mem.left hM9).holds) (fun k hk => (mem_keysOf.1 hk).1) hnc9 (by omega) hl0 hl1 hn (fun b hb h0 => ho.out hM9 (keys_right (keys_right (keys_right hb))) h0)) ?_
   rintro v_ w2_ ⟨x2, y2, l2, rfl, hb2, hM2⟩
   exact ⟨untold rfl, bx, L, x2, y2, l2, h2, h3, fun _ => ⟨rfl, hb2⟩, fun h => absurd (h6 h).1 (by rw [show D 5 = false from hi]; decide), fun h => absurd (h7 h).1 (by rw [show D 5 = false from hi]; decide), fun h => absurd (h8 h).1 (by rw [show D 5 = false from hi]; decide), fun h => absurd (h9 h).1 (by rw [show D 5 = false from hi]; decide), fun h => absurd (h10 h).1 (by rw [show D 5 = false from hi]; decide), fun h => absurd (h11 h).1 (by rw [show D 5 = false from hi]; decide), fun h => absurd (h12 h).1 (by rw [show D 5 = false from hi]; decide), hM9.grow hM2.kept⟩
  ·intro D V w_ hd hi hM_
   refine sqG [(33, V 5)] rfl rfl rfl ?_
   obtain ⟨bx, L, x, y, least, h2, h3, h5, h6, h7, h8, h9, h10, h11, h12, hM9⟩ := hM_
   rw [(h5 (hd 5 rfl)).1]
   exact run_val _ rfl ⟨untold rfl, bx, L, x, y, least, h2, h3, h5, fun _ => ⟨hd 5 rfl, rfl⟩, h7, h8, h9, h10, h11, h12, hM9⟩
  ·intro D V w_ hd hi hM_
   refine sqG [(27, V 6)] rfl rfl rfl ?_
   obtain ⟨bx, L, x, y, least, h2, h3, h5, h6, h7, h8, h9, h10, h11, h12, hM9⟩ := hM_
   rw [(h6 (hd 6 rfl)).2]
   exact run_val _ rfl ⟨untold rfl, bx, L, x, y, least, h2, h3, h5, h6, fun _ => ⟨hd 5 rfl, rfl⟩, h8, h9, h10, h11, h12, hM9⟩
  ·intro D V w_ hd hi hM_
   refine sqG [(27, V 6)] rfl rfl rfl ?_
   obtain ⟨bx, L, x, y, least, h2, h3, h5, h6, h7, h8, h9, h10, h11, h12, hM9⟩ := hM_
   rw [(h6 (hd 6 rfl)).2]
   exact run_val _ rfl ⟨untold rfl, bx, L, x, y, least, h2, h3, h5, h6, h7, fun _ => ⟨hd 5 rfl, rfl⟩, h9, h10, h11, h12, hM9⟩
  ·intro D V w_ hd hi hM_
   refine sqG [(27, V 6)] rfl rfl rfl ?_
   obtain ⟨bx, L, x, y, least, h2, h3, h5, h6, h7, h8, h9, h10, h11, h12, hM9⟩ := hM_
   rw [(h6 (hd 6 rfl)).2]
   exact run_val _ rfl ⟨untold rfl, bx, L, x, y, least, h2, h3, h5, h6, h7, h8, fun _ => ⟨hd 5 rfl, rfl⟩, h10, h11, h12, hM9⟩
  ·intro D V w_ hd hi hM_
   refine sqG [(34, V 7)] rfl rfl rfl ?_
   obtain ⟨bx, L, x, y, least, h2, h3, h5, h6, h7, h8, h9, h10, h11, h12, hM9⟩ := hM_
   rw [(h7 (hd 7 rfl)).2]
   exact run_val _ rfl ⟨untold rfl, bx, L, x, y, least, h2, h3, h5, h6, h7, h8, h9, fun _ => ⟨hd 5 rfl, rfl⟩, h11, h12, hM9⟩
  ·intro D V w_ hd hi hM_
   refine sqG [(35, V 8)] rfl rfl rfl ?_
   obtain ⟨bx, L, x, y, least, h2, h3, h5, h6, h7, h8, h9, h10, h11, h12, hM9⟩ := hM_
   rw [(h8 (hd 8 rfl)).2]
   exact run_val _ rfl ⟨untold rfl, bx, L, x, y, least, h2, h3, h5, h6, h7, h8, h9, h10, fun _ => ⟨hd 5 rfl, rfl⟩, h12, hM9⟩
  ·intro D V w_ hd hi hM_
   refine sqG [(36, V 9)] rfl rfl rfl ?_
   obtain ⟨bx, L, x, y, least, h2, h3, h5, h6, h7, h8, h9, h10, h11, h12, hM9⟩ := hM_
   rw [(h9 (hd 9 rfl)).2]
   exact run_val _ rfl ⟨untold rfl, bx, L, x, y, least, h2, h3, h5, h6, h7, h8, h9, h10, h11, fun _ => ⟨hd 5 rfl, rfl⟩, hM9⟩
 intro D V w35 hall hM36
 obtain ⟨bx, Lx, x, y, least, _, _, h5, _, _, _, _, h10, h11, h12, hM9⟩ := hM36
 have hbest := (h5 (hall 5 (by decide))).2
 have e10 := (h10 (hall 10 (by decide))).2
 have e11 := (h11 (hall 11 (by decide))).2
 have e12 := (h12 (hall 12 (by decide))).2
 replace hM9 := hM9.right.right
 replace hM9 : Mem w No w35 ((b10, .cells (#[Value.slice (some ⟨tg, 0, none⟩) n n, Value.slice (some ⟨ta, 0, none⟩) n n]) 94 (0, 0)) :: (bm, mapO (gs.map Grp.ent) n) :: (gs.flatMap Grp.L ++ (TabH n tg ta rg ra g a))) := hM9
 refine ends_sub [(0, Value.slice Al n cl), (2, Value.int .i64 limit), (7, Value.map (some bm)), (8, Value.pointer (some ⟨b10, 0, none⟩)), (9, Value.int .i64 (x : Int)), (10, Value.int .i64 (y : Int)), (11, Value.bool (decide (least ≤ limit)))] ⟨rfl, rfl, rfl, rfl, congrArg some e10, congrArg some e11, congrArg some e12, trivial⟩ ?_
 refine e_then (k_seq (k_seq (k_region (sqV (.bool (decide (least ≤ limit))) rfl rfl rfl ?_))))
 refine sqV (.bool (!(decide (least ≤ limit)))) rfl rfl rfl ?_
 refine r_nil (sqE [(0, .slice Al n cl), (2, .int .i64 limit), (7, .map (some bm)), (8, .pointer (some ⟨b10, 0, none⟩)), (9, .int .i64 (x : Int)), (10, .int .i64 (y : Int)), (38, .bool (!(decide (least ≤ limit))))] rfl (e_then ?_))
 refine k_cond rfl rfl (fun hs => ?_) (fun hs => ?_)
 ·try simp only [sqC] at hs
  refine k_exit (e_then_exit (e_blk_ne (by decide) ?_))
  refine e_loop_exit (e_blk_exit (e_then (k_seq (k_region ?_))))
  have hstop : Stop l n ns limit f := ⟨g, a, x, y, least, hT, hbest, by omega⟩
  refine sqV (.slice none 0 0) rfl rfl rfl ?_
  refine r_nil (e_then (k_seq (k_seq (k_region (sqV (.map (some bm)) rfl rfl rfl ?_)))))
  refine r_call (f := 52) (args := #[Value.map (some bm)]) (w' := w35) rfl rfl (x_call (vs := [Value.map (some bm)]) (enter52 _ _) rfl rfl) (keys_s bm w35) ?_
  rintro v_ w37 ⟨bx2, rfl, hM38⟩
  replace hM38 : Mem w No w37 ((bx2, .cells #[Value.map (some bm)] 87 (0, 0)) :: (b10, .cells (#[Value.slice (some ⟨tg, 0, none⟩) n n, Value.slice (some ⟨ta, 0, none⟩) n n]) 94 (0, 0)) :: (bm, mapO (gs.map Grp.ent) n) :: (gs.flatMap Grp.L ++ (TabH n tg ta rg ra g a))) := Mem.call0 hM9 hM38
  refine r_call (f := 51) (args := #[Value.func (.func 71) #[] #[Value.pointer (some ⟨bx2, 0, none⟩)]]) (w' := w37) rfl rfl (x_call (vs := [Value.func (.func 71) #[] #[Value.pointer (some ⟨bx2, 0, none⟩)]]) (enter51 _ _) rfl rfl) (sorted_f bm bx2 n f gs w37 hG hF hn (hM38.get 2 rfl) (hM38.get 0 rfl)) ?_
  rintro v_ w39 ⟨Lk, hok, hM40⟩
  replace hM40 : Mem w No w39 ((bx2, .cells #[Value.map (some bm)] 87 (0, 0)) :: (b10, .cells (#[Value.slice (some ⟨tg, 0, none⟩) n n, Value.slice (some ⟨ta, 0, none⟩) n n]) 94 (0, 0)) :: (bm, mapO (gs.map Grp.ent) n) :: (Lk ++ (gs.flatMap Grp.L ++ (TabH n tg ta rg ra g a)))) := (Mem.call0 hM38 hM40).perm (List.perm_append_comm_assoc Lk ([(bx2, .cells #[Value.map (some bm)] 87 (0, 0)), (b10, .cells (#[Value.slice (some ⟨tg, 0, none⟩) n n, Value.slice (some ⟨ta, 0, none⟩) n n]) 94 (0, 0)), (bm, mapO (gs.map Grp.ent) n)] : Hp) (gs.flatMap Grp.L ++ (TabH n tg ta rg ra g a)))
  obtain ⟨Ak, ck, rfl, hnck, hckm, hAk⟩ := hok.slice
  have hkl := keysOf_len n f
  refine sqV (.int .i64 ((keysOf n f).length : Int)) rfl rfl (x_len rfl rfl) ?_
  refine sqV (.int .i64 0) rfl rfl rfl ?_
  refine r_nil (e_then (k_block (k_loop (σ := Nat × Value × Hp × List ORow) (fun ⟨i, vo, Lo, rows⟩ => [(0, .slice Al n cl), (7, .map (some bm)), (12, vo), (49, .slice Ak ((keysOf n f).length) ck), (50, .int .i64 ((keysOf n f).length : Int)), (51, .int .i64 (i : Int))]) (fun ⟨i, vo, Lo, rows⟩ w_ => Mem w No w_ ((bm, mapO (gs.map Grp.ent) n) :: (Lo ++ (rows.flatMap ORow.L ++ (Lk ++ (gs.flatMap Grp.L ++ (TabH n tg ta rg ra g a)))))) ∧ i ≤ (keysOf n f).length ∧ rows.length = i ∧ OwnR tInts 1 vo i (rows.map rowV) Lo ∧ (∀ r ∈ rows, r.ok) ∧ rows.map ORow.xs = ((keysOf n f).take i).map (idsAt l n f)) (fun ⟨i, vo, Lo, rows⟩ => (keysOf n f).length - i) (0, .slice none 0 0, [], []) (sqS rfl) ⟨(hM40.pickT [(bx2, .cells #[.map (some bm)] 87 (0, 0)), (b10, .cells (#[.slice (some ⟨tg, 0, none⟩) n n, .slice (some ⟨ta, 0, none⟩) n n]) 94 (0, 0)), (bm, mapO (gs.map Grp.ent) n)] (Lk ++ (gs.flatMap Grp.L ++ (TabH n tg ta rg ra g a))) rfl [2] _ (by decide) rfl), Nat.zero_le _, rfl, OwnR.nil _ _, by simp, by simp⟩ ?_)))
  rintro ⟨i, vo, Lo, rows⟩ w41 ⟨hM42, hi, hrl, hro, hrk, hrx⟩
  refine sqK [(0, .slice Al n cl), (7, .map (some bm)), (12, vo), (49, .slice Ak ((keysOf n f).length) ck), (50, .int .i64 ((keysOf n f).length : Int)), (51, .int .i64 (i : Int))] rfl (k_seq (k_region (sqV (.bool (decide ((i : Int) < ((keysOf n f).length : Int)))) rfl rfl rfl ?_)))
  refine r_nil (e_then (k_seq ?_))
  refine k_cond rfl rfl (fun h => ?_) (fun h => ?_)
  ·try simp only [sqC] at h
   refine k_skip (e_then (k_seq (k_block (k_seq (k_region ?_)))))
   obtain ⟨x, hx⟩ : ∃ x, (keysOf n f)[i]? = some x := ⟨(keysOf n f)[i]'(by omega), by simp⟩
   have hxk := mem_keysOf.1 (List.mem_of_getElem? hx)
   have hkr := hok.rdI (w := w41) (Mem.left (L := Lk) (Mem.right (L := rows.flatMap ORow.L) (Mem.right (L := Lo) hM42.tail))).holds
   refine sqV (.pointer (some ((adr Ak).add (i * 1)))) rfl rfl (x_indexAddrN (i := i) (sz := 1) hkr.here (by omega) rfl rfl rfl rfl) ?_
   refine sqV (.int .i64 (x : Int)) rfl rfl (x_loadEInt hkr (natsI_get hx) rfl rfl) ?_
   obtain ⟨q, hq, hqk⟩ := hF.has hxk.1
   rw [hxk.2] at hqk
   obtain ⟨Aq, cq, hqv, hnq, hcq, hAq⟩ := (hG.row q hq).slice
   have hqx := hF.row hq hqk
   have hml : (members n f x).length = q.xs.length := by rw [hqx]; simp [membersI]
   have hql := hF.short hn q hq
   refine sqV (.int .i64 (x : Int)) rfl rfl rfl ?_
   refine r_nil (sqE [(0, .slice Al n cl), (7, .map (some bm)), (12, vo), (14, .int .i64 (x : Int)), (49, .slice Ak ((keysOf n f).length) ck), (50, .int .i64 ((keysOf n f).length : Int)), (51, .int .i64 (i : Int))] rfl (e_then (k_seq (k_region (sqV (.slice none 0 0) rfl rfl rfl ?_)))))
   refine r_nil (e_then (k_seq (k_seq (k_region (sqV (.map (some bm)) rfl rfl rfl ?_)))))
   refine sqV (.int .i64 (x : Int)) rfl rfl rfl ?_
   refine sqV (.slice Aq q.xs.length cq) rfl rfl (by rw [← hqv]; exact x_lookupS (hM42.get 0 rfl) (mget_some (List.mem_map.2 ⟨q, hq, rfl⟩) hqk (ents_knd hG)) rfl rfl rfl rfl rfl) ?_
   refine sqV (.int .i64 (q.xs.length : Int)) rfl rfl (x_len rfl rfl) ?_
   refine sqV (.int .i64 0) rfl rfl rfl ?_
   refine r_nil (e_then (k_block (k_loop (σ := Nat × Value × Hp) (fun ⟨k, vi, Li⟩ => [(0, .slice Al n cl), (7, .map (some bm)), (12, vo), (15, vi), (49, .slice Ak ((keysOf n f).length) ck), (50, .int .i64 ((keysOf n f).length : Int)), (51, .int .i64 (i : Int)), (57, .slice Aq q.xs.length cq), (58, .int .i64 (q.xs.length : Int)), (59, .int .i64 (k : Int))]) (fun ⟨k, vi, Li⟩ w_ => Mem w No w_ ((bm, mapO (gs.map Grp.ent) n) :: (Li ++ (Lo ++ (rows.flatMap ORow.L ++ (Lk ++ (gs.flatMap Grp.L ++ (TabH n tg ta rg ra g a))))))) ∧ k ≤ q.xs.length ∧ OwnR tInt 1 vi k ((((members n f x).take k).map fun p => idOf (l.getD p [])).map (.int .i64)) Li) (fun ⟨k, vi, Li⟩ => q.xs.length - k) (0, .slice none 0 0, []) (sqS rfl) ⟨hM42, Nat.zero_le _, OwnR.nil _ _⟩ ?_)))
   rintro ⟨k, vi, Li⟩ w43 ⟨hM44, hk, hri⟩
   refine sqK [(0, .slice Al n cl), (7, .map (some bm)), (12, vo), (15, vi), (49, .slice Ak ((keysOf n f).length) ck), (50, .int .i64 ((keysOf n f).length : Int)), (51, .int .i64 (i : Int)), (57, .slice Aq q.xs.length cq), (58, .int .i64 (q.xs.length : Int)), (59, .int .i64 (k : Int))] rfl (k_seq (k_region (sqV (.bool (decide ((k : Int) < (q.xs.length : Int)))) rfl rfl rfl ?_)))
   refine r_nil (e_then (k_seq ?_))
   refine k_cond rfl rfl (fun h2 => ?_) (fun h2 => ?_)
   ·try simp only [sqC] at h2
    refine k_skip (e_then (k_seq (k_block (k_seq (k_region ?_)))))
    obtain ⟨p, hp⟩ : ∃ p, (members n f x)[k]? = some p := ⟨(members n f x)[k]'(by omega), by simp⟩
    have hpn := (mem_members.1 (List.mem_of_getElem? hp)).1
    obtain ⟨z, hz⟩ : ∃ z, l[p]? = some z := ⟨l[p]'(by omega), by simp⟩
    have hz14 : z.length = 14 := by have := hl.size' hz; simpa using this
    have hqr := (hqv ▸ hG.row q hq).rdI (w := w43) (flat_row (Mem.left (L := gs.flatMap Grp.L) (Mem.right (L := Lk) (Mem.right (L := rows.flatMap ORow.L) (Mem.right (L := Lo) (Mem.right (L := Li) hM44.tail))))).holds hq)
    refine sqV (.pointer (some ((adr Aq).add (k * 1)))) rfl rfl (x_indexAddrN (i := k) (sz := 1) hqr.here (by omega) rfl rfl rfl rfl) ?_
    refine sqV (.int .i64 (p : Int)) rfl rfl (x_loadEInt hqr (k := k) (e := (p : Int)) (by rw [hqx]; exact members_get hp) rfl rfl) ?_
    refine sqV (.int .i64 (p : Int)) rfl rfl rfl ?_
    refine r_nil (sqE [(0, .slice Al n cl), (7, .map (some bm)), (12, vo), (15, vi), (17, .int .i64 (p : Int)), (49, .slice Ak ((keysOf n f).length) ck), (50, .int .i64 ((keysOf n f).length : Int)), (51, .int .i64 (i : Int)), (57, .slice Aq q.xs.length cq), (58, .int .i64 (q.xs.length : Int)), (59, .int .i64 (k : Int))] rfl (e_then (k_region (sqV (vi) rfl rfl rfl ?_))))
    refine sqV (.slice Al n cl) rfl rfl rfl ?_
    refine sqV (.int .i64 (p : Int)) rfl rfl rfl ?_
    refine sqV (.pointer (some ((adr Al).add (p * 14)))) rfl rfl (x_indexAddrN (i := p) (sz := 14) hl.here (by omega) rfl rfl rfl rfl) ?_
    refine sqV (.pointer (some ((adr Al).add (p * 14)))) rfl rfl rfl ?_
    refine sqV (.int .i64 (idOf z)) rfl rfl (x_load ((hl.up hM44).first hz (intsE_0 (by omega))) rfl rfl) ?_
    refine r_new (fun b => .slice (some ⟨b, 0, none⟩) 1 1) (.cells #[Value.int .i64 (idOf z)] 3 (0, 0)) hM44 (by kernel_rfl) rfl rfl ?_
    intro b47 w45 hM46 hb47
    replace hM46 : Mem w No w45 ((b47, .cells #[Value.int .i64 (idOf z)] 3 (0, 0)) :: (bm, mapO (gs.map Grp.ent) n) :: (Li ++ (Lo ++ (rows.flatMap ORow.L ++ (Lk ++ (gs.flatMap Grp.L ++ (TabH n tg ta rg ra g a))))))) := hM46
    refine r_append (bytes := 8) (z := .int .i64 0) (A := some ⟨b47, 0, none⟩) (m := 1) (c := 1) (news := [Value.int .i64 (idOf z)]) hri (hM46.perm (List.perm_append_comm_assoc ([(b47, .cells #[Value.int .i64 (idOf z)] 3 (0, 0)), (bm, mapO (gs.map Grp.ent) n)] : Hp) Li (Lo ++ (rows.flatMap ORow.L ++ (Lk ++ (gs.flatMap Grp.L ++ (TabH n tg ta rg ra g a))))))) (fun _ => rfl) (rfl) (hM46.cells 0 rfl) (by simp [Value.oneCell']) (by omega) (by kernel_rfl) (by kernel_rfl) rfl (by decide) (by decide) rfl rfl rfl ?_
    intro v8 L8 w48 hr8 hM49
    replace hM49 := (hM49).perm (List.perm_append_comm_assoc L8 ([(b47, .cells #[Value.int .i64 (idOf z)] 3 (0, 0)), (bm, mapO (gs.map Grp.ent) n)] : Hp) (Lo ++ (rows.flatMap ORow.L ++ (Lk ++ (gs.flatMap Grp.L ++ (TabH n tg ta rg ra g a))))))
    have hone_v8 := hr8.one
    replace hM49 : Mem w No w48 ((b47, .cells #[Value.int .i64 (idOf z)] 3 (0, 0)) :: (bm, mapO (gs.map Grp.ent) n) :: (L8 ++ (Lo ++ (rows.flatMap ORow.L ++ (Lk ++ (gs.flatMap Grp.L ++ (TabH n tg ta rg ra g a))))))) := hM49
    refine sqV (v8) rfl rfl rfl ?_
    refine r_nil (e_blk (e_then (k_region (sqV (.int .i64 ((k : Int) + 1)) rfl rfl (x_addE rfl (by omega) (by omega) rfl rfl) ?_))))
    refine sqV (.int .i64 ((k : Int) + 1)) rfl rfl rfl ?_
    refine r_nil ?_
    refine e_loop (k + 1, v8, L8) (sqS rfl) ?_ ?_
    ·exact ⟨(hM49.pickT [(b47, .cells #[Value.int .i64 (idOf z)] 3 (0, 0)), (bm, mapO (gs.map Grp.ent) n)] (L8 ++ (Lo ++ (rows.flatMap ORow.L ++ (Lk ++ (gs.flatMap Grp.L ++ (TabH n tg ta rg ra g a)))))) rfl [1] _ (by decide) rfl), by omega, ids_snoc hp hz hr8⟩
    ·(try dsimp only); omega
   ·try simp only [sqC] at h2
    refine k_exit (e_then_exit (e_loop_exit (e_blk_exit (e_then (k_region ?_)))))
    have hkn : k = q.xs.length := by omega
    obtain ⟨A9, c9, hv9, hnc9, hcm9, hA9⟩ := hri.slice
    have hids : ((members n f x).take k).map (fun p => idOf (l.getD p [])) = idsAt l n f x := by rw [List.take_of_length_le (by omega)]; rfl
    rw [hids, hv9] at hri
    have hil : (idsAt l n f x).length = k := by have h9 := hri.len; simpa using h9
    refine wpR_sub [(0, Value.slice Al n cl), (7, Value.map (some bm)), (12, vo), (15, Value.slice A9 k c9), (49, Value.slice Ak ((keysOf n f).length) ck), (50, Value.int .i64 ((keysOf n f).length : Int)), (51, Value.int .i64 (i : Int)), (57, Value.slice Aq q.xs.length cq), (58, Value.int .i64 (q.xs.length : Int)), (59, Value.int .i64 (k : Int)), (60, Value.bool (decide ((k : Int) < (q.xs.length : Int))))] ⟨rfl, rfl, rfl, congrArg some hv9, rfl, rfl, rfl, rfl, rfl, rfl, rfl, trivial⟩ ?_
    refine sqV (vo) rfl rfl rfl ?_
    refine sqV (.slice A9 k c9) rfl rfl rfl ?_
    refine r_call (f := 55) (args := #[Value.slice A9 k c9]) (w' := w43) rfl rfl (x_call (vs := [Value.slice A9 k c9]) (enter55 _ _) rfl rfl) (clip_s A9 k c9 w43 hnc9) ?_
    rintro v_ w50 ⟨rfl, hM51⟩
    replace hM51 := hM44.grow hM51.kept
    have hM52 : Mem w No w50 ((bm, mapO (gs.map Grp.ent) n) :: (Lo ++ (Li ++ (rows.flatMap ORow.L ++ (Lk ++ (gs.flatMap Grp.L ++ (TabH n tg ta rg ra g a))))))) := hM51.perm (List.Perm.append_left ([(bm, mapO (gs.map Grp.ent) n)] : Hp) (List.perm_append_comm_assoc Li Lo (rows.flatMap ORow.L ++ (Lk ++ (gs.flatMap Grp.L ++ (TabH n tg ta rg ra g a))))))
    refine r_new (fun b => .slice (some ⟨b, 0, none⟩) 1 1) (.cells #[Value.slice A9 k k] 30 (0, 0)) hM52 (by kernel_rfl) rfl rfl ?_
    intro b55 w53 hM54 hb55
    replace hM54 : Mem w No w53 ((b55, .cells #[Value.slice A9 k k] 30 (0, 0)) :: (bm, mapO (gs.map Grp.ent) n) :: (Lo ++ (Li ++ (rows.flatMap ORow.L ++ (Lk ++ (gs.flatMap Grp.L ++ (TabH n tg ta rg ra g a))))))) := hM54
    refine r_append (bytes := 24) (z := .slice none 0 0) (A := some ⟨b55, 0, none⟩) (m := 1) (c := 1) (news := [Value.slice A9 k k]) hro (hM54.perm (List.perm_append_comm_assoc ([(b55, .cells #[Value.slice A9 k k] 30 (0, 0)), (bm, mapO (gs.map Grp.ent) n)] : Hp) Lo (Li ++ (rows.flatMap ORow.L ++ (Lk ++ (gs.flatMap Grp.L ++ (TabH n tg ta rg ra g a))))))) (fun _ => rfl) (rfl) (hM54.cells 0 rfl) (by simp [Value.oneCell']) (by omega) (by kernel_rfl) (by kernel_rfl) rfl (by decide) (by decide) rfl rfl rfl ?_
    intro v7 L7 w56 hr7 hM57
    replace hM57 := (hM57).perm (List.perm_append_comm_assoc L7 ([(b55, .cells #[Value.slice A9 k k] 30 (0, 0)), (bm, mapO (gs.map Grp.ent) n)] : Hp) (Li ++ (rows.flatMap ORow.L ++ (Lk ++ (gs.flatMap Grp.L ++ (TabH n tg ta rg ra g a))))))
    have hone_v7 := hr7.one
    replace hM57 : Mem w No w56 ((b55, .cells #[Value.slice A9 k k] 30 (0, 0)) :: (bm, mapO (gs.map Grp.ent) n) :: (L7 ++ (Li ++ (rows.flatMap ORow.L ++ (Lk ++ (gs.flatMap Grp.L ++ (TabH n tg ta rg ra g a))))))) := hM57
    refine sqV (v7) rfl rfl rfl ?_
    refine r_nil (e_blk (e_then (k_region (sqV (.int .i64 ((i : Int) + 1)) rfl rfl (x_addE rfl (by omega) (by omega) rfl rfl) ?_))))
    refine sqV (.int .i64 ((i : Int) + 1)) rfl rfl rfl ?_
    refine r_nil (sqE [(0, .slice Al n cl), (7, .map (some bm)), (12, v7), (49, .slice Ak ((keysOf n f).length) ck), (50, .int .i64 ((keysOf n f).length : Int)), (51, .int .i64 ((i : Int) + 1))] rfl ?_)
    refine e_loop (i + 1, v7, L7, rows ++ [⟨A9, idsAt l n f x, Li⟩]) (sqS rfl) ?_ ?_
    ·refine ⟨by rw [rows_flat]; exact Mem.rowsnoc (hM57.pickT [(b55, .cells #[Value.slice A9 k k] 30 (0, 0)), (bm, mapO (gs.map Grp.ent) n)] (L7 ++ (Li ++ (rows.flatMap ORow.L ++ (Lk ++ (gs.flatMap Grp.L ++ (TabH n tg ta rg ra g a)))))) rfl [1] _ (by decide) rfl), by omega, by simp [hrl], ?_, ?_, ?_⟩
     ·rw [List.map_append]; simpa [rowV, hil] using hr7
     ·intro r hr; rcases List.mem_append.1 hr with hr | hr
      ·exact hrk r hr
      ·simp at hr; subst hr; exact ⟨c9, by simpa [hil] using hri⟩
     ·rw [List.map_append, hrx, take_snoc' hx, List.map_append]; rfl
    ·(try dsimp only); omega
  ·try simp only [sqC] at h
   refine k_exit (e_then_exit (e_loop_exit (e_blk_exit (e_then (k_seq (k_region ?_))))))
   have hin : i = (keysOf n f).length := by omega
   obtain ⟨Ao, co, hvo, hnco, hcmo, hAo⟩ := hro.slice
   refine wpR_sub [(0, Value.slice Al n cl), (7, Value.map (some bm)), (12, Value.slice Ao i co), (49, Value.slice Ak ((keysOf n f).length) ck), (50, Value.int .i64 ((keysOf n f).length : Int)), (51, Value.int .i64 (i : Int)), (52, Value.bool (decide ((i : Int) < ((keysOf n f).length : Int))))] ⟨rfl, rfl, congrArg some hvo, rfl, rfl, rfl, rfl, trivial⟩ ?_
   refine sqV (.slice Ao i co) rfl rfl rfl ?_
   refine r_call (f := 56) (args := #[Value.slice Ao i co]) (w' := w41) rfl rfl (x_call (vs := [Value.slice Ao i co]) (enter56 _ _) rfl rfl) (clips_s Ao i co w41 hnco) ?_
   rintro v_ w58 ⟨rfl, hM59⟩
   replace hM59 := hM42.grow hM59.kept
   refine sqV (.slice Ao i i) rfl rfl rfl ?_
   refine r_nil (e_then (k_ret (e_ret1 rfl rfl ?_)))
   rw [hvo] at hro
   subst hrl
   exact ⟨_, rfl, f, ⟨hR, hstop, hF.le, hF.idem⟩, Ao, rows, rfl, by rw [hrx, List.take_of_length_le (by omega)]; rfl, co, Lo, hro, hrk, Mem.left (L := Lo ++ rows.flatMap ORow.L) (L' := (Lk ++ (gs.flatMap Grp.L ++ (TabH n tg ta rg ra g a)))) (by rw [List.append_assoc]; exact hM59.tail)⟩
 ·try simp only [sqC] at hs
  refine k_skip (e_then (k_seq (k_region ?_)))
  obtain ⟨hxy, hx, hy⟩ := best_keys hbest hs
  refine sqV (.map (some bm)) rfl rfl rfl ?_
  refine sqV (.int .i64 (x : Int)) rfl rfl rfl ?_
  refine sqV (.int .i64 (y : Int)) rfl rfl rfl ?_
  refine r_call (f := 53) (args := #[Value.map (some bm), Value.int .i64 (x : Int), Value.int .i64 (y : Int)]) (w' := w35) rfl rfl (x_call (vs := [Value.map (some bm), Value.int .i64 (x : Int), Value.int .i64 (y : Int)]) (enter53 _ _) rfl rfl) (join_k bm gs n hG f hF hn x y hx hy w35 (Mem.left (L := GL bm gs n) hM9.tail).holds) ?_
  rintro v_ w60 ⟨rfl, gs2, ⟨hG2, hF2⟩, hM61⟩
  replace hM61 : Mem w No w60 ((b10, .cells (#[Value.slice (some ⟨tg, 0, none⟩) n n, Value.slice (some ⟨ta, 0, none⟩) n n]) 94 (0, 0)) :: (bm, mapO (gs2.map Grp.ent) n) :: (gs2.flatMap Grp.L ++ (TabH n tg ta rg ra g a))) := (Mem.call (L1 := GL bm gs n) (hM9.perm (List.perm_middle (l₁ := GL bm gs n) (l₂ := (TabH n tg ta rg ra g a))).symm) hM61).perm (List.perm_middle (l₁ := GL bm gs2 n) (l₂ := (TabH n tg ta rg ra g a)))
  refine r_nil (e_then (k_region (sqV (.agg (#[.slice (some ⟨tg, 0, none⟩) n n, .slice (some ⟨ta, 0, none⟩) n n])) rfl rfl (x_loadPart hM61 0 rfl (o := 0) (l := [Value.slice (some ⟨tg, 0, none⟩) n n, Value.slice (some ⟨ta, 0, none⟩) n n]) rfl rfl rfl rfl) ?_)))
  refine sqV (.int .i64 (x : Int)) rfl rfl rfl ?_
  refine sqV (.int .i64 (y : Int)) rfl rfl rfl ?_
  refine r_call (f := 54) (args := #[Value.agg (#[Value.slice (some ⟨tg, 0, none⟩) n n, Value.slice (some ⟨ta, 0, none⟩) n n]), Value.int .i64 (x : Int), Value.int .i64 (y : Int)]) (w' := w60) rfl rfl (x_call (vs := [Value.agg (#[Value.slice (some ⟨tg, 0, none⟩) n n, Value.slice (some ⟨ta, 0, none⟩) n n]), Value.int .i64 (x : Int), Value.int .i64 (y : Int)]) (enter54 _ _) rfl rfl) (merge_s n tg ta rg ra g a x y w60 (Mem.right (L := gs2.flatMap Grp.L) (Mem.right (L := ([(b10, .cells (#[Value.slice (some ⟨tg, 0, none⟩) n n, Value.slice (some ⟨ta, 0, none⟩) n n]) 94 (0, 0)), (bm, mapO (gs2.map Grp.ent) n)] : Hp)) hM61)).holds hx.1 hy.1 hn) ?_
  rintro v_ w62 ⟨rfl, hM63⟩
  replace hM63 : Mem w No w62 ((b10, .cells (#[Value.slice (some ⟨tg, 0, none⟩) n n, Value.slice (some ⟨ta, 0, none⟩) n n]) 94 (0, 0)) :: (bm, mapO (gs2.map Grp.ent) n) :: (gs2.flatMap Grp.L ++ (TabH n tg ta rg ra (mgG x y g n) (mgA x y a n)))) := (Mem.call (L1 := (TabH n tg ta rg ra g a)) (L2 := ([(b10, .cells (#[Value.slice (some ⟨tg, 0, none⟩) n n, Value.slice (some ⟨ta, 0, none⟩) n n]) 94 (0, 0)), (bm, mapO (gs2.map Grp.ent) n)] : Hp) ++ gs2.flatMap Grp.L) (hM61.perm (List.perm_append_comm (l₁ := ([(b10, .cells (#[Value.slice (some ⟨tg, 0, none⟩) n n, Value.slice (some ⟨ta, 0, none⟩) n n]) 94 (0, 0)), (bm, mapO (gs2.map Grp.ent) n)] : Hp) ++ gs2.flatMap Grp.L))) hM63).perm List.perm_append_comm
  refine r_nil (e_blk ?_)
  refine e_loop (joinF x y f, gs2, mgG x y g n, mgA x y a n) (sqS rfl) ?_ ?_
  ·exact ⟨hM63, hG2, hF2, tabK_merge hT hxy hx hy, hR.snoc ⟨g, a, x, y, least, hT, hbest, hs, rfl⟩⟩
  ·exact keys_less hxy hx hy


end Go.Proofs.Ytddacakmafdgdaa
end
section
/- Cluster's errors. -/
namespace Go.Kn
open Go.RowKit
def clErr (l : List (List Int)) (bs : List Bond3) (limit : Int) : Int := if checkB l bs ≠ 0 then checkB l bs else if outN limit 0 774192 = true then 2 else 0
theorem checkB_ok {l : List (List Int)} {bs : List Bond3} (h : checkB l bs = 0) : checkL l = 0 ∧ bs.length ≤ 1000 ∧ bondsFrom l none bs = 0 := by
  unfold checkB at h
  split at h
  · rename_i h1; exact absurd h h1
  · rename_i h1
    split at h
    · cases h
    · rename_i h2
      split at h
      · rename_i h3; exact absurd h h3
      · rename_i h3
        exact ⟨by simpa using h1, by omega, by simpa using h3⟩
theorem checkB_apart {l : List (List Int)} {bs : List Bond3} (h : checkB l bs = 0) : apartBad (firstsOf l bs) (notsOf l bs) = false := by
  obtain ⟨h1, h2, h3⟩ := checkB_ok h
  rw [checkB_3 h1 (by omega), eq_if h3] at h
  split at h
  · cases h
  · rename_i h4; simpa using h4
end Go.Kn
end
section
/- Fl: what Go functions of this seat come to, printed by walk.py over the engine. -/
set_option linter.unusedVariables false
set_option linter.unusedSimpArgs false
set_option maxRecDepth 100000
namespace Go.Proofs.Ytddacakmafdgdaa
open Go.RowKit Go.Kn

theorem cluster_s (Al Ab : Option Addr) (nl cl nb cb : Nat) (l : List (List Int)) (bs : List Bond3) (limit : Int) (w : World) (hl : RdE intsE 14 w Al nl l) (hb : RdE bondE 3 w Ab nb bs) :
  Calls Try.prog 6 #[Value.slice Al nl cl, Value.slice Ab nb cb, Value.int .i64 limit] w fun e w' => ∃ r, e = .returned r ∧ ∃ gv e, r = .tuple #[gv, .int .i64 e] ∧ e = clErr l bs limit ∧ (e ≠ 0 → gv = .slice none 0 0) ∧ (e = 0 → ∃ fE, (Runs l nl (notsOf l bs) limit (firstsOf l bs) fE ∧ Stop l nl (notsOf l bs) limit fE ∧ (∀ p, p < nl → fE p ≤ p) ∧ ∀ p, p < nl → fE (fE p) = fE p) ∧ ∃ (A : Option Addr) (rows : List ORow), gv = .slice A rows.length rows.length ∧ rows.map ORow.xs = idsG l nl fE ∧ ∃ (c : Nat) (Lo : Hp), OwnR tInts 1 (.slice A rows.length c) rows.length (rows.map rowV) Lo ∧ (∀ r ∈ rows, r.ok) ∧ Mem w No w' (Lo ++ rows.flatMap ORow.L)) ∧ Mem w No w' [] := by
 refine calls_k (args := [Value.slice Al nl cl, Value.slice Ab nb cb, Value.int .i64 limit]) 23 [(0, Value.slice Al nl cl), (1, Value.slice Ab nb cb), (2, Value.int .i64 limit)] Try.func6 rfl rfl ⟨rfl, rfl, rfl, trivial⟩ ?_
 have hM := Mem.nil w No
 have hbl := hb.len
 have hll := hl.len
 refine k_seq (k_region (sqV (.slice none 0 0) rfl rfl rfl ?_))
 refine sqV (.int .i64 0) rfl rfl rfl ?_
 refine r_nil (e_then (k_seq (k_seq (k_region (sqV (.slice Al nl cl) rfl rfl rfl ?_)))))
 refine sqV (.slice Ab nb cb) rfl rfl rfl ?_
 refine r_call (f := 17) (args := #[Value.slice Al nl cl, Value.slice Ab nb cb]) (w' := w) rfl rfl (x_call (vs := [Value.slice Al nl cl, Value.slice Ab nb cb]) (enter17 _ _) rfl rfl) (checkBonds_s Al Ab nl cl nb cb l bs w (hl.up hM) (hb.up hM)) ?_
 rintro v_ w1 ⟨rfl, hM2⟩
 replace hM2 := hM.grow hM2.kept
 refine sqV (.int .i64 (checkB l bs)) rfl rfl rfl ?_
 refine r_nil (e_then (k_seq (k_region (sqV (.int .i64 (checkB l bs)) rfl rfl rfl ?_))))
 refine sqV (.bool ((checkB l bs) != 0)) rfl rfl rfl ?_
 refine r_nil (e_then ?_)
 refine k_cond rfl rfl (fun h => ?_) (fun h => ?_)
 ·try simp only [sqC] at h
  refine k_seq (k_region (sqV (.int .i64 (checkB l bs)) rfl rfl rfl ?_))
  refine sqV (.slice none 0 0) rfl rfl rfl ?_
  refine sqV (.int .i64 (checkB l bs)) rfl rfl rfl ?_
  refine r_nil (sqE [(6, .slice none 0 0), (7, .int .i64 (checkB l bs))] rfl (e_then (k_ret (e_then_ret (e_ret2 rfl rfl rfl ?_)))))
  exact ⟨_, rfl, _, _, rfl, by rw [clErr, if_pos h], fun _ => rfl, fun h0 => absurd h0 (h), hM2.drop⟩
 ·try simp only [sqC] at h
  refine k_skip (e_then (k_seq (k_seq (k_region (sqV (.int .i64 limit) rfl rfl rfl ?_)))))
  refine r_call (f := 21) (args := #[Value.int .i64 limit, Value.int .i64 0, Value.int .i64 774192]) (w' := w1) rfl rfl (x_call (vs := [Value.int .i64 limit, Value.int .i64 0, Value.int .i64 774192]) (enter21 _ _) rfl rfl) (outside_s limit 0 774192 w1) ?_
  rintro v_ w3 ⟨rfl, hM4⟩
  replace hM4 := hM2.grow hM4.kept
  refine r_nil (e_then ?_)
  refine k_cond rfl rfl (fun h2 => ?_) (fun h2 => ?_)
  ·try simp only [sqC] at h2
   refine k_seq (k_region (sqV (.slice none 0 0) rfl rfl rfl ?_))
   refine sqV (.int .i64 2) rfl rfl rfl ?_
   refine r_nil (e_then (k_ret (e_then_ret (e_ret2 rfl rfl rfl ?_))))
   exact ⟨_, rfl, _, _, rfl, by rw [clErr, if_neg (by simp [h]), if_pos h2], fun _ => rfl, fun h0 => absurd h0 (by decide), hM4.drop⟩
  ·try simp only [sqC] at h2
   refine k_skip (e_then (k_seq (k_region ?_)))
   have hc := checkB_ok h
   have hgd := good_of hc.1 (fun x hx => by have := hl.size x hx; simpa using this)
   have hl3 : nl ≤ 300 := by have := hgd.len; omega
   have hlim : 0 ≤ limit ∧ limit ≤ 774192 := by simp [outN] at h2; omega
   have hf := musts_lt hgd.sorted hc.2.2
   have hf2 := nots_lt hgd.sorted hc.2.2
   have hnb := hc.2.1
   have hml := musts_len (l := l) (bs := bs) (k := nb)
   have hnl := nots_len (l := l) (bs := bs) (k := nb)
   rw [List.take_of_length_le (by omega)] at hml hnl
   refine sqV (.slice Al nl cl) rfl rfl rfl ?_
   refine sqV (.slice Al nl cl) rfl rfl rfl ?_
   refine sqV (.slice Ab nb cb) rfl rfl rfl ?_
   refine r_call (f := 23) (args := #[Value.slice Al nl cl, Value.slice Ab nb cb]) (w' := w3) rfl rfl (x_call (vs := [Value.slice Al nl cl, Value.slice Ab nb cb]) (enter23 _ _) rfl rfl) (bondsOf_s Al Ab nl cl nb cb l bs w3 (hl.up hM4) (hb.up hM4) hgd.sorted hl3 (by omega)) ?_
   rintro v_ w5 ⟨v1, v2, L1, L2, rfl, ⟨hr1, hr2⟩, hM6⟩
   replace hM6 : Mem w No w5 (L1 ++ L2) := by simpa using Mem.call0 hM4.drop hM6
   obtain ⟨A1, c1, rfl, hnc1, hcx1, hA1⟩ := hr1.slice
   obtain ⟨A2, c2, rfl, hnc2, hcx2, hA2x⟩ := hr2.slice
   refine sqV (.int .i64 limit) rfl rfl rfl ?_
   refine r_call (f := 22) (args := #[Value.slice Al nl cl, Value.agg (#[Value.slice A1 (mustsOf l bs).length c1, Value.slice A2 (notsOf l bs).length c2]), Value.int .i64 limit]) (w' := w5) rfl rfl (x_call (vs := [Value.slice Al nl cl, Value.agg (#[Value.slice A1 (mustsOf l bs).length c1, Value.slice A2 (notsOf l bs).length c2]), Value.int .i64 limit]) (enter22 _ _) rfl rfl) (clustered_s Al A1 A2 nl cl (mustsOf l bs).length c1 (notsOf l bs).length c2 l (mustsOf l bs) (notsOf l bs) limit w5 (hl.up hM6) hgd (hr1.rd (Mem.left (L := L1) (L' := L2) hM6).holds (by simp) (by decide)) (hr2.rd (Mem.right (L := L1) (L' := L2) hM6).holds (by simp) (by decide)) (fun m hm => hll ▸ hf m hm) (fun m hm => hll ▸ hf2 m hm) hl3 (by omega) (by omega) hlim.1 hlim.2) ?_
   rintro v_ w7 ⟨fE, hRS, A, rows, rfl, hrx, c9, Lo, hro, hrk, hM8⟩
   replace hM8 : Mem w No w7 (Lo ++ rows.flatMap ORow.L) := by simpa using Mem.call0 hM6.drop hM8
   refine sqV (.slice A rows.length rows.length) rfl rfl rfl ?_
   refine sqV (.int .i64 0) rfl rfl rfl ?_
   refine r_nil (e_then (k_ret (e_ret2 rfl rfl rfl ?_)))
   exact ⟨_, rfl, _, _, rfl, by rw [clErr, if_neg (by simp [h]), if_neg (by simp [h2])], fun h0 => absurd rfl h0, fun _ => ⟨fE, hRS, A, rows, rfl, hrx, c9, Lo, hro, hrk, hM8⟩, hM8.drop⟩


end Go.Proofs.Ytddacakmafdgdaa
end
section
/- slices.Grow of nil; rows that are read. -/
set_option linter.unusedVariables false
set_option linter.unusedSimpArgs false
namespace Go.Proofs.Ytddacakmafdgdaa
open Go.RowKit Go.Kn Go.Proofs
theorem grow_s (n : Nat) (w : World) (hn : n ≤ 1099511627776) :
    Calls Try.prog 59 #[.slice none 0 0, .int .i64 (n : Int)] w fun e w' => ∃ r, e = .returned r ∧ ∃ L, OwnR tInt 1 r 0 [] L ∧ Mem w No w' L := by
  rcases Nat.eq_zero_or_pos n with h0 | h0
  · subst h0
    refine (Any8.slices_Grow_room Try.growA none 0 0 0 w (Nat.le_refl _) (by omega) (by omega) (by omega)).mono ?_
    rintro e w' ⟨rfl, rfl⟩
    exact ⟨_, rfl, [], OwnR.nil _ _, Mem.nil _ _⟩
  · have hi : (Try.prog.info? tInt).map (fun i => (i.zero, i.size, i.bytes)) = some (some (.int .i64 0), 1, 8) := by kernel_rfl
    obtain ⟨i0, h1, h2, h3, h4⟩ := info_parts hi
    refine (Any8.slices_Grow_grow Try.growA i0 (.int .i64 0) h1 h2 (by omega) none 0 0 n [] w (Nat.le_refl _) (by omega) (by rw [h4]; omega) (by omega) (by simp) (fun _ => rfl) (fun a h => by cases h)).mono ?_
    rintro e w' ⟨rfl, rfl⟩
    have hge := grownCap_ge w (0 + n) 0 (Try.growA_ren.t 25)
    have hle := grownCap_le_maxLen w (0 + n) 0 (Try.growA_ren.t 25) (by simp only [maxLen]; omega)
    refine ⟨_, rfl, [(w.heap.size, _)], ⟨by simp, .inr ⟨w.heap.size, _, _, rfl, Nat.zero_le _, hle, ?_, by simp, rfl⟩⟩, (Mem.nil w No).drew.alloc _⟩
    have hz : ∀ m, (Builtin.zeroCells (Value.int .i64 0).cells m).size = m := by intro m; simp [Builtin.zeroCells, Value.cells]
    simp only [Array.size_append, hz, List.size_toArray, List.length_nil]
    omega
structure SRow where
  A : Option Addr
  c : Nat
  xs : List Int
abbrev encR (r : SRow) : List Value := [.slice r.A r.xs.length r.c]
theorem _root_.Go.Kn.RdE.cellsI {w : World} {A : Option Addr} {n : Nat} {xs : List Int} (h : RdE intE 1 w A n xs) : ∀ j u, (xs.map (.int .i64))[j]? = some u → w.cell? ((adr A).add j) = some u := by
  intro j u hu
  rw [List.getElem?_map] at hu
  obtain ⟨y, hy, rfl⟩ := Option.map_eq_some_iff.1 hu
  have := h.first hy rfl
  simpa using this
def allXs (es : List SRow) : List Int := es.flatMap SRow.xs
theorem allXs_snoc {es : List SRow} {k : Nat} {e : SRow} (h : es[k]? = some e) : allXs (es.take (k + 1)) = allXs (es.take k) ++ e.xs := by rw [take_snoc' h]; simp [allXs]
theorem allXs_le {es : List SRow} (k : Nat) : (allXs (es.take k)).length ≤ (allXs es).length := by
  have h : allXs es = allXs (es.take k) ++ allXs (es.drop k) := by unfold allXs; rw [← List.flatMap_append, List.take_append_drop]
  rw [h, List.length_append]; omega
end Go.Proofs.Ytddacakmafdgdaa
end
