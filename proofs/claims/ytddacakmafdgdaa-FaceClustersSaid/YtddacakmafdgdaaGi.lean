/- The keys of groups, sorted: slices.Sorted(maps.Keys(g)). -/
import Derived.Test.YtddacakmafdgdaaGc
import Derived.Test.YtddacakmafdgdaaShI
import Derived.Test.YtddacakmafdgdaaSh
import Derived.Test.YtddacakmafdgdaaGs
import Derived.Test.YtddacakmafdgdaaKnT
set_option linter.unusedVariables false
set_option linter.unusedSimpArgs false
namespace Go.Proofs.Ytddacakmafdgdaa
open Go.RowKit Go.Kn Go.Proofs Go.Maps Go.WideElems Go.MapKept
noncomputable def R0 : Value → Option (DataW Unit × List MemPlace) := fun _ => some (.nil, [])
theorem rd_ent (q : Ent) (h1 : -9223372036854775808 ≤ q.key) (h2 : q.key ≤ 9223372036854775807) : rd Try.prog tInt R0 q.obj = some (.int .i64 q.key, .nil) := by
  have hu : Try.prog.underlying tInt = some (.int .i64) := by kernel_rfl
  have hw : (Lit.int .i64 q.key).wf = true := by simp [Lit.wf, IntKind.min, IntKind.max, IntKind.signed, IntKind.bits]; omega
  simp [rd, keyOf, mapKey, hu, Ent.obj, hw, R0]
noncomputable def datum (es : List Ent) : DataW Unit := .map (((es.map Ent.obj).toArray.toList.map (rg Try.prog tInt R0)).foldr DataW.insert [])
theorem datum_size (es : List Ent) : Maps.size (datum es) = es.length := by
  unfold datum
  rw [Maps.size_eq, (WideShapes.sorted_perm _).length_eq]
  simp
theorem datum_keys (es : List Ent) (hb : ∀ e ∈ es, -9223372036854775808 ≤ e.key ∧ e.key ≤ 9223372036854775807) : (intKeys (datum es)).Perm (es.map Ent.key) := by
  unfold datum intKeys
  simp only []
  refine ((WideShapes.sorted_perm _).map _).trans ?_
  have e : ((es.map Ent.obj).toArray.toList.map (rg Try.prog tInt R0)).map (fun p => Go.intOf p.1) = es.map Ent.key := by
    rw [List.map_map, List.map_map]
    refine List.map_congr_left fun q hq => ?_
    simp only [Function.comp]
    rw [rg_of (rd_ent q (hb q hq).1 (hb q hq).2)]
    rfl
  rw [e]
theorem owns_datum {w : World} {bm ck : Nat} {es : List Ent} (hm : w.heap[bm]? = some (mapO es ck)) (hb : ∀ e ∈ es, -9223372036854775808 ≤ e.key ∧ e.key ≤ 9223372036854775807) (h1 : ∀ e ∈ es, e.born < ck) (h2 : (es.map Ent.born).Nodup) (h3 : (es.map Ent.key).Nodup) (h4 : es.length ≤ maxLen) : w.ownsMap Try.prog tInt R0 bm es.length (datum es) := by
  refine ⟨_, ck, hm, ⟨by simpa using h4, ⟨?_, ?_, ?_⟩, ?_⟩, by simp, rfl⟩
  · intro x hx
    simp at hx
    obtain ⟨e, he, rfl⟩ := hx
    exact h1 e he
  · simp only [List.map_map]
    exact h2
  · simp only [List.map_map]
    have : (es.map (MapEntry.key ∘ Ent.obj)) = (es.map Ent.key).map (Value.int .i64) := by rw [List.map_map]; rfl
    rw [this]
    exact List.Pairwise.map _ (fun a b hne e => hne (by injection e)) h3
  · intro x hx
    simp at hx
    obtain ⟨e, he, rfl⟩ := hx
    exact ⟨_, rd_ent e (hb e he).1 (hb e he).2⟩
theorem OwnR_of_owns {w0 w : World} {e : TypeId} {sz : Nat} {v : Value} {n : Nat} {xs : List Value} (h : w.ownsRow w0.heap.size e sz v n xs) (hb : Below w0.heap.size w0 w) : ∃ L, OwnR e sz v n xs L ∧ Mem w0 No w L := by
  obtain ⟨h1, h2⟩ := h
  rcases h2 with ⟨rfl, rfl⟩ | ⟨b, cap, cur, rfl, h3, h4, h5, h6, h7, h8⟩
  · exact ⟨[], ⟨h1, .inl ⟨rfl, rfl, rfl⟩⟩, ⟨Kept.of_below hb, Kn.Holds.nil _, by simp [keys]⟩⟩
  · exact ⟨[(b, .cells cur e (0, 0))], ⟨h1, .inr ⟨b, cap, cur, rfl, h5, h6, h7, h8, rfl⟩⟩, ⟨Kept.of_below hb, ⟨by simp, by simpa using h4⟩, by simp [keys]; exact h3⟩⟩
theorem keys_s (bm : Nat) (w : World) :
    Calls Try.prog 52 #[.map (some bm)] w fun e w' => ∃ r, e = .returned r ∧ ∃ b, r = .func (.func 71) #[] #[.pointer (some ⟨b, 0, none⟩)] ∧ Mem w No w' [(b, .cells #[.map (some bm)] 87 (0, 0))] := by
  refine ((callsIn_wide (n := 5)).1 (AnyZI.keys_in Try.keysA Fence.wide 5 trivial rfl (some bm) w)).mono ?_
  rintro e w' ⟨rfl, rfl⟩
  exact ⟨_, rfl, _, rfl, (Mem.nil w No).alloc _⟩
theorem sortsA (m : Nat) : AnyZI.SortsIn Try.prog Try.sortedA_ren Fence.wide m :=
  ⟨fun blk off cap ss W hH hblk hsz => callsIn_wide.2 (Try.slices_Sort_int blk off cap ss W hH hblk hsz),
   fun p cap W => callsIn_wide.2 (Try.slices_Sort_int_none p cap W)⟩
theorem sorted_s (bm bx : Nat) (es : List Ent) (ck : Nat) (w : World) (hm : w.heap[bm]? = some (mapO es ck)) (hx : w.heap[bx]? = some (.cells #[.map (some bm)] 87 (0, 0))) (hb : ∀ e ∈ es, -9223372036854775808 ≤ e.key ∧ e.key ≤ 9223372036854775807) (h1 : ∀ e ∈ es, e.born < ck) (h2 : (es.map Ent.born).Nodup) (h3 : (es.map Ent.key).Nodup) (h4 : es.length ≤ 1000000) :
    Calls Try.prog 51 #[.func (.func 71) #[] #[.pointer (some ⟨bx, 0, none⟩)]] w fun e w' => ∃ r, e = .returned r ∧ ∃ L, OwnR tInt 1 r es.length ((sortI (es.map Ent.key)).map (.int .i64)) L ∧ Mem w No w' L := by
  have hbl := lt_of_block hx
  have hown := owns_datum hm hb h1 h2 h3 (by simp only [maxLen]; omega)
  have hseq : SeqGives Fence.wide 2 Try.prog 71 #[.pointer (some ⟨bx, 0, none⟩)] encZ (fun ss => ss.Perm (intKeys (datum es))) (Maps.size (datum es)) w :=
    AnyZI.keys_gives (ρ := Try.keysA_ren) { Try.keysA with } Fence.wide _ trivial rfl (by omega) bx bm _ _ _ hbl (by rw [cell_of_row w bx 0 _ _ _ hx]; rfl) hown
  have cS := AnyZI.sorted_in Try.sortedA Fence.wide 5 trivial trivial trivial trivial rfl (by omega) (sortsA _) (enters_of Try.func40 (by kernel_rfl) rfl) 71 #[.pointer (some ⟨bx, 0, none⟩)] trivial (enters_of Try.func71 (by kernel_rfl) rfl) _ _ (by rw [datum_size]; simp only [maxLen]; omega) (by rw [datum_size]; omega) _ hseq
  refine ((callsIn_wide (n := 5)).1 cS).mono ?_
  rintro e w' ⟨v, ss, rfl, hS, hrow, _, hbw⟩
  have hp := hS.trans (datum_keys es hb)
  have hlen : ss.length = es.length := by rw [hp.length_eq]; simp
  have hsrt : ss.mergeSort leI = (es.map Ent.key).mergeSort leI := mergeSort_of_perm_i hp
  obtain ⟨L, h7, h8⟩ := OwnR_of_owns hrow hbw
  refine ⟨_, rfl, L, ?_, h8⟩
  have h9 : (ss.mergeSort fun x y => decide (x ≤ y)) = sortI (es.map Ent.key) := hsrt
  rw [h9, hlen] at h7
  exact h7
end Go.Proofs.Ytddacakmafdgdaa
