/- slices.Grow of nil; rows that are read. -/
import Derived.Test.YtddacakmafdgdaaGo1
import Derived.Test.YtddacakmafdgdaaShI
set_option linter.unusedVariables false
set_option linter.unusedSimpArgs false
namespace Go.Proofs.Ytddacakmafdgdaa
open Go.RowKit Go.Kn Go.Proofs
theorem grow_s (n : Nat) (w : World) (hn : n ≤ 1099511627776) :
    Calls Try.prog 59 #[.slice none 0 0, .int .i64 (n : Int)] w fun e w' => ∃ r, e = .returned r ∧ ∃ L, OwnR tInt 1 r 0 [] L ∧ Mem w No w' L := by
  rcases Nat.eq_zero_or_pos n with h0 | h0
  · subst h0
    refine (Any8.slices_Grow_room Try.growA none 0 0 0 w (Nat.le_refl _) (by omega) (by omega) (by omega)).mono ?_
    rintro e w' ⟨rfl, rfl⟩
    exact ⟨_, rfl, [], OwnR.nil _ _, Mem.nil _ _⟩
  · have hi : (Try.prog.info? tInt).map (fun i => (i.zero, i.size, i.bytes)) = some (some (.int .i64 0), 1, 8) := by kernel_rfl
    obtain ⟨i0, h1, h2, h3, h4⟩ := info_parts hi
    refine (Any8.slices_Grow_grow Try.growA i0 (.int .i64 0) h1 h2 (by omega) none 0 0 n [] w (Nat.le_refl _) (by omega) (by rw [h4]; omega) (by omega) (by simp) (fun _ => rfl) (fun a h => by cases h)).mono ?_
    rintro e w' ⟨rfl, rfl⟩
    have hge := grownCap_ge w (0 + n) 0 (Try.growA_ren.t 25)
    have hle := grownCap_le_maxLen w (0 + n) 0 (Try.growA_ren.t 25) (by simp only [maxLen]; omega)
    refine ⟨_, rfl, [(w.heap.size, _)], ⟨by simp, .inr ⟨w.heap.size, _, _, rfl, Nat.zero_le _, hle, ?_, by simp, rfl⟩⟩, (Mem.nil w No).drew.alloc _⟩
    have hz : ∀ m, (Builtin.zeroCells (Value.int .i64 0).cells m).size = m := by intro m; simp [Builtin.zeroCells, Value.cells]
    simp only [Array.size_append, hz, List.size_toArray, List.length_nil]
    omega
structure SRow where
  A : Option Addr
  c : Nat
  xs : List Int
abbrev encR (r : SRow) : List Value := [.slice r.A r.xs.length r.c]
theorem _root_.Go.Kn.RdE.cellsI {w : World} {A : Option Addr} {n : Nat} {xs : List Int} (h : RdE intE 1 w A n xs) : ∀ j u, (xs.map (.int .i64))[j]? = some u → w.cell? ((adr A).add j) = some u := by
  intro j u hu
  rw [List.getElem?_map] at hu
  obtain ⟨y, hy, rfl⟩ := Option.map_eq_some_iff.1 hu
  have := h.first hy rfl
  simpa using this
def allXs (es : List SRow) : List Int := es.flatMap SRow.xs
theorem allXs_snoc {es : List SRow} {k : Nat} {e : SRow} (h : es[k]? = some e) : allXs (es.take (k + 1)) = allXs (es.take k) ++ e.xs := by rw [take_snoc' h]; simp [allXs]
theorem allXs_le {es : List SRow} (k : Nat) : (allXs (es.take k)).length ≤ (allXs es).length := by
  have h : allXs es = allXs (es.take k) ++ allXs (es.drop k) := by unfold allXs; rw [← List.flatMap_append, List.take_append_drop]
  rw [h, List.length_append]; omega
end Go.Proofs.Ytddacakmafdgdaa
