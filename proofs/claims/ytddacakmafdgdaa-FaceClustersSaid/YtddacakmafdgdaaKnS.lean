/- Rows that the library's sort has put in order. -/
import Derived.Test.YtddacakmafdgdaaKnF
import Derived.Sort.Row
import Derived.Sort.Grow
set_option linter.unusedVariables false
set_option linter.unusedSimpArgs false
namespace Go.Kn
open Go.RowKit
theorem sorted_world {α : Type} [Inhabited α] {enc : α → Value} {w : World} {b m : Nat} {cur : Array Value} {e : TypeId} {os : Array Obj} {d : Array α} (h : w.heap[b]? = some (.cells cur e (0, 0))) :
    (Sort.grow (Sort.putRow enc (Sort.ahead w m) b 0 d) os).heap[b]? = some (.cells (Sort.putCells enc 0 d cur) e (0, 0)) ∧ Kept w (Sort.grow (Sort.putRow enc (Sort.ahead w m) b 0 d) os) (fun k => k = b) := by
  have hlt := lt_of_block h
  constructor
  · simp only [Sort.grow, Sort.putRow, Sort.mapBlock, Sort.ahead]
    rw [Array.getElem?_append_left (by simpa using hlt), Array.getElem?_modify, if_pos rfl, h]
    rfl
  · refine ⟨rfl, rfl, rfl, by simp [Sort.grow, Sort.putRow, Sort.mapBlock, Sort.ahead], fun k hk hne => ?_⟩
    simp only [Sort.grow, Sort.putRow, Sort.mapBlock, Sort.ahead]
    rw [Array.getElem?_append_left (by simpa using hk), Array.getElem?_modify, if_neg (fun e => hne e.symm)]
theorem putCells_take {α : Type} [Inhabited α] {enc : α → Value} {d : Array α} {cur : Array Value} (h : d.size ≤ cur.size) : (Sort.putCells enc 0 d cur).toList.take d.size = d.toList.map enc := by
  apply List.ext_getElem?
  intro j
  rw [List.getElem?_take, List.getElem?_map]
  by_cases hj : j < d.size
  · rw [if_pos hj]
    have hc : j < cur.size := by omega
    simp [Sort.putCells, hj, hc]
  · rw [if_neg hj]
    simp [Nat.not_lt.1 hj]
theorem putCells_size {α : Type} [Inhabited α] {enc : α → Value} {d : Array α} {cur : Array Value} : (Sort.putCells enc 0 d cur).size = cur.size := by simp [Sort.putCells]
theorem OwnR.holds {α : Type} [Inhabited α] {enc : α → Value} {e : TypeId} {b n cap : Nat} {l : List α} {L : Hp} {w : World} (h : OwnR e 1 (.slice (some ⟨b, 0, none⟩) n cap) n (l.map enc) L) (hL : Holds w L) : Sort.Holds enc w b 0 l.toArray := by
  rcases h.2 with ⟨h1, _, _⟩ | ⟨b', cap', cur, h1, h3, h4, h5, h6, rfl⟩
  · cases h1
  · injection h1 with h1 _ _
    injection h1 with h1
    injection h1 with h1
    subst h1
    have hb : w.heap[b]? = some (.cells cur e (0, 0)) := hL.at_ (b, .cells cur e (0, 0)) (by simp)
    intro j hj
    have hj' : j < l.length := by simpa using hj
    refine ⟨?_, by simp [World.frozen?, hb]⟩
    rw [cell_of_row w b (0 + j) cur e (0, 0) hb, Nat.zero_add]
    have h7 : (cur.toList.take (n * 1))[j]? = some (enc l[j]) := by rw [h6]; simp [hj']
    rw [List.getElem?_take] at h7
    split at h7
    · have h8 : cur[j]? = some (enc l[j]) := by simpa using h7
      rw [h8]
      simp [hj']
    · cases h7
/-- the row behind the sort -/
theorem OwnR.sorted {α : Type} [Inhabited α] {enc : α → Value} {e : TypeId} {b n cap m : Nat} {l l' : List α} {L : Hp} {w : World} {os : Array Obj} (h : OwnR e 1 (.slice (some ⟨b, 0, none⟩) n cap) n (l.map enc) L) (hL : Holds w L) (hl : l'.length = l.length) :
    ∃ L', OwnR e 1 (.slice (some ⟨b, 0, none⟩) n cap) n (l'.map enc) L' ∧ Mem w (keys L) (Sort.grow (Sort.putRow enc (Sort.ahead w m) b 0 l'.toArray) os) L' := by
  have hlen : l.length = n := by have := h.1; simpa using this
  rcases h.2 with ⟨h1, _, _⟩ | ⟨b', cap', cur, h1, h3, h4, h5, h6, rfl⟩
  · cases h1
  · injection h1 with h1 h1n h1c
    injection h1 with h1
    injection h1 with h1
    subst h1
    subst h1c
    have hb : w.heap[b]? = some (.cells cur e (0, 0)) := hL.at_ (b, .cells cur e (0, 0)) (by simp)
    obtain ⟨h7, h8⟩ := sorted_world (enc := enc) (m := m) (os := os) (d := l'.toArray) hb
    refine ⟨[(b, .cells (Sort.putCells enc 0 l'.toArray cur) e (0, 0))], ⟨by simp [hl, hlen], .inr ⟨b, cap, _, rfl, h3, h4, by rw [putCells_size]; exact h5, ?_, rfl⟩⟩, h8.mono (fun k hk => by simp [keys, hk]), ⟨by simp, by simpa using h7⟩, fun k hk => .inl (by simpa [keys] using hk)⟩
    have := putCells_take (enc := enc) (d := l'.toArray) (cur := cur) (by rw [h5]; simp [hl, hlen]; omega)
    simp only [List.size_toArray] at this
    rw [show n * 1 = l'.length by omega]
    exact this
def sortI (l : List Int) : List Int := l.mergeSort fun x y => decide (x ≤ y)
theorem sortI_len (l : List Int) : (sortI l).length = l.length := by simp [sortI]
end Go.Kn
