/- Bonds. -/
import Derived.Test.YtddacakmafdgdaaGc
set_option linter.unusedVariables false
set_option linter.unusedSimpArgs false
namespace Go.Kn
open Go.RowKit Go.Proofs.Ytddacakmafdgdaa
structure Bond3 where
  a : Int
  b : Int
  must : Bool
abbrev bondE (x : Bond3) : List Value := [.int .i64 x.a, .int .i64 x.b, .bool x.must]
abbrev tPair : TypeId := 36
abbrev zPair : Value := .agg #[.int .i64 0, .int .i64 0]
def placeOf (l : List (List Int)) (b : Bond3) : Nat × Nat := (atPos l b.a, atPos l b.b)
def mustsOf (l : List (List Int)) (bs : List Bond3) : List (Nat × Nat) := (bs.filter fun b => b.must).map (placeOf l)
def notsOf (l : List (List Int)) (bs : List Bond3) : List (Nat × Nat) := (bs.filter fun b => !b.must).map (placeOf l)
section
variable {l : List (List Int)} {bs : List Bond3} {k : Nat} {b : Bond3} {v : Value} {L : Hp}
theorem musts_snoc (hb : bs[k]? = some b) (h : b.must = true) : mustsOf l (bs.take (k + 1)) = mustsOf l (bs.take k) ++ [placeOf l b] := by
  rw [take_snoc' hb]; simp [mustsOf, List.filter_append, h]
theorem musts_same (hb : bs[k]? = some b) (h : b.must = false) : mustsOf l (bs.take (k + 1)) = mustsOf l (bs.take k) := by
  rw [take_snoc' hb]; simp [mustsOf, List.filter_append, h]
theorem nots_snoc (hb : bs[k]? = some b) (h : b.must = false) : notsOf l (bs.take (k + 1)) = notsOf l (bs.take k) ++ [placeOf l b] := by
  rw [take_snoc' hb]; simp [notsOf, List.filter_append, h]
theorem nots_same (hb : bs[k]? = some b) (h : b.must = true) : notsOf l (bs.take (k + 1)) = notsOf l (bs.take k) := by
  rw [take_snoc' hb]; simp [notsOf, List.filter_append, h]
abbrev OwnP (v : Value) (ps : List (Nat × Nat)) (L : Hp) : Prop := OwnR tPair 2 v ps.length (ps.flatMap pairE) L
theorem own_snoc {ps : List (Nat × Nat)} {p : Nat × Nat} (h : OwnR tPair 2 v (ps.length + 1) (ps.flatMap pairE ++ pairE p) L) : OwnP v (ps ++ [p]) L := by
  unfold OwnP
  rw [List.flatMap_append, List.length_append]
  simpa using h
theorem musts_yes (hb : bs[k]? = some b) (h : b.must = true) (hr : OwnR tPair 2 v ((mustsOf l (bs.take k)).length + 1) ((mustsOf l (bs.take k)).flatMap pairE ++ pairE (placeOf l b)) L) : OwnP v (mustsOf l (bs.take (k + 1))) L := by
  rw [musts_snoc hb h]; exact own_snoc hr
theorem nots_yes (hb : bs[k]? = some b) (h : b.must = false) (hr : OwnR tPair 2 v ((notsOf l (bs.take k)).length + 1) ((notsOf l (bs.take k)).flatMap pairE ++ pairE (placeOf l b)) L) : OwnP v (notsOf l (bs.take (k + 1))) L := by
  rw [nots_snoc hb h]; exact own_snoc hr
theorem musts_no (hb : bs[k]? = some b) (h : b.must = false) (hr : OwnP v (mustsOf l (bs.take k)) L) : OwnP v (mustsOf l (bs.take (k + 1))) L := by rw [musts_same hb h]; exact hr
theorem nots_no (hb : bs[k]? = some b) (h : b.must = true) (hr : OwnP v (notsOf l (bs.take k)) L) : OwnP v (notsOf l (bs.take (k + 1))) L := by rw [nots_same hb h]; exact hr
theorem musts_len : (mustsOf l (bs.take k)).length ≤ k := by
  have h1 := List.length_filter_le (fun b : Bond3 => b.must) (bs.take k)
  have h2 := List.length_take_le k bs
  simp only [mustsOf, List.length_map]; omega
theorem nots_len : (notsOf l (bs.take k)).length ≤ k := by
  have h1 := List.length_filter_le (fun b : Bond3 => !b.must) (bs.take k)
  have h2 := List.length_take_le k bs
  simp only [notsOf, List.length_map]; omega
end
end Go.Kn
