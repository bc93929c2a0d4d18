/-
  No cell of these rows narrows 'for every input' (looked for: loops, veiled, ifaces, maps, wideKeys, modest, calm, conditions, laid).
  DERIVED. THE GIVEN ROWS OF THIS SEAT. 2 by the template 'for every input the law returns true; each argument reads behind the call as it read before'; 0 by the template 'total and deterministic' (their statements: YtddacakmafdgdaaTotals.lean).
  GIVEN WITH THE SEED: the statements are not yours to turn. If you find one false, say at which input.
  Laid BY PROGRAM, IN A SANDBOX (cutbox-rows.mjs): the forced cells as the released guide's own fill.sh prints them over the translation 0cba5d42fae79443… (all of the seat's roots in one cut). By AI agents, Wed Nov 11 2026. No macro, syntax, notation, axiom, sorry.
-/
import Derived.Test.YtddacakmafdgdaaChecked
import GoSem.Claim
import GoSem.ClaimJoined
import GoSem.ClaimMapViews
import Derived.JoinedTies
import Derived.KernelRfl
namespace Go.Proofs.Ytddacakmafdgdaa
/- THE CELL 'sum', in the pinned program and in every row, IS THE sha256 OF THE DUMP (.gsa) THAT YtddacakmafdgdaaProg.lean LOADS. Nothing in Lean hashes anything: it is a label: what it is worth is what the hold of that sum in a sandbox is worth. -/
noncomputable def Try.pinned : Pinned := { name := "ytddacakmafdgdaa", sum := "0cba5d42fae79443067020131e2f371f54a0fc86337832050beb572c4b852139", checked := Try.checked }
namespace Rows
def none {H : Type} : Left H := { results := [], args := [] }

/-- 'tintkeep2.FaceClusters': WHATEVER THE INPUT: true; the input reads as it did. -/
def faceClustersSpec : ChangeSpec := { name := "faceClusters", fn := fun _ => fun
  | [d1, d2, d3] => { results := [.lit (.bool true)], args := [d1, d2, d3] }
  | _ => none }
def faceClustersRow : OpenClaim := { program := "ytddacakmafdgdaa", sum := "0cba5d42fae79443067020131e2f371f54a0fc86337832050beb572c4b852139", func := "tintype/tintkeep2.FaceClusters", spec := "faceClusters", unfollowed := true, recurses := true, plainKeys := false, apart := false }
def FaceClustersSaid : Prop := faceClustersRow.holds Try.pinned (OpenSpec.ofChange faceClustersSpec)

/-- ITS FALSE NEIGHBOUR: 'it returns false'. Refute it at one input. -/
def faceClustersWrong : ChangeSpec := { name := "faceClusters", fn := fun _ => fun
  | [d1, d2, d3] => { results := [.lit (.bool false)], args := [d1, d2, d3] }
  | _ => none }
def FaceClustersWrongFalsely : Prop := faceClustersRow.holds Try.pinned (OpenSpec.ofChange faceClustersWrong)

/-- 'tintlaw2.FaceGroups': WHATEVER THE INPUT: true; the input reads as it did. -/
def faceGroupsSpec : ChangeSpec := { name := "faceGroups", fn := fun _ => fun
  | [d1, d2, d3, d4, d5, d6] => { results := [.lit (.bool true)], args := [d1, d2, d3, d4, d5, d6] }
  | _ => none }
def faceGroupsRow : OpenClaim := { program := "ytddacakmafdgdaa", sum := "0cba5d42fae79443067020131e2f371f54a0fc86337832050beb572c4b852139", func := "tintype/tintlaw2.FaceGroups", spec := "faceGroups", unfollowed := true, recurses := true, plainKeys := false, apart := false }
def FaceGroupsSaid : Prop := faceGroupsRow.holds Try.pinned (OpenSpec.ofChange faceGroupsSpec)

/-- ITS FALSE NEIGHBOUR: 'it returns false'. Refute it at one input. -/
def faceGroupsWrong : ChangeSpec := { name := "faceGroups", fn := fun _ => fun
  | [d1, d2, d3, d4, d5, d6] => { results := [.lit (.bool false)], args := [d1, d2, d3, d4, d5, d6] }
  | _ => none }
def FaceGroupsWrongFalsely : Prop := faceGroupsRow.holds Try.pinned (OpenSpec.ofChange faceGroupsWrong)

/- THE SECOND FORM. 'bulk': how many values and letters a reading holds, each counted each time it is reached (what is shared counts as often as it is met; a slice's spare places count too). A statement '..UptoSaid' is the law's where the arguments, and the package variables that the reading takes, are together of bulk at most 1048576: NARROWER than '..Said'. Prove '..Said' where nothing that the law and all that it calls make is longer than what came in: it says more and counts as full. Else prove '..UptoSaid'. A law counts once. -/
mutual
def uptoBulk {H : Type} : DataW H → Nat
  | .lit (.string bytes) => bytes.length + 1
  | .lit _ => 1
  | .nil => 1
  | .ptr d => uptoBulk d + 1
  | .slice elems spare => uptoBulkAll elems + uptoBulkAll spare + 1
  | .agg parts => uptoBulkAll parts + 1
  | .iface _ d => uptoBulk d + 1
  | .map entries => uptoBulkEntries entries + 1
  | .held _ => 1
def uptoBulkAll {H : Type} : List (DataW H) → Nat
  | [] => 0
  | d :: r => uptoBulk d + uptoBulkAll r
def uptoBulkEntries {H : Type} : List (Lit × DataW H) → Nat
  | [] => 0
  | x :: r => uptoBulkEntry x + uptoBulkEntries r
def uptoBulkEntry {H : Type} : Lit × DataW H → Nat
  | (.string bytes, d) => bytes.length + uptoBulk d + 1
  | (_, d) => uptoBulk d + 1
 end
def uptoSmall : (H : Type) → List (DataW H) → Bool := fun _ ds => decide (uptoBulkAll ds ≤ 1048576)
def OpenSpec.upto (s : _root_.Go.ChangeSpec) : _root_.Go.OpenSpec := { _root_.Go.OpenSpec.ofChange s with cond := some uptoSmall }

/-- 'tintkeep2.FaceClusters', WHERE WHAT IT READS IS OF BULK AT MOST 1048576: true; the input reads as it did. -/
def faceClustersUptoRow : OpenClaim := { program := "ytddacakmafdgdaa", sum := "0cba5d42fae79443067020131e2f371f54a0fc86337832050beb572c4b852139", func := "tintype/tintkeep2.FaceClusters", spec := "faceClusters", unfollowed := true, recurses := true, plainKeys := false, apart := false, narrowed := true }
def FaceClustersUptoSaid : Prop := faceClustersUptoRow.holds Try.pinned (OpenSpec.upto faceClustersSpec)

/-- 'tintlaw2.FaceGroups', WHERE WHAT IT READS IS OF BULK AT MOST 1048576: true; the input reads as it did. -/
def faceGroupsUptoRow : OpenClaim := { program := "ytddacakmafdgdaa", sum := "0cba5d42fae79443067020131e2f371f54a0fc86337832050beb572c4b852139", func := "tintype/tintlaw2.FaceGroups", spec := "faceGroups", unfollowed := true, recurses := true, plainKeys := false, apart := false, narrowed := true }
def FaceGroupsUptoSaid : Prop := faceGroupsUptoRow.holds Try.pinned (OpenSpec.upto faceGroupsSpec)

end Rows
end Go.Proofs.Ytddacakmafdgdaa
