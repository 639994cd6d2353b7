/-
  No cell of these rows narrows 'for every input' (looked for: loops, veiled, ifaces, maps, wideKeys, modest, calm, conditions, laid).
  DERIVED. THE GIVEN ROWS OF THIS SEAT. 6 by the template 'for every input the law returns true; each argument reads behind the call as it read before'; 0 by the template 'total and deterministic' (their statements: YtcplneglfbdooaaTotals.lean).
  GIVEN WITH THE SEED: the statements are not yours to turn. If you find one false, say at which input.
  Laid BY PROGRAM, IN A SANDBOX (cutbox-rows.mjs): the forced cells as the released guide's own fill.sh prints them over the translation 1cd008a94b7274b0… (all of the seat's roots in one cut). By AI agents, Wed Nov 11 2026. No macro, syntax, notation, axiom, sorry.
-/
import Derived.Test.YtcplneglfbdooaaChecked
import GoSem.Claim
import GoSem.ClaimJoined
import GoSem.ClaimMapViews
import Derived.JoinedTies
import Derived.KernelRfl
namespace Go.Proofs.Ytcplneglfbdooaa
/- THE CELL 'sum', in the pinned program and in every row, IS THE sha256 OF THE DUMP (.gsa) THAT YtcplneglfbdooaaProg.lean LOADS. Nothing in Lean hashes anything: it is a label: what it is worth is what the hold of that sum in a sandbox is worth. -/
noncomputable def Try.pinned : Pinned := { name := "ytcplneglfbdooaa", sum := "1cd008a94b7274b02da3adf7260c0de28a9e215be4fdfa154d608e322812ccc1", checked := Try.checked }
namespace Rows
def none {H : Type} : Left H := { results := [], args := [] }

/-- 'estoppellaw26.MergeSequences': WHATEVER THE INPUT: true; the input reads as it did. -/
def mergeSequencesSpec : ChangeSpec := { name := "mergeSequences", fn := fun _ => fun
  | [d1, d2, d3] => { results := [.lit (.bool true)], args := [d1, d2, d3] }
  | _ => none }
def mergeSequencesRow : OpenClaim := { program := "ytcplneglfbdooaa", sum := "1cd008a94b7274b02da3adf7260c0de28a9e215be4fdfa154d608e322812ccc1", func := "estoppel/estoppellaw26.MergeSequences", spec := "mergeSequences", unfollowed := true, recurses := true, apart := false }
def MergeSequencesSaid : Prop := mergeSequencesRow.holds Try.pinned (OpenSpec.ofChange mergeSequencesSpec)

/-- ITS FALSE NEIGHBOUR: 'it returns false'. Refute it at one input. -/
def mergeSequencesWrong : ChangeSpec := { name := "mergeSequences", fn := fun _ => fun
  | [d1, d2, d3] => { results := [.lit (.bool false)], args := [d1, d2, d3] }
  | _ => none }
def MergeSequencesWrongFalsely : Prop := mergeSequencesRow.holds Try.pinned (OpenSpec.ofChange mergeSequencesWrong)

/-- 'estoppellaw26.MergeSymmetric': WHATEVER THE INPUT: true; the input reads as it did. -/
def mergeSymmetricSpec : ChangeSpec := { name := "mergeSymmetric", fn := fun _ => fun
  | [d1, d2, d3] => { results := [.lit (.bool true)], args := [d1, d2, d3] }
  | _ => none }
def mergeSymmetricRow : OpenClaim := { program := "ytcplneglfbdooaa", sum := "1cd008a94b7274b02da3adf7260c0de28a9e215be4fdfa154d608e322812ccc1", func := "estoppel/estoppellaw26.MergeSymmetric", spec := "mergeSymmetric", unfollowed := true, recurses := true, apart := false }
def MergeSymmetricSaid : Prop := mergeSymmetricRow.holds Try.pinned (OpenSpec.ofChange mergeSymmetricSpec)

/-- ITS FALSE NEIGHBOUR: 'it returns false'. Refute it at one input. -/
def mergeSymmetricWrong : ChangeSpec := { name := "mergeSymmetric", fn := fun _ => fun
  | [d1, d2, d3] => { results := [.lit (.bool false)], args := [d1, d2, d3] }
  | _ => none }
def MergeSymmetricWrongFalsely : Prop := mergeSymmetricRow.holds Try.pinned (OpenSpec.ofChange mergeSymmetricWrong)

/-- 'estoppellaw26.MergeInterleaves': WHATEVER THE INPUT: true; the input reads as it did. -/
def mergeInterleavesSpec : ChangeSpec := { name := "mergeInterleaves", fn := fun _ => fun
  | [d1, d2, d3, d4] => { results := [.lit (.bool true)], args := [d1, d2, d3, d4] }
  | _ => none }
def mergeInterleavesRow : OpenClaim := { program := "ytcplneglfbdooaa", sum := "1cd008a94b7274b02da3adf7260c0de28a9e215be4fdfa154d608e322812ccc1", func := "estoppel/estoppellaw26.MergeInterleaves", spec := "mergeInterleaves", unfollowed := true, recurses := true, apart := false }
def MergeInterleavesSaid : Prop := mergeInterleavesRow.holds Try.pinned (OpenSpec.ofChange mergeInterleavesSpec)

/-- ITS FALSE NEIGHBOUR: 'it returns false'. Refute it at one input. -/
def mergeInterleavesWrong : ChangeSpec := { name := "mergeInterleaves", fn := fun _ => fun
  | [d1, d2, d3, d4] => { results := [.lit (.bool false)], args := [d1, d2, d3, d4] }
  | _ => none }
def MergeInterleavesWrongFalsely : Prop := mergeInterleavesRow.holds Try.pinned (OpenSpec.ofChange mergeInterleavesWrong)

/-- 'estoppellaw26.MergeConflicts': WHATEVER THE INPUT: true; the input reads as it did. -/
def mergeConflictsSpec : ChangeSpec := { name := "mergeConflicts", fn := fun _ => fun
  | [d1, d2, d3] => { results := [.lit (.bool true)], args := [d1, d2, d3] }
  | _ => none }
def mergeConflictsRow : OpenClaim := { program := "ytcplneglfbdooaa", sum := "1cd008a94b7274b02da3adf7260c0de28a9e215be4fdfa154d608e322812ccc1", func := "estoppel/estoppellaw26.MergeConflicts", spec := "mergeConflicts", unfollowed := true, recurses := true, apart := false }
def MergeConflictsSaid : Prop := mergeConflictsRow.holds Try.pinned (OpenSpec.ofChange mergeConflictsSpec)

/-- ITS FALSE NEIGHBOUR: 'it returns false'. Refute it at one input. -/
def mergeConflictsWrong : ChangeSpec := { name := "mergeConflicts", fn := fun _ => fun
  | [d1, d2, d3] => { results := [.lit (.bool false)], args := [d1, d2, d3] }
  | _ => none }
def MergeConflictsWrongFalsely : Prop := mergeConflictsRow.holds Try.pinned (OpenSpec.ofChange mergeConflictsWrong)

/-- 'estoppellaw26.MergeEmpty': WHATEVER THE INPUT: true; the input reads as it did. -/
def mergeEmptySpec : ChangeSpec := { name := "mergeEmpty", fn := fun _ => fun
  | [d1, d2] => { results := [.lit (.bool true)], args := [d1, d2] }
  | _ => none }
def mergeEmptyRow : OpenClaim := { program := "ytcplneglfbdooaa", sum := "1cd008a94b7274b02da3adf7260c0de28a9e215be4fdfa154d608e322812ccc1", func := "estoppel/estoppellaw26.MergeEmpty", spec := "mergeEmpty", unfollowed := true, recurses := true, apart := false }
def MergeEmptySaid : Prop := mergeEmptyRow.holds Try.pinned (OpenSpec.ofChange mergeEmptySpec)

/-- ITS FALSE NEIGHBOUR: 'it returns false'. Refute it at one input. -/
def mergeEmptyWrong : ChangeSpec := { name := "mergeEmpty", fn := fun _ => fun
  | [d1, d2] => { results := [.lit (.bool false)], args := [d1, d2] }
  | _ => none }
def MergeEmptyWrongFalsely : Prop := mergeEmptyRow.holds Try.pinned (OpenSpec.ofChange mergeEmptyWrong)

/-- 'estoppellaw26.MergeCommutes': WHATEVER THE INPUT: true; the input reads as it did. -/
def mergeCommutesSpec : ChangeSpec := { name := "mergeCommutes", fn := fun _ => fun
  | [d1, d2, d3] => { results := [.lit (.bool true)], args := [d1, d2, d3] }
  | _ => none }
def mergeCommutesRow : OpenClaim := { program := "ytcplneglfbdooaa", sum := "1cd008a94b7274b02da3adf7260c0de28a9e215be4fdfa154d608e322812ccc1", func := "estoppel/estoppellaw26.MergeCommutes", spec := "mergeCommutes", unfollowed := true, recurses := true, apart := false }
def MergeCommutesSaid : Prop := mergeCommutesRow.holds Try.pinned (OpenSpec.ofChange mergeCommutesSpec)

/-- ITS FALSE NEIGHBOUR: 'it returns false'. Refute it at one input. -/
def mergeCommutesWrong : ChangeSpec := { name := "mergeCommutes", fn := fun _ => fun
  | [d1, d2, d3] => { results := [.lit (.bool false)], args := [d1, d2, d3] }
  | _ => none }
def MergeCommutesWrongFalsely : Prop := mergeCommutesRow.holds Try.pinned (OpenSpec.ofChange mergeCommutesWrong)

/- THE SECOND FORM. 'bulk': how many values and letters a reading holds, each counted each time it is reached (what is shared counts as often as it is met; a slice's spare places count too). A statement '..UptoSaid' is the law's where the arguments, and the package variables that the reading takes, are together of bulk at most 1048576: NARROWER than '..Said'. Prove '..Said' where nothing that the law and all that it calls make is longer than what came in: it says more and counts as full. Else prove '..UptoSaid'. A law counts once. -/
mutual
def uptoBulk {H : Type} : DataW H → Nat
  | .lit (.string bytes) => bytes.length + 1
  | .lit _ => 1
  | .nil => 1
  | .ptr d => uptoBulk d + 1
  | .slice elems spare => uptoBulkAll elems + uptoBulkAll spare + 1
  | .agg parts => uptoBulkAll parts + 1
  | .iface _ d => uptoBulk d + 1
  | .map entries => uptoBulkEntries entries + 1
  | .held _ => 1
def uptoBulkAll {H : Type} : List (DataW H) → Nat
  | [] => 0
  | d :: r => uptoBulk d + uptoBulkAll r
def uptoBulkEntries {H : Type} : List (Lit × DataW H) → Nat
  | [] => 0
  | x :: r => uptoBulkEntry x + uptoBulkEntries r
def uptoBulkEntry {H : Type} : Lit × DataW H → Nat
  | (.string bytes, d) => bytes.length + uptoBulk d + 1
  | (_, d) => uptoBulk d + 1
 end
def uptoSmall : (H : Type) → List (DataW H) → Bool := fun _ ds => decide (uptoBulkAll ds ≤ 1048576)
def OpenSpec.upto (s : _root_.Go.ChangeSpec) : _root_.Go.OpenSpec := { _root_.Go.OpenSpec.ofChange s with cond := some uptoSmall }

/-- 'estoppellaw26.MergeSequences', WHERE WHAT IT READS IS OF BULK AT MOST 1048576: true; the input reads as it did. -/
def mergeSequencesUptoRow : OpenClaim := { program := "ytcplneglfbdooaa", sum := "1cd008a94b7274b02da3adf7260c0de28a9e215be4fdfa154d608e322812ccc1", func := "estoppel/estoppellaw26.MergeSequences", spec := "mergeSequences", unfollowed := true, recurses := true, apart := false, narrowed := true }
def MergeSequencesUptoSaid : Prop := mergeSequencesUptoRow.holds Try.pinned (OpenSpec.upto mergeSequencesSpec)

/-- 'estoppellaw26.MergeSymmetric', WHERE WHAT IT READS IS OF BULK AT MOST 1048576: true; the input reads as it did. -/
def mergeSymmetricUptoRow : OpenClaim := { program := "ytcplneglfbdooaa", sum := "1cd008a94b7274b02da3adf7260c0de28a9e215be4fdfa154d608e322812ccc1", func := "estoppel/estoppellaw26.MergeSymmetric", spec := "mergeSymmetric", unfollowed := true, recurses := true, apart := false, narrowed := true }
def MergeSymmetricUptoSaid : Prop := mergeSymmetricUptoRow.holds Try.pinned (OpenSpec.upto mergeSymmetricSpec)

/-- 'estoppellaw26.MergeInterleaves', WHERE WHAT IT READS IS OF BULK AT MOST 1048576: true; the input reads as it did. -/
def mergeInterleavesUptoRow : OpenClaim := { program := "ytcplneglfbdooaa", sum := "1cd008a94b7274b02da3adf7260c0de28a9e215be4fdfa154d608e322812ccc1", func := "estoppel/estoppellaw26.MergeInterleaves", spec := "mergeInterleaves", unfollowed := true, recurses := true, apart := false, narrowed := true }
def MergeInterleavesUptoSaid : Prop := mergeInterleavesUptoRow.holds Try.pinned (OpenSpec.upto mergeInterleavesSpec)

/-- 'estoppellaw26.MergeConflicts', WHERE WHAT IT READS IS OF BULK AT MOST 1048576: true; the input reads as it did. -/
def mergeConflictsUptoRow : OpenClaim := { program := "ytcplneglfbdooaa", sum := "1cd008a94b7274b02da3adf7260c0de28a9e215be4fdfa154d608e322812ccc1", func := "estoppel/estoppellaw26.MergeConflicts", spec := "mergeConflicts", unfollowed := true, recurses := true, apart := false, narrowed := true }
def MergeConflictsUptoSaid : Prop := mergeConflictsUptoRow.holds Try.pinned (OpenSpec.upto mergeConflictsSpec)

/-- 'estoppellaw26.MergeEmpty', WHERE WHAT IT READS IS OF BULK AT MOST 1048576: true; the input reads as it did. -/
def mergeEmptyUptoRow : OpenClaim := { program := "ytcplneglfbdooaa", sum := "1cd008a94b7274b02da3adf7260c0de28a9e215be4fdfa154d608e322812ccc1", func := "estoppel/estoppellaw26.MergeEmpty", spec := "mergeEmpty", unfollowed := true, recurses := true, apart := false, narrowed := true }
def MergeEmptyUptoSaid : Prop := mergeEmptyUptoRow.holds Try.pinned (OpenSpec.upto mergeEmptySpec)

/-- 'estoppellaw26.MergeCommutes', WHERE WHAT IT READS IS OF BULK AT MOST 1048576: true; the input reads as it did. -/
def mergeCommutesUptoRow : OpenClaim := { program := "ytcplneglfbdooaa", sum := "1cd008a94b7274b02da3adf7260c0de28a9e215be4fdfa154d608e322812ccc1", func := "estoppel/estoppellaw26.MergeCommutes", spec := "mergeCommutes", unfollowed := true, recurses := true, apart := false, narrowed := true }
def MergeCommutesUptoSaid : Prop := mergeCommutesUptoRow.holds Try.pinned (OpenSpec.upto mergeCommutesSpec)

end Rows
end Go.Proofs.Ytcplneglfbdooaa
