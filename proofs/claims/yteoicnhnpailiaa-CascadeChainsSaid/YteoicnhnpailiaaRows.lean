/-
  No cell of these rows narrows 'for every input' (looked for: loops, veiled, ifaces, maps, wideKeys, modest, calm, conditions, laid).
  DERIVED. THE GIVEN ROWS OF THIS SEAT. 8 by the template 'for every input the law returns true; each argument reads behind the call as it read before'; 0 by the template 'total and deterministic' (their statements: YteoicnhnpailiaaTotals.lean).
  GIVEN WITH THE SEED: the statements are not yours to turn. If you find one false, say at which input.
  Laid BY PROGRAM, IN A SANDBOX (cutbox-rows.mjs): the forced cells as the released guide's own fill.sh prints them over the translation e715d4ff39eda74f… (all of the seat's roots in one cut). By AI agents, Wed Nov 11 2026. No macro, syntax, notation, axiom, sorry.
-/
import Derived.Test.YteoicnhnpailiaaChecked
import GoSem.Claim
import GoSem.ClaimJoined
import GoSem.ClaimMapViews
import Derived.JoinedTies
import Derived.KernelRfl
namespace Go.Proofs.Yteoicnhnpailiaa
/- THE CELL 'sum', in the pinned program and in every row, IS THE sha256 OF THE DUMP (.gsa) THAT YteoicnhnpailiaaProg.lean LOADS. Nothing in Lean hashes anything: it is a label: what it is worth is what the hold of that sum in a sandbox is worth. -/
noncomputable def Try.pinned : Pinned := { name := "yteoicnhnpailiaa", sum := "e715d4ff39eda74fba1be04799906031682399891b2312d19bcbfba0ba1d8e14", checked := Try.checked }
namespace Rows
def none {H : Type} : Left H := { results := [], args := [] }

/-- 'estoppellaw43.CascadeFixed': WHATEVER THE INPUT: true; the input reads as it did. -/
def cascadeFixedSpec : ChangeSpec := { name := "cascadeFixed", fn := fun _ => fun
  | [d] => { results := [.lit (.bool true)], args := [d] }
  | _ => none }
def cascadeFixedRow : OpenClaim := { program := "yteoicnhnpailiaa", sum := "e715d4ff39eda74fba1be04799906031682399891b2312d19bcbfba0ba1d8e14", func := "estoppel/estoppellaw43.CascadeFixed", spec := "cascadeFixed", unfollowed := true, recurses := true, apart := false }
def CascadeFixedSaid : Prop := cascadeFixedRow.holds Try.pinned (OpenSpec.ofChange cascadeFixedSpec)

/-- ITS FALSE NEIGHBOUR: 'it returns false'. Refute it at one input. -/
def cascadeFixedWrong : ChangeSpec := { name := "cascadeFixed", fn := fun _ => fun
  | [d] => { results := [.lit (.bool false)], args := [d] }
  | _ => none }
def CascadeFixedWrongFalsely : Prop := cascadeFixedRow.holds Try.pinned (OpenSpec.ofChange cascadeFixedWrong)

/-- 'estoppellaw43.CascadeLeast': WHATEVER THE INPUT: true; the input reads as it did. -/
def cascadeLeastSpec : ChangeSpec := { name := "cascadeLeast", fn := fun _ => fun
  | [d1, d2] => { results := [.lit (.bool true)], args := [d1, d2] }
  | _ => none }
def cascadeLeastRow : OpenClaim := { program := "yteoicnhnpailiaa", sum := "e715d4ff39eda74fba1be04799906031682399891b2312d19bcbfba0ba1d8e14", func := "estoppel/estoppellaw43.CascadeLeast", spec := "cascadeLeast", unfollowed := true, recurses := true, apart := false }
def CascadeLeastSaid : Prop := cascadeLeastRow.holds Try.pinned (OpenSpec.ofChange cascadeLeastSpec)

/-- ITS FALSE NEIGHBOUR: 'it returns false'. Refute it at one input. -/
def cascadeLeastWrong : ChangeSpec := { name := "cascadeLeast", fn := fun _ => fun
  | [d1, d2] => { results := [.lit (.bool false)], args := [d1, d2] }
  | _ => none }
def CascadeLeastWrongFalsely : Prop := cascadeLeastRow.holds Try.pinned (OpenSpec.ofChange cascadeLeastWrong)

/-- 'estoppellaw43.CascadeAnyOrder': WHATEVER THE INPUT: true; the input reads as it did. -/
def cascadeAnyOrderSpec : ChangeSpec := { name := "cascadeAnyOrder", fn := fun _ => fun
  | [d1, d2] => { results := [.lit (.bool true)], args := [d1, d2] }
  | _ => none }
def cascadeAnyOrderRow : OpenClaim := { program := "yteoicnhnpailiaa", sum := "e715d4ff39eda74fba1be04799906031682399891b2312d19bcbfba0ba1d8e14", func := "estoppel/estoppellaw43.CascadeAnyOrder", spec := "cascadeAnyOrder", unfollowed := true, recurses := true, apart := false }
def CascadeAnyOrderSaid : Prop := cascadeAnyOrderRow.holds Try.pinned (OpenSpec.ofChange cascadeAnyOrderSpec)

/-- ITS FALSE NEIGHBOUR: 'it returns false'. Refute it at one input. -/
def cascadeAnyOrderWrong : ChangeSpec := { name := "cascadeAnyOrder", fn := fun _ => fun
  | [d1, d2] => { results := [.lit (.bool false)], args := [d1, d2] }
  | _ => none }
def CascadeAnyOrderWrongFalsely : Prop := cascadeAnyOrderRow.holds Try.pinned (OpenSpec.ofChange cascadeAnyOrderWrong)

/-- 'estoppellaw43.CascadeMore': WHATEVER THE INPUT: true; the input reads as it did. -/
def cascadeMoreSpec : ChangeSpec := { name := "cascadeMore", fn := fun _ => fun
  | [d1, d2, d3, d4, d5] => { results := [.lit (.bool true)], args := [d1, d2, d3, d4, d5] }
  | _ => none }
def cascadeMoreRow : OpenClaim := { program := "yteoicnhnpailiaa", sum := "e715d4ff39eda74fba1be04799906031682399891b2312d19bcbfba0ba1d8e14", func := "estoppel/estoppellaw43.CascadeMore", spec := "cascadeMore", unfollowed := true, recurses := true, apart := false }
def CascadeMoreSaid : Prop := cascadeMoreRow.holds Try.pinned (OpenSpec.ofChange cascadeMoreSpec)

/-- ITS FALSE NEIGHBOUR: 'it returns false'. Refute it at one input. -/
def cascadeMoreWrong : ChangeSpec := { name := "cascadeMore", fn := fun _ => fun
  | [d1, d2, d3, d4, d5] => { results := [.lit (.bool false)], args := [d1, d2, d3, d4, d5] }
  | _ => none }
def CascadeMoreWrongFalsely : Prop := cascadeMoreRow.holds Try.pinned (OpenSpec.ofChange cascadeMoreWrong)

/-- 'estoppellaw43.CascadeChains': WHATEVER THE INPUT: true; the input reads as it did. -/
def cascadeChainsSpec : ChangeSpec := { name := "cascadeChains", fn := fun _ => fun
  | [d1, d2] => { results := [.lit (.bool true)], args := [d1, d2] }
  | _ => none }
def cascadeChainsRow : OpenClaim := { program := "yteoicnhnpailiaa", sum := "e715d4ff39eda74fba1be04799906031682399891b2312d19bcbfba0ba1d8e14", func := "estoppel/estoppellaw43.CascadeChains", spec := "cascadeChains", unfollowed := true, recurses := true, apart := false }
def CascadeChainsSaid : Prop := cascadeChainsRow.holds Try.pinned (OpenSpec.ofChange cascadeChainsSpec)

/-- ITS FALSE NEIGHBOUR: 'it returns false'. Refute it at one input. -/
def cascadeChainsWrong : ChangeSpec := { name := "cascadeChains", fn := fun _ => fun
  | [d1, d2] => { results := [.lit (.bool false)], args := [d1, d2] }
  | _ => none }
def CascadeChainsWrongFalsely : Prop := cascadeChainsRow.holds Try.pinned (OpenSpec.ofChange cascadeChainsWrong)

/-- 'estoppellaw43.CascadeOwn': WHATEVER THE INPUT: true; the input reads as it did. -/
def cascadeOwnSpec : ChangeSpec := { name := "cascadeOwn", fn := fun _ => fun
  | [d] => { results := [.lit (.bool true)], args := [d] }
  | _ => none }
def cascadeOwnRow : OpenClaim := { program := "yteoicnhnpailiaa", sum := "e715d4ff39eda74fba1be04799906031682399891b2312d19bcbfba0ba1d8e14", func := "estoppel/estoppellaw43.CascadeOwn", spec := "cascadeOwn", unfollowed := true, recurses := true, apart := false }
def CascadeOwnSaid : Prop := cascadeOwnRow.holds Try.pinned (OpenSpec.ofChange cascadeOwnSpec)

/-- ITS FALSE NEIGHBOUR: 'it returns false'. Refute it at one input. -/
def cascadeOwnWrong : ChangeSpec := { name := "cascadeOwn", fn := fun _ => fun
  | [d] => { results := [.lit (.bool false)], args := [d] }
  | _ => none }
def CascadeOwnWrongFalsely : Prop := cascadeOwnRow.holds Try.pinned (OpenSpec.ofChange cascadeOwnWrong)

/-- 'estoppellaw43.CascadeCalm': WHATEVER THE INPUT: true; the input reads as it did. -/
def cascadeCalmSpec : ChangeSpec := { name := "cascadeCalm", fn := fun _ => fun
  | [d] => { results := [.lit (.bool true)], args := [d] }
  | _ => none }
def cascadeCalmRow : OpenClaim := { program := "yteoicnhnpailiaa", sum := "e715d4ff39eda74fba1be04799906031682399891b2312d19bcbfba0ba1d8e14", func := "estoppel/estoppellaw43.CascadeCalm", spec := "cascadeCalm", unfollowed := true, recurses := true, apart := false }
def CascadeCalmSaid : Prop := cascadeCalmRow.holds Try.pinned (OpenSpec.ofChange cascadeCalmSpec)

/-- ITS FALSE NEIGHBOUR: 'it returns false'. Refute it at one input. -/
def cascadeCalmWrong : ChangeSpec := { name := "cascadeCalm", fn := fun _ => fun
  | [d] => { results := [.lit (.bool false)], args := [d] }
  | _ => none }
def CascadeCalmWrongFalsely : Prop := cascadeCalmRow.holds Try.pinned (OpenSpec.ofChange cascadeCalmWrong)

/-- 'estoppeltop.TopPaired': WHATEVER THE INPUT: true; the input reads as it did. -/
def topPairedSpec : ChangeSpec := { name := "topPaired", fn := fun _ => fun
  | [d] => { results := [.lit (.bool true)], args := [d] }
  | _ => none }
def topPairedRow : OpenClaim := { program := "yteoicnhnpailiaa", sum := "e715d4ff39eda74fba1be04799906031682399891b2312d19bcbfba0ba1d8e14", func := "estoppel/estoppeltop.TopPaired", spec := "topPaired", unfollowed := true, recurses := true, apart := false }
def TopPairedSaid : Prop := topPairedRow.holds Try.pinned (OpenSpec.ofChange topPairedSpec)

/-- ITS FALSE NEIGHBOUR: 'it returns false'. Refute it at one input. -/
def topPairedWrong : ChangeSpec := { name := "topPaired", fn := fun _ => fun
  | [d] => { results := [.lit (.bool false)], args := [d] }
  | _ => none }
def TopPairedWrongFalsely : Prop := topPairedRow.holds Try.pinned (OpenSpec.ofChange topPairedWrong)

/- THE SECOND FORM. 'bulk': how many values and letters a reading holds, each counted each time it is reached (what is shared counts as often as it is met; a slice's spare places count too). A statement '..UptoSaid' is the law's where the arguments, and the package variables that the reading takes, are together of bulk at most 1048576: NARROWER than '..Said'. Prove '..Said' where nothing that the law and all that it calls make is longer than what came in: it says more and counts as full. Else prove '..UptoSaid'. A law counts once. -/
mutual
def uptoBulk {H : Type} : DataW H → Nat
  | .lit (.string bytes) => bytes.length + 1
  | .lit _ => 1
  | .nil => 1
  | .ptr d => uptoBulk d + 1
  | .slice elems spare => uptoBulkAll elems + uptoBulkAll spare + 1
  | .agg parts => uptoBulkAll parts + 1
  | .iface _ d => uptoBulk d + 1
  | .map entries => uptoBulkEntries entries + 1
  | .held _ => 1
def uptoBulkAll {H : Type} : List (DataW H) → Nat
  | [] => 0
  | d :: r => uptoBulk d + uptoBulkAll r
def uptoBulkEntries {H : Type} : List (Lit × DataW H) → Nat
  | [] => 0
  | x :: r => uptoBulkEntry x + uptoBulkEntries r
def uptoBulkEntry {H : Type} : Lit × DataW H → Nat
  | (.string bytes, d) => bytes.length + uptoBulk d + 1
  | (_, d) => uptoBulk d + 1
 end
def uptoSmall : (H : Type) → List (DataW H) → Bool := fun _ ds => decide (uptoBulkAll ds ≤ 1048576)
def OpenSpec.upto (s : _root_.Go.ChangeSpec) : _root_.Go.OpenSpec := { _root_.Go.OpenSpec.ofChange s with cond := some uptoSmall }

/-- 'estoppellaw43.CascadeFixed', WHERE WHAT IT READS IS OF BULK AT MOST 1048576: true; the input reads as it did. -/
def cascadeFixedUptoRow : OpenClaim := { program := "yteoicnhnpailiaa", sum := "e715d4ff39eda74fba1be04799906031682399891b2312d19bcbfba0ba1d8e14", func := "estoppel/estoppellaw43.CascadeFixed", spec := "cascadeFixed", unfollowed := true, recurses := true, apart := false, narrowed := true }
def CascadeFixedUptoSaid : Prop := cascadeFixedUptoRow.holds Try.pinned (OpenSpec.upto cascadeFixedSpec)

/-- 'estoppellaw43.CascadeLeast', WHERE WHAT IT READS IS OF BULK AT MOST 1048576: true; the input reads as it did. -/
def cascadeLeastUptoRow : OpenClaim := { program := "yteoicnhnpailiaa", sum := "e715d4ff39eda74fba1be04799906031682399891b2312d19bcbfba0ba1d8e14", func := "estoppel/estoppellaw43.CascadeLeast", spec := "cascadeLeast", unfollowed := true, recurses := true, apart := false, narrowed := true }
def CascadeLeastUptoSaid : Prop := cascadeLeastUptoRow.holds Try.pinned (OpenSpec.upto cascadeLeastSpec)

/-- 'estoppellaw43.CascadeAnyOrder', WHERE WHAT IT READS IS OF BULK AT MOST 1048576: true; the input reads as it did. -/
def cascadeAnyOrderUptoRow : OpenClaim := { program := "yteoicnhnpailiaa", sum := "e715d4ff39eda74fba1be04799906031682399891b2312d19bcbfba0ba1d8e14", func := "estoppel/estoppellaw43.CascadeAnyOrder", spec := "cascadeAnyOrder", unfollowed := true, recurses := true, apart := false, narrowed := true }
def CascadeAnyOrderUptoSaid : Prop := cascadeAnyOrderUptoRow.holds Try.pinned (OpenSpec.upto cascadeAnyOrderSpec)

/-- 'estoppellaw43.CascadeMore', WHERE WHAT IT READS IS OF BULK AT MOST 1048576: true; the input reads as it did. -/
def cascadeMoreUptoRow : OpenClaim := { program := "yteoicnhnpailiaa", sum := "e715d4ff39eda74fba1be04799906031682399891b2312d19bcbfba0ba1d8e14", func := "estoppel/estoppellaw43.CascadeMore", spec := "cascadeMore", unfollowed := true, recurses := true, apart := false, narrowed := true }
def CascadeMoreUptoSaid : Prop := cascadeMoreUptoRow.holds Try.pinned (OpenSpec.upto cascadeMoreSpec)

/-- 'estoppellaw43.CascadeChains', WHERE WHAT IT READS IS OF BULK AT MOST 1048576: true; the input reads as it did. -/
def cascadeChainsUptoRow : OpenClaim := { program := "yteoicnhnpailiaa", sum := "e715d4ff39eda74fba1be04799906031682399891b2312d19bcbfba0ba1d8e14", func := "estoppel/estoppellaw43.CascadeChains", spec := "cascadeChains", unfollowed := true, recurses := true, apart := false, narrowed := true }
def CascadeChainsUptoSaid : Prop := cascadeChainsUptoRow.holds Try.pinned (OpenSpec.upto cascadeChainsSpec)

/-- 'estoppellaw43.CascadeOwn', WHERE WHAT IT READS IS OF BULK AT MOST 1048576: true; the input reads as it did. -/
def cascadeOwnUptoRow : OpenClaim := { program := "yteoicnhnpailiaa", sum := "e715d4ff39eda74fba1be04799906031682399891b2312d19bcbfba0ba1d8e14", func := "estoppel/estoppellaw43.CascadeOwn", spec := "cascadeOwn", unfollowed := true, recurses := true, apart := false, narrowed := true }
def CascadeOwnUptoSaid : Prop := cascadeOwnUptoRow.holds Try.pinned (OpenSpec.upto cascadeOwnSpec)

/-- 'estoppellaw43.CascadeCalm', WHERE WHAT IT READS IS OF BULK AT MOST 1048576: true; the input reads as it did. -/
def cascadeCalmUptoRow : OpenClaim := { program := "yteoicnhnpailiaa", sum := "e715d4ff39eda74fba1be04799906031682399891b2312d19bcbfba0ba1d8e14", func := "estoppel/estoppellaw43.CascadeCalm", spec := "cascadeCalm", unfollowed := true, recurses := true, apart := false, narrowed := true }
def CascadeCalmUptoSaid : Prop := cascadeCalmUptoRow.holds Try.pinned (OpenSpec.upto cascadeCalmSpec)

/-- 'estoppeltop.TopPaired', WHERE WHAT IT READS IS OF BULK AT MOST 1048576: true; the input reads as it did. -/
def topPairedUptoRow : OpenClaim := { program := "yteoicnhnpailiaa", sum := "e715d4ff39eda74fba1be04799906031682399891b2312d19bcbfba0ba1d8e14", func := "estoppel/estoppeltop.TopPaired", spec := "topPaired", unfollowed := true, recurses := true, apart := false, narrowed := true }
def TopPairedUptoSaid : Prop := topPairedUptoRow.holds Try.pinned (OpenSpec.upto topPairedSpec)

end Rows
end Go.Proofs.Yteoicnhnpailiaa
