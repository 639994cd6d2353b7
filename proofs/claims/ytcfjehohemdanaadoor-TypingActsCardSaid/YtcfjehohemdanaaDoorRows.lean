/-
  NARROWER THAN 'FOR EVERY INPUT', by the rows' own cells (each row's printed sentence says how): TypingOrder: laid · TypingClauses: laid · TypingNames: laid · TypingSpans: laid · TypingActs: laid · TypingBeginning: laid.
  DERIVED. THE GIVEN ROWS OF THIS SEAT. 6 by the template 'for every input the law returns true; each argument reads behind the call as it read before'; 0 by the template 'total and deterministic' (their statements: YtcfjehohemdanaaDoorTotals.lean).
  GIVEN WITH THE SEED: the statements are not yours to turn. If you find one false, say at which input.
  Laid BY PROGRAM, IN A SANDBOX (cutbox-rows.mjs): the forced cells as the released guide's own fill.sh prints them over the translation 63a334a9f9e20757… (all of the seat's roots in one cut). By AI agents, Wed Nov 11 2026. No macro, syntax, notation, axiom, sorry.
-/
import Derived.Test.YtcfjehohemdanaaDoorChecked
import GoSem.Claim
import GoSem.ClaimJoined
import GoSem.ClaimMapViews
import Derived.JoinedTies
import Derived.KernelRfl
namespace Go.Proofs.YtcfjehohemdanaaDoor
/- THE CELL 'sum', in the pinned program and in every row, IS THE sha256 OF THE DUMP (.gsa) THAT YtcfjehohemdanaaDoorProg.lean LOADS. Nothing in Lean hashes anything: it is a label: what it is worth is what the hold of that sum in a sandbox is worth. -/
noncomputable def Tryd.pinned : Pinned := { name := "ytcfjehohemdanaadoor", sum := "63a334a9f9e207571beb88ec5fad739c00e220f8dbb5d05368af14cc47a93fc4", checked := Tryd.checked }
namespace Rows
def none {H : Type} : Left H := { results := [], args := [] }

/- WHAT THE LISTED PACKAGE-LEVEL VARIABLES READ AS WHEN THE CALL BEGINS. Each datum BY PROGRAM (the guide's laid-datum.mjs) off the statement by which the dump's own 'gosem.cut.vars' lays the variable. In a bare row this is a premise. The card (YtcfjehohemdanaaDoorCards.lean) ties it to the program's text. -/
def laid_estoppel_date_before {H : Type} : DataW H := .agg [.lit (.int .i64 0), .lit (.int .i64 31), .lit (.int .i64 59), .lit (.int .i64 90), .lit (.int .i64 120), .lit (.int .i64 151), .lit (.int .i64 181), .lit (.int .i64 212), .lit (.int .i64 243), .lit (.int .i64 273), .lit (.int .i64 304), .lit (.int .i64 334), .lit (.int .i64 365)]
def laid_estoppel_typing_noRatio {H : Type} : DataW H := .agg [.lit (.int .i64 0), .lit (.int .i64 1)]

/-- 'estoppellaw11.TypingOrder': WHATEVER THE INPUT: true; the input reads as it did. -/
def typingOrderSpec : ChangeSpec := { name := "typingOrder", fn := fun _ => fun
  | [d] => { results := [.lit (.bool true)], args := [d] }
  | _ => none }
def typingOrderRow : OpenClaim := { program := "ytcfjehohemdanaadoor", sum := "63a334a9f9e207571beb88ec5fad739c00e220f8dbb5d05368af14cc47a93fc4", func := "estoppel/estoppellaw11.TypingOrder", spec := "typingOrder", unfollowed := true, recurses := true, named := ["estoppel/typing.noRatio", "estoppel/date.before"], apart := false, laid := [("estoppel/date.before", laid_estoppel_date_before), ("estoppel/typing.noRatio", laid_estoppel_typing_noRatio)] }
def TypingOrderSaid : Prop := typingOrderRow.holds Tryd.pinned (OpenSpec.ofChange typingOrderSpec)

/-- ITS FALSE NEIGHBOUR: 'it returns false'. Refute it at one input. -/
def typingOrderWrong : ChangeSpec := { name := "typingOrder", fn := fun _ => fun
  | [d] => { results := [.lit (.bool false)], args := [d] }
  | _ => none }
def TypingOrderWrongFalsely : Prop := typingOrderRow.holds Tryd.pinned (OpenSpec.ofChange typingOrderWrong)

/-- 'estoppellaw11.TypingClauses': WHATEVER THE INPUT: true; the input reads as it did. -/
def typingClausesSpec : ChangeSpec := { name := "typingClauses", fn := fun _ => fun
  | [d1, d2] => { results := [.lit (.bool true)], args := [d1, d2] }
  | _ => none }
def typingClausesRow : OpenClaim := { program := "ytcfjehohemdanaadoor", sum := "63a334a9f9e207571beb88ec5fad739c00e220f8dbb5d05368af14cc47a93fc4", func := "estoppel/estoppellaw11.TypingClauses", spec := "typingClauses", unfollowed := true, recurses := true, named := ["estoppel/typing.noRatio", "estoppel/date.before"], apart := false, laid := [("estoppel/date.before", laid_estoppel_date_before), ("estoppel/typing.noRatio", laid_estoppel_typing_noRatio)] }
def TypingClausesSaid : Prop := typingClausesRow.holds Tryd.pinned (OpenSpec.ofChange typingClausesSpec)

/-- ITS FALSE NEIGHBOUR: 'it returns false'. Refute it at one input. -/
def typingClausesWrong : ChangeSpec := { name := "typingClauses", fn := fun _ => fun
  | [d1, d2] => { results := [.lit (.bool false)], args := [d1, d2] }
  | _ => none }
def TypingClausesWrongFalsely : Prop := typingClausesRow.holds Tryd.pinned (OpenSpec.ofChange typingClausesWrong)

/-- 'estoppellaw11.TypingNames': WHATEVER THE INPUT: true; the input reads as it did. -/
def typingNamesSpec : ChangeSpec := { name := "typingNames", fn := fun _ => fun
  | [d1, d2] => { results := [.lit (.bool true)], args := [d1, d2] }
  | _ => none }
def typingNamesRow : OpenClaim := { program := "ytcfjehohemdanaadoor", sum := "63a334a9f9e207571beb88ec5fad739c00e220f8dbb5d05368af14cc47a93fc4", func := "estoppel/estoppellaw11.TypingNames", spec := "typingNames", unfollowed := true, recurses := true, named := ["estoppel/typing.noRatio", "estoppel/date.before"], apart := false, laid := [("estoppel/date.before", laid_estoppel_date_before), ("estoppel/typing.noRatio", laid_estoppel_typing_noRatio)] }
def TypingNamesSaid : Prop := typingNamesRow.holds Tryd.pinned (OpenSpec.ofChange typingNamesSpec)

/-- ITS FALSE NEIGHBOUR: 'it returns false'. Refute it at one input. -/
def typingNamesWrong : ChangeSpec := { name := "typingNames", fn := fun _ => fun
  | [d1, d2] => { results := [.lit (.bool false)], args := [d1, d2] }
  | _ => none }
def TypingNamesWrongFalsely : Prop := typingNamesRow.holds Tryd.pinned (OpenSpec.ofChange typingNamesWrong)

/-- 'estoppellaw11.TypingSpans': WHATEVER THE INPUT: true; the input reads as it did. -/
def typingSpansSpec : ChangeSpec := { name := "typingSpans", fn := fun _ => fun
  | [d1, d2, d3, d4] => { results := [.lit (.bool true)], args := [d1, d2, d3, d4] }
  | _ => none }
def typingSpansRow : OpenClaim := { program := "ytcfjehohemdanaadoor", sum := "63a334a9f9e207571beb88ec5fad739c00e220f8dbb5d05368af14cc47a93fc4", func := "estoppel/estoppellaw11.TypingSpans", spec := "typingSpans", unfollowed := true, recurses := true, named := ["estoppel/typing.noRatio", "estoppel/date.before"], apart := false, laid := [("estoppel/date.before", laid_estoppel_date_before), ("estoppel/typing.noRatio", laid_estoppel_typing_noRatio)] }
def TypingSpansSaid : Prop := typingSpansRow.holds Tryd.pinned (OpenSpec.ofChange typingSpansSpec)

/-- ITS FALSE NEIGHBOUR: 'it returns false'. Refute it at one input. -/
def typingSpansWrong : ChangeSpec := { name := "typingSpans", fn := fun _ => fun
  | [d1, d2, d3, d4] => { results := [.lit (.bool false)], args := [d1, d2, d3, d4] }
  | _ => none }
def TypingSpansWrongFalsely : Prop := typingSpansRow.holds Tryd.pinned (OpenSpec.ofChange typingSpansWrong)

/-- 'estoppellaw11.TypingActs': WHATEVER THE INPUT: true; the input reads as it did. -/
def typingActsSpec : ChangeSpec := { name := "typingActs", fn := fun _ => fun
  | [d1, d2] => { results := [.lit (.bool true)], args := [d1, d2] }
  | _ => none }
def typingActsRow : OpenClaim := { program := "ytcfjehohemdanaadoor", sum := "63a334a9f9e207571beb88ec5fad739c00e220f8dbb5d05368af14cc47a93fc4", func := "estoppel/estoppellaw11.TypingActs", spec := "typingActs", unfollowed := true, recurses := true, named := ["estoppel/typing.noRatio", "estoppel/date.before"], apart := false, laid := [("estoppel/date.before", laid_estoppel_date_before), ("estoppel/typing.noRatio", laid_estoppel_typing_noRatio)] }
def TypingActsSaid : Prop := typingActsRow.holds Tryd.pinned (OpenSpec.ofChange typingActsSpec)

/-- ITS FALSE NEIGHBOUR: 'it returns false'. Refute it at one input. -/
def typingActsWrong : ChangeSpec := { name := "typingActs", fn := fun _ => fun
  | [d1, d2] => { results := [.lit (.bool false)], args := [d1, d2] }
  | _ => none }
def TypingActsWrongFalsely : Prop := typingActsRow.holds Tryd.pinned (OpenSpec.ofChange typingActsWrong)

/-- 'estoppellaw11.TypingBeginning': WHATEVER THE INPUT: true; the input reads as it did. -/
def typingBeginningSpec : ChangeSpec := { name := "typingBeginning", fn := fun _ => fun
  | [d1, d2, d3] => { results := [.lit (.bool true)], args := [d1, d2, d3] }
  | _ => none }
def typingBeginningRow : OpenClaim := { program := "ytcfjehohemdanaadoor", sum := "63a334a9f9e207571beb88ec5fad739c00e220f8dbb5d05368af14cc47a93fc4", func := "estoppel/estoppellaw11.TypingBeginning", spec := "typingBeginning", unfollowed := true, recurses := true, named := ["estoppel/typing.noRatio", "estoppel/date.before"], apart := false, laid := [("estoppel/date.before", laid_estoppel_date_before), ("estoppel/typing.noRatio", laid_estoppel_typing_noRatio)] }
def TypingBeginningSaid : Prop := typingBeginningRow.holds Tryd.pinned (OpenSpec.ofChange typingBeginningSpec)

/-- ITS FALSE NEIGHBOUR: 'it returns false'. Refute it at one input. -/
def typingBeginningWrong : ChangeSpec := { name := "typingBeginning", fn := fun _ => fun
  | [d1, d2, d3] => { results := [.lit (.bool false)], args := [d1, d2, d3] }
  | _ => none }
def TypingBeginningWrongFalsely : Prop := typingBeginningRow.holds Tryd.pinned (OpenSpec.ofChange typingBeginningWrong)

/- THE SECOND FORM. 'bulk': how many values and letters a reading holds, each counted each time it is reached (what is shared counts as often as it is met; a slice's spare places count too). A statement '..UptoSaid' is the law's where the arguments, and the package variables that the reading takes, are together of bulk at most 1048576: NARROWER than '..Said'. Prove '..Said' where nothing that the law and all that it calls make is longer than what came in: it says more and counts as full. Else prove '..UptoSaid'. A law counts once. -/
mutual
def uptoBulk {H : Type} : DataW H → Nat
  | .lit (.string bytes) => bytes.length + 1
  | .lit _ => 1
  | .nil => 1
  | .ptr d => uptoBulk d + 1
  | .slice elems spare => uptoBulkAll elems + uptoBulkAll spare + 1
  | .agg parts => uptoBulkAll parts + 1
  | .iface _ d => uptoBulk d + 1
  | .map entries => uptoBulkEntries entries + 1
  | .held _ => 1
def uptoBulkAll {H : Type} : List (DataW H) → Nat
  | [] => 0
  | d :: r => uptoBulk d + uptoBulkAll r
def uptoBulkEntries {H : Type} : List (Lit × DataW H) → Nat
  | [] => 0
  | x :: r => uptoBulkEntry x + uptoBulkEntries r
def uptoBulkEntry {H : Type} : Lit × DataW H → Nat
  | (.string bytes, d) => bytes.length + uptoBulk d + 1
  | (_, d) => uptoBulk d + 1
 end
def uptoSmall : (H : Type) → List (DataW H) → Bool := fun _ ds => decide (uptoBulkAll ds ≤ 1048576)
def OpenSpec.upto (s : _root_.Go.ChangeSpec) : _root_.Go.OpenSpec := { _root_.Go.OpenSpec.ofChange s with cond := some uptoSmall }

/-- 'estoppellaw11.TypingOrder', WHERE WHAT IT READS IS OF BULK AT MOST 1048576: true; the input reads as it did. -/
def typingOrderUptoRow : OpenClaim := { program := "ytcfjehohemdanaadoor", sum := "63a334a9f9e207571beb88ec5fad739c00e220f8dbb5d05368af14cc47a93fc4", func := "estoppel/estoppellaw11.TypingOrder", spec := "typingOrder", unfollowed := true, recurses := true, named := ["estoppel/typing.noRatio", "estoppel/date.before"], apart := false, laid := [("estoppel/date.before", laid_estoppel_date_before), ("estoppel/typing.noRatio", laid_estoppel_typing_noRatio)], narrowed := true }
def TypingOrderUptoSaid : Prop := typingOrderUptoRow.holds Tryd.pinned (OpenSpec.upto typingOrderSpec)

/-- 'estoppellaw11.TypingClauses', WHERE WHAT IT READS IS OF BULK AT MOST 1048576: true; the input reads as it did. -/
def typingClausesUptoRow : OpenClaim := { program := "ytcfjehohemdanaadoor", sum := "63a334a9f9e207571beb88ec5fad739c00e220f8dbb5d05368af14cc47a93fc4", func := "estoppel/estoppellaw11.TypingClauses", spec := "typingClauses", unfollowed := true, recurses := true, named := ["estoppel/typing.noRatio", "estoppel/date.before"], apart := false, laid := [("estoppel/date.before", laid_estoppel_date_before), ("estoppel/typing.noRatio", laid_estoppel_typing_noRatio)], narrowed := true }
def TypingClausesUptoSaid : Prop := typingClausesUptoRow.holds Tryd.pinned (OpenSpec.upto typingClausesSpec)

/-- 'estoppellaw11.TypingNames', WHERE WHAT IT READS IS OF BULK AT MOST 1048576: true; the input reads as it did. -/
def typingNamesUptoRow : OpenClaim := { program := "ytcfjehohemdanaadoor", sum := "63a334a9f9e207571beb88ec5fad739c00e220f8dbb5d05368af14cc47a93fc4", func := "estoppel/estoppellaw11.TypingNames", spec := "typingNames", unfollowed := true, recurses := true, named := ["estoppel/typing.noRatio", "estoppel/date.before"], apart := false, laid := [("estoppel/date.before", laid_estoppel_date_before), ("estoppel/typing.noRatio", laid_estoppel_typing_noRatio)], narrowed := true }
def TypingNamesUptoSaid : Prop := typingNamesUptoRow.holds Tryd.pinned (OpenSpec.upto typingNamesSpec)

/-- 'estoppellaw11.TypingSpans', WHERE WHAT IT READS IS OF BULK AT MOST 1048576: true; the input reads as it did. -/
def typingSpansUptoRow : OpenClaim := { program := "ytcfjehohemdanaadoor", sum := "63a334a9f9e207571beb88ec5fad739c00e220f8dbb5d05368af14cc47a93fc4", func := "estoppel/estoppellaw11.TypingSpans", spec := "typingSpans", unfollowed := true, recurses := true, named := ["estoppel/typing.noRatio", "estoppel/date.before"], apart := false, laid := [("estoppel/date.before", laid_estoppel_date_before), ("estoppel/typing.noRatio", laid_estoppel_typing_noRatio)], narrowed := true }
def TypingSpansUptoSaid : Prop := typingSpansUptoRow.holds Tryd.pinned (OpenSpec.upto typingSpansSpec)

/-- 'estoppellaw11.TypingActs', WHERE WHAT IT READS IS OF BULK AT MOST 1048576: true; the input reads as it did. -/
def typingActsUptoRow : OpenClaim := { program := "ytcfjehohemdanaadoor", sum := "63a334a9f9e207571beb88ec5fad739c00e220f8dbb5d05368af14cc47a93fc4", func := "estoppel/estoppellaw11.TypingActs", spec := "typingActs", unfollowed := true, recurses := true, named := ["estoppel/typing.noRatio", "estoppel/date.before"], apart := false, laid := [("estoppel/date.before", laid_estoppel_date_before), ("estoppel/typing.noRatio", laid_estoppel_typing_noRatio)], narrowed := true }
def TypingActsUptoSaid : Prop := typingActsUptoRow.holds Tryd.pinned (OpenSpec.upto typingActsSpec)

/-- 'estoppellaw11.TypingBeginning', WHERE WHAT IT READS IS OF BULK AT MOST 1048576: true; the input reads as it did. -/
def typingBeginningUptoRow : OpenClaim := { program := "ytcfjehohemdanaadoor", sum := "63a334a9f9e207571beb88ec5fad739c00e220f8dbb5d05368af14cc47a93fc4", func := "estoppel/estoppellaw11.TypingBeginning", spec := "typingBeginning", unfollowed := true, recurses := true, named := ["estoppel/typing.noRatio", "estoppel/date.before"], apart := false, laid := [("estoppel/date.before", laid_estoppel_date_before), ("estoppel/typing.noRatio", laid_estoppel_typing_noRatio)], narrowed := true }
def TypingBeginningUptoSaid : Prop := typingBeginningUptoRow.holds Tryd.pinned (OpenSpec.upto typingBeginningSpec)

end Rows
end Go.Proofs.YtcfjehohemdanaaDoor
