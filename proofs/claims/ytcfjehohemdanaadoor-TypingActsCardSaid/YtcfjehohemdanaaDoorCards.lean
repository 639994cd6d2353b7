/-
  DERIVED. GIVEN WITH THE SEED: THE CARDS: each row of YtcfjehohemdanaaDoorRows.lean that lists a variable, with what it lists TIED to the program's text (the seventh form; the later family's looks); each row that meets fmt, with fmt's text TOLD by the authors' own Lean function (tested against real Go, not proved from fmt's source: count such statements apart). THE CARD IS WHAT COUNTS. Prove the row's statement (the work); the ties are given (YtcfjehohemdanaaDoorTie.lean); close each card by the builder's one call (the guide's Derived/Test/ToyasCard.lean, 'card_holds'). Laid BY PROGRAM, IN A SANDBOX (cutbox-door.mjs). By AI agents, Wed Nov 11 2026. No macro, syntax, notation, axiom, sorry.
-/
import Derived.Test.YtcfjehohemdanaaDoorRows
import GoSem.ClaimSeven
namespace Go.Proofs.YtcfjehohemdanaaDoor
namespace Rows

/-- THE TIED CARD OF 'estoppellaw11.TypingOrder'. -/
def typingOrderCard : Claim7 := { stood := { row := typingOrderRow, standIns := [], harness := (true, "98d567e9f95289ed72d232050a4aa32776b95b796c3c35d1152f055eae1d136b"), looks := false }, kinds := [], alts := [], laidByText := true, laidKinds := [.data, .data], laidTests := true, laidLooks := .later }
def TypingOrderCardSaid : Prop := Claim7.holds Tryd.pinned (.plain (OpenSpec.ofChange typingOrderSpec)) typingOrderCard

/-- THE TIED CARD OF 'estoppellaw11.TypingClauses'. -/
def typingClausesCard : Claim7 := { stood := { row := typingClausesRow, standIns := [], harness := (true, "98d567e9f95289ed72d232050a4aa32776b95b796c3c35d1152f055eae1d136b"), looks := false }, kinds := [], alts := [], laidByText := true, laidKinds := [.data, .data], laidTests := true, laidLooks := .later }
def TypingClausesCardSaid : Prop := Claim7.holds Tryd.pinned (.plain (OpenSpec.ofChange typingClausesSpec)) typingClausesCard

/-- THE TIED CARD OF 'estoppellaw11.TypingNames'. -/
def typingNamesCard : Claim7 := { stood := { row := typingNamesRow, standIns := [], harness := (true, "98d567e9f95289ed72d232050a4aa32776b95b796c3c35d1152f055eae1d136b"), looks := false }, kinds := [], alts := [], laidByText := true, laidKinds := [.data, .data], laidTests := true, laidLooks := .later }
def TypingNamesCardSaid : Prop := Claim7.holds Tryd.pinned (.plain (OpenSpec.ofChange typingNamesSpec)) typingNamesCard

/-- THE TIED CARD OF 'estoppellaw11.TypingSpans'. -/
def typingSpansCard : Claim7 := { stood := { row := typingSpansRow, standIns := [], harness := (true, "98d567e9f95289ed72d232050a4aa32776b95b796c3c35d1152f055eae1d136b"), looks := false }, kinds := [], alts := [], laidByText := true, laidKinds := [.data, .data], laidTests := true, laidLooks := .later }
def TypingSpansCardSaid : Prop := Claim7.holds Tryd.pinned (.plain (OpenSpec.ofChange typingSpansSpec)) typingSpansCard

/-- THE TIED CARD OF 'estoppellaw11.TypingActs'. -/
def typingActsCard : Claim7 := { stood := { row := typingActsRow, standIns := [], harness := (true, "98d567e9f95289ed72d232050a4aa32776b95b796c3c35d1152f055eae1d136b"), looks := false }, kinds := [], alts := [], laidByText := true, laidKinds := [.data, .data], laidTests := true, laidLooks := .later }
def TypingActsCardSaid : Prop := Claim7.holds Tryd.pinned (.plain (OpenSpec.ofChange typingActsSpec)) typingActsCard

/-- THE TIED CARD OF 'estoppellaw11.TypingBeginning'. -/
def typingBeginningCard : Claim7 := { stood := { row := typingBeginningRow, standIns := [], harness := (true, "98d567e9f95289ed72d232050a4aa32776b95b796c3c35d1152f055eae1d136b"), looks := false }, kinds := [], alts := [], laidByText := true, laidKinds := [.data, .data], laidTests := true, laidLooks := .later }
def TypingBeginningCardSaid : Prop := Claim7.holds Tryd.pinned (.plain (OpenSpec.ofChange typingBeginningSpec)) typingBeginningCard

/-- THE SECOND FORM's CARD OF 'estoppellaw11.TypingOrder'. -/
def typingOrderUptoCard : Claim7 := { stood := { row := typingOrderUptoRow, standIns := [], harness := (true, "98d567e9f95289ed72d232050a4aa32776b95b796c3c35d1152f055eae1d136b"), looks := false }, kinds := [], alts := [], laidByText := true, laidKinds := [.data, .data], laidTests := true, laidLooks := .later }
def TypingOrderUptoCardSaid : Prop := Claim7.holds Tryd.pinned (.plain (OpenSpec.upto typingOrderSpec)) typingOrderUptoCard

/-- THE SECOND FORM's CARD OF 'estoppellaw11.TypingClauses'. -/
def typingClausesUptoCard : Claim7 := { stood := { row := typingClausesUptoRow, standIns := [], harness := (true, "98d567e9f95289ed72d232050a4aa32776b95b796c3c35d1152f055eae1d136b"), looks := false }, kinds := [], alts := [], laidByText := true, laidKinds := [.data, .data], laidTests := true, laidLooks := .later }
def TypingClausesUptoCardSaid : Prop := Claim7.holds Tryd.pinned (.plain (OpenSpec.upto typingClausesSpec)) typingClausesUptoCard

/-- THE SECOND FORM's CARD OF 'estoppellaw11.TypingNames'. -/
def typingNamesUptoCard : Claim7 := { stood := { row := typingNamesUptoRow, standIns := [], harness := (true, "98d567e9f95289ed72d232050a4aa32776b95b796c3c35d1152f055eae1d136b"), looks := false }, kinds := [], alts := [], laidByText := true, laidKinds := [.data, .data], laidTests := true, laidLooks := .later }
def TypingNamesUptoCardSaid : Prop := Claim7.holds Tryd.pinned (.plain (OpenSpec.upto typingNamesSpec)) typingNamesUptoCard

/-- THE SECOND FORM's CARD OF 'estoppellaw11.TypingSpans'. -/
def typingSpansUptoCard : Claim7 := { stood := { row := typingSpansUptoRow, standIns := [], harness := (true, "98d567e9f95289ed72d232050a4aa32776b95b796c3c35d1152f055eae1d136b"), looks := false }, kinds := [], alts := [], laidByText := true, laidKinds := [.data, .data], laidTests := true, laidLooks := .later }
def TypingSpansUptoCardSaid : Prop := Claim7.holds Tryd.pinned (.plain (OpenSpec.upto typingSpansSpec)) typingSpansUptoCard

/-- THE SECOND FORM's CARD OF 'estoppellaw11.TypingActs'. -/
def typingActsUptoCard : Claim7 := { stood := { row := typingActsUptoRow, standIns := [], harness := (true, "98d567e9f95289ed72d232050a4aa32776b95b796c3c35d1152f055eae1d136b"), looks := false }, kinds := [], alts := [], laidByText := true, laidKinds := [.data, .data], laidTests := true, laidLooks := .later }
def TypingActsUptoCardSaid : Prop := Claim7.holds Tryd.pinned (.plain (OpenSpec.upto typingActsSpec)) typingActsUptoCard

/-- THE SECOND FORM's CARD OF 'estoppellaw11.TypingBeginning'. -/
def typingBeginningUptoCard : Claim7 := { stood := { row := typingBeginningUptoRow, standIns := [], harness := (true, "98d567e9f95289ed72d232050a4aa32776b95b796c3c35d1152f055eae1d136b"), looks := false }, kinds := [], alts := [], laidByText := true, laidKinds := [.data, .data], laidTests := true, laidLooks := .later }
def TypingBeginningUptoCardSaid : Prop := Claim7.holds Tryd.pinned (.plain (OpenSpec.upto typingBeginningSpec)) typingBeginningUptoCard
end Rows
end Go.Proofs.YtcfjehohemdanaaDoor
