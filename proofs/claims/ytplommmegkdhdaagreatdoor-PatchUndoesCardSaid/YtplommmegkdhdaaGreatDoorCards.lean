/-
  DERIVED. GIVEN WITH THE SEED: THE CARDS: each row of YtplommmegkdhdaaGreatDoorRows.lean that lists a variable, with what it lists TIED to the program's text (the seventh form; the later family's looks); each row that meets fmt, with fmt's text TOLD by the authors' own Lean function (tested against real Go, not proved from fmt's source: count such statements apart). THE CARD IS WHAT COUNTS. Prove the row's statement (the work); the ties are given (YtplommmegkdhdaaGreatDoorTie.lean); close each card by the builder's one call (the guide's Derived/Test/ToyasCard.lean, 'card_holds'). Laid BY PROGRAM, IN A SANDBOX (cutbox-door.mjs). By AI agents, Wed Nov 11 2026. No macro, syntax, notation, axiom, sorry.
-/
import Derived.Test.YtplommmegkdhdaaGreatDoorRows
import GoSem.ClaimSeven
namespace Go.Proofs.YtplommmegkdhdaaGreatDoor
namespace Rows

/-- THE TIED CARD OF 'estoppellaw24.PatchLocal'. -/
def patchLocalCard : Claim7 := { stood := { row := patchLocalRow, standIns := [], harness := (true, "60a83aaf61b03b5af940255a3c0dc4c98edcb8938f10bb0e7fc258453a621bb9"), looks := true }, kinds := [], alts := [], laidByText := true, laidKinds := [.data, .data, .data, .sentinel, .sentinel], laidTests := true, laidLooks := .later }
def PatchLocalCardSaid : Prop := Claim7.holds Tryz.pinned (.plain (OpenSpec.ofChange patchLocalSpec)) patchLocalCard

/-- THE TIED CARD OF 'estoppellaw24.PatchValid'. -/
def patchValidCard : Claim7 := { stood := { row := patchValidRow, standIns := [], harness := (true, "60a83aaf61b03b5af940255a3c0dc4c98edcb8938f10bb0e7fc258453a621bb9"), looks := true }, kinds := [], alts := [], laidByText := true, laidKinds := [.data, .data, .data, .sentinel, .sentinel], laidTests := true, laidLooks := .later }
def PatchValidCardSaid : Prop := Claim7.holds Tryz.pinned (.plain (OpenSpec.ofChange patchValidSpec)) patchValidCard

/-- THE TIED CARD OF 'estoppellaw24.PatchAgain'. -/
def patchAgainCard : Claim7 := { stood := { row := patchAgainRow, standIns := [], harness := (true, "60a83aaf61b03b5af940255a3c0dc4c98edcb8938f10bb0e7fc258453a621bb9"), looks := true }, kinds := [], alts := [], laidByText := true, laidKinds := [.data, .data, .data, .sentinel, .sentinel], laidTests := true, laidLooks := .later }
def PatchAgainCardSaid : Prop := Claim7.holds Tryz.pinned (.plain (OpenSpec.ofChange patchAgainSpec)) patchAgainCard

/-- THE TIED CARD OF 'estoppellaw24.PatchWaives'. -/
def patchWaivesCard : Claim7 := { stood := { row := patchWaivesRow, standIns := [], harness := (true, "60a83aaf61b03b5af940255a3c0dc4c98edcb8938f10bb0e7fc258453a621bb9"), looks := true }, kinds := [], alts := [], laidByText := true, laidKinds := [.data, .data, .data, .sentinel, .sentinel], laidTests := true, laidLooks := .later }
def PatchWaivesCardSaid : Prop := Claim7.holds Tryz.pinned (.plain (OpenSpec.ofChange patchWaivesSpec)) patchWaivesCard

/-- THE TIED CARD OF 'estoppellaw24.PatchUndoes'. -/
def patchUndoesCard : Claim7 := { stood := { row := patchUndoesRow, standIns := [], harness := (true, "60a83aaf61b03b5af940255a3c0dc4c98edcb8938f10bb0e7fc258453a621bb9"), looks := true }, kinds := [], alts := [], laidByText := true, laidKinds := [.data, .data, .data, .sentinel, .sentinel], laidTests := true, laidLooks := .later }
def PatchUndoesCardSaid : Prop := Claim7.holds Tryz.pinned (.plain (OpenSpec.ofChange patchUndoesSpec)) patchUndoesCard

/-- THE TIED CARD OF 'estoppellaw24.PatchTexts'. -/
def patchTextsCard : Claim7 := { stood := { row := patchTextsRow, standIns := [], harness := (true, "60a83aaf61b03b5af940255a3c0dc4c98edcb8938f10bb0e7fc258453a621bb9"), looks := true }, kinds := [], alts := [], laidByText := true, laidKinds := [.data, .data, .data, .sentinel, .sentinel], laidTests := true, laidLooks := .later }
def PatchTextsCardSaid : Prop := Claim7.holds Tryz.pinned (.plain (OpenSpec.ofChange patchTextsSpec)) patchTextsCard

/-- THE SECOND FORM's CARD OF 'estoppellaw24.PatchLocal'. -/
def patchLocalUptoCard : Claim7 := { stood := { row := patchLocalUptoRow, standIns := [], harness := (true, "60a83aaf61b03b5af940255a3c0dc4c98edcb8938f10bb0e7fc258453a621bb9"), looks := true }, kinds := [], alts := [], laidByText := true, laidKinds := [.data, .data, .data, .sentinel, .sentinel], laidTests := true, laidLooks := .later }
def PatchLocalUptoCardSaid : Prop := Claim7.holds Tryz.pinned (.plain (OpenSpec.upto patchLocalSpec)) patchLocalUptoCard

/-- THE SECOND FORM's CARD OF 'estoppellaw24.PatchValid'. -/
def patchValidUptoCard : Claim7 := { stood := { row := patchValidUptoRow, standIns := [], harness := (true, "60a83aaf61b03b5af940255a3c0dc4c98edcb8938f10bb0e7fc258453a621bb9"), looks := true }, kinds := [], alts := [], laidByText := true, laidKinds := [.data, .data, .data, .sentinel, .sentinel], laidTests := true, laidLooks := .later }
def PatchValidUptoCardSaid : Prop := Claim7.holds Tryz.pinned (.plain (OpenSpec.upto patchValidSpec)) patchValidUptoCard

/-- THE SECOND FORM's CARD OF 'estoppellaw24.PatchAgain'. -/
def patchAgainUptoCard : Claim7 := { stood := { row := patchAgainUptoRow, standIns := [], harness := (true, "60a83aaf61b03b5af940255a3c0dc4c98edcb8938f10bb0e7fc258453a621bb9"), looks := true }, kinds := [], alts := [], laidByText := true, laidKinds := [.data, .data, .data, .sentinel, .sentinel], laidTests := true, laidLooks := .later }
def PatchAgainUptoCardSaid : Prop := Claim7.holds Tryz.pinned (.plain (OpenSpec.upto patchAgainSpec)) patchAgainUptoCard

/-- THE SECOND FORM's CARD OF 'estoppellaw24.PatchWaives'. -/
def patchWaivesUptoCard : Claim7 := { stood := { row := patchWaivesUptoRow, standIns := [], harness := (true, "60a83aaf61b03b5af940255a3c0dc4c98edcb8938f10bb0e7fc258453a621bb9"), looks := true }, kinds := [], alts := [], laidByText := true, laidKinds := [.data, .data, .data, .sentinel, .sentinel], laidTests := true, laidLooks := .later }
def PatchWaivesUptoCardSaid : Prop := Claim7.holds Tryz.pinned (.plain (OpenSpec.upto patchWaivesSpec)) patchWaivesUptoCard

/-- THE SECOND FORM's CARD OF 'estoppellaw24.PatchUndoes'. -/
def patchUndoesUptoCard : Claim7 := { stood := { row := patchUndoesUptoRow, standIns := [], harness := (true, "60a83aaf61b03b5af940255a3c0dc4c98edcb8938f10bb0e7fc258453a621bb9"), looks := true }, kinds := [], alts := [], laidByText := true, laidKinds := [.data, .data, .data, .sentinel, .sentinel], laidTests := true, laidLooks := .later }
def PatchUndoesUptoCardSaid : Prop := Claim7.holds Tryz.pinned (.plain (OpenSpec.upto patchUndoesSpec)) patchUndoesUptoCard

/-- THE SECOND FORM's CARD OF 'estoppellaw24.PatchTexts'. -/
def patchTextsUptoCard : Claim7 := { stood := { row := patchTextsUptoRow, standIns := [], harness := (true, "60a83aaf61b03b5af940255a3c0dc4c98edcb8938f10bb0e7fc258453a621bb9"), looks := true }, kinds := [], alts := [], laidByText := true, laidKinds := [.data, .data, .data, .sentinel, .sentinel], laidTests := true, laidLooks := .later }
def PatchTextsUptoCardSaid : Prop := Claim7.holds Tryz.pinned (.plain (OpenSpec.upto patchTextsSpec)) patchTextsUptoCard
end Rows
end Go.Proofs.YtplommmegkdhdaaGreatDoor
