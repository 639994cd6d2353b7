/-
  DERIVED. GIVEN WITH THE SEED: THE CARDS: each row of YtemkghgcdpmlbaaDoorRows.lean that lists a variable, with what it lists TIED to the program's text (the seventh form; the later family's looks); each row that meets fmt, with fmt's text TOLD by the authors' own Lean function (tested against real Go, not proved from fmt's source: count such statements apart). THE CARD IS WHAT COUNTS. Prove the row's statement (the work); the ties are given (YtemkghgcdpmlbaaDoorTie.lean); close each card by the builder's one call (the guide's Derived/Test/ToyasCard.lean, 'card_holds'). Laid BY PROGRAM, IN A SANDBOX (cutbox-door.mjs). By AI agents, Wed Nov 11 2026. No macro, syntax, notation, axiom, sorry.
-/
import Derived.Test.YtemkghgcdpmlbaaDoorRows
import GoSem.ClaimSeven
namespace Go.Proofs.YtemkghgcdpmlbaaDoor
namespace Rows

/-- THE TIED CARD OF 'estoppellaw32.FileGrows'. -/
def fileGrowsCard : Claim7 := { stood := { row := fileGrowsRow, standIns := [], harness := (true, "6c8e2099c3b3affb53159ed70e7a469b19181ceb584626bdc3fcebbc24bab9d9"), looks := true }, kinds := [], alts := [], laidByText := true, laidKinds := [.data, .data, .data, .sentinel, .sentinel], laidTests := true, laidLooks := .later }
def FileGrowsCardSaid : Prop := Claim7.holds Tryd.pinned (.plain (OpenSpec.ofChange fileGrowsSpec)) fileGrowsCard

/-- THE TIED CARD OF 'estoppellaw32.FileAnyOrder'. -/
def fileAnyOrderCard : Claim7 := { stood := { row := fileAnyOrderRow, standIns := [], harness := (true, "6c8e2099c3b3affb53159ed70e7a469b19181ceb584626bdc3fcebbc24bab9d9"), looks := true }, kinds := [], alts := [], laidByText := true, laidKinds := [.data, .data, .data, .sentinel, .sentinel], laidTests := true, laidLooks := .later }
def FileAnyOrderCardSaid : Prop := Claim7.holds Tryd.pinned (.plain (OpenSpec.ofChange fileAnyOrderSpec)) fileAnyOrderCard

/-- THE TIED CARD OF 'estoppellaw32.FileAsOf'. -/
def fileAsOfCard : Claim7 := { stood := { row := fileAsOfRow, standIns := [], harness := (true, "6c8e2099c3b3affb53159ed70e7a469b19181ceb584626bdc3fcebbc24bab9d9"), looks := true }, kinds := [], alts := [], laidByText := true, laidKinds := [.data, .data, .data, .sentinel, .sentinel], laidTests := true, laidLooks := .later }
def FileAsOfCardSaid : Prop := Claim7.holds Tryd.pinned (.plain (OpenSpec.ofChange fileAsOfSpec)) fileAsOfCard

/-- THE TIED CARD OF 'estoppellaw32.FileOpens'. -/
def fileOpensCard : Claim7 := { stood := { row := fileOpensRow, standIns := [], harness := (true, "6c8e2099c3b3affb53159ed70e7a469b19181ceb584626bdc3fcebbc24bab9d9"), looks := true }, kinds := [], alts := [], laidByText := true, laidKinds := [.data, .data, .data, .sentinel, .sentinel], laidTests := true, laidLooks := .later }
def FileOpensCardSaid : Prop := Claim7.holds Tryd.pinned (.plain (OpenSpec.ofChange fileOpensSpec)) fileOpensCard

/-- THE TIED CARD OF 'estoppellaw32.FileTexts'. -/
def fileTextsCard : Claim7 := { stood := { row := fileTextsRow, standIns := [], harness := (true, "6c8e2099c3b3affb53159ed70e7a469b19181ceb584626bdc3fcebbc24bab9d9"), looks := true }, kinds := [], alts := [], laidByText := true, laidKinds := [.data, .data, .data, .sentinel, .sentinel], laidTests := true, laidLooks := .later }
def FileTextsCardSaid : Prop := Claim7.holds Tryd.pinned (.plain (OpenSpec.ofChange fileTextsSpec)) fileTextsCard

/-- THE SECOND FORM's CARD OF 'estoppellaw32.FileGrows'. -/
def fileGrowsUptoCard : Claim7 := { stood := { row := fileGrowsUptoRow, standIns := [], harness := (true, "6c8e2099c3b3affb53159ed70e7a469b19181ceb584626bdc3fcebbc24bab9d9"), looks := true }, kinds := [], alts := [], laidByText := true, laidKinds := [.data, .data, .data, .sentinel, .sentinel], laidTests := true, laidLooks := .later }
def FileGrowsUptoCardSaid : Prop := Claim7.holds Tryd.pinned (.plain (OpenSpec.upto fileGrowsSpec)) fileGrowsUptoCard

/-- THE SECOND FORM's CARD OF 'estoppellaw32.FileAnyOrder'. -/
def fileAnyOrderUptoCard : Claim7 := { stood := { row := fileAnyOrderUptoRow, standIns := [], harness := (true, "6c8e2099c3b3affb53159ed70e7a469b19181ceb584626bdc3fcebbc24bab9d9"), looks := true }, kinds := [], alts := [], laidByText := true, laidKinds := [.data, .data, .data, .sentinel, .sentinel], laidTests := true, laidLooks := .later }
def FileAnyOrderUptoCardSaid : Prop := Claim7.holds Tryd.pinned (.plain (OpenSpec.upto fileAnyOrderSpec)) fileAnyOrderUptoCard

/-- THE SECOND FORM's CARD OF 'estoppellaw32.FileAsOf'. -/
def fileAsOfUptoCard : Claim7 := { stood := { row := fileAsOfUptoRow, standIns := [], harness := (true, "6c8e2099c3b3affb53159ed70e7a469b19181ceb584626bdc3fcebbc24bab9d9"), looks := true }, kinds := [], alts := [], laidByText := true, laidKinds := [.data, .data, .data, .sentinel, .sentinel], laidTests := true, laidLooks := .later }
def FileAsOfUptoCardSaid : Prop := Claim7.holds Tryd.pinned (.plain (OpenSpec.upto fileAsOfSpec)) fileAsOfUptoCard

/-- THE SECOND FORM's CARD OF 'estoppellaw32.FileOpens'. -/
def fileOpensUptoCard : Claim7 := { stood := { row := fileOpensUptoRow, standIns := [], harness := (true, "6c8e2099c3b3affb53159ed70e7a469b19181ceb584626bdc3fcebbc24bab9d9"), looks := true }, kinds := [], alts := [], laidByText := true, laidKinds := [.data, .data, .data, .sentinel, .sentinel], laidTests := true, laidLooks := .later }
def FileOpensUptoCardSaid : Prop := Claim7.holds Tryd.pinned (.plain (OpenSpec.upto fileOpensSpec)) fileOpensUptoCard

/-- THE SECOND FORM's CARD OF 'estoppellaw32.FileTexts'. -/
def fileTextsUptoCard : Claim7 := { stood := { row := fileTextsUptoRow, standIns := [], harness := (true, "6c8e2099c3b3affb53159ed70e7a469b19181ceb584626bdc3fcebbc24bab9d9"), looks := true }, kinds := [], alts := [], laidByText := true, laidKinds := [.data, .data, .data, .sentinel, .sentinel], laidTests := true, laidLooks := .later }
def FileTextsUptoCardSaid : Prop := Claim7.holds Tryd.pinned (.plain (OpenSpec.upto fileTextsSpec)) fileTextsUptoCard
end Rows
end Go.Proofs.YtemkghgcdpmlbaaDoor
