/-
  DERIVED. GIVEN WITH THE SEED: THE CARDS: each row of YtbkekabhdpoddaaDoorRows.lean that lists a variable, with what it lists TIED to the program's text (the seventh form; the later family's looks); each row that meets fmt, with fmt's text TOLD by the authors' own Lean function (tested against real Go, not proved from fmt's source: count such statements apart). THE CARD IS WHAT COUNTS. Prove the row's statement (the work); the ties are given (YtbkekabhdpoddaaDoorTie.lean); close each card by the builder's one call (the guide's Derived/Test/ToyasCard.lean, 'card_holds'). Laid BY PROGRAM, IN A SANDBOX (cutbox-door.mjs). By AI agents, Wed Nov 11 2026. No macro, syntax, notation, axiom, sorry.
-/
import Derived.Test.YtbkekabhdpoddaaDoorRows
import GoSem.ClaimSeven
namespace Go.Proofs.YtbkekabhdpoddaaDoor
namespace Rows

/-- THE TIED CARD OF 'estoppellaw01.RatioLowest'. -/
def ratioLowestCard : Claim7 := { stood := { row := ratioLowestRow, standIns := [], harness := (true, "dc83b602da75a86d96c4c09b94f1fb49efcff24c27862d45050881abd31e1612"), looks := true }, kinds := [], alts := [], laidByText := true, laidKinds := [.data, .data, .data, .sentinel, .sentinel], laidTests := true, laidLooks := .later }
def RatioLowestCardSaid : Prop := Claim7.holds Tryd.pinned (.plain (OpenSpec.ofChange ratioLowestSpec)) ratioLowestCard

/-- THE TIED CARD OF 'estoppellaw01.RatioOrder'. -/
def ratioOrderCard : Claim7 := { stood := { row := ratioOrderRow, standIns := [], harness := (true, "dc83b602da75a86d96c4c09b94f1fb49efcff24c27862d45050881abd31e1612"), looks := true }, kinds := [], alts := [], laidByText := true, laidKinds := [.data, .data, .data, .sentinel, .sentinel], laidTests := true, laidLooks := .later }
def RatioOrderCardSaid : Prop := Claim7.holds Tryd.pinned (.plain (OpenSpec.ofChange ratioOrderSpec)) ratioOrderCard

/-- THE TIED CARD OF 'estoppellaw01.RatioFloor'. -/
def ratioFloorCard : Claim7 := { stood := { row := ratioFloorRow, standIns := [], harness := (true, "dc83b602da75a86d96c4c09b94f1fb49efcff24c27862d45050881abd31e1612"), looks := true }, kinds := [], alts := [], laidByText := true, laidKinds := [.data, .data, .data, .sentinel, .sentinel], laidTests := true, laidLooks := .later }
def RatioFloorCardSaid : Prop := Claim7.holds Tryd.pinned (.plain (OpenSpec.ofChange ratioFloorSpec)) ratioFloorCard

/-- THE TIED CARD OF 'estoppellaw01.RatioRounds'. -/
def ratioRoundsCard : Claim7 := { stood := { row := ratioRoundsRow, standIns := [], harness := (true, "dc83b602da75a86d96c4c09b94f1fb49efcff24c27862d45050881abd31e1612"), looks := true }, kinds := [], alts := [], laidByText := true, laidKinds := [.data, .data, .data, .sentinel, .sentinel], laidTests := true, laidLooks := .later }
def RatioRoundsCardSaid : Prop := Claim7.holds Tryd.pinned (.plain (OpenSpec.ofChange ratioRoundsSpec)) ratioRoundsCard

/-- THE TIED CARD OF 'estoppellaw01.RatioTexts'. -/
def ratioTextsCard : Claim7 := { stood := { row := ratioTextsRow, standIns := [], harness := (true, "dc83b602da75a86d96c4c09b94f1fb49efcff24c27862d45050881abd31e1612"), looks := true }, kinds := [], alts := [], laidByText := true, laidKinds := [.data, .data, .data, .sentinel, .sentinel], laidTests := true, laidLooks := .later }
def RatioTextsCardSaid : Prop := Claim7.holds Tryd.pinned (.plain (OpenSpec.ofChange ratioTextsSpec)) ratioTextsCard

/-- THE TIED CARD OF 'estoppellaw01.RatioMatchesReference'. -/
def ratioMatchesReferenceCard : Claim7 := { stood := { row := ratioMatchesReferenceRow, standIns := [], harness := (true, "dc83b602da75a86d96c4c09b94f1fb49efcff24c27862d45050881abd31e1612"), looks := true }, kinds := [], alts := [], laidByText := true, laidKinds := [.data, .data, .data, .sentinel, .sentinel], laidTests := true, laidLooks := .later }
def RatioMatchesReferenceCardSaid : Prop := Claim7.holds Tryd.pinned (.plain (OpenSpec.ofChange ratioMatchesReferenceSpec)) ratioMatchesReferenceCard

/-- THE TIED CARD OF 'estoppellaw01.RatioField'. -/
def ratioFieldCard : Claim7 := { stood := { row := ratioFieldRow, standIns := [], harness := (true, "dc83b602da75a86d96c4c09b94f1fb49efcff24c27862d45050881abd31e1612"), looks := true }, kinds := [], alts := [], laidByText := true, laidKinds := [.data, .data, .data, .sentinel, .sentinel], laidTests := true, laidLooks := .later }
def RatioFieldCardSaid : Prop := Claim7.holds Tryd.pinned (.plain (OpenSpec.ofChange ratioFieldSpec)) ratioFieldCard

/-- THE TIED CARD OF 'estoppellaw01.RatioExact'. -/
def ratioExactCard : Claim7 := { stood := { row := ratioExactRow, standIns := [], harness := (true, "dc83b602da75a86d96c4c09b94f1fb49efcff24c27862d45050881abd31e1612"), looks := true }, kinds := [], alts := [], laidByText := true, laidKinds := [.data, .data, .data, .sentinel, .sentinel], laidTests := true, laidLooks := .later }
def RatioExactCardSaid : Prop := Claim7.holds Tryd.pinned (.plain (OpenSpec.ofChange ratioExactSpec)) ratioExactCard

/-- THE SECOND FORM's CARD OF 'estoppellaw01.RatioLowest'. -/
def ratioLowestUptoCard : Claim7 := { stood := { row := ratioLowestUptoRow, standIns := [], harness := (true, "dc83b602da75a86d96c4c09b94f1fb49efcff24c27862d45050881abd31e1612"), looks := true }, kinds := [], alts := [], laidByText := true, laidKinds := [.data, .data, .data, .sentinel, .sentinel], laidTests := true, laidLooks := .later }
def RatioLowestUptoCardSaid : Prop := Claim7.holds Tryd.pinned (.plain (OpenSpec.upto ratioLowestSpec)) ratioLowestUptoCard

/-- THE SECOND FORM's CARD OF 'estoppellaw01.RatioOrder'. -/
def ratioOrderUptoCard : Claim7 := { stood := { row := ratioOrderUptoRow, standIns := [], harness := (true, "dc83b602da75a86d96c4c09b94f1fb49efcff24c27862d45050881abd31e1612"), looks := true }, kinds := [], alts := [], laidByText := true, laidKinds := [.data, .data, .data, .sentinel, .sentinel], laidTests := true, laidLooks := .later }
def RatioOrderUptoCardSaid : Prop := Claim7.holds Tryd.pinned (.plain (OpenSpec.upto ratioOrderSpec)) ratioOrderUptoCard

/-- THE SECOND FORM's CARD OF 'estoppellaw01.RatioFloor'. -/
def ratioFloorUptoCard : Claim7 := { stood := { row := ratioFloorUptoRow, standIns := [], harness := (true, "dc83b602da75a86d96c4c09b94f1fb49efcff24c27862d45050881abd31e1612"), looks := true }, kinds := [], alts := [], laidByText := true, laidKinds := [.data, .data, .data, .sentinel, .sentinel], laidTests := true, laidLooks := .later }
def RatioFloorUptoCardSaid : Prop := Claim7.holds Tryd.pinned (.plain (OpenSpec.upto ratioFloorSpec)) ratioFloorUptoCard

/-- THE SECOND FORM's CARD OF 'estoppellaw01.RatioRounds'. -/
def ratioRoundsUptoCard : Claim7 := { stood := { row := ratioRoundsUptoRow, standIns := [], harness := (true, "dc83b602da75a86d96c4c09b94f1fb49efcff24c27862d45050881abd31e1612"), looks := true }, kinds := [], alts := [], laidByText := true, laidKinds := [.data, .data, .data, .sentinel, .sentinel], laidTests := true, laidLooks := .later }
def RatioRoundsUptoCardSaid : Prop := Claim7.holds Tryd.pinned (.plain (OpenSpec.upto ratioRoundsSpec)) ratioRoundsUptoCard

/-- THE SECOND FORM's CARD OF 'estoppellaw01.RatioTexts'. -/
def ratioTextsUptoCard : Claim7 := { stood := { row := ratioTextsUptoRow, standIns := [], harness := (true, "dc83b602da75a86d96c4c09b94f1fb49efcff24c27862d45050881abd31e1612"), looks := true }, kinds := [], alts := [], laidByText := true, laidKinds := [.data, .data, .data, .sentinel, .sentinel], laidTests := true, laidLooks := .later }
def RatioTextsUptoCardSaid : Prop := Claim7.holds Tryd.pinned (.plain (OpenSpec.upto ratioTextsSpec)) ratioTextsUptoCard

/-- THE SECOND FORM's CARD OF 'estoppellaw01.RatioMatchesReference'. -/
def ratioMatchesReferenceUptoCard : Claim7 := { stood := { row := ratioMatchesReferenceUptoRow, standIns := [], harness := (true, "dc83b602da75a86d96c4c09b94f1fb49efcff24c27862d45050881abd31e1612"), looks := true }, kinds := [], alts := [], laidByText := true, laidKinds := [.data, .data, .data, .sentinel, .sentinel], laidTests := true, laidLooks := .later }
def RatioMatchesReferenceUptoCardSaid : Prop := Claim7.holds Tryd.pinned (.plain (OpenSpec.upto ratioMatchesReferenceSpec)) ratioMatchesReferenceUptoCard

/-- THE SECOND FORM's CARD OF 'estoppellaw01.RatioField'. -/
def ratioFieldUptoCard : Claim7 := { stood := { row := ratioFieldUptoRow, standIns := [], harness := (true, "dc83b602da75a86d96c4c09b94f1fb49efcff24c27862d45050881abd31e1612"), looks := true }, kinds := [], alts := [], laidByText := true, laidKinds := [.data, .data, .data, .sentinel, .sentinel], laidTests := true, laidLooks := .later }
def RatioFieldUptoCardSaid : Prop := Claim7.holds Tryd.pinned (.plain (OpenSpec.upto ratioFieldSpec)) ratioFieldUptoCard

/-- THE SECOND FORM's CARD OF 'estoppellaw01.RatioExact'. -/
def ratioExactUptoCard : Claim7 := { stood := { row := ratioExactUptoRow, standIns := [], harness := (true, "dc83b602da75a86d96c4c09b94f1fb49efcff24c27862d45050881abd31e1612"), looks := true }, kinds := [], alts := [], laidByText := true, laidKinds := [.data, .data, .data, .sentinel, .sentinel], laidTests := true, laidLooks := .later }
def RatioExactUptoCardSaid : Prop := Claim7.holds Tryd.pinned (.plain (OpenSpec.upto ratioExactSpec)) ratioExactUptoCard
end Rows
end Go.Proofs.YtbkekabhdpoddaaDoor
