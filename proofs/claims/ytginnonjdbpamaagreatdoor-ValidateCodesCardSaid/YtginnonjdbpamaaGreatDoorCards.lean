/-
  DERIVED. GIVEN WITH THE SEED: THE CARDS: each row of YtginnonjdbpamaaGreatDoorRows.lean that lists a variable, with what it lists TIED to the program's text (the seventh form; the later family's looks); each row that meets fmt, with fmt's text TOLD by the authors' own Lean function (tested against real Go, not proved from fmt's source: count such statements apart). THE CARD IS WHAT COUNTS. Prove the row's statement (the work); the ties are given (YtginnonjdbpamaaGreatDoorTie.lean); close each card by the builder's one call (the guide's Derived/Test/ToyasCard.lean, 'card_holds'). Laid BY PROGRAM, IN A SANDBOX (cutbox-door.mjs). By AI agents, Wed Nov 11 2026. No macro, syntax, notation, axiom, sorry.
-/
import Derived.Test.YtginnonjdbpamaaGreatDoorRows
import GoSem.ClaimSeven
namespace Go.Proofs.YtginnonjdbpamaaGreatDoor
namespace Rows

/-- THE TIED CARD OF 'estoppellaw16.ValidateMeaning'. -/
def validateMeaningCard : Claim7 := { stood := { row := validateMeaningRow, standIns := [], harness := (true, "f3a201e41a7d9921756c8c3018755c8ff9dc38d59e9052153c58e712be0d50dd"), looks := true }, kinds := [], alts := [], laidByText := true, laidKinds := [.data, .data, .data, .sentinel, .sentinel], laidTests := true, laidLooks := .later }
def ValidateMeaningCardSaid : Prop := Claim7.holds Tryz.pinned (.plain (OpenSpec.ofChange validateMeaningSpec)) validateMeaningCard

/-- THE TIED CARD OF 'estoppellaw16.ValidateErrors'. -/
def validateErrorsCard : Claim7 := { stood := { row := validateErrorsRow, standIns := [], harness := (true, "f3a201e41a7d9921756c8c3018755c8ff9dc38d59e9052153c58e712be0d50dd"), looks := true }, kinds := [], alts := [], laidByText := true, laidKinds := [.data, .data, .data, .sentinel, .sentinel], laidTests := true, laidLooks := .later }
def ValidateErrorsCardSaid : Prop := Claim7.holds Tryz.pinned (.plain (OpenSpec.ofChange validateErrorsSpec)) validateErrorsCard

/-- THE TIED CARD OF 'estoppellaw16.ValidateDifferences'. -/
def validateDifferencesCard : Claim7 := { stood := { row := validateDifferencesRow, standIns := [], harness := (true, "f3a201e41a7d9921756c8c3018755c8ff9dc38d59e9052153c58e712be0d50dd"), looks := true }, kinds := [], alts := [], laidByText := true, laidKinds := [.data, .data, .data, .sentinel, .sentinel], laidTests := true, laidLooks := .later }
def ValidateDifferencesCardSaid : Prop := Claim7.holds Tryz.pinned (.plain (OpenSpec.ofChange validateDifferencesSpec)) validateDifferencesCard

/-- THE TIED CARD OF 'estoppellaw16.ValidateBreach'. -/
def validateBreachCard : Claim7 := { stood := { row := validateBreachRow, standIns := [], harness := (true, "f3a201e41a7d9921756c8c3018755c8ff9dc38d59e9052153c58e712be0d50dd"), looks := true }, kinds := [], alts := [], laidByText := true, laidKinds := [.data, .data, .data, .sentinel, .sentinel], laidTests := true, laidLooks := .later }
def ValidateBreachCardSaid : Prop := Claim7.holds Tryz.pinned (.plain (OpenSpec.ofChange validateBreachSpec)) validateBreachCard

/-- THE TIED CARD OF 'estoppellaw16.ValidateCodes'. -/
def validateCodesCard : Claim7 := { stood := { row := validateCodesRow, standIns := [], harness := (true, "f3a201e41a7d9921756c8c3018755c8ff9dc38d59e9052153c58e712be0d50dd"), looks := true }, kinds := [], alts := [], laidByText := true, laidKinds := [.data, .data, .data, .sentinel, .sentinel], laidTests := true, laidLooks := .later }
def ValidateCodesCardSaid : Prop := Claim7.holds Tryz.pinned (.plain (OpenSpec.ofChange validateCodesSpec)) validateCodesCard

/-- THE TIED CARD OF 'estoppellaw16.ValidateSteps'. -/
def validateStepsCard : Claim7 := { stood := { row := validateStepsRow, standIns := [], harness := (true, "f3a201e41a7d9921756c8c3018755c8ff9dc38d59e9052153c58e712be0d50dd"), looks := true }, kinds := [], alts := [], laidByText := true, laidKinds := [.data, .data, .data, .sentinel, .sentinel], laidTests := true, laidLooks := .later }
def ValidateStepsCardSaid : Prop := Claim7.holds Tryz.pinned (.plain (OpenSpec.ofChange validateStepsSpec)) validateStepsCard

/-- THE TIED CARD OF 'estoppellaw16.ValidateTexts'. -/
def validateTextsCard : Claim7 := { stood := { row := validateTextsRow, standIns := [], harness := (true, "f3a201e41a7d9921756c8c3018755c8ff9dc38d59e9052153c58e712be0d50dd"), looks := true }, kinds := [], alts := [], laidByText := true, laidKinds := [.data, .data, .data, .sentinel, .sentinel], laidTests := true, laidLooks := .later }
def ValidateTextsCardSaid : Prop := Claim7.holds Tryz.pinned (.plain (OpenSpec.ofChange validateTextsSpec)) validateTextsCard

/-- THE TIED CARD OF 'estoppellaw16.ValidateParts'. -/
def validatePartsCard : Claim7 := { stood := { row := validatePartsRow, standIns := [], harness := (true, "f3a201e41a7d9921756c8c3018755c8ff9dc38d59e9052153c58e712be0d50dd"), looks := true }, kinds := [], alts := [], laidByText := true, laidKinds := [.data, .data, .data, .sentinel, .sentinel], laidTests := true, laidLooks := .later }
def ValidatePartsCardSaid : Prop := Claim7.holds Tryz.pinned (.plain (OpenSpec.ofChange validatePartsSpec)) validatePartsCard

/-- THE SECOND FORM's CARD OF 'estoppellaw16.ValidateMeaning'. -/
def validateMeaningUptoCard : Claim7 := { stood := { row := validateMeaningUptoRow, standIns := [], harness := (true, "f3a201e41a7d9921756c8c3018755c8ff9dc38d59e9052153c58e712be0d50dd"), looks := true }, kinds := [], alts := [], laidByText := true, laidKinds := [.data, .data, .data, .sentinel, .sentinel], laidTests := true, laidLooks := .later }
def ValidateMeaningUptoCardSaid : Prop := Claim7.holds Tryz.pinned (.plain (OpenSpec.upto validateMeaningSpec)) validateMeaningUptoCard

/-- THE SECOND FORM's CARD OF 'estoppellaw16.ValidateErrors'. -/
def validateErrorsUptoCard : Claim7 := { stood := { row := validateErrorsUptoRow, standIns := [], harness := (true, "f3a201e41a7d9921756c8c3018755c8ff9dc38d59e9052153c58e712be0d50dd"), looks := true }, kinds := [], alts := [], laidByText := true, laidKinds := [.data, .data, .data, .sentinel, .sentinel], laidTests := true, laidLooks := .later }
def ValidateErrorsUptoCardSaid : Prop := Claim7.holds Tryz.pinned (.plain (OpenSpec.upto validateErrorsSpec)) validateErrorsUptoCard

/-- THE SECOND FORM's CARD OF 'estoppellaw16.ValidateDifferences'. -/
def validateDifferencesUptoCard : Claim7 := { stood := { row := validateDifferencesUptoRow, standIns := [], harness := (true, "f3a201e41a7d9921756c8c3018755c8ff9dc38d59e9052153c58e712be0d50dd"), looks := true }, kinds := [], alts := [], laidByText := true, laidKinds := [.data, .data, .data, .sentinel, .sentinel], laidTests := true, laidLooks := .later }
def ValidateDifferencesUptoCardSaid : Prop := Claim7.holds Tryz.pinned (.plain (OpenSpec.upto validateDifferencesSpec)) validateDifferencesUptoCard

/-- THE SECOND FORM's CARD OF 'estoppellaw16.ValidateBreach'. -/
def validateBreachUptoCard : Claim7 := { stood := { row := validateBreachUptoRow, standIns := [], harness := (true, "f3a201e41a7d9921756c8c3018755c8ff9dc38d59e9052153c58e712be0d50dd"), looks := true }, kinds := [], alts := [], laidByText := true, laidKinds := [.data, .data, .data, .sentinel, .sentinel], laidTests := true, laidLooks := .later }
def ValidateBreachUptoCardSaid : Prop := Claim7.holds Tryz.pinned (.plain (OpenSpec.upto validateBreachSpec)) validateBreachUptoCard

/-- THE SECOND FORM's CARD OF 'estoppellaw16.ValidateCodes'. -/
def validateCodesUptoCard : Claim7 := { stood := { row := validateCodesUptoRow, standIns := [], harness := (true, "f3a201e41a7d9921756c8c3018755c8ff9dc38d59e9052153c58e712be0d50dd"), looks := true }, kinds := [], alts := [], laidByText := true, laidKinds := [.data, .data, .data, .sentinel, .sentinel], laidTests := true, laidLooks := .later }
def ValidateCodesUptoCardSaid : Prop := Claim7.holds Tryz.pinned (.plain (OpenSpec.upto validateCodesSpec)) validateCodesUptoCard

/-- THE SECOND FORM's CARD OF 'estoppellaw16.ValidateSteps'. -/
def validateStepsUptoCard : Claim7 := { stood := { row := validateStepsUptoRow, standIns := [], harness := (true, "f3a201e41a7d9921756c8c3018755c8ff9dc38d59e9052153c58e712be0d50dd"), looks := true }, kinds := [], alts := [], laidByText := true, laidKinds := [.data, .data, .data, .sentinel, .sentinel], laidTests := true, laidLooks := .later }
def ValidateStepsUptoCardSaid : Prop := Claim7.holds Tryz.pinned (.plain (OpenSpec.upto validateStepsSpec)) validateStepsUptoCard

/-- THE SECOND FORM's CARD OF 'estoppellaw16.ValidateTexts'. -/
def validateTextsUptoCard : Claim7 := { stood := { row := validateTextsUptoRow, standIns := [], harness := (true, "f3a201e41a7d9921756c8c3018755c8ff9dc38d59e9052153c58e712be0d50dd"), looks := true }, kinds := [], alts := [], laidByText := true, laidKinds := [.data, .data, .data, .sentinel, .sentinel], laidTests := true, laidLooks := .later }
def ValidateTextsUptoCardSaid : Prop := Claim7.holds Tryz.pinned (.plain (OpenSpec.upto validateTextsSpec)) validateTextsUptoCard

/-- THE SECOND FORM's CARD OF 'estoppellaw16.ValidateParts'. -/
def validatePartsUptoCard : Claim7 := { stood := { row := validatePartsUptoRow, standIns := [], harness := (true, "f3a201e41a7d9921756c8c3018755c8ff9dc38d59e9052153c58e712be0d50dd"), looks := true }, kinds := [], alts := [], laidByText := true, laidKinds := [.data, .data, .data, .sentinel, .sentinel], laidTests := true, laidLooks := .later }
def ValidatePartsUptoCardSaid : Prop := Claim7.holds Tryz.pinned (.plain (OpenSpec.upto validatePartsSpec)) validatePartsUptoCard
end Rows
end Go.Proofs.YtginnonjdbpamaaGreatDoor
