/-
  DERIVED. GIVEN WITH THE SEED: THE CARDS: each row of YtffceokjeonpcaaGreatDoorRows.lean that lists a variable, with what it lists TIED to the program's text (the seventh form; the later family's looks); each row that meets fmt, with fmt's text TOLD by the authors' own Lean function (tested against real Go, not proved from fmt's source: count such statements apart). THE CARD IS WHAT COUNTS. Prove the row's statement (the work); the ties are given (YtffceokjeonpcaaGreatDoorTie.lean); close each card by the builder's one call (the guide's Derived/Test/ToyasCard.lean, 'card_holds'). Laid BY PROGRAM, IN A SANDBOX (cutbox-door.mjs). By AI agents, Wed Nov 11 2026. No macro, syntax, notation, axiom, sorry.
-/
import Derived.Test.YtffceokjeonpcaaGreatDoorRows
import GoSem.ClaimSeven
namespace Go.Proofs.YtffceokjeonpcaaGreatDoor
namespace Rows

/-- THE TIED CARD OF 'estoppeltop.TopJointKnows'. -/
def topJointKnowsCard : Claim7 := { stood := { row := topJointKnowsRow, standIns := [], harness := (true, "c1ce2dfa7f1383ad4fb94b2d2897386209b997c2cb7699076c9f4cd1a53d57b2"), looks := false }, kinds := [], alts := [], laidByText := true, laidKinds := [.data, .data, .data], laidTests := true, laidLooks := .later }
def TopJointKnowsCardSaid : Prop := Claim7.holds Tryz.pinned (.plain (OpenSpec.ofChange topJointKnowsSpec)) topJointKnowsCard

/-- THE TIED CARD OF 'estoppeltop.TopBeliefTrue'. -/
def topBeliefTrueCard : Claim7 := { stood := { row := topBeliefTrueRow, standIns := [], harness := (true, "c1ce2dfa7f1383ad4fb94b2d2897386209b997c2cb7699076c9f4cd1a53d57b2"), looks := false }, kinds := [], alts := [], laidByText := true, laidKinds := [.data, .data, .data], laidTests := true, laidLooks := .later }
def TopBeliefTrueCardSaid : Prop := Claim7.holds Tryz.pinned (.plain (OpenSpec.ofChange topBeliefTrueSpec)) topBeliefTrueCard

/-- THE SECOND FORM's CARD OF 'estoppeltop.TopJointKnows'. -/
def topJointKnowsUptoCard : Claim7 := { stood := { row := topJointKnowsUptoRow, standIns := [], harness := (true, "c1ce2dfa7f1383ad4fb94b2d2897386209b997c2cb7699076c9f4cd1a53d57b2"), looks := false }, kinds := [], alts := [], laidByText := true, laidKinds := [.data, .data, .data], laidTests := true, laidLooks := .later }
def TopJointKnowsUptoCardSaid : Prop := Claim7.holds Tryz.pinned (.plain (OpenSpec.upto topJointKnowsSpec)) topJointKnowsUptoCard

/-- THE SECOND FORM's CARD OF 'estoppeltop.TopBeliefTrue'. -/
def topBeliefTrueUptoCard : Claim7 := { stood := { row := topBeliefTrueUptoRow, standIns := [], harness := (true, "c1ce2dfa7f1383ad4fb94b2d2897386209b997c2cb7699076c9f4cd1a53d57b2"), looks := false }, kinds := [], alts := [], laidByText := true, laidKinds := [.data, .data, .data], laidTests := true, laidLooks := .later }
def TopBeliefTrueUptoCardSaid : Prop := Claim7.holds Tryz.pinned (.plain (OpenSpec.upto topBeliefTrueSpec)) topBeliefTrueUptoCard
end Rows
end Go.Proofs.YtffceokjeonpcaaGreatDoor
