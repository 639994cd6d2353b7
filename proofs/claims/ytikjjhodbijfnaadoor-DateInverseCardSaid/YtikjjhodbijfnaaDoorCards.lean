/-
  DERIVED. GIVEN WITH THE SEED: THE CARDS: each row of YtikjjhodbijfnaaDoorRows.lean that lists a variable, with what it lists TIED to the program's text (the seventh form; the later family's looks); each row that meets fmt, with fmt's text TOLD by the authors' own Lean function (tested against real Go, not proved from fmt's source: count such statements apart). THE CARD IS WHAT COUNTS. Prove the row's statement (the work); the ties are given (YtikjjhodbijfnaaDoorTie.lean); close each card by the builder's one call (the guide's Derived/Test/ToyasCard.lean, 'card_holds'). Laid BY PROGRAM, IN A SANDBOX (cutbox-door.mjs). By AI agents, Wed Nov 11 2026. No macro, syntax, notation, axiom, sorry.
-/
import Derived.Test.YtikjjhodbijfnaaDoorRows
import GoSem.ClaimSeven
namespace Go.Proofs.YtikjjhodbijfnaaDoor
namespace Rows

/-- THE TIED CARD OF 'estoppellaw02.DateInverse'. -/
def dateInverseCard : Claim7 := { stood := { row := dateInverseRow, standIns := [], harness := (true, "9cb6538e17acca4d90203c3f3f38a9c5a2fbd0bc6f6aa6df4fea14e9a6eca01d"), looks := false }, kinds := [], alts := [], laidByText := true, laidKinds := [.data], laidTests := true, laidLooks := .later }
def DateInverseCardSaid : Prop := Claim7.holds Tryd.pinned (.plain (OpenSpec.ofChange dateInverseSpec)) dateInverseCard

/-- THE TIED CARD OF 'estoppellaw02.DateYears'. -/
def dateYearsCard : Claim7 := { stood := { row := dateYearsRow, standIns := [], harness := (true, "9cb6538e17acca4d90203c3f3f38a9c5a2fbd0bc6f6aa6df4fea14e9a6eca01d"), looks := false }, kinds := [], alts := [], laidByText := true, laidKinds := [.data], laidTests := true, laidLooks := .later }
def DateYearsCardSaid : Prop := Claim7.holds Tryd.pinned (.plain (OpenSpec.ofChange dateYearsSpec)) dateYearsCard

/-- THE TIED CARD OF 'estoppellaw02.DateMonths'. -/
def dateMonthsCard : Claim7 := { stood := { row := dateMonthsRow, standIns := [], harness := (true, "9cb6538e17acca4d90203c3f3f38a9c5a2fbd0bc6f6aa6df4fea14e9a6eca01d"), looks := false }, kinds := [], alts := [], laidByText := true, laidKinds := [.data], laidTests := true, laidLooks := .later }
def DateMonthsCardSaid : Prop := Claim7.holds Tryd.pinned (.plain (OpenSpec.ofChange dateMonthsSpec)) dateMonthsCard

/-- THE TIED CARD OF 'estoppellaw02.DateNext'. -/
def dateNextCard : Claim7 := { stood := { row := dateNextRow, standIns := [], harness := (true, "9cb6538e17acca4d90203c3f3f38a9c5a2fbd0bc6f6aa6df4fea14e9a6eca01d"), looks := false }, kinds := [], alts := [], laidByText := true, laidKinds := [.data], laidTests := true, laidLooks := .later }
def DateNextCardSaid : Prop := Claim7.holds Tryd.pinned (.plain (OpenSpec.ofChange dateNextSpec)) dateNextCard

/-- THE TIED CARD OF 'estoppellaw02.DateAdd'. -/
def dateAddCard : Claim7 := { stood := { row := dateAddRow, standIns := [], harness := (true, "9cb6538e17acca4d90203c3f3f38a9c5a2fbd0bc6f6aa6df4fea14e9a6eca01d"), looks := false }, kinds := [], alts := [], laidByText := true, laidKinds := [.data], laidTests := true, laidLooks := .later }
def DateAddCardSaid : Prop := Claim7.holds Tryd.pinned (.plain (OpenSpec.ofChange dateAddSpec)) dateAddCard

/-- THE TIED CARD OF 'estoppellaw02.DateCount'. -/
def dateCountCard : Claim7 := { stood := { row := dateCountRow, standIns := [], harness := (true, "9cb6538e17acca4d90203c3f3f38a9c5a2fbd0bc6f6aa6df4fea14e9a6eca01d"), looks := false }, kinds := [], alts := [], laidByText := true, laidKinds := [.data], laidTests := true, laidLooks := .later }
def DateCountCardSaid : Prop := Claim7.holds Tryd.pinned (.plain (OpenSpec.ofChange dateCountSpec)) dateCountCard

/-- THE SECOND FORM's CARD OF 'estoppellaw02.DateInverse'. -/
def dateInverseUptoCard : Claim7 := { stood := { row := dateInverseUptoRow, standIns := [], harness := (true, "9cb6538e17acca4d90203c3f3f38a9c5a2fbd0bc6f6aa6df4fea14e9a6eca01d"), looks := false }, kinds := [], alts := [], laidByText := true, laidKinds := [.data], laidTests := true, laidLooks := .later }
def DateInverseUptoCardSaid : Prop := Claim7.holds Tryd.pinned (.plain (OpenSpec.upto dateInverseSpec)) dateInverseUptoCard

/-- THE SECOND FORM's CARD OF 'estoppellaw02.DateYears'. -/
def dateYearsUptoCard : Claim7 := { stood := { row := dateYearsUptoRow, standIns := [], harness := (true, "9cb6538e17acca4d90203c3f3f38a9c5a2fbd0bc6f6aa6df4fea14e9a6eca01d"), looks := false }, kinds := [], alts := [], laidByText := true, laidKinds := [.data], laidTests := true, laidLooks := .later }
def DateYearsUptoCardSaid : Prop := Claim7.holds Tryd.pinned (.plain (OpenSpec.upto dateYearsSpec)) dateYearsUptoCard

/-- THE SECOND FORM's CARD OF 'estoppellaw02.DateMonths'. -/
def dateMonthsUptoCard : Claim7 := { stood := { row := dateMonthsUptoRow, standIns := [], harness := (true, "9cb6538e17acca4d90203c3f3f38a9c5a2fbd0bc6f6aa6df4fea14e9a6eca01d"), looks := false }, kinds := [], alts := [], laidByText := true, laidKinds := [.data], laidTests := true, laidLooks := .later }
def DateMonthsUptoCardSaid : Prop := Claim7.holds Tryd.pinned (.plain (OpenSpec.upto dateMonthsSpec)) dateMonthsUptoCard

/-- THE SECOND FORM's CARD OF 'estoppellaw02.DateNext'. -/
def dateNextUptoCard : Claim7 := { stood := { row := dateNextUptoRow, standIns := [], harness := (true, "9cb6538e17acca4d90203c3f3f38a9c5a2fbd0bc6f6aa6df4fea14e9a6eca01d"), looks := false }, kinds := [], alts := [], laidByText := true, laidKinds := [.data], laidTests := true, laidLooks := .later }
def DateNextUptoCardSaid : Prop := Claim7.holds Tryd.pinned (.plain (OpenSpec.upto dateNextSpec)) dateNextUptoCard

/-- THE SECOND FORM's CARD OF 'estoppellaw02.DateAdd'. -/
def dateAddUptoCard : Claim7 := { stood := { row := dateAddUptoRow, standIns := [], harness := (true, "9cb6538e17acca4d90203c3f3f38a9c5a2fbd0bc6f6aa6df4fea14e9a6eca01d"), looks := false }, kinds := [], alts := [], laidByText := true, laidKinds := [.data], laidTests := true, laidLooks := .later }
def DateAddUptoCardSaid : Prop := Claim7.holds Tryd.pinned (.plain (OpenSpec.upto dateAddSpec)) dateAddUptoCard

/-- THE SECOND FORM's CARD OF 'estoppellaw02.DateCount'. -/
def dateCountUptoCard : Claim7 := { stood := { row := dateCountUptoRow, standIns := [], harness := (true, "9cb6538e17acca4d90203c3f3f38a9c5a2fbd0bc6f6aa6df4fea14e9a6eca01d"), looks := false }, kinds := [], alts := [], laidByText := true, laidKinds := [.data], laidTests := true, laidLooks := .later }
def DateCountUptoCardSaid : Prop := Claim7.holds Tryd.pinned (.plain (OpenSpec.upto dateCountSpec)) dateCountUptoCard
end Rows
end Go.Proofs.YtikjjhodbijfnaaDoor
