/-
  NARROWER THAN 'FOR EVERY INPUT', by the rows' own cells (each row's printed sentence says how): DateInverse: laid · DateYears: laid · DateMonths: laid · DateNext: laid · DateAdd: laid · DateCount: laid.
  DERIVED. THE GIVEN ROWS OF THIS SEAT. 6 by the template 'for every input the law returns true; each argument reads behind the call as it read before'; 0 by the template 'total and deterministic' (their statements: YtikjjhodbijfnaaDoorTotals.lean).
  GIVEN WITH THE SEED: the statements are not yours to turn. If you find one false, say at which input.
  Laid BY PROGRAM, IN A SANDBOX (cutbox-rows.mjs): the forced cells as the released guide's own fill.sh prints them over the translation be20672b7f62b3f4… (all of the seat's roots in one cut). By AI agents, Wed Nov 11 2026. No macro, syntax, notation, axiom, sorry.
-/
import Derived.Test.YtikjjhodbijfnaaDoorChecked
import GoSem.Claim
import GoSem.ClaimJoined
import GoSem.ClaimMapViews
import Derived.JoinedTies
import Derived.KernelRfl
namespace Go.Proofs.YtikjjhodbijfnaaDoor
/- THE CELL 'sum', in the pinned program and in every row, IS THE sha256 OF THE DUMP (.gsa) THAT YtikjjhodbijfnaaDoorProg.lean LOADS. Nothing in Lean hashes anything: it is a label: what it is worth is what the hold of that sum in a sandbox is worth. -/
noncomputable def Tryd.pinned : Pinned := { name := "ytikjjhodbijfnaadoor", sum := "be20672b7f62b3f4e870caf802dbf9e9c4763ebb134526f79929884b93b76021", checked := Tryd.checked }
namespace Rows
def none {H : Type} : Left H := { results := [], args := [] }

/- WHAT THE LISTED PACKAGE-LEVEL VARIABLES READ AS WHEN THE CALL BEGINS. Each datum BY PROGRAM (the guide's laid-datum.mjs) off the statement by which the dump's own 'gosem.cut.vars' lays the variable. In a bare row this is a premise. The card (YtikjjhodbijfnaaDoorCards.lean) ties it to the program's text. -/
def laid_estoppel_date_before {H : Type} : DataW H := .agg [.lit (.int .i64 0), .lit (.int .i64 31), .lit (.int .i64 59), .lit (.int .i64 90), .lit (.int .i64 120), .lit (.int .i64 151), .lit (.int .i64 181), .lit (.int .i64 212), .lit (.int .i64 243), .lit (.int .i64 273), .lit (.int .i64 304), .lit (.int .i64 334), .lit (.int .i64 365)]

/-- 'estoppellaw02.DateInverse': WHATEVER THE INPUT: true; the input reads as it did. -/
def dateInverseSpec : ChangeSpec := { name := "dateInverse", fn := fun _ => fun
  | [d1, d2] => { results := [.lit (.bool true)], args := [d1, d2] }
  | _ => none }
def dateInverseRow : OpenClaim := { program := "ytikjjhodbijfnaadoor", sum := "be20672b7f62b3f4e870caf802dbf9e9c4763ebb134526f79929884b93b76021", func := "estoppel/estoppellaw02.DateInverse", spec := "dateInverse", unfollowed := true, recurses := true, named := ["estoppel/date.before"], apart := false, laid := [("estoppel/date.before", laid_estoppel_date_before)] }
def DateInverseSaid : Prop := dateInverseRow.holds Tryd.pinned (OpenSpec.ofChange dateInverseSpec)

/-- ITS FALSE NEIGHBOUR: 'it returns false'. Refute it at one input. -/
def dateInverseWrong : ChangeSpec := { name := "dateInverse", fn := fun _ => fun
  | [d1, d2] => { results := [.lit (.bool false)], args := [d1, d2] }
  | _ => none }
def DateInverseWrongFalsely : Prop := dateInverseRow.holds Tryd.pinned (OpenSpec.ofChange dateInverseWrong)

/-- 'estoppellaw02.DateYears': WHATEVER THE INPUT: true; the input reads as it did. -/
def dateYearsSpec : ChangeSpec := { name := "dateYears", fn := fun _ => fun
  | [d] => { results := [.lit (.bool true)], args := [d] }
  | _ => none }
def dateYearsRow : OpenClaim := { program := "ytikjjhodbijfnaadoor", sum := "be20672b7f62b3f4e870caf802dbf9e9c4763ebb134526f79929884b93b76021", func := "estoppel/estoppellaw02.DateYears", spec := "dateYears", unfollowed := true, recurses := true, named := ["estoppel/date.before"], apart := false, laid := [("estoppel/date.before", laid_estoppel_date_before)] }
def DateYearsSaid : Prop := dateYearsRow.holds Tryd.pinned (OpenSpec.ofChange dateYearsSpec)

/-- ITS FALSE NEIGHBOUR: 'it returns false'. Refute it at one input. -/
def dateYearsWrong : ChangeSpec := { name := "dateYears", fn := fun _ => fun
  | [d] => { results := [.lit (.bool false)], args := [d] }
  | _ => none }
def DateYearsWrongFalsely : Prop := dateYearsRow.holds Tryd.pinned (OpenSpec.ofChange dateYearsWrong)

/-- 'estoppellaw02.DateMonths': WHATEVER THE INPUT: true; the input reads as it did. -/
def dateMonthsSpec : ChangeSpec := { name := "dateMonths", fn := fun _ => fun
  | [d1, d2, d3] => { results := [.lit (.bool true)], args := [d1, d2, d3] }
  | _ => none }
def dateMonthsRow : OpenClaim := { program := "ytikjjhodbijfnaadoor", sum := "be20672b7f62b3f4e870caf802dbf9e9c4763ebb134526f79929884b93b76021", func := "estoppel/estoppellaw02.DateMonths", spec := "dateMonths", unfollowed := true, recurses := true, named := ["estoppel/date.before"], apart := false, laid := [("estoppel/date.before", laid_estoppel_date_before)] }
def DateMonthsSaid : Prop := dateMonthsRow.holds Tryd.pinned (OpenSpec.ofChange dateMonthsSpec)

/-- ITS FALSE NEIGHBOUR: 'it returns false'. Refute it at one input. -/
def dateMonthsWrong : ChangeSpec := { name := "dateMonths", fn := fun _ => fun
  | [d1, d2, d3] => { results := [.lit (.bool false)], args := [d1, d2, d3] }
  | _ => none }
def DateMonthsWrongFalsely : Prop := dateMonthsRow.holds Tryd.pinned (OpenSpec.ofChange dateMonthsWrong)

/-- 'estoppellaw02.DateNext': WHATEVER THE INPUT: true; the input reads as it did. -/
def dateNextSpec : ChangeSpec := { name := "dateNext", fn := fun _ => fun
  | [d1, d2, d3] => { results := [.lit (.bool true)], args := [d1, d2, d3] }
  | _ => none }
def dateNextRow : OpenClaim := { program := "ytikjjhodbijfnaadoor", sum := "be20672b7f62b3f4e870caf802dbf9e9c4763ebb134526f79929884b93b76021", func := "estoppel/estoppellaw02.DateNext", spec := "dateNext", unfollowed := true, recurses := true, named := ["estoppel/date.before"], apart := false, laid := [("estoppel/date.before", laid_estoppel_date_before)] }
def DateNextSaid : Prop := dateNextRow.holds Tryd.pinned (OpenSpec.ofChange dateNextSpec)

/-- ITS FALSE NEIGHBOUR: 'it returns false'. Refute it at one input. -/
def dateNextWrong : ChangeSpec := { name := "dateNext", fn := fun _ => fun
  | [d1, d2, d3] => { results := [.lit (.bool false)], args := [d1, d2, d3] }
  | _ => none }
def DateNextWrongFalsely : Prop := dateNextRow.holds Tryd.pinned (OpenSpec.ofChange dateNextWrong)

/-- 'estoppellaw02.DateAdd': WHATEVER THE INPUT: true; the input reads as it did. -/
def dateAddSpec : ChangeSpec := { name := "dateAdd", fn := fun _ => fun
  | [d1, d2, d3, d4] => { results := [.lit (.bool true)], args := [d1, d2, d3, d4] }
  | _ => none }
def dateAddRow : OpenClaim := { program := "ytikjjhodbijfnaadoor", sum := "be20672b7f62b3f4e870caf802dbf9e9c4763ebb134526f79929884b93b76021", func := "estoppel/estoppellaw02.DateAdd", spec := "dateAdd", unfollowed := true, recurses := true, named := ["estoppel/date.before"], apart := false, laid := [("estoppel/date.before", laid_estoppel_date_before)] }
def DateAddSaid : Prop := dateAddRow.holds Tryd.pinned (OpenSpec.ofChange dateAddSpec)

/-- ITS FALSE NEIGHBOUR: 'it returns false'. Refute it at one input. -/
def dateAddWrong : ChangeSpec := { name := "dateAdd", fn := fun _ => fun
  | [d1, d2, d3, d4] => { results := [.lit (.bool false)], args := [d1, d2, d3, d4] }
  | _ => none }
def DateAddWrongFalsely : Prop := dateAddRow.holds Tryd.pinned (OpenSpec.ofChange dateAddWrong)

/-- 'estoppellaw02.DateCount': WHATEVER THE INPUT: true; the input reads as it did. -/
def dateCountSpec : ChangeSpec := { name := "dateCount", fn := fun _ => fun
  | [d1, d2, d3, d4] => { results := [.lit (.bool true)], args := [d1, d2, d3, d4] }
  | _ => none }
def dateCountRow : OpenClaim := { program := "ytikjjhodbijfnaadoor", sum := "be20672b7f62b3f4e870caf802dbf9e9c4763ebb134526f79929884b93b76021", func := "estoppel/estoppellaw02.DateCount", spec := "dateCount", unfollowed := true, recurses := true, named := ["estoppel/date.before"], apart := false, laid := [("estoppel/date.before", laid_estoppel_date_before)] }
def DateCountSaid : Prop := dateCountRow.holds Tryd.pinned (OpenSpec.ofChange dateCountSpec)

/-- ITS FALSE NEIGHBOUR: 'it returns false'. Refute it at one input. -/
def dateCountWrong : ChangeSpec := { name := "dateCount", fn := fun _ => fun
  | [d1, d2, d3, d4] => { results := [.lit (.bool false)], args := [d1, d2, d3, d4] }
  | _ => none }
def DateCountWrongFalsely : Prop := dateCountRow.holds Tryd.pinned (OpenSpec.ofChange dateCountWrong)

/- THE SECOND FORM. 'bulk': how many values and letters a reading holds, each counted each time it is reached (what is shared counts as often as it is met; a slice's spare places count too). A statement '..UptoSaid' is the law's where the arguments, and the package variables that the reading takes, are together of bulk at most 1048576: NARROWER than '..Said'. Prove '..Said' where nothing that the law and all that it calls make is longer than what came in: it says more and counts as full. Else prove '..UptoSaid'. A law counts once. -/
mutual
def uptoBulk {H : Type} : DataW H → Nat
  | .lit (.string bytes) => bytes.length + 1
  | .lit _ => 1
  | .nil => 1
  | .ptr d => uptoBulk d + 1
  | .slice elems spare => uptoBulkAll elems + uptoBulkAll spare + 1
  | .agg parts => uptoBulkAll parts + 1
  | .iface _ d => uptoBulk d + 1
  | .map entries => uptoBulkEntries entries + 1
  | .held _ => 1
def uptoBulkAll {H : Type} : List (DataW H) → Nat
  | [] => 0
  | d :: r => uptoBulk d + uptoBulkAll r
def uptoBulkEntries {H : Type} : List (Lit × DataW H) → Nat
  | [] => 0
  | x :: r => uptoBulkEntry x + uptoBulkEntries r
def uptoBulkEntry {H : Type} : Lit × DataW H → Nat
  | (.string bytes, d) => bytes.length + uptoBulk d + 1
  | (_, d) => uptoBulk d + 1
 end
def uptoSmall : (H : Type) → List (DataW H) → Bool := fun _ ds => decide (uptoBulkAll ds ≤ 1048576)
def OpenSpec.upto (s : _root_.Go.ChangeSpec) : _root_.Go.OpenSpec := { _root_.Go.OpenSpec.ofChange s with cond := some uptoSmall }

/-- 'estoppellaw02.DateInverse', WHERE WHAT IT READS IS OF BULK AT MOST 1048576: true; the input reads as it did. -/
def dateInverseUptoRow : OpenClaim := { program := "ytikjjhodbijfnaadoor", sum := "be20672b7f62b3f4e870caf802dbf9e9c4763ebb134526f79929884b93b76021", func := "estoppel/estoppellaw02.DateInverse", spec := "dateInverse", unfollowed := true, recurses := true, named := ["estoppel/date.before"], apart := false, laid := [("estoppel/date.before", laid_estoppel_date_before)], narrowed := true }
def DateInverseUptoSaid : Prop := dateInverseUptoRow.holds Tryd.pinned (OpenSpec.upto dateInverseSpec)

/-- 'estoppellaw02.DateYears', WHERE WHAT IT READS IS OF BULK AT MOST 1048576: true; the input reads as it did. -/
def dateYearsUptoRow : OpenClaim := { program := "ytikjjhodbijfnaadoor", sum := "be20672b7f62b3f4e870caf802dbf9e9c4763ebb134526f79929884b93b76021", func := "estoppel/estoppellaw02.DateYears", spec := "dateYears", unfollowed := true, recurses := true, named := ["estoppel/date.before"], apart := false, laid := [("estoppel/date.before", laid_estoppel_date_before)], narrowed := true }
def DateYearsUptoSaid : Prop := dateYearsUptoRow.holds Tryd.pinned (OpenSpec.upto dateYearsSpec)

/-- 'estoppellaw02.DateMonths', WHERE WHAT IT READS IS OF BULK AT MOST 1048576: true; the input reads as it did. -/
def dateMonthsUptoRow : OpenClaim := { program := "ytikjjhodbijfnaadoor", sum := "be20672b7f62b3f4e870caf802dbf9e9c4763ebb134526f79929884b93b76021", func := "estoppel/estoppellaw02.DateMonths", spec := "dateMonths", unfollowed := true, recurses := true, named := ["estoppel/date.before"], apart := false, laid := [("estoppel/date.before", laid_estoppel_date_before)], narrowed := true }
def DateMonthsUptoSaid : Prop := dateMonthsUptoRow.holds Tryd.pinned (OpenSpec.upto dateMonthsSpec)

/-- 'estoppellaw02.DateNext', WHERE WHAT IT READS IS OF BULK AT MOST 1048576: true; the input reads as it did. -/
def dateNextUptoRow : OpenClaim := { program := "ytikjjhodbijfnaadoor", sum := "be20672b7f62b3f4e870caf802dbf9e9c4763ebb134526f79929884b93b76021", func := "estoppel/estoppellaw02.DateNext", spec := "dateNext", unfollowed := true, recurses := true, named := ["estoppel/date.before"], apart := false, laid := [("estoppel/date.before", laid_estoppel_date_before)], narrowed := true }
def DateNextUptoSaid : Prop := dateNextUptoRow.holds Tryd.pinned (OpenSpec.upto dateNextSpec)

/-- 'estoppellaw02.DateAdd', WHERE WHAT IT READS IS OF BULK AT MOST 1048576: true; the input reads as it did. -/
def dateAddUptoRow : OpenClaim := { program := "ytikjjhodbijfnaadoor", sum := "be20672b7f62b3f4e870caf802dbf9e9c4763ebb134526f79929884b93b76021", func := "estoppel/estoppellaw02.DateAdd", spec := "dateAdd", unfollowed := true, recurses := true, named := ["estoppel/date.before"], apart := false, laid := [("estoppel/date.before", laid_estoppel_date_before)], narrowed := true }
def DateAddUptoSaid : Prop := dateAddUptoRow.holds Tryd.pinned (OpenSpec.upto dateAddSpec)

/-- 'estoppellaw02.DateCount', WHERE WHAT IT READS IS OF BULK AT MOST 1048576: true; the input reads as it did. -/
def dateCountUptoRow : OpenClaim := { program := "ytikjjhodbijfnaadoor", sum := "be20672b7f62b3f4e870caf802dbf9e9c4763ebb134526f79929884b93b76021", func := "estoppel/estoppellaw02.DateCount", spec := "dateCount", unfollowed := true, recurses := true, named := ["estoppel/date.before"], apart := false, laid := [("estoppel/date.before", laid_estoppel_date_before)], narrowed := true }
def DateCountUptoSaid : Prop := dateCountUptoRow.holds Tryd.pinned (OpenSpec.upto dateCountSpec)

end Rows
end Go.Proofs.YtikjjhodbijfnaaDoor
