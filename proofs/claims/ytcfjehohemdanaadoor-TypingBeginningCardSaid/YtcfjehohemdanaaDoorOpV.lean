/- A date, a text, a bool, a byte as arguments, opened. -/
import Derived.Test.YtcfjehohemdanaaDoorOpU
import Derived.ChangeMaps5
namespace Go.Proofs.YtcfjehohemdanaaDoor
open Go.ChangeShapes Go.WideShapes Go.ChangeAt Go.RowKit Go.Deep

section
variable {H : Type} {enc : TypeId × Value → H} {w : World} {spare : Nat → Bool} {held : Bool} {b0 : Nat} {v : Value} {d : DataW H} {ps : List MemPlace}
set_option maxRecDepth 100000 in
theorem open_ci (hval : Value.okWide Tryd.prog w .any b0 23 v) (hd : DataW.Trod enc Tryd.prog w 0 spare held 23 v d ps) : ∃ y mo dd : Int, v = .agg #[.int .i64 y, .int .i64 mo, .int .i64 dd] := by
  obtain ⟨cs, rfl, hcs⟩ := okWide_struct Tryd.underlying23 hval
  obtain ⟨fuel, hf⟩ := hd
  simp only [Value.cells] at hf
  obtain ⟨y, mo, dd, e, _⟩ := trod_ci hf
  obtain ⟨l⟩ := cs
  simp only at e
  subst e
  exact ⟨y, mo, dd, rfl⟩
end
theorem wf_u8 {n : Int} (h : (Lit.int .u8 n).wf = true) : 0 ≤ n ∧ n ≤ 255 := by
  simp [Lit.wf, IntKind.min, IntKind.max, IntKind.signed, IntKind.bits] at h
  omega
end Go.Proofs.YtcfjehohemdanaaDoor
