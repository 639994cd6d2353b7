/- The contracts of the functions of package ratio, third part: Add, Sub, Div at valid ratios. -/
import Derived.Test.YtcfjehohemdanaaDoorR02
namespace Go.Proofs.YtcfjehohemdanaaDoor
open Go.RowKit

theorem add_bd {q r : Rat} (hq : inR q = true) (hr : inR r = true) :
    -1000000000000000000 ≤ q.num * r.den ∧ q.num * r.den ≤ 1000000000000000000 ∧ -1000000000000000000 ≤ r.num * q.den ∧ r.num * q.den ≤ 1000000000000000000 ∧ 1 ≤ (q.den : Int) * r.den ∧ (q.den : Int) * r.den ≤ 1000000000000 := by
  obtain ⟨a1, a2, a3, a4⟩ := inR_bd hq
  obtain ⟨b1, b2, b3, b4⟩ := inR_bd hr
  have e1 := mul_bd a1 a2 (show -1000000 ≤ (r.den : Int) by omega) b4
  have e2 := mul_bd b1 b2 (show -1000000 ≤ (q.den : Int) by omega) a4
  have e3 := mul_bd (show -1000000 ≤ (q.den : Int) by omega) a4 (show -1000000 ≤ (r.den : Int) by omega) b4
  have e4 : 0 < (q.den : Int) * r.den := Int.mul_pos (by omega) (by omega)
  omega

end Go.Proofs.YtcfjehohemdanaaDoor
