/- Plain: a product of ratios, common divisors removed first, as ratio.Mul has it. -/
import Derived.Test.YtbkekabhdpoddaaDoorRb2
namespace Go.Proofs.YtbkekabhdpoddaaDoor

theorem mul_parts (q r : Rat) : (q * r).num = q.num.tdiv (Nat.gcd q.num.natAbs r.den) * r.num.tdiv (Nat.gcd r.num.natAbs q.den) ∧ (q * r).den = q.den / Nat.gcd r.num.natAbs q.den * (r.den / Nat.gcd q.num.natAbs r.den) := by
  show (Rat.mul q r).num = _ ∧ (Rat.mul q r).den = _
  unfold Rat.mul
  simp only [Int.divExact_eq_tdiv, Nat.divExact_eq_div, and_self]
theorem natAbs_tdiv' (a : Int) (g : Nat) : (a.tdiv g).natAbs = a.natAbs / g := by
  rw [Int.natAbs_tdiv]; rfl
/-- the magnitudes -/
def mA (q r : Rat) : Nat := q.num.natAbs / Nat.gcd q.num.natAbs r.den
theorem mul_abs (q r : Rat) : (q * r).num.natAbs = mA q r * mA r q := by
  rw [(mul_parts q r).1, Int.natAbs_mul, natAbs_tdiv', natAbs_tdiv']; rfl
def sgM (q r : Rat) : Bool := decide (q.num < 0) != decide (r.num < 0)
theorem mul_sign (q r : Rat) : Rat.divInt (if sgM q r then -((mA q r * mA r q : Nat) : Int) else ((mA q r * mA r q : Nat) : Int)) (q * r).den = q * r := by
  have h0 : (if sgM q r then -((mA q r * mA r q : Nat) : Int) else ((mA q r * mA r q : Nat) : Int)) = (q * r).num := by
    have ha := mul_abs q r
    rw [← ha]
    have hs : ∀ a : Int, ∀ g : Nat, (a < 0 → a.tdiv g ≤ 0) ∧ (0 ≤ a → 0 ≤ a.tdiv g) := fun a g => ⟨fun h => by
        have := Int.tdiv_nonneg (a := -a) (b := (g : Int)) (by omega) (Int.natCast_nonneg g)
        rw [Int.neg_tdiv] at this
        omega, fun h => Int.tdiv_nonneg h (Int.natCast_nonneg g)⟩
    have e := (mul_parts q r).1
    generalize (Nat.gcd q.num.natAbs r.den) = g1 at e
    generalize (Nat.gcd r.num.natAbs q.den) = g2 at e
    obtain ⟨a1, a2⟩ := hs q.num g1
    obtain ⟨b1, b2⟩ := hs r.num g2
    generalize q.num.tdiv g1 = x at e a1 a2
    generalize r.num.tdiv g2 = y at e b1 b2
    rw [e]
    unfold sgM
    by_cases h1 : q.num < 0 <;> by_cases h2 : r.num < 0
    · have : 0 ≤ x * y := Int.mul_nonneg_of_nonpos_of_nonpos (a1 h1) (b1 h2)
      simp only [h1, h2, decide_true, bne_self_eq_false, Bool.false_eq_true, if_false]
      omega
    · have : x * y ≤ 0 := Int.mul_nonpos_of_nonpos_of_nonneg (a1 h1) (b2 (by omega))
      simp only [h1, h2, decide_true, decide_false, Bool.true_bne, Bool.not_false, if_true]
      omega
    · have : x * y ≤ 0 := Int.mul_nonpos_of_nonneg_of_nonpos (a2 (by omega)) (b1 h2)
      simp only [h1, h2, decide_true, decide_false, Bool.false_bne, if_true]
      omega
    · have : 0 ≤ x * y := Int.mul_nonneg (a2 (by omega)) (b2 (by omega))
      simp only [h1, h2, decide_false, bne_self_eq_false, Bool.false_eq_true, if_false]
      omega
  rw [h0, Rat.num_divInt_den]
theorem mul_big {q r : Rat} (h : 18446744073709551616 ≤ mA q r * mA r q) : inR (q * r) = false := by
  have ha := mul_abs q r
  simp only [inR, decide_eq_false_iff_not]
  omega
theorem mA_bd {q r : Rat} (h : inR q = true) : mA q r ≤ 1000000000000 := by
  obtain ⟨h1, h2, _, _⟩ := inR_bd h
  unfold mA
  have := Nat.div_le_self q.num.natAbs (Nat.gcd q.num.natAbs r.den)
  omega
/-- the divisors as numbers -/
theorem gM (q r : Rat) : (Int.gcd (mag q.num) (mag r.den) : Int) = (Nat.gcd q.num.natAbs r.den : Nat) := by rw [gcd_mag]; rfl
theorem gM_pos (q r : Rat) : 1 ≤ Nat.gcd q.num.natAbs r.den ∧ Nat.gcd q.num.natAbs r.den ≤ r.den := ⟨Nat.gcd_pos_of_pos_right _ r.den_pos, Nat.gcd_le_right _ r.den_pos⟩
end Go.Proofs.YtbkekabhdpoddaaDoor
