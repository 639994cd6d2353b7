/- Plain facts on integers, greatest common divisors and rational numbers: what the functions of package ratio compute. No program in sight. -/
namespace Go.Proofs.YtbkekabhdpoddaaDoor

theorem gcd_step (x y : Int) (hx : 0 ≤ x) (hy : 0 ≤ y) : Int.gcd y (x % y) = Int.gcd x y := by
  obtain ⟨a, rfl⟩ := Int.eq_ofNat_of_zero_le hx
  obtain ⟨b, rfl⟩ := Int.eq_ofNat_of_zero_le hy
  rw [← Int.natCast_emod]
  simp only [Int.gcd, Int.natAbs_natCast]
  rw [Nat.gcd_comm a b, Nat.gcd_comm b (a % b), ← Nat.gcd_rec]

/-- the magnitude of an integer -/
def mag (n : Int) : Int := n.natAbs
theorem mag_neg {n : Int} (h : n < 0) : mag n = -n := by unfold mag; omega
theorem mag_pos {n : Int} (h : 0 ≤ n) : mag n = n := by unfold mag; omega
theorem mag_bd {n : Int} (h1 : -9223372036854775808 ≤ n) (h2 : n ≤ 9223372036854775807) : 0 ≤ mag n ∧ mag n ≤ 9223372036854775808 := by unfold mag; omega
theorem gcd_mag (a b : Int) : Int.gcd (mag a) (mag b) = Int.gcd a b := by simp [mag, Int.gcd]

/-- a ratio is valid -/
def vld (n d : Int) : Bool := decide (1 ≤ d ∧ d ≤ 1000000 ∧ -1000000000000 ≤ n ∧ n ≤ 1000000000000 ∧ Int.gcd n d = 1)
theorem vld_mk {n d : Int} (h : 1 ≤ d ∧ d ≤ 1000000 ∧ -1000000000000 ≤ n ∧ n ≤ 1000000000000 ∧ Int.gcd n d = 1) : vld n d = true := by simp [vld, h]
theorem vld_no {n d : Int} (h : ¬ (1 ≤ d ∧ d ≤ 1000000 ∧ -1000000000000 ≤ n ∧ n ≤ 1000000000000 ∧ Int.gcd n d = 1)) : vld n d = false := by simp [vld, h]
theorem vld_of {n d : Int} (h : vld n d = true) : 1 ≤ d ∧ d ≤ 1000000 ∧ -1000000000000 ≤ n ∧ n ≤ 1000000000000 ∧ Int.gcd n d = 1 := by simpa [vld] using h

/-- a rational number is within the limits of ratios -/
def inR (q : Rat) : Bool := decide (-1000000000000 ≤ q.num ∧ q.num ≤ 1000000000000 ∧ q.den ≤ 1000000)
/-- what an operation gives whose exact result is q: numerator, denominator, error -/
def oN (q : Rat) : Int := if inR q then q.num else 0
def oD (q : Rat) : Int := if inR q then q.den else 0
def oE (q : Rat) : Int := if inR q then 0 else 2
theorem oN_yes {q : Rat} (h : inR q = true) : oN q = q.num := by simp [oN, h]
theorem oD_yes {q : Rat} (h : inR q = true) : oD q = q.den := by simp [oD, h]
theorem oE_yes {q : Rat} (h : inR q = true) : oE q = 0 := by simp [oE, h]
theorem oN_no {q : Rat} (h : inR q = false) : oN q = 0 := by simp [oN, h]
theorem oD_no {q : Rat} (h : inR q = false) : oD q = 0 := by simp [oD, h]
theorem oE_no {q : Rat} (h : inR q = false) : oE q = 2 := by simp [oE, h]

theorem inR_bd {q : Rat} (h : inR q = true) : -1000000000000 ≤ q.num ∧ q.num ≤ 1000000000000 ∧ 1 ≤ (q.den : Int) ∧ (q.den : Int) ≤ 1000000 := by
  have := q.den_pos
  simp only [inR, decide_eq_true_eq] at h
  omega
theorem gcd_num_den (q : Rat) : Int.gcd q.num q.den = 1 := by
  have := q.reduced
  simpa [Int.gcd] using this
theorem inR_vld {q : Rat} (h : inR q = true) : vld q.num q.den = true := by
  have := inR_bd h
  exact vld_mk ⟨this.2.2.1, this.2.2.2, this.1, this.2.1, gcd_num_den q⟩
/-- a valid ratio is a rational number within the limits -/
theorem rat_of_vld {n d : Int} (h : vld n d = true) : ∃ q : Rat, inR q = true ∧ q.num = n ∧ (q.den : Int) = d := by
  obtain ⟨h1, h2, h3, h4, h5⟩ := vld_of h
  refine ⟨⟨n, d.toNat, by omega, ?_⟩, ?_, rfl, by simp; omega⟩
  · have : Int.gcd n d = Nat.gcd n.natAbs d.toNat := by
      simp only [Int.gcd]; congr 1; omega
    rw [this] at h5; exact h5
  · simp only [inR, decide_eq_true_eq]; omega

/-- numerator and denominator of a quotient of magnitudes with a sign -/
theorem quot_num {a b : Int} (hb : 0 < b) : (Rat.divInt a b).num = a / (Int.gcd a b : Int) := by
  rw [Rat.num_divInt, Int.sign_eq_one_of_pos hb, Int.one_mul, Int.gcd_comm]
theorem quot_den {a b : Int} (hb : 0 < b) : ((Rat.divInt a b).den : Int) = b / (Int.gcd a b : Int) := by
  rw [Rat.den_divInt, if_neg (by omega), Int.gcd_comm, Int.natCast_ediv]
  congr 1; omega
theorem sgn_num (s : Bool) {a b : Int} (hb : 0 < b) : (Rat.divInt (if s then -a else a) b).num = if s then -(a / (Int.gcd a b : Int)) else a / (Int.gcd a b : Int) := by
  cases s
  · simpa using quot_num hb
  · simp only [if_true, ← Rat.neg_divInt, Rat.neg_num, quot_num hb]
theorem sgn_den (s : Bool) {a b : Int} (hb : 0 < b) : ((Rat.divInt (if s then -a else a) b).den : Int) = b / (Int.gcd a b : Int) := by
  cases s
  · simpa using quot_den hb
  · simp only [if_true, ← Rat.neg_divInt, Rat.neg_den, quot_den hb]
/-- the quotient out of two magnitudes and the sign -/
theorem divInt_mag (p q : Int) : Rat.divInt (if (decide (p < 0) != decide (q < 0)) then -(mag p) else mag p) (mag q) = Rat.divInt p q := by
  by_cases h1 : p < 0 <;> by_cases h2 : q < 0
  · simp only [h1, h2, decide_true, bne_self_eq_false, Bool.false_eq_true, if_false, mag_neg h1, mag_neg h2, Rat.neg_divInt_neg]
  · have h2' : 0 ≤ q := by omega
    simp [h1, h2, mag_neg h1, mag_pos h2']
  · have h1' : 0 ≤ p := by omega
    simp [h1, h2, mag_pos h1', mag_neg h2, Rat.neg_divInt_neg]
  · have h1' : 0 ≤ p := by omega
    have h2' : 0 ≤ q := by omega
    simp [h1, h2, mag_pos h1', mag_pos h2']

theorem add_divInt (q r : Rat) : Rat.divInt (q.num * r.den + r.num * q.den) (q.den * r.den) = q + r := by
  rw [Rat.add_def', ← Int.natCast_mul, Rat.divInt_ofNat]
theorem sub_divInt (q r : Rat) : Rat.divInt (q.num * r.den - r.num * q.den) (q.den * r.den) = q - r := by
  rw [Rat.sub_def', ← Int.natCast_mul, Rat.divInt_ofNat]
theorem div_divInt (q r : Rat) : Rat.divInt (q.num * r.den) (q.den * r.num) = q / r := by
  rw [Rat.div_def, Rat.inv_def]
  conv => rhs; rw [← Rat.num_divInt_den q]
  rw [Rat.divInt_mul_divInt]
/-- products of what is in range fit -/
theorem mul_bd {a b : Int} {A B : Int} (h1 : -A ≤ a) (h2 : a ≤ A) (h3 : -B ≤ b) (h4 : b ≤ B) : -(A * B) ≤ a * b ∧ a * b ≤ A * B := by
  have hA : 0 ≤ A := by omega
  have hB : 0 ≤ B := by omega
  have e1 : 0 ≤ (A - a) * (B + b) := Int.mul_nonneg (by omega) (by omega)
  have e2 : 0 ≤ (A + a) * (B - b) := Int.mul_nonneg (by omega) (by omega)
  have e3 : 0 ≤ (A - a) * (B - b) := Int.mul_nonneg (by omega) (by omega)
  have e4 : 0 ≤ (A + a) * (B + b) := Int.mul_nonneg (by omega) (by omega)
  constructor <;> grind
end Go.Proofs.YtbkekabhdpoddaaDoor
