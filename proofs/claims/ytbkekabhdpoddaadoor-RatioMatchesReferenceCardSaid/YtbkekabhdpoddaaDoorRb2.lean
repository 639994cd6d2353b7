/- Plain: quotients of integers in lowest terms: bounds, the same quotient; floors of sums. -/
import Derived.Test.YtbkekabhdpoddaaDoorRb1
namespace Go.Proofs.YtbkekabhdpoddaaDoor

theorem quot_cross {a b : Int} (hb : b ≠ 0) : (Rat.divInt a b).num * b = a * (Rat.divInt a b).den := by
  have h := Rat.num_divInt_den (Rat.divInt a b)
  have hd : ((Rat.divInt a b).den : Int) ≠ 0 := by have := (Rat.divInt a b).den_pos; omega
  exact (Rat.divInt_eq_divInt_iff hd hb).1 h
theorem quot_bd {a b A : Int} (hb : 0 < b) (h1 : -A ≤ a) (h2 : a ≤ A) : -A ≤ (Rat.divInt a b).num ∧ (Rat.divInt a b).num ≤ A ∧ ((Rat.divInt a b).den : Int) ≤ b := by
  obtain ⟨g, hg⟩ : ∃ g, (Int.gcd a b : Int) = g := ⟨_, rfl⟩
  have hgp : 0 < g := by
    have : 0 < Int.gcd a b := Int.gcd_pos_of_ne_zero_right _ (by omega)
    omega
  have ha : g ∣ a := hg ▸ Int.gcd_dvd_left ..
  have hbd : g ∣ b := hg ▸ Int.gcd_dvd_right ..
  rw [quot_num hb, quot_den hb, hg]
  obtain ⟨x, rfl⟩ := ha
  obtain ⟨y, rfl⟩ := hbd
  rw [Int.mul_ediv_cancel_left _ (by omega), Int.mul_ediv_cancel_left _ (by omega)]
  have hy : 0 < y := by
    rcases Int.lt_or_le 0 y with h | h
    · exact h
    · have := Int.mul_nonpos_of_nonneg_of_nonpos (show 0 ≤ g by omega) h
      omega
  have e3 : y ≤ g * y := by
    have := Int.mul_le_mul_of_nonneg_right (show 1 ≤ g by omega) (show 0 ≤ y by omega)
    omega
  refine ⟨?_, ?_, e3⟩
  · rcases Int.lt_or_le x 0 with h | h
    · have := Int.mul_le_mul_of_nonneg_right (show 1 ≤ g by omega) (show 0 ≤ -x by omega)
      simp only [Int.mul_neg, Int.one_mul] at this
      omega
    · omega
  · rcases Int.lt_or_le x 0 with h | h
    · omega
    · have := Int.mul_le_mul_of_nonneg_right (show 1 ≤ g by omega) h
      omega
theorem divInt_swap (a b : Int) : Rat.divInt a b = Rat.divInt (-a) (-b) := (Rat.neg_divInt_neg a b).symm
theorem quot_bd' {a b A B : Int} (hb : b ≠ 0) (h1 : -A ≤ a) (h2 : a ≤ A) (h3 : -B ≤ b) (h4 : b ≤ B) : -A ≤ (Rat.divInt a b).num ∧ (Rat.divInt a b).num ≤ A ∧ ((Rat.divInt a b).den : Int) ≤ B := by
  rcases Int.lt_or_le 0 b with h | h
  · have := quot_bd h h1 h2
    omega
  · have := quot_bd (a := -a) (b := -b) (A := A) (by omega) (by omega) (by omega)
    rw [divInt_swap]
    omega
theorem inR_mk {q : Rat} {A B : Int} (h : -A ≤ q.num ∧ q.num ≤ A ∧ (q.den : Int) ≤ B) (hA : A ≤ 1000000000000) (hB : B ≤ 1000000) : inR q = true := by
  simp only [inR, decide_eq_true_eq]; omega
/-- the floor of a rational number -/
def flr (q : Rat) : Int := flo q.num q.den
theorem den_pos' (q : Rat) : (0 : Int) < q.den := by have := q.den_pos; omega
theorem flr_add (q : Rat) (n : Int) : flr (q + Rat.divInt n 1) = flr q + n := by
  have hq := den_pos' q
  obtain ⟨h1, h2⟩ := flo_bd (n := q.num) hq
  have hs := den_pos' (q + Rat.divInt n 1)
  have hc : (q + Rat.divInt n 1).num * q.den = (q.num + n * q.den) * (q + Rat.divInt n 1).den := by
    have e : q + Rat.divInt n 1 = Rat.divInt (q.num + n * q.den) q.den := by
      conv => lhs; rw [← Rat.num_divInt_den q]
      rw [Rat.divInt_add_divInt _ _ (by omega) (by omega)]
      simp
    rw [e]
    exact quot_cross (by omega)
  unfold flr
  refine flo_uniq hs ?_ ?_
  · refine Int.le_of_mul_le_mul_right (a := (q.den : Int)) ?_ hq
    rw [hc]
    have := Int.mul_le_mul_of_nonneg_right h1 (show 0 ≤ ((q + Rat.divInt n 1).den : Int) by omega)
    have e : (flo q.num q.den + n) * ((q + Rat.divInt n 1).den : Int) * q.den = flo q.num q.den * q.den * (q + Rat.divInt n 1).den + n * q.den * (q + Rat.divInt n 1).den := by grind
    rw [e, Int.add_mul]
    omega
  · refine Int.lt_of_mul_lt_mul_right (a := (q.den : Int)) ?_ (by omega)
    rw [hc]
    have := Int.mul_lt_mul_of_pos_right h2 hs
    have e : (flo q.num q.den + n + 1) * ((q + Rat.divInt n 1).den : Int) * q.den = (flo q.num q.den + 1) * q.den * (q + Rat.divInt n 1).den + n * q.den * (q + Rat.divInt n 1).den := by grind
    rw [e, Int.add_mul]
    omega
theorem flr_bd (q : Rat) : flr q * q.den ≤ q.num ∧ q.num < (flr q + 1) * q.den := flo_bd (den_pos' q)
theorem flr_rng {q : Rat} (h : inR q = true) : -1000000000000 ≤ flr q ∧ flr q ≤ 1000000000000 := by
  obtain ⟨h1, h2, h3, h4⟩ := inR_bd h
  obtain ⟨a1, a2⟩ := flr_bd q
  generalize flr q = k at a1 a2 ⊢
  generalize (q.den : Int) = d at h3 h4 a1 a2
  constructor
  · rcases Int.lt_or_le k (-1000000000000) with hk | hk
    · have : (k + 1) * d ≤ -1000000000000 * 1 := by
        have e1 := Int.mul_le_mul_of_nonneg_right (show k + 1 ≤ -1000000000000 by omega) (show 0 ≤ d by omega)
        have : -1000000000000 * d ≤ -1000000000000 := by omega
        omega
      omega
    · exact hk
  · rcases Int.lt_or_le 1000000000000 k with hk | hk
    · have : 1000000000001 * 1 ≤ k * d := Int.mul_le_mul (by omega) h3 (by omega) (by omega)
      omega
    · exact hk
/-- a ratio rounded -/
def rndR (q : Rat) (p : Int) : Rat := Rat.divInt (rnd q.num q.den p) p
theorem num_eq {q : Rat} {n d : Int} (h1 : q.num = n) (h2 : (q.den : Int) = d) : q = Rat.divInt n d := by rw [← h1, ← h2, Rat.num_divInt_den]
theorem rat_ext {q r : Rat} : q = r ↔ q.num = r.num ∧ (q.den : Int) = r.den := ⟨fun h => by subst h; exact ⟨rfl, rfl⟩, fun h => Rat.ext h.1 (by omega)⟩
end Go.Proofs.YtbkekabhdpoddaaDoor
