/- Plain: floor, nearest multiple of one part, order and sums of rational numbers. No program in sight. -/
import Derived.Test.YtbkekabhdpoddaaDoorMath
import Derived.Test.YtbkekabhdpoddaaDoorR04
namespace Go.Proofs.YtbkekabhdpoddaaDoor

/-- the floor of a quotient by a positive number, as the code has it -/
def flo (n d : Int) : Int := n / d
theorem flo_code {n d : Int} (hd : 0 < d) : (if n.tmod d < 0 then n.tdiv d - 1 else n.tdiv d) = flo n d := by
  unfold flo
  have h1 := Int.mul_tdiv_add_tmod n d
  have h2 := Int.mul_ediv_add_emod n d
  have h3 := Int.emod_nonneg n (show d ≠ 0 by omega)
  have h4 := Int.emod_lt_of_pos n hd
  have h5 : -d < n.tmod d ∧ n.tmod d < d := by
    have := Int.tmod_lt_of_pos n hd
    have h6 := Int.lt_tmod_of_pos n hd
    omega
  have h7 : 0 ≤ n → 0 ≤ n.tmod d := fun h => Int.tmod_nonneg d h
  split
  · rename_i h
    have e : d * (n.tdiv d - 1) + (n.tmod d + d) = n := by rw [Int.mul_sub, Int.mul_one]; omega
    have := (Int.ediv_emod_unique (a := n) (b := d) (q := n.tdiv d - 1) (r := n.tmod d + d) hd).2 ⟨by omega, by omega, by omega⟩
    exact this.1.symm
  · rename_i h
    have := (Int.ediv_emod_unique (a := n) (b := d) (q := n.tdiv d) (r := n.tmod d) hd).2 ⟨by omega, by omega, by omega⟩
    exact this.1.symm
theorem flo_bd {n d : Int} (hd : 0 < d) : flo n d * d ≤ n ∧ n < (flo n d + 1) * d := by
  unfold flo
  have h2 := Int.mul_ediv_add_emod n d
  have h3 := Int.emod_nonneg n (show d ≠ 0 by omega)
  have h4 := Int.emod_lt_of_pos n hd
  rw [Int.add_mul, Int.one_mul, Int.mul_comm (n / d) d]
  omega
theorem flo_uniq {n d k : Int} (hd : 0 < d) (h1 : k * d ≤ n) (h2 : n < (k + 1) * d) : flo n d = k := by
  obtain ⟨h3, h4⟩ := flo_bd (n := n) hd
  have a1 : flo n d < k + 1 := by
    refine Int.lt_of_mul_lt_mul_right (a := d) ?_ (by omega)
    omega
  have a2 : k < flo n d + 1 := by
    refine Int.lt_of_mul_lt_mul_right (a := d) ?_ (by omega)
    omega
  omega
/-- the nearest multiple of 1 / p; of two, the even one -/
def rnd (n d p : Int) : Int :=
  let k := flo (n * p) d
  let t := 2 * (n * p - k * d)
  if d < t ∨ (t = d ∧ k % 2 ≠ 0) then k + 1 else k
theorem rnd_dist {n d p : Int} (hd : 0 < d) : -d ≤ 2 * (rnd n d p * d - n * p) ∧ 2 * (rnd n d p * d - n * p) ≤ d ∧ ((2 * (rnd n d p * d - n * p) = d ∨ 2 * (rnd n d p * d - n * p) = -d) → rnd n d p % 2 = 0) := by
  obtain ⟨h1, h2⟩ := flo_bd (n := n * p) hd
  unfold rnd
  simp only
  generalize flo (n * p) d = k at h1 h2 ⊢
  generalize n * p = x at h1 h2 ⊢
  rw [Int.add_mul, Int.one_mul] at h2
  split
  · rename_i h
    rw [Int.add_mul, Int.one_mul]
    generalize k * d = y at h1 h2 h ⊢
    omega
  · rename_i h
    generalize k * d = y at h1 h2 h ⊢
    omega
theorem rnd_mono {n d n' d' p : Int} (hd : 0 < d) (hd' : 0 < d') (hp : 0 < p) (h : n * d' ≤ n' * d) : rnd n d p ≤ rnd n' d' p := by
  obtain ⟨a1, a2, a3⟩ := rnd_dist (n := n) (p := p) hd
  obtain ⟨b1, b2, b3⟩ := rnd_dist (n := n') (p := p) hd'
  generalize rnd n d p = k at a1 a2 a3 ⊢
  generalize rnd n' d' p = l at b1 b2 b3 ⊢
  rcases Int.lt_or_le l k with hlt | hle
  · exfalso
    -- k d - n p <= d / 2, n' p - l d' <= d' / 2; n p / d <= n' p / d'
    have e1 : 2 * k * d * d' - 2 * n * p * d' ≤ d * d' := by
      have := Int.mul_le_mul_of_nonneg_right a2 (show 0 ≤ d' by omega)
      have e : 2 * (k * d - n * p) * d' = 2 * k * d * d' - 2 * n * p * d' := by grind
      omega
    have e2 : 2 * n' * p * d - 2 * l * d' * d ≤ d * d' := by
      have := Int.mul_le_mul_of_nonneg_right b1 (show 0 ≤ d by omega)
      have e : 2 * (l * d' - n' * p) * d = 2 * l * d' * d - 2 * n' * p * d := by grind
      have e' : -d' * d = -(d * d') := by grind
      omega
    have e3 : 2 * n * p * d' ≤ 2 * n' * p * d := by
      have := Int.mul_le_mul_of_nonneg_right h (show 0 ≤ 2 * p by omega)
      have e : n * d' * (2 * p) = 2 * n * p * d' := by grind
      have e' : n' * d * (2 * p) = 2 * n' * p * d := by grind
      omega
    have hdd : 0 < d * d' := Int.mul_pos hd hd'
    have e4 : (k - l) * (d * d') ≤ 1 * (d * d') := by
      have e : 2 * ((k - l) * (d * d')) = 2 * k * d * d' - 2 * l * d' * d := by grind
      omega
    have h5 : k - l ≤ 1 := Int.le_of_mul_le_mul_right e4 hdd
    obtain rfl : k = l + 1 := by omega
    -- all are equalities
    have e5 : (l + 1 - l) * (d * d') = d * d' := by grind
    have e6 : 2 * (l + 1) * d * d' - 2 * l * d' * d = 2 * (d * d') := by grind
    have q1 : 2 * (l + 1) * d * d' - 2 * n * p * d' = d * d' := by omega
    have q2 : 2 * n' * p * d - 2 * l * d' * d = d * d' := by omega
    have s1 : 2 * ((l + 1) * d - n * p) = d := by
      refine Int.eq_of_mul_eq_mul_right (show d' ≠ 0 by omega) ?_
      grind
    have s2 : 2 * (l * d' - n' * p) = -d' := by
      refine Int.eq_of_mul_eq_mul_right (show d ≠ 0 by omega) ?_
      grind
    have := a3 (.inl s1)
    have := b3 (.inr s2)
    omega
  · exact hle
theorem rnd_fix {k p : Int} {n d : Int} (hd : 0 < d) (h : n * p = k * d) : rnd n d p = k := by
  have h1 : flo (n * p) d = k := flo_uniq hd (by omega) (by rw [Int.add_mul]; omega)
  unfold rnd
  simp only [h1]
  rw [if_neg]
  rw [h]
  omega
theorem cmpN_rng (q r : Rat) : cmpN q r = -1 ∨ cmpN q r = 0 ∨ cmpN q r = 1 := by unfold cmpN; split; exact .inl rfl; split; exact .inr (.inr rfl); exact .inr (.inl rfl)
theorem cmpN_neg (q r : Rat) : cmpN r q = -cmpN q r := by
  unfold cmpN
  by_cases h1 : q < r
  · rw [if_pos h1, if_neg (Rat.not_lt.2 (Rat.le_of_lt h1)), if_pos h1]; rfl
  · by_cases h2 : r < q
    · rw [if_pos h2, if_neg h1, if_pos h2]
    · rw [if_neg h2, if_neg h1, if_neg h1, if_neg h2]; rfl
theorem cmpN_zero {q r : Rat} : cmpN q r = 0 ↔ q = r := by
  unfold cmpN
  constructor
  · intro h
    by_cases h1 : q < r
    · rw [if_pos h1] at h; cases h
    · rw [if_neg h1] at h
      by_cases h2 : r < q
      · rw [if_pos h2] at h; cases h
      · exact Rat.le_antisymm (Rat.not_lt.1 h2) (Rat.not_lt.1 h1)
  · rintro rfl
    rw [if_neg (Rat.lt_irrefl), if_neg (Rat.lt_irrefl)]
theorem cmpN_le {q r : Rat} : cmpN q r ≤ 0 ↔ q ≤ r := by
  unfold cmpN
  by_cases h1 : q < r
  · rw [if_pos h1]; exact ⟨fun _ => Rat.le_of_lt h1, fun _ => by omega⟩
  · rw [if_neg h1]
    by_cases h2 : r < q
    · rw [if_pos h2]; exact ⟨fun h => by omega, fun h => absurd h2 (Rat.not_lt.2 h)⟩
    · rw [if_neg h2]; exact ⟨fun _ => Rat.not_lt.1 h2, fun _ => by omega⟩
theorem cmpN_of {q r q' r' : Rat} (h1 : q < r ↔ q' < r') (h2 : r < q ↔ r' < q') : cmpN q r = cmpN q' r' := by
  unfold cmpN
  by_cases a : q < r
  · rw [if_pos a, if_pos (h1.1 a)]
  · rw [if_neg a, if_neg (fun h => a (h1.2 h))]
    by_cases b : r < q
    · rw [if_pos b, if_pos (h2.1 b)]
    · rw [if_neg b, if_neg (fun h => b (h2.2 h))]
theorem cmpN_add (q r c : Rat) : cmpN (q + c) (r + c) = cmpN q r := cmpN_of Rat.add_lt_add_right Rat.add_lt_add_right
theorem cmpN_mul (q r c : Rat) (hc : 0 < c) : cmpN (q * c) (r * c) = cmpN q r := cmpN_of (Rat.mul_lt_mul_right hc) (Rat.mul_lt_mul_right hc)
end Go.Proofs.YtbkekabhdpoddaaDoor
