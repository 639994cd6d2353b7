/- ratio's functions at valid ratios given by numerator and denominator; their values at the examples of the laws' head. -/
import Derived.Test.YtbkekabhdpoddaaDoorRb8
namespace Go.Proofs.YtbkekabhdpoddaaDoor
open Go.RowKit

/-- what an operation on ratios gives, as it lies in memory -/
abbrev resA (a b e : Int) : Ending := .returned (.tuple #[.agg #[.int .i64 a, .int .i64 b], .int .i64 e])
section
variable {n d n' d' a b e : Int} (w : World)
theorem add_lit (h : vld n d = true) (h' : vld n' d' = true) (hr : oN (Rat.divInt n d + Rat.divInt n' d') = a ∧ oD (Rat.divInt n d + Rat.divInt n' d') = b ∧ oE (Rat.divInt n d + Rat.divInt n' d') = e) :
    Calls Tryd.prog 17 #[.agg #[.int .i64 n, .int .i64 d], .agg #[.int .i64 n', .int .i64 d']] w fun x w' => x = resA a b e ∧ Below w.heap.size w w' := by
  obtain ⟨q, hq, e1, e2⟩ := rat_of_vld h
  obtain ⟨r, hr2, e3, e4⟩ := rat_of_vld h'
  rw [← num_eq e1 e2, ← num_eq e3 e4] at hr
  subst e1 e2 e3 e4
  obtain ⟨rfl, rfl, rfl⟩ := hr
  exact add_any q r w hq hr2
theorem mul_lit (h : vld n d = true) (h' : vld n' d' = true) (hr : oN (Rat.divInt n d * Rat.divInt n' d') = a ∧ oD (Rat.divInt n d * Rat.divInt n' d') = b ∧ oE (Rat.divInt n d * Rat.divInt n' d') = e) :
    Calls Tryd.prog 18 #[.agg #[.int .i64 n, .int .i64 d], .agg #[.int .i64 n', .int .i64 d']] w fun x w' => x = resA a b e ∧ Below w.heap.size w w' := by
  obtain ⟨q, hq, e1, e2⟩ := rat_of_vld h
  obtain ⟨r, hr2, e3, e4⟩ := rat_of_vld h'
  rw [← num_eq e1 e2, ← num_eq e3 e4] at hr
  subst e1 e2 e3 e4
  obtain ⟨rfl, rfl, rfl⟩ := hr
  exact mul_any q r w hq hr2
theorem div0_lit (h : vld n d = true) :
    Calls Tryd.prog 31 #[.agg #[.int .i64 n, .int .i64 d], .agg #[.int .i64 0, .int .i64 1]] w fun x w' => x = resA 0 0 1 ∧ Below w.heap.size w w' := by
  obtain ⟨q, hq, e1, e2⟩ := rat_of_vld h
  obtain ⟨r, hr2, e3, e4⟩ := rat_of_vld (n := 0) (d := 1) (by decide)
  have := div0_any q r w hq hr2 e3
  rw [e1, e2, e3, e4] at this
  exact this
theorem round_lit {p : Int} (h : vld n d = true) (h1 : 1 ≤ p) (h2 : p ≤ 1000000) (hr : oN (Rat.divInt (rnd n d p) p) = a ∧ oD (Rat.divInt (rnd n d p) p) = b ∧ oE (Rat.divInt (rnd n d p) p) = e) :
    Calls Tryd.prog 21 #[.agg #[.int .i64 n, .int .i64 d], .int .i64 p] w fun x w' => x = resA a b e ∧ Below w.heap.size w w' := by
  obtain ⟨q, hq, e1, e2⟩ := rat_of_vld h
  have := round_any q p w hq h1 h2
  unfold rndR at this
  rw [e1, e2, hr.1, hr.2.1, hr.2.2] at this
  exact this
theorem floor_lit (h : vld n d = true) (hr : flo n d = a) : Calls Tryd.prog 19 #[.agg #[.int .i64 n, .int .i64 d]] w fun x w' => x = .returned (.int .i64 a) ∧ Below w.heap.size w w' := by
  obtain ⟨q, hq, e1, e2⟩ := rat_of_vld h
  have := ffloor_any q w hq
  unfold flr at this
  rw [e1, e2, hr] at this
  exact this
theorem cmp_lit (h : vld n d = true) (h' : vld n' d' = true) (hr : cmpN (Rat.divInt n d) (Rat.divInt n' d') = a) :
    Calls Tryd.prog 16 #[.agg #[.int .i64 n, .int .i64 d], .agg #[.int .i64 n', .int .i64 d']] w fun x w' => x = .returned (.int .i64 a) ∧ Below w.heap.size w w' := by
  obtain ⟨q, hq, e1, e2⟩ := rat_of_vld h
  obtain ⟨r, hr2, e3, e4⟩ := rat_of_vld h'
  rw [← num_eq e1 e2, ← num_eq e3 e4] at hr
  subst e1 e2 e3 e4
  have := cmp_any q r w hq hr2
  rw [hr] at this
  exact this.mono fun _ _ ⟨a, b⟩ => ⟨a, b⟩
end
theorem lits : (vld 1 6 = true ∧ vld 1 3 = true ∧ vld 2 3 = true ∧ vld 9 4 = true ∧ vld 1 2 = true ∧ vld 3 8 = true ∧ vld (-1) 2 = true ∧ vld (-3) 2 = true ∧ vld 2 4 = false) := by decide
theorem lit_make : (oN (Rat.divInt 6 (-4)) = -3 ∧ oD (Rat.divInt 6 (-4)) = 2 ∧ oE (Rat.divInt 6 (-4)) = 0) ∧ (oN (Rat.divInt 0 (-7)) = 0 ∧ oD (Rat.divInt 0 (-7)) = 1 ∧ oE (Rat.divInt 0 (-7)) = 0) ∧ (oN (Rat.divInt 1 1000001) = 0 ∧ oD (Rat.divInt 1 1000001) = 0 ∧ oE (Rat.divInt 1 1000001) = 2) := by decide +kernel
theorem lit_ops : (oN (Rat.divInt 1 6 + Rat.divInt 1 3) = 1 ∧ oD (Rat.divInt 1 6 + Rat.divInt 1 3) = 2 ∧ oE (Rat.divInt 1 6 + Rat.divInt 1 3) = 0) ∧ (oN (Rat.divInt 2 3 * Rat.divInt 9 4) = 3 ∧ oD (Rat.divInt 2 3 * Rat.divInt 9 4) = 2 ∧ oE (Rat.divInt 2 3 * Rat.divInt 9 4) = 0) ∧ (oN (Rat.divInt (rnd 3 8 4) 4) = 1 ∧ oD (Rat.divInt (rnd 3 8 4) 4) = 2 ∧ oE (Rat.divInt (rnd 3 8 4) 4) = 0) ∧ flo (-1) 2 = -1 ∧ cmpN (Rat.divInt 1 3) (Rat.divInt 1 2) = -1 := by decide +kernel
end Go.Proofs.YtbkekabhdpoddaaDoor
