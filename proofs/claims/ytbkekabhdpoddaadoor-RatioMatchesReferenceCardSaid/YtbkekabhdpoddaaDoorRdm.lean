/- Small things for the laws on ratios: greatest of some numbers, operations in range. -/
import Derived.Test.YtbkekabhdpoddaaDoorRd0
namespace Go.Proofs.YtbkekabhdpoddaaDoor
open Go.RowKit

theorem oE_ok {q : Rat} (h : oE q = 0) : inR q = true := by
  cases hi : inR q with
  | true => rfl
  | false => rw [oE_no hi] at h; cases h
def max4 (a b c d : Int) : Int := max (max (max a b) c) d
theorem mx_run4 (a b c d : Int) (W : World) (ts : Array TypeId) (t : TypeId) : (Builtin.max_ ts t #[.int .i64 a, .int .i64 b, .int .i64 c, .int .i64 d]).run Tryd.prog W = .ok (.int .i64 (max4 a b c d)) W := by
  have e : ∀ x y : Int, (if y > x then y else x) = max x y := fun x y => by
    rw [Int.max_def]
    split <;> split <;> omega
  simp [Builtin.max_, Builtin.max2, e, max4]
theorem mx_run2 (a b : Int) (W : World) (ts : Array TypeId) (t : TypeId) : (Builtin.max_ ts t #[.int .i64 a, .int .i64 b]).run Tryd.prog W = .ok (.int .i64 (max a b)) W := by
  have e : ∀ x y : Int, (if y > x then y else x) = max x y := fun x y => by
    rw [Int.max_def]
    split <;> split <;> omega
  simp [Builtin.max_, Builtin.max2, e]
theorem max4_le {a b c d m : Int} : max4 a b c d ≤ m ↔ a ≤ m ∧ b ≤ m ∧ c ≤ m ∧ d ≤ m := by unfold max4; omega
theorem quot_vld {a b : Int} (hb : b ≠ 0) (h1 : -2000000 ≤ a) (h2 : a ≤ 2000000) (h3 : -1000000 ≤ b) (h4 : b ≤ 1000000) : inR (Rat.divInt a b) = true ∧ (-2000000 ≤ (Rat.divInt a b).num ∧ (Rat.divInt a b).num ≤ 2000000) ∧ ((Rat.divInt a b).den : Int) ≤ 1000000 := by
  have := quot_bd' hb h1 h2 h3 h4
  exact ⟨inR_mk this (by omega) (by omega), ⟨this.1, this.2.1⟩, this.2.2⟩
theorem op_ok {q : Rat} (h : inR q = true) {f : FuncId} {args : Array Value} {W : World} (H : Calls Tryd.prog f args W fun e w' => e = .returned (.tuple #[.agg #[.int .i64 (oN q), .int .i64 (oD q)], .int .i64 (oE q)]) ∧ Below W.heap.size W w') :
    Calls Tryd.prog f args W fun e w' => e = .returned (.tuple #[.agg #[.int .i64 q.num, .int .i64 q.den], .int .i64 0]) ∧ Below W.heap.size W w' := by
  rw [oN_yes h, oD_yes h, oE_yes h] at H
  exact H
theorem mul_rng {a b A B : Int} (hA : 0 ≤ A) (hB : 0 ≤ B) (h1 : -A ≤ a ∧ a ≤ A) (h2 : -B ≤ b ∧ b ≤ B) : -(A * B) ≤ a * b ∧ a * b ≤ A * B := mul_bd h1.1 h1.2 h2.1 h2.2
end Go.Proofs.YtbkekabhdpoddaaDoor
