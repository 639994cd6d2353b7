/- Small things for the walks of the laws on ratios: valid ratios, two ratios compared whole. -/
import Derived.Test.YtbkekabhdpoddaaDoorRc1
import Derived.Test.YtbkekabhdpoddaaDoorQa
import Derived.Deep.CutRange
namespace Go.Proofs.YtbkekabhdpoddaaDoor
open Go.RowKit

abbrev B64 (n : Int) : Prop := -9223372036854775808 ≤ n ∧ n ≤ 9223372036854775807
theorem valid_rat (q : Rat) (W : World) (hq : inR q = true) : Calls Tryd.prog 15 #[.agg #[.int .i64 q.num, .int .i64 q.den]] W fun e w' => e = .returned (.bool true) ∧ Below W.heap.size W w' := by
  have hb := inR_bd hq
  have := valid_any q.num q.den W (by omega) (by omega) (by omega) (by omega)
  rwa [inR_vld hq] at this
theorem rat_pos {q : Rat} (h : 0 < q.num) : 0 < q := (Rat.lt_iff 0 q).2 (by simpa using h)
theorem eqv2 (a b c d : Int) (w : World) : (Op.equalIn 10000 25 (.agg #[.int .i64 a, .int .i64 b]) (.agg #[.int .i64 c, .int .i64 d])).run Tryd.prog w = .ok (decide (a = c ∧ b = d)) w := by
  have e : (Tryd.prog.fieldsOf 25).toList = [{ name := "Num", type := 3, offset := 0, embedded := false, tag := "", pkgPath := "", byteOffset := 0 }, { name := "Den", type := 3, offset := 1, embedded := false, tag := "", pkgPath := "", byteOffset := 8 }] := by kernel_rfl
  have p1 : (part 3 #[.int .i64 a, .int .i64 b] 0).run Tryd.prog w = .ok (.int .i64 a) w := by kernel_rfl
  have p2 : (part 3 #[.int .i64 a, .int .i64 b] 1).run Tryd.prog w = .ok (.int .i64 b) w := by kernel_rfl
  have p3 : (part 3 #[.int .i64 c, .int .i64 d] 0).run Tryd.prog w = .ok (.int .i64 c) w := by kernel_rfl
  have p4 : (part 3 #[.int .i64 c, .int .i64 d] 1).run Tryd.prog w = .ok (.int .i64 d) w := by kernel_rfl
  have u := Tryd.underlying3
  show (Op.equalIn (9998 + 1 + 1) _ _ _).run _ _ = _
  rw [run_equalIn_agg w (9998 + 1) 25 _ _ (by kernel_rfl) (by kernel_rfl), e]
  simp only [Op.eqFields, Sem.run_bind, p1, p2, p3, p4, Result.andThen_ok, run_equalIn_int w 9998 3 .i64 .i64 _ _ u, ne_eq, Sem.run_ite, Sem.run_pure]
  by_cases h1 : a = c <;> by_cases h2 : b = d <;> simp [h1, h2]
theorem eqv_yes (a b : Int) (w : World) : (Op.equalIn 10000 25 (.agg #[.int .i64 a, .int .i64 b]) (.agg #[.int .i64 a, .int .i64 b])).run Tryd.prog w = .ok true w := by
  rw [eqv2]; simp
theorem eqv_no {a b c d : Int} (h : ¬ (a = c ∧ b = d)) (w : World) : (Op.equalIn 10000 25 (.agg #[.int .i64 a, .int .i64 b]) (.agg #[.int .i64 c, .int .i64 d])).run Tryd.prog w = .ok false w := by
  rw [eqv2, decide_eq_false h]
end Go.Proofs.YtbkekabhdpoddaaDoor
