/- The reference's Sub, Div and Mul at valid ratios. -/
import Derived.Test.YtbkekabhdpoddaaDoorRg1
import Derived.Test.YtbkekabhdpoddaaDoorRb3
namespace Go.Proofs.YtbkekabhdpoddaaDoor
open Go.RowKit

set_option maxHeartbeats 800000 in
theorem rsub_any (q r : Rat) (w : World) (hq : inR q = true) (hr : inR r = true) :
    Calls Tryd.prog 29 #[.agg #[.int .i64 q.num, .int .i64 q.den], .agg #[.int .i64 r.num, .int .i64 r.den]] w fun e w' => e = .returned (.tuple #[.agg #[.int .i64 (oN (q - r)), .int .i64 (oD (q - r))], .int .i64 (oE (q - r))]) ∧ Below w.heap.size w w' := by
  have bd := add_bd hq hr
  have b1 := inR_bd hq
  have b2 := inR_bd hr
  have v1 := inR_vld hq
  have v2 := inR_vld hr
  have H := Lib.hid (sub_divInt q r)
  clear hq hr
  go_enter Tryd.func29, Tryd.ntmps29
  go_wp2_with (first | (go_at_call 33; refine (rvalid_any _ _ _ (by omega) (by omega) (by omega) (by omega)).mono ?_; rintro e w1 ⟨rfl, hb⟩; obtain ⟨hc, hf⟩ := bcell hb; have hz := hb.size; (try simp at hz); (have zl0 : w.heap.size < w1.heap.size := by omega); (have ze0 : w.heap.size ≤ w1.heap.size := by omega); (have zl1 : w.heap.size + 1 < w1.heap.size := by omega); (have ze1 : w.heap.size + 1 ≤ w1.heap.size := by omega); (have zl2 : w.heap.size + 1 + 1 < w1.heap.size := by omega); (have ze2 : w.heap.size + 1 + 1 ≤ w1.heap.size := by omega)) | (go_at_call 24; refine (rmake_any _ _ _ (by omega) (by omega) (by omega) (by omega) (by omega)).mono ?_; rintro e w1 ⟨rfl, hb⟩; obtain ⟨hc, hf⟩ := bcell hb; have hz := hb.size; (try simp at hz); (have zl0 : w.heap.size < w1.heap.size := by omega); (have ze0 : w.heap.size ≤ w1.heap.size := by omega); (have zl1 : w.heap.size + 1 < w1.heap.size := by omega); (have ze1 : w.heap.size + 1 ≤ w1.heap.size := by omega); (have zl2 : w.heap.size + 1 + 1 < w1.heap.size := by omega); (have ze2 : w.heap.size + 1 + 1 ≤ w1.heap.size := by omega)))
  refine bodyPost_ret (by simp [results, Tryd.results29, go_sem, *]; rfl) rfl ⟨?_, ?_⟩
  · rw [H.out]
  · (repeat (first | exact Below.refl _ _ | refine below_drewN ?_ _ | refine Below.drew ?_ | refine below_alloc ?_ _ | refine Below.setCell ?_ (by first | omega | (simp; done) | (simp; omega)) _ | refine below_then ?_ (by assumption)))
theorem size_q (n : Int) (h1 : -9223372036854775808 ≤ n) (h2 : n ≤ 9223372036854775807) (W : World) : Calls Tryd.prog 49 #[.int .i64 n] W fun e w' => e = .returned (.int .u64 (mag n)) ∧ Below W.heap.size W w' :=
  (size_any n W h1 h2).mono fun _ _ ⟨a, b⟩ => ⟨a, by subst b; exact Below.refl _ _⟩
theorem gcd_q (a b : Int) (W : World) (ha : 0 ≤ a) (hb : 0 ≤ b) (ha' : a < 18446744073709551616) (hb' : b < 18446744073709551616) : Calls Tryd.prog 14 #[.int .u64 a, .int .u64 b] W fun e w' => e = .returned (.int .u64 (Int.gcd a b)) ∧ Below W.heap.size W w' :=
  (gcd_any a b W ha hb ha' hb').mono fun _ _ ⟨a, n, b⟩ => ⟨a, by subst b; exact below_drewN (Below.refl _ _) n⟩

end Go.Proofs.YtbkekabhdpoddaaDoor
