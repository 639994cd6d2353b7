/- The walks of package netting and its reference, fourth part: opposite, Minus, Zero, the reference's position. -/
import Derived.Test.YteoicnhnpailiaaN03
import Derived.Test.YteoicnhnpailiaaQt
namespace Go.Proofs.Yteoicnhnpailiaa
open Go.RowKit Go.Sort

theorem tup1 {a b a' b' : Int} (h1 : a = a') (h2 : b = b') : Ending.returned (.agg #[.int .i64 a, .int .i64 b]) = .returned (.agg #[.int .i64 a', .int .i64 b']) := by rw [h1, h2]

/-- netting.opposite -/
theorem opp_any (n d : Int) (w : World) (h1 : -1000000000000 ≤ n) (h2 : n ≤ 1000000000000) :
    Calls Try.prog 46 #[.agg #[.int .i64 n, .int .i64 d]] w fun e w' => e = .returned (.agg #[.int .i64 (-n), .int .i64 d]) ∧ Below w.heap.size w w' := by
  go_enter Try.func46, Try.ntmps46
  go_wp2
  refine bodyPost_ret (by simp [results, Try.results46, go_sem]; rfl) rfl ⟨?_, ?_⟩
  · rfl
  · (repeat (first | exact Below.refl _ _ | refine below_drewN ?_ _ | refine Below.drew ?_ | refine below_alloc ?_ _ | refine Below.setCell ?_ (by first | omega | (simp; done) | (simp; omega)) _ | refine below_then ?_ (by assumption)))

end Go.Proofs.Yteoicnhnpailiaa
