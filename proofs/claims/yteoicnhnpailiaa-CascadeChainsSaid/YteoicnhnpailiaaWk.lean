/- Small helps for walks. -/
import Derived.Test.YteoicnhnpailiaaN01
import Derived.Test.YteoicnhnpailiaaQt
import Derived.Test.YteoicnhnpailiaaQa
import Derived.Test.YteoicnhnpailiaaOwn
import Derived.Test.YteoicnhnpailiaaBox
import Derived.Deep.Cut
import Derived.Deep.CutRange
namespace Go.Proofs.Yteoicnhnpailiaa
open Go.RowKit Go.Sort

theorem name_wp {P : Program} {c : Code} {Q : Exit → Act → World → Prop} {a : Act} {w : World} (h : ∀ w', w' = w → c.wp P Q a w') : c.wp P Q a w := h w rfl
theorem hbb (b : Bool) : b = true ∨ b = false := by cases b <;> simp
theorem tup_ii {a b a' b' : Int} (h1 : a = a') (h2 : b = b') : Ending.returned (.tuple #[.int .i64 a, .int .i64 b]) = .returned (.tuple #[.int .i64 a', .int .i64 b']) := by rw [h1, h2]
theorem size_alloc (w : World) (o : Obj) : (w.alloc o).heap.size = w.heap.size + 1 := by
  show (w.heap.push o).size = _
  simp
end Go.Proofs.Yteoicnhnpailiaa
