/- The calls on a calendar, with their outcomes as letters. -/
import Derived.Test.YtikjjhodbijfnaaDoorD14
import Derived.Test.YtikjjhodbijfnaaDoorD15
namespace Go.Proofs.YtikjjhodbijfnaaDoor
open Go.RowKit Go.Sort

section
variable (b0 b1 b2 b3 b4 b5 b6 : Bool) (A : Option Addr) (hs : List Int) (c : Nat)
abbrev cldE (b0 b1 b2 b3 b4 b5 b6 : Bool) (hs : List Int) : Cld := ⟨[b0, b1, b2, b3, b4, b5, b6], hs⟩
/-- the calls on a calendar, with the outcomes as letters -/
theorem Kal.count {w0 : World} (hk : Kal w0 A hs c) (x y v z : Int) (h : countF (cldE b0 b1 b2 b3 b4 b5 b6 hs) x y = (v, z)) (w : World) (hb : Below w0.heap.size w0 w) :
    Calls Tryd.prog 18 #[.agg (calA b0 b1 b2 b3 b4 b5 b6 (.slice A hs.length c)), .int .i64 x, .int .i64 y] w fun e w' => e = .returned (.tuple #[.int .i64 v, .int .i64 z]) ∧ Below w.heap.size w w' := by
  have := Count_any b0 b1 b2 b3 b4 b5 b6 A hs c w x y (hk.then_ hb)
  rwa [h] at this
theorem Kal.next {w0 : World} (hk : Kal w0 A hs c) (x v z : Int) (h : nextF (cldE b0 b1 b2 b3 b4 b5 b6 hs) x = (v, z)) (w : World) (hb : Below w0.heap.size w0 w) :
    Calls Tryd.prog 14 #[.agg (calA b0 b1 b2 b3 b4 b5 b6 (.slice A hs.length c)), .int .i64 x] w fun e w' => e = .returned (.tuple #[.int .i64 v, .int .i64 z]) ∧ Below w.heap.size w w' := by
  have := next_any b0 b1 b2 b3 b4 b5 b6 A hs c w x (hk.then_ hb)
  rwa [h] at this
theorem Kal.add {w0 : World} (hk : Kal w0 A hs c) (x y v z : Int) (h : addF (cldE b0 b1 b2 b3 b4 b5 b6 hs) x y = (v, z)) (w : World) (hb : Below w0.heap.size w0 w) :
    Calls Tryd.prog 17 #[.agg (calA b0 b1 b2 b3 b4 b5 b6 (.slice A hs.length c)), .int .i64 x, .int .i64 y] w fun e w' => e = .returned (.tuple #[.int .i64 v, .int .i64 z]) ∧ Below w.heap.size w w' := by
  have := add_any b0 b1 b2 b3 b4 b5 b6 A hs c w x y (hk.then_ hb)
  rwa [h] at this
theorem Kal.biz {w0 : World} (hk : Kal w0 A hs c) (x : Int) (r : Bool) (h : bizF (cldE b0 b1 b2 b3 b4 b5 b6 hs) x = r) (w : World) (hb : Below w0.heap.size w0 w) :
    Calls Tryd.prog 16 #[.agg (calA b0 b1 b2 b3 b4 b5 b6 (.slice A hs.length c)), .int .i64 x] w fun e w' => e = .returned (.bool r) ∧ Below w.heap.size w w' := by
  have := business_any b0 b1 b2 b3 b4 b5 b6 A hs c w x (hk.then_ hb)
  rwa [h] at this
theorem Kal.few (r : Bool) {w0 : World} (hk : Kal w0 A hs c) (h : decide (hs.length ≤ 500) = r) (w : World) :
    Calls Tryd.prog 15 #[.agg (calA b0 b1 b2 b3 b4 b5 b6 (.slice A hs.length c))] w fun e w' => e = .returned (.bool r) ∧ Below w.heap.size w w' := by
  have := few_any b0 b1 b2 b3 b4 b5 b6 A hs c w hk.hl
  rwa [h] at this
end
end Go.Proofs.YtikjjhodbijfnaaDoor
