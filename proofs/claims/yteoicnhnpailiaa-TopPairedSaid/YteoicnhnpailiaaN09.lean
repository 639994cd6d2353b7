/- The walk of the reference's Pairs. -/
import Derived.Test.YteoicnhnpailiaaN07
import Derived.Test.YteoicnhnpailiaaN08
namespace Go.Proofs.Yteoicnhnpailiaa
open Go.RowKit Go.Sort

/-- what Pairs and Net hand back -/
def LstP (o : Option (List Db)) (w w' : World) (e : Ending) : Prop :=
  match o with
  | some ys => ∃ v, e = .returned (.tuple #[v, .int .i64 0]) ∧ Own w' w.heap.size 55 4 encD v ys
  | none => e = .returned (.tuple #[.slice none 0 0, .int .i64 2])

end Go.Proofs.Yteoicnhnpailiaa
