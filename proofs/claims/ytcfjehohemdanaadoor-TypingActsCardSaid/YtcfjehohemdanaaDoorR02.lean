/- The contracts of the functions of package ratio, second part: fraction, Make, Add, Sub, Div, Cmp. -/
import Derived.Test.YtcfjehohemdanaaDoorR01
namespace Go.Proofs.YtcfjehohemdanaaDoor
open Go.RowKit

theorem tup_ok {a b a' b' e e' : Int} (h1 : a = a') (h2 : b = b') (h3 : e = e') : Ending.returned (.tuple #[.agg #[.int .i64 a, .int .i64 b], .int .i64 e]) = .returned (.tuple #[.agg #[.int .i64 a', .int .i64 b'], .int .i64 e']) := by rw [h1, h2, h3]

end Go.Proofs.YtcfjehohemdanaaDoor
