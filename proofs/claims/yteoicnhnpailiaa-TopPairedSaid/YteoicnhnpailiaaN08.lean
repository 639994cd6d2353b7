/- The walk of the reference's between. -/
import Derived.Test.YteoicnhnpailiaaN05
namespace Go.Proofs.Yteoicnhnpailiaa
open Go.RowKit Go.Sort

end Go.Proofs.Yteoicnhnpailiaa
