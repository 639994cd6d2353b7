/- The walk of the reference's Positions. -/
import Derived.Test.YteoicnhnpailiaaN05
import Derived.Test.YteoicnhnpailiaaN06
namespace Go.Proofs.Yteoicnhnpailiaa
open Go.RowKit Go.Sort

end Go.Proofs.Yteoicnhnpailiaa
