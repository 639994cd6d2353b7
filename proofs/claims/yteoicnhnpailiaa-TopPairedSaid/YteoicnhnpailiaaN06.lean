/- The walk of the reference's Valid of netting. -/
import Derived.Test.YteoicnhnpailiaaN01
namespace Go.Proofs.Yteoicnhnpailiaa
open Go.RowKit

end Go.Proofs.Yteoicnhnpailiaa
