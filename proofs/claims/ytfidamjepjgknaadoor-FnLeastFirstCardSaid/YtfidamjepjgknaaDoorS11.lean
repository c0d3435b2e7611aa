/- The reference: the score of a task in a node. -/
import Derived.Test.YtfidamjepjgknaaDoorI12
import Derived.Test.YtfidamjepjgknaaDoorS10
namespace Go.Proofs.YtfidamjepjgknaaDoor
set_option maxRecDepth 100000
open Go.RowKit

end Go.Proofs.YtfidamjepjgknaaDoor
