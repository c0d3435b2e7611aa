/- The reference: the score of a task in a node. -/
import Derived.Test.YtfidamjepjgknaaI12
import Derived.Test.YtfidamjepjgknaaS10
namespace Go.Proofs.Ytfidamjepjgknaa
set_option maxRecDepth 100000
open Go.RowKit

end Go.Proofs.Ytfidamjepjgknaa
