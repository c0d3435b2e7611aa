/- The program: may a task come, has a node room. -/
import Derived.Test.YtfidamjepjgknaaI8
import Derived.Test.YtfidamjepjgknaaS8
import Derived.Deep.RegionHeld3
import Derived.Deep.RegionWith
namespace Go.Proofs.Ytfidamjepjgknaa
set_option maxRecDepth 100000
open Go.RowKit

end Go.Proofs.Ytfidamjepjgknaa
