/- The reference: the score of a task in a node. -/
import Derived.Test.YtjdhiabdcmindaaDoorI12
import Derived.Test.YtjdhiabdcmindaaDoorS10
namespace Go.Proofs.YtjdhiabdcmindaaDoor
set_option maxRecDepth 100000
open Go.RowKit

end Go.Proofs.YtjdhiabdcmindaaDoor
