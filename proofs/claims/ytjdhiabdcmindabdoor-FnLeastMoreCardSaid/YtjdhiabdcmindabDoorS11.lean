/- The reference: the score of a task in a node. -/
import Derived.Test.YtjdhiabdcmindabDoorI12
import Derived.Test.YtjdhiabdcmindabDoorS10
namespace Go.Proofs.YtjdhiabdcmindabDoor
set_option maxRecDepth 100000
open Go.RowKit

end Go.Proofs.YtjdhiabdcmindabDoor
