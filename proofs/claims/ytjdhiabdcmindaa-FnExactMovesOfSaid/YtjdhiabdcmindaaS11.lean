/- The reference: the score of a task in a node. -/
import Derived.Test.YtjdhiabdcmindaaI12
import Derived.Test.YtjdhiabdcmindaaS10
namespace Go.Proofs.Ytjdhiabdcmindaa
set_option maxRecDepth 100000
open Go.RowKit

end Go.Proofs.Ytjdhiabdcmindaa
