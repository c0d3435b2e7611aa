/- The reference puts a task into a node; the row that it answers has room for its nodes. No condition. -/
import Derived.Test.YtjdhiabdcmindaaS12
import Derived.Test.YtjdhiabdcmindaaDr14
namespace Go.Proofs.Ytjdhiabdcmindaa
set_option maxRecDepth 100000
open Go.RowKit

end Go.Proofs.Ytjdhiabdcmindaa
