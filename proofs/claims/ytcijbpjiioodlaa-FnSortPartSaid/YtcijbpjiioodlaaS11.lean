/- The reference: the score of a task in a node. -/
import Derived.Test.YtcijbpjiioodlaaI12
import Derived.Test.YtcijbpjiioodlaaS10
namespace Go.Proofs.Ytcijbpjiioodlaa
set_option maxRecDepth 100000
open Go.RowKit

end Go.Proofs.Ytcijbpjiioodlaa
