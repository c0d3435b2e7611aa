/- The reference: the score of a task in a node. -/
import Derived.Test.YtapkpphdkdbclaaI12
import Derived.Test.YtapkpphdkdbclaaS10
namespace Go.Proofs.Ytapkpphdkdbclaa
set_option maxRecDepth 100000
open Go.RowKit

end Go.Proofs.Ytapkpphdkdbclaa
