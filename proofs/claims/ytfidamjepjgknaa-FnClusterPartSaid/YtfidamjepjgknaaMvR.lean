/- Moves as they come in, the copies that a law makes of them, their comparison, their marks. No condition. -/
import Derived.Test.YtfidamjepjgknaaTwo
import Derived.Test.YtfidamjepjgknaaOpen
namespace Go.Proofs.Ytfidamjepjgknaa
section
set_option maxRecDepth 100000
open Go.RowKit

end

section
set_option maxRecDepth 100000
open Go.RowKit Go.ChangeShapes Go.WideShapes Go.Deep
variable {H : Type} {enc : TypeId × Value → H} {w : World} {base : Nat} {spare : Nat → Bool} {held : Bool}
end
end Go.Proofs.Ytfidamjepjgknaa
