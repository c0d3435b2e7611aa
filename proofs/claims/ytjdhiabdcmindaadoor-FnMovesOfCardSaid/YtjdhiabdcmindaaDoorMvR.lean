/- Moves as they come in, the copies that a law makes of them, their comparison, their marks. No condition. -/
import Derived.Test.YtjdhiabdcmindaaDoorTwo
import Derived.Test.YtjdhiabdcmindaaDoorOpen
namespace Go.Proofs.YtjdhiabdcmindaaDoor
section
set_option maxRecDepth 100000
open Go.RowKit

theorem info_move : (Tryd.prog.info? 35).map (fun i => (i.zero, i.size, i.bytes)) = some (some (.agg #[.int .i64 0, .int .i64 0]), 2, 16) := by kernel_rfl
theorem under_moves : Tryd.prog.underlying 27 = some (.slice 35) := by kernel_rfl
theorem elt_move : Elt Tryd.prog 27 35 2 16 := Elt.mk' (z := .agg #[.int .i64 0, .int .i64 0]) (by kernel_rfl) (by kernel_rfl) rfl (by decide)

end

section
set_option maxRecDepth 100000
open Go.RowKit Go.ChangeShapes Go.WideShapes Go.Deep
variable {H : Type} {enc : TypeId × Value → H} {w : World} {base : Nat} {spare : Nat → Bool} {held : Bool}
end
end Go.Proofs.YtjdhiabdcmindaaDoor
