/- What the rows list of math/bits' tables gives the walks ('TabW'), and the heap that the door's run leaves meets it. No condition. -/
import Derived.Test.YtfidamjepjgknaaDoorBit
import Derived.Test.YtfidamjepjgknaaDoorTie
import Derived.Test.YtfidamjepjgknaaDoorCards
import Derived.Lib.LaidTab
import Derived.Stop.LaidErr
import Derived.LaidMore
import Derived.SevenTiedAt
import Derived.ProofKit
import Derived.Stop.Joined
namespace Go.Proofs.YtfidamjepjgknaaDoor
set_option maxRecDepth 100000
open Go.ChangeShapes Go.WideShapes Go.RowKit

def laidL : List (String × DataW Unit) := [("math/bits.deBruijn32tab", Rows.laid_math_bits_deBruijn32tab), ("math/bits.deBruijn64tab", Rows.laid_math_bits_deBruijn64tab)]
theorem g64 : Tryd.prog.globalNamed "math/bits.deBruijn64tab" = some 1 := by kernel_rfl
theorem met_tab {W : World} (h : laidMetH Tryd.prog laidL W) : TabW W := by
  rw [MakeChecks.laidMetH_plain _ _ _ (by kernel_rfl)] at h
  have h2 := laidMet.tail h
  have t := Lib.tabIs_of_head (k := .u8) (zs := Lib.deBruijn64tab.map fun (n : Nat) => (n : Int)) (rest := []) (n := 64) (t := 81) (e := 5) g64 (by kernel_rfl) (by kernel_rfl) (by kernel_rfl) (by kernel_rfl) (by kernel_rfl) h2
  intro j hj
  have hl : Lib.deBruijn64tab.length = 64 := rfl
  have := t.cell g64 j (by rw [List.length_map, hl]; exact hj)
  rw [this, List.getD_eq_getElem?_getD, List.getD_eq_getElem?_getD, List.getElem?_map, List.getElem?_eq_getElem (by omega)]
  rfl
theorem door_met (os : Os) (args : Array Value) : laidMetH Tryd.prog laidL ((World.doorLaid Tryd.prog 19 os).forCall (fun _ _ => 0) ⟨#[], args, []⟩).memory :=
  laidMetH_of_parts3 (fuel := 8) (laidMet_of_run' 8 (by kernel_rfl) (by kernel_rfl)) (by kernel_rfl) (by kernel_rfl)

end Go.Proofs.YtfidamjepjgknaaDoor
