/- The program: a task is put into a node; all tasks are put where a chooser tells. -/
import Derived.Test.YtfidamjepjgknaaDoorI13
import Derived.Test.YtfidamjepjgknaaDoorNestS
namespace Go.Proofs.YtfidamjepjgknaaDoor
set_option maxRecDepth 100000
open Go.RowKit

/-- What lies between two sizes of memory is as it was. -/
def New (s : Nat) (w w' : World) : Prop := ∀ x, s ≤ x → x < w.heap.size → w'.heap[x]? = w.heap[x]?
theorem New.cell {s : Nat} {w w' : World} (h : New s w w') {b o : Nat} {v : Value} (hb : s ≤ b) (hc : w.cell? ⟨b, o, none⟩ = some v) : w'.cell? ⟨b, o, none⟩ = some v := by
  have hlt : b < w.heap.size := World.block_lt_of_cell? w ⟨b, o, none⟩ hc
  rw [World.cell?_of_block (w := w) (a := ⟨b, o, none⟩) (h b hb hlt)]
  exact hc
theorem nodeI_neg {o : Option Nat} (h : o = none) : decide (nodeI o < 0) = true := by subst h; decide
theorem nodeI_pos {o : Option Nat} {k : Nat} (h : o = some k) : nodeI o = (k : Int) := by subst h; rfl

end Go.Proofs.YtfidamjepjgknaaDoor
