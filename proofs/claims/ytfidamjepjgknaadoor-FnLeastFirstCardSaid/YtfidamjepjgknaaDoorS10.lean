/- The reference: all tasks, may a task come, the first node, scores. -/
import Derived.Test.YtfidamjepjgknaaDoorS9
import Derived.Test.YtfidamjepjgknaaDoorI9
namespace Go.Proofs.YtfidamjepjgknaaDoor
set_option maxRecDepth 100000
open Go.RowKit

theorem binsTasks_lim (room : List Int) (bs : List (List T)) : (binsTasksL room bs).length ≤ 1000 ∧ ∀ t ∈ binsTasksL room bs, t.need.length ≤ 1000 := by
  unfold binsTasksL
  split
  · rename_i hb
    have h1 := (binsB_iff.1 hb)
    exact ⟨by have := h1.1.2.1; omega, fun t ht => by have := h1.three t ht; omega⟩
  · simp

end Go.Proofs.YtfidamjepjgknaaDoor
