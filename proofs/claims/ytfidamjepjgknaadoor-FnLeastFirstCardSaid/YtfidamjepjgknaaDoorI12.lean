/- The program: the score of a task in a node. -/
import Derived.Test.YtfidamjepjgknaaDoorI11
namespace Go.Proofs.YtfidamjepjgknaaDoor
set_option maxRecDepth 100000
open Go.RowKit

def bestScoreI (room : List Int) (b : List T) (x : T) : Int := if ok11 room [b] x = true then scoreI room b x else -1
theorem ok11_one {room : List Int} {b : List T} {x : T} (h : ok11 room [b] x = true) : BinsOk room [b] ∧ TasksOk room (b ++ [x]) := by
  unfold ok11 at h
  rw [Bool.and_eq_true] at h
  exact ⟨binsB_iff.1 h.1, by simpa using tasksB_iff.1 h.2⟩
theorem ok11_len {room : List Int} {b : List T} {x : T} (h : ok11 room [b] x = true) : b.length ≤ 50 := by
  have := (ok11_one h).2.2.1
  rw [List.length_append] at this
  omega
theorem ok11_good {room : List Int} {b : List T} {x : T} (h : ok11 room [b] x = true) : Good b ∧ Good1 x :=
  ⟨fun t ht => (ok11_one h).2.good t (by simp [ht]), (ok11_one h).2.good x (by simp)⟩

end Go.Proofs.YtfidamjepjgknaaDoor
