/- The program: nodes that are copied; a task is put into a copy of nodes. -/
import Derived.Test.YtfidamjepjgknaaI15
namespace Go.Proofs.Ytfidamjepjgknaa
set_option maxRecDepth 100000
open Go.RowKit

theorem put_len14 {room : List Int} {bs : List (List T)} {x : T} (h : ok11 room bs x = true) : (putL bs (at11 room bs x) x).length ≤ 14 := by
  obtain ⟨h1, h2, _⟩ := ok11_facts h
  have hl := h2.2.1
  rw [List.length_append, List.length_singleton] at hl
  rcases at11_chooses room bs x with ⟨e, hn⟩ | ⟨k, hk, e, _⟩
  · rw [e, putL_none, List.length_append, List.length_singleton]
    have key : ∀ l : List (List T), (∀ b ∈ l, b ≠ []) → l.length ≤ l.flatten.length := by
      intro l
      induction l with
      | nil => intro _; simp
      | cons b r ih =>
        intro hb
        have h1 := ih fun c hc => hb c (by simp [hc])
        have h2 : 0 < b.length := List.length_pos_iff.2 (hb b (by simp))
        rw [List.flatten_cons, List.length_append, List.length_cons]
        omega
    have := key bs fun b hb e0 => by
      have := hn b hb
      rw [e0, fits_empty h2] at this
      cases this
    omega
  · rw [e, putL_some hk, List.length_set]
    exact h1.2.1

/-- Nodes with a further task. -/
def firstPutL (room : List Int) (bs : List (List T)) (x : T) : List (List T) := if ok11 room bs x = true then putL bs (at11 room bs x) x else []

end Go.Proofs.Ytfidamjepjgknaa
