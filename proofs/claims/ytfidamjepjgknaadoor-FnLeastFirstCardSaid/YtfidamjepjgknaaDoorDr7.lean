/- Drawn numbers of tasks, drawn tasks beside drawn nodes. No condition. -/
import Derived.Test.YtfidamjepjgknaaDoorDr4
namespace Go.Proofs.YtfidamjepjgknaaDoor
set_option maxRecDepth 100000
open Go.RowKit

theorem Dr.block {B P : Nat} {r : Value} {w w1 : World} (h : Dr B r P w w1) {b : Nat} {cs : Array Value} {t : TypeId} {fz : Nat × Nat} (hb : w.heap[b]? = some (.cells cs t fz)) (ne : t ≠ 52) : w1.heap[b]? = some (.cells cs t fz) := (h.kt.2 _ _ _ _ hb ne).trans hb

theorem DnB.snoc {bs : List (List T)} (h : DnB bs) : DnB (bs ++ [[]]) := fun b hb => by
  rcases List.mem_append.1 hb with hb | hb
  · exact h b hb
  · simp at hb
    subst hb
    intro t ht
    simp at ht

end Go.Proofs.YtfidamjepjgknaaDoor
