/- The reference: nodes that are copied; a task is put into a copy of nodes. -/
import Derived.Test.YtfidamjepjgknaaI13
import Derived.Test.YtfidamjepjgknaaS11
import Derived.Test.YtfidamjepjgknaaDr4
import Derived.Test.YtfidamjepjgknaaOwn
namespace Go.Proofs.Ytfidamjepjgknaa
set_option maxRecDepth 100000
open Go.RowKit

theorem OwnTasks.lit1 {w : World} {B : Nat} {t : T} {n : Value} (hn : Ints w n t.need) (hB : B ≤ w.heap.size) : OwnTasks (w.alloc (.cells #[.int .i64 t.id, n] 37)) B (.slice (some ⟨w.heap.size, 0, none⟩) 1 1) [t] :=
  ⟨[.int .i64 t.id, n], World.ownsRow_lit w #[.int .i64 t.id, n] 1 hB (by simp [maxLen]) rfl, by simpa using (TaskCells.nil _).snoc (hn.ext ((Ext.refl w).alloc _))⟩
theorem OwnInts.lit0' (w : World) (B : Nat) (h : B ≤ w.heap.size) (n : Nat) (hn : n = w.heap.size) : OwnInts (w.alloc (.cells #[] 3)) B (.slice (some ⟨n, 0, none⟩) 0 0) [] := by subst hn; exact OwnInts.lit0 w B h
/-- A task's variable is written: its number, and its need. -/
theorem task_var {W w : World} {y : Nat} (hE : Ext W w) (hy : w.heap[y]? = some (.cells #[.int .i64 0, .slice none 0 0] 37 (0, 0))) (hb : W.heap.size ≤ y) (id : Int) (nv : Value) {need : List Int} (hi : Ints w nv need) :
    Ext W ((w.setCell ⟨y, 0, none⟩ (.int .i64 id)).setCell ⟨y, 1, none⟩ nv) ∧ ((w.setCell ⟨y, 0, none⟩ (.int .i64 id)).setCell ⟨y, 1, none⟩ nv).heap[y]? = some (.cells #[.int .i64 id, nv] 37 (0, 0)) ∧ Ints ((w.setCell ⟨y, 0, none⟩ (.int .i64 id)).setCell ⟨y, 1, none⟩ nv) nv need := by
  have h1 := heap_put (k := 0) hy (.int .i64 id)
  have h2 := heap_put (k := 1) h1 nv
  exact ⟨(hE.setCell (p := ⟨y, 0, none⟩) hb _).setCell (p := ⟨y, 1, none⟩) hb _, by simpa using h2, (hi.kt (KT.put (p := ⟨y, 0, none⟩) hy _) (by decide)).kt (KT.put (p := ⟨y, 1, none⟩) h1 _) (by decide)⟩

end Go.Proofs.Ytfidamjepjgknaa
