/- Appends whose literal lies in memory beside them, in whatever order; what a literal keeps. No condition. -/
import Derived.Test.YtnjgljeejdkbmaaNest
namespace Go.Proofs.Ytnjgljeejdkbmaa
set_option maxRecDepth 100000
open Go.RowKit

/-- A literal of one task, known by its block. -/
theorem Tasks.of_heap {w : World} {b c : Nat} {t : T} {n : Value} (hb : w.heap[b]? = some (.cells #[.int .i64 t.id, n] 49 (0, 0))) (hn : Ints w n t.need) : Tasks w (.slice (some ⟨b, 0, none⟩) 1 c) [t] :=
  ⟨by simp [lim], _, c, [.int .i64 t.id, n], rfl, .inr ⟨b, 0, _, rfl, hb, fun k _ => by simp⟩, by simpa using (TaskCells.nil w).snoc hn⟩
/-- A literal of one node, known by its block. -/
theorem Bins.of_heap {w : World} {b c : Nat} {ts : List T} {n : Value} (hb : w.heap[b]? = some (.cells #[n] 27 (0, 0))) (hn : Tasks w n ts) : Bins w (.slice (some ⟨b, 0, none⟩) 1 c) [ts] :=
  ⟨by simp [lim], _, c, [n], rfl, .inr ⟨b, 0, _, rfl, hb, fun k _ => by simp⟩, by simpa using (BinCells.nil w).snoc hn⟩
theorem OwnTasks.lit0' (w : World) (B : Nat) (h : B ≤ w.heap.size) (n : Nat) (hn : n = w.heap.size) : OwnTasks (w.alloc (.cells #[] 49)) B (.slice (some ⟨n, 0, none⟩) 0 0) [] := by subst hn; exact OwnTasks.lit0 w B h
theorem grown_heap {w w1 : World} {b g : Nat} {o : Obj} (hb : w.heap[b]? = some o) (hg : w.grownBy w1 (some g)) (ne : b ≠ g) : w1.heap[b]? = some o := by
  have hlt := lt_of_heap hb
  rw [hg.block b hlt (by simp; omega)]
  exact hb
theorem heap1 (w : World) (o p : Obj) : ((w.alloc o).alloc p).drew.heap[w.heap.size]? = some o := (Below.heap_alloc (w.alloc o) p _ (by simp)).trans (heap_alloc_new w o)
theorem heap2 (w : World) (o p : Obj) : ((w.alloc o).alloc p).drew.heap[w.heap.size + 1]? = some p := by
  have := heap_alloc_new (w.alloc o) p
  rwa [World.size_alloc] at this
theorem Ext.of_grown {w0 w w' : World} {g : Nat} (h : Ext w0 w) (k : w.grownBy w' (some g)) (hg : w0.heap.size ≤ g) : Ext w0 w' :=
  ⟨k.os.trans h.os, k.tape.trans h.tape, k.output.trans h.output, Nat.le_trans h.le k.size, fun b hb => (k.block b (Nat.lt_of_lt_of_le hb h.le) (by simp; omega)).trans (h.block hb)⟩

end Go.Proofs.Ytnjgljeejdkbmaa
