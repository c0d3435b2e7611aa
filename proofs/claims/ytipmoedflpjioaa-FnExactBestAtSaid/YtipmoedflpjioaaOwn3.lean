/- Appends whose literal lies in memory beside them, in whatever order; what a literal keeps. No condition. -/
import Derived.Test.YtipmoedflpjioaaNest
namespace Go.Proofs.Ytipmoedflpjioaa
set_option maxRecDepth 100000
open Go.RowKit

/-- A literal of one task, known by its block. -/
theorem Tasks.of_heap {w : World} {b c : Nat} {t : T} {n : Value} (hb : w.heap[b]? = some (.cells #[.int .i64 t.id, n] 38 (0, 0))) (hn : Ints w n t.need) : Tasks w (.slice (some ⟨b, 0, none⟩) 1 c) [t] :=
  ⟨by simp [lim], _, c, [.int .i64 t.id, n], rfl, .inr ⟨b, 0, _, rfl, hb, fun k _ => by simp⟩, by simpa using (TaskCells.nil w).snoc hn⟩
/-- A literal of one node, known by its block. -/
theorem Bins.of_heap {w : World} {b c : Nat} {ts : List T} {n : Value} (hb : w.heap[b]? = some (.cells #[n] 27 (0, 0))) (hn : Tasks w n ts) : Bins w (.slice (some ⟨b, 0, none⟩) 1 c) [ts] :=
  ⟨by simp [lim], _, c, [n], rfl, .inr ⟨b, 0, _, rfl, hb, fun k _ => by simp⟩, by simpa using (BinCells.nil w).snoc hn⟩
theorem OwnTasks.lit0' (w : World) (B : Nat) (h : B ≤ w.heap.size) (n : Nat) (hn : n = w.heap.size) : OwnTasks (w.alloc (.cells #[] 38)) B (.slice (some ⟨n, 0, none⟩) 0 0) [] := by subst hn; exact OwnTasks.lit0 w B h
theorem grown_heap {w w1 : World} {b g : Nat} {o : Obj} (hb : w.heap[b]? = some o) (hg : w.grownBy w1 (some g)) (ne : b ≠ g) : w1.heap[b]? = some o := by
  have hlt := lt_of_heap hb
  rw [hg.block b hlt (by simp; omega)]
  exact hb
theorem heap1 (w : World) (o p : Obj) : ((w.alloc o).alloc p).drew.heap[w.heap.size]? = some o := (Below.heap_alloc (w.alloc o) p _ (by simp)).trans (heap_alloc_new w o)
theorem heap2 (w : World) (o p : Obj) : ((w.alloc o).alloc p).drew.heap[w.heap.size + 1]? = some p := by
  have := heap_alloc_new (w.alloc o) p
  rwa [World.size_alloc] at this
theorem Ext.of_grown {w0 w w' : World} {g : Nat} (h : Ext w0 w) (k : w.grownBy w' (some g)) (hg : w0.heap.size ≤ g) : Ext w0 w' :=
  ⟨k.os.trans h.os, k.tape.trans h.tape, k.output.trans h.output, Nat.le_trans h.le k.size, fun b hb => (k.block b (Nat.lt_of_lt_of_le hb h.le) (by simp; omega)).trans (h.block hb)⟩

theorem OwnBins.lit0' (w : World) (B : Nat) (h : B ≤ w.heap.size) (n : Nat) (hn : n = w.heap.size) : OwnBins (w.alloc (.cells #[] 27)) B (.slice (some ⟨n, 0, none⟩) 0 0) [] := by subst hn; exact OwnBins.lit0 w B h
theorem Tasks.lit1' {w : World} {t : T} {n : Value} (hn : Ints w n t.need) (c k : Nat) (hk : k = w.heap.size) : Tasks (w.alloc (.cells #[.int .i64 t.id, n] 38)) (.slice (some ⟨k, 0, none⟩) 1 c) [t] := by subst hk; exact Tasks.lit1 hn c
theorem Bins.lit1' {w : World} {b : List T} {n : Value} (hn : Tasks w n b) (c k : Nat) (hk : k = w.heap.size) : Bins (w.alloc (.cells #[n] 27)) (.slice (some ⟨k, 0, none⟩) 1 c) [b] := by subst hk; exact Bins.lit1 hn c
/-- The k-th object that a literal world holds above 'w'. -/
theorem heap_push (w : World) (o : Obj) {n : Nat} (hn : n = w.heap.size) : (w.alloc o).heap[n]? = some o := by subst hn; exact heap_alloc_new w o
theorem heap_skip (w : World) (p : Obj) {n : Nat} {o : Obj} (h : w.heap[n]? = some o) : (w.alloc p).heap[n]? = some o := (Below.heap_alloc w p _ (lt_of_heap h)).trans h
theorem heap_drew (w : World) {n : Nat} {o : Obj} (h : w.heap[n]? = some o) : w.drew.heap[n]? = some o := h
theorem Tasks.grown {w w1 : World} {b c g : Nat} {t : T} {n : Value} (hb : w.heap[b]? = some (.cells #[.int .i64 t.id, n] 38 (0, 0))) (hg : w.grownBy w1 (some g)) (ne : b ≠ g) (hn : Ints w1 n t.need) : Tasks w1 (.slice (some ⟨b, 0, none⟩) 1 c) [t] := Tasks.of_heap (grown_heap hb hg ne) hn
theorem Bins.grown {w w1 : World} {b c g : Nat} {ts : List T} {n : Value} (hb : w.heap[b]? = some (.cells #[n] 27 (0, 0))) (hg : w.grownBy w1 (some g)) (ne : b ≠ g) (hn : Tasks w1 n ts) : Bins w1 (.slice (some ⟨b, 0, none⟩) 1 c) [ts] := Bins.of_heap (grown_heap hb hg ne) hn

section
variable {a : Act} {w : World} {K : Act → World → Prop} {Q : Exit → Act → World → Prop} {o : Oper} {ops : Array Oper}
theorem stepg_app2_bins {E : Prop} (hgw : Region.wanted o (yielded ops a.tmps) = true) (s x : Operand) (ho : o.op = .call { callee := .builtin .append, args := #[s, x], argTypes := #[24, 24] }) (B : Nat) (v : Value) (ts : List (List T)) (hs : a.eval s = v) (hown : OwnBins w B v ts) (hB : B ≤ w.heap.size)
    (src : Option Addr) (m c : Nat) (us : List (List T)) (hx : a.eval x = .slice src m c) (hsrc : Bins w (.slice src m c) us) (hl : ts.length + us.length ≤ lim)
    (h : ∀ v' w', OwnBins w' B v' (ts ++ us) → w.grownBy w' v.ownBlock → (v'.ownBlock = v.ownBlock ∨ v'.ownBlock = some w.heap.size) → K (a.put o.dst v') w') : if Region.wanted o (yielded ops a.tmps) = true then Oper.wp Try.prog o a w K Q else E := by
  rw [if_pos hgw]
  obtain ⟨rfl, ys, hr, hc⟩ := hsrc.parts
  obtain ⟨xs, hown, hcx⟩ := hown
  unfold lim at hl
  obtain ⟨v', w', hr, h2, h3, h4⟩ := run_app2 elt_bin o.type w B v ts.length xs hown hB src us.length c ys (by simpa using hc.1) _ hr hc.one (by omega) (by unfold maxLen; omega)
  unfold Oper.wp execOp
  simp only [ho, resolve, invoke, builtin, Sem.run_bind, Sem.run_pure, Result.andThen_ok, List.map_toArray, List.map_cons, List.map_nil, hs, hx, hr]
  exact h v' w' ⟨xs ++ ys, by simpa using h2, (hcx.app hc).kt (grownBy_kt hown h3) (by decide) (by decide)⟩ h3 h4
end

end Go.Proofs.Ytipmoedflpjioaa
