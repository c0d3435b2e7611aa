/- Tasks and nodes in memory of their own: each need in a block of its own. No condition. -/
import Derived.Test.YtipmoedflpjioaaNest
namespace Go.Proofs.Ytipmoedflpjioaa
set_option maxRecDepth 100000
open Go.RowKit

theorem info_int : (Try.prog.info? 3).map (fun i => (i.zero, i.size, i.bytes)) = some (some (.int .i64 0), 1, 8) := by kernel_rfl
theorem under_ints : Try.prog.underlying 23 = some (.slice 3) := by kernel_rfl
theorem info_task : (Try.prog.info? 38).map (fun i => (i.zero, i.size, i.bytes)) = some (some (.agg #[.int .i64 0, .slice none 0 0]), 2, 32) := by kernel_rfl
theorem under_tasks : Try.prog.underlying 27 = some (.slice 38) := by kernel_rfl
theorem info_bin : (Try.prog.info? 27).map (fun i => (i.zero, i.size, i.bytes)) = some (some (.slice none 0 0), 1, 24) := by kernel_rfl
theorem under_bins : Try.prog.underlying 24 = some (.slice 27) := by kernel_rfl

/-- How many numbers the needs hold. -/
def needs (ts : List T) : Nat := (ts.map fun t => t.need.length).sum
theorem needs_step {ts : List T} {k : Nat} (h : k < ts.length) : needs (ts.take (k + 1)) = needs (ts.take k) + ts[k].need.length := by
  unfold needs
  rw [List.take_succ_eq_append_getElem h, List.map_append, List.sum_append]
  simp
theorem needs_le {ts : List T} {k : Nat} (h : k < ts.length) : ts[k].need.length ≤ needs ts := by
  have h1 : needs ts = needs (ts.take (k + 1)) + needs (ts.drop (k + 1)) := by
    unfold needs
    rw [← List.sum_append, ← List.map_append, List.take_append_drop]
  rw [h1, needs_step h]
  omega
/-- How many tasks and numbers the nodes hold. -/
def weigh (bs : List (List T)) : Nat := (bs.map fun b => b.length + needs b).sum
theorem weigh_step {bs : List (List T)} {k : Nat} (h : k < bs.length) : weigh (bs.take (k + 1)) = weigh (bs.take k) + (bs[k].length + needs bs[k]) := by
  unfold weigh
  rw [List.take_succ_eq_append_getElem h, List.map_append, List.sum_append]
  simp
theorem weigh_le {bs : List (List T)} {k : Nat} (h : k < bs.length) : bs[k].length + needs bs[k] ≤ weigh bs := by
  have h1 : weigh bs = weigh (bs.take (k + 1)) + weigh (bs.drop (k + 1)) := by
    unfold weigh
    rw [← List.sum_append, ← List.map_append, List.take_append_drop]
  rw [h1, weigh_step h]
  omega
theorem flat_le (bs : List (List T)) : bs.flatten.length ≤ weigh bs := by
  induction bs with
  | nil => simp
  | cons b r ih => simp [weigh] at *; omega

/-- A need that lies in a block of its own. -/
def NeedS (w : World) (L g : Nat) (v : Value) (need : List Int) : Prop := (∃ cap, v = .slice (some ⟨g, 0, none⟩) need.length cap) ∧ OwnInts w L v need
theorem NeedS.ext {w w' : World} {L g : Nat} {v : Value} {need : List Int} (h : NeedS w L g v need) (k : Ext w w') : NeedS w' L g v need := ⟨h.1, h.2.ext k⟩
theorem NeedS.kt {w w' : World} {L g : Nat} {v : Value} {need : List Int} {e : TypeId} (h : NeedS w L g v need) (k : KT e w w') (ne : 3 ≠ e) : NeedS w' L g v need := ⟨h.1, ownsRow_kt h.2 k ne⟩
theorem NeedS.lt {w : World} {L g : Nat} {v : Value} {need : List Int} (h : NeedS w L g v need) : L ≤ g ∧ g < w.heap.size := by
  obtain ⟨⟨cap, rfl⟩, ho⟩ := h
  exact ho.lt g rfl
/-- The cells of tasks whose needs lie in blocks of their own, no two in one. -/
def CellsS (w : World) (L : Nat) (xs : List Value) (ts : List T) (nb : Nat → Nat) (m : Nat) : Prop :=
  (∀ k (h : k < ts.length), k < m → xs[k * 2]? = some (.int .i64 ts[k].id) ∧ ∃ n, xs[k * 2 + 1]? = some n ∧ NeedS w L (nb k) n ts[k].need) ∧ ∀ i j, i < j → j < ts.length → j < m → nb i ≠ nb j
/-- A slice of tasks in memory of its own, from block L on. -/
def TasksS (w : World) (L : Nat) (v : Value) (ts : List T) : Prop := ∃ xs nb, w.ownsRow L 38 2 v ts.length xs ∧ CellsS w L xs ts nb ts.length
theorem TasksS.ext {w w' : World} {L : Nat} {v : Value} {ts : List T} (h : TasksS w L v ts) (k : Ext w w') : TasksS w' L v ts := by
  obtain ⟨xs, nb, h1, h2, h3⟩ := h
  exact ⟨xs, nb, ownsRow_ext h1 k, fun j hj hm => ⟨(h2 j hj hm).1, let ⟨n, a, b⟩ := (h2 j hj hm).2; ⟨n, a, b.ext k⟩⟩, h3⟩
theorem TasksS.tasks {w : World} {L : Nat} {v : Value} {ts : List T} (h : TasksS w L v ts) (hl : ts.length ≤ lim) (hn : ∀ t ∈ ts, t.need.length ≤ lim) : Tasks w v ts := by
  obtain ⟨xs, nb, h1, h2, h3⟩ := h
  refine Tasks.of_own h1 ⟨h1.1, fun k hk => ?_⟩ hl
  obtain ⟨c0, n, c1, hv⟩ := h2 k hk hk
  exact ⟨c0, n, c1, hv.2.done (hn _ (List.getElem_mem _))⟩

theorem ownsRow_base {w : World} {B B' : Nat} {e : TypeId} {size n : Nat} {v : Value} {xs : List Value} (h : w.ownsRow B e size v n xs) (hb : B' ≤ B) : w.ownsRow B' e size v n xs := by
  obtain ⟨hl, h⟩ := h
  refine ⟨hl, ?_⟩
  rcases h with h | ⟨g, cap, cur, hv, hg, r⟩
  · exact .inl h
  · exact .inr ⟨g, cap, cur, hv, by omega, r⟩
theorem NeedS.base {w : World} {L L' g : Nat} {v : Value} {need : List Int} (h : NeedS w L g v need) (hb : L' ≤ L) : NeedS w L' g v need := ⟨h.1, ownsRow_base h.2 hb⟩
theorem KT.setCell {w : World} {e : TypeId} {p : Addr} {cs : Array Value} {fz : Nat × Nat} (hb : w.heap[p.block]? = some (Obj.cells cs e fz)) (u : Value) : KT e w (w.setCell p u) := by
  refine ⟨by simp, fun b cs' t fz' hb' ht => Below.heap_setCell w p u b (fun x => ?_)⟩
  subst x
  rw [hb] at hb'
  simp only [Option.some.injEq, Obj.cells.injEq] at hb'
  exact ht hb'.2.1.symm
theorem Ext.frozen {a w : World} (h : Ext a w) {p : Addr} (hp : p.block < a.heap.size) : w.frozen? p = a.frozen? p := Below.frozen h hp
theorem TasksS.kt {w w' : World} {L : Nat} {v : Value} {ts : List T} {e : TypeId} (h : TasksS w L v ts) (k : KT e w w') (n1 : 3 ≠ e) (n2 : 38 ≠ e) : TasksS w' L v ts := by
  obtain ⟨xs, nb, h1, h2, h3⟩ := h
  exact ⟨xs, nb, ownsRow_kt h1 k n2, fun j hj hm => ⟨(h2 j hj hm).1, let ⟨n, a, b⟩ := (h2 j hj hm).2; ⟨n, a, b.kt k n1⟩⟩, h3⟩
theorem TasksS.base {w : World} {L L' : Nat} {v : Value} {ts : List T} (h : TasksS w L v ts) (hb : L' ≤ L) : TasksS w L' v ts := by
  obtain ⟨xs, nb, h1, h2, h3⟩ := h
  exact ⟨xs, nb, ownsRow_base h1 hb, fun j hj hm => ⟨(h2 j hj hm).1, let ⟨n, a, b⟩ := (h2 j hj hm).2; ⟨n, a, b.base hb⟩⟩, h3⟩
/-- A slice of nodes in memory of its own, from block L on. -/
def BinsS (w : World) (L : Nat) (v : Value) (bs : List (List T)) : Prop :=
  ∃ xs, w.ownsRow L 27 1 v bs.length xs ∧ ∀ k (h : k < bs.length), ∃ n, xs[k]? = some n ∧ TasksS w L n bs[k]
theorem BinsS.ext {w w' : World} {L : Nat} {v : Value} {bs : List (List T)} (h : BinsS w L v bs) (k : Ext w w') : BinsS w' L v bs := by
  obtain ⟨xs, h1, h2⟩ := h
  exact ⟨xs, ownsRow_ext h1 k, fun j hj => let ⟨n, a, b⟩ := h2 j hj; ⟨n, a, b.ext k⟩⟩
theorem BinsS.bins {w : World} {L : Nat} {v : Value} {bs : List (List T)} (h : BinsS w L v bs) (hl : bs.length + weigh bs ≤ lim) : Bins w v bs := by
  obtain ⟨xs, h1, h2⟩ := h
  have hx := h1.1
  refine Bins.of_own h1 ⟨by omega, fun k hk => ?_⟩ (by omega)
  obtain ⟨n, a, b⟩ := h2 k hk
  have hw := weigh_le hk
  refine ⟨n, a, b.tasks (by omega) fun t ht => ?_⟩
  obtain ⟨j, hj, rfl⟩ := List.getElem_of_mem ht
  have := needs_le hj
  omega

end Go.Proofs.Ytipmoedflpjioaa
