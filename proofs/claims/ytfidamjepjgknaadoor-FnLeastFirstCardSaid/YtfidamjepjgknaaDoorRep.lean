/- How the program's data lie in memory: slices of numbers, of tasks, of nodes; and what stays when memory grows. What the program computes, as plain functions on lists of numbers and tasks. No condition. -/
import Derived.Test.YtfidamjepjgknaaDoorRows
import Derived.WalkKit
import Derived.WalkSpells
import Derived.WalkLawsBesides
import Derived.Deep.QuietTactic
import Derived.BigQuiet
import Derived.Lib.Hide
namespace Go.Proofs.YtfidamjepjgknaaDoor
section
set_option maxRecDepth 100000
open Go.RowKit

/-- A task as data. -/
structure T where
  id : Int
  need : List Int

/-- What lay there is as it was. -/
def Ext (w w' : World) : Prop := Below w.heap.size w w'

theorem Ext.refl (w : World) : Ext w w := Below.refl _ _
theorem Ext.trans {a b c : World} (h : Ext a b) (k : Ext b c) : Ext a c := Below.trans h (Below.mono k h.size)
theorem Ext.alloc {a w : World} (h : Ext a w) (o : Obj) : Ext a (w.alloc o) := Below.alloc h h.size o
theorem Ext.setCell {a w : World} (h : Ext a w) {p : Addr} (hp : a.heap.size ≤ p.block) (u : Value) : Ext a (w.setCell p u) := Below.setCell h hp u
theorem Ext.drew {a w : World} (h : Ext a w) : Ext a w.drew := Below.drew h
theorem Ext.drewN {a w : World} (h : Ext a w) (n : Nat) : Ext a (w.drewN n) := below_drewN h n
theorem Ext.le {a w : World} (h : Ext a w) : a.heap.size ≤ w.heap.size := h.size
theorem Ext.block {a w : World} (h : Ext a w) {k : Nat} (hk : k < a.heap.size) : w.heap[k]? = a.heap[k]? := Below.block h k hk
theorem Ext.cell {a w : World} (h : Ext a w) {p : Addr} {v : Value} (hc : a.cell? p = some v) : w.cell? p = some v :=
  (World.cell?_of_block (h.block (World.block_lt_of_cell? a p hc))).trans hc
theorem Ext.cellB {a w : World} (h : Ext a w) : ∀ b o, b < a.heap.size → w.cell? ⟨b, o, none⟩ = a.cell? ⟨b, o, none⟩ := fun b o hb => Below.cell (p := ⟨b, o, none⟩) h hb

/-- All rows of cells but those of one element type are as they were. -/
def KT (e : TypeId) (w w' : World) : Prop := w.heap.size ≤ w'.heap.size ∧ ∀ (b : Nat) (cs : Array Value) (t : TypeId) (fz : Nat × Nat), w.heap[b]? = some (Obj.cells cs t fz) → t ≠ e → w'.heap[b]? = w.heap[b]?
theorem lt_of_heap {w : World} {b : Nat} {o : Obj} (h : w.heap[b]? = some o) : b < w.heap.size := by
  rcases Nat.lt_or_ge b w.heap.size with h1 | h1
  · exact h1
  · simp [Array.getElem?_eq_none h1] at h
theorem Ext.kt {w w' : World} (h : Ext w w') (e : TypeId) : KT e w w' := ⟨h.le, fun _ _ _ _ hb _ => h.block (lt_of_heap hb)⟩
theorem KT.refl (e : TypeId) (w : World) : KT e w w := ⟨Nat.le_refl _, fun _ _ _ _ _ _ => rfl⟩
theorem KT.trans {e : TypeId} {a b c : World} (h : KT e a b) (k : KT e b c) : KT e a c :=
  ⟨Nat.le_trans h.1 k.1, fun x cs t fz hx ht => by have h1 := h.2 x cs t fz hx ht; exact (k.2 x cs t fz (h1.trans hx) ht).trans h1⟩
theorem KT.grown {e : TypeId} {w w' : World} {g : Nat} {cs : Array Value} {fz : Nat × Nat} (hg : w.heap[g]? = some (Obj.cells cs e fz)) (h : w.grownBy w' (some g)) : KT e w w' :=
  ⟨h.size, fun b cs' t fz' hb ht => h.block b (lt_of_heap hb) (fun x => by
    simp only [Option.some.injEq] at x; subst x; rw [hg] at hb; simp only [Option.some.injEq, Obj.cells.injEq] at hb; exact ht hb.2.1.symm)⟩

/-- A row of cells of one element type, from an address on. -/
def Row (w : World) (e : TypeId) (a : Option Addr) (xs : List Value) : Prop :=
  xs = [] ∨ ∃ b off cs, a = some ⟨b, off, none⟩ ∧ w.heap[b]? = some (Obj.cells cs e (0, 0)) ∧ ∀ k, k < xs.length → cs[off + k]? = xs[k]?
theorem Row.kt {w w' : World} {t e : TypeId} {a : Option Addr} {xs : List Value} (h : Row w t a xs) (k : KT e w w') (ne : t ≠ e) : Row w' t a xs := by
  rcases h with h | ⟨b, off, cs, ha, hb, hc⟩
  · exact .inl h
  · exact .inr ⟨b, off, cs, ha, (k.2 _ _ _ _ hb ne).trans hb, hc⟩
theorem Row.ext {w w' : World} {t : TypeId} {a : Option Addr} {xs : List Value} (h : Row w t a xs) (k : Ext w w') : Row w' t a xs := by
  rcases h with h | ⟨b, off, cs, ha, hb, hc⟩
  · exact .inl h
  · exact .inr ⟨b, off, cs, ha, (k.block (lt_of_heap hb)).trans hb, hc⟩
theorem Row.at {w : World} {e : TypeId} {a : Option Addr} {xs : List Value} (h : Row w e a xs) (h0 : xs ≠ []) :
    ∃ b off, a = some ⟨b, off, none⟩ ∧ ∀ k, k < xs.length → w.cell? ⟨b, off + k, none⟩ = xs[k]? := by
  rcases h with h | ⟨b, off, cs, ha, hb, hc⟩
  · exact absurd h h0
  · exact ⟨b, off, ha, fun k hk => by simp [World.cell?, hb, hc k hk]⟩
theorem Row.of_own {w : World} {base : Nat} {e : TypeId} {size : Nat} {v : Value} {n : Nat} {xs : List Value} (h : w.ownsRow base e size v n xs) :
    ∃ a cap, v = .slice a n cap ∧ Row w e a xs := by
  obtain ⟨hl, h⟩ := h
  rcases h with ⟨rfl, rfl⟩ | ⟨g, cap, cur, rfl, _, hg, hn, _, hs, ht⟩
  · exact ⟨none, 0, rfl, .inl (by simpa using hl)⟩
  · refine ⟨_, cap, rfl, .inr ⟨g, 0, cur, rfl, hg, fun k hk => ?_⟩⟩
    rw [← ht, List.getElem?_take, if_pos (by omega)]
    simp
theorem Row.prefix {w : World} {e : TypeId} {a : Option Addr} {xs : List Value} (h : Row w e a xs) (n : Nat) : Row w e a (xs.take n) := by
  rcases h with h | ⟨b, off, cs, ha, hb, hc⟩
  · exact .inl (by simp [h])
  · refine .inr ⟨b, off, cs, ha, hb, fun k hk => ?_⟩
    have hk' : k < min n xs.length := by simpa using hk
    rw [hc k (by omega), List.getElem?_take, if_pos (by omega)]

def lim : Nat := 4194304

/-- A slice of numbers. -/
def Ints (w : World) (v : Value) (xs : List Int) : Prop :=
  xs.length ≤ lim ∧ ∃ a cap, v = .slice a xs.length cap ∧ Row w 3 a (xs.map (Value.int .i64))
theorem Ints.kt {w w' : World} {v : Value} {xs : List Int} {e : TypeId} (h : Ints w v xs) (k : KT e w w') (ne : 3 ≠ e) : Ints w' v xs := by
  obtain ⟨hl, a, cap, hv, hr⟩ := h
  exact ⟨hl, a, cap, hv, hr.kt k ne⟩
theorem Ints.ext {w w' : World} {v : Value} {xs : List Int} (h : Ints w v xs) (k : Ext w w') : Ints w' v xs := by
  obtain ⟨hl, a, cap, hv, hr⟩ := h
  exact ⟨hl, a, cap, hv, hr.ext k⟩
/-- The value written out. -/
theorem Ints.open {w : World} {v : Value} {xs : List Int} (h : Ints w v xs) : ∃ a cap, v = .slice a xs.length cap ∧ Ints w (.slice a xs.length cap) xs := by
  obtain ⟨hl, a, cap, rfl, hr⟩ := h
  exact ⟨a, cap, rfl, hl, a, cap, rfl, hr⟩
theorem Ints.at {w : World} {a : Option Addr} {n cap : Nat} {xs : List Int} (h : Ints w (.slice a n cap) xs) (h0 : 0 < xs.length) :
    ∃ b off, a = some ⟨b, off, none⟩ ∧ ∀ k (hk : k < xs.length), w.cell? ⟨b, off + k, none⟩ = some (.int .i64 xs[k]) := by
  obtain ⟨hl, a', cap', hv, hr⟩ := h
  simp only [Value.slice.injEq] at hv
  obtain ⟨rfl, rfl, rfl⟩ := hv
  obtain ⟨b, off, ha, hc⟩ := hr.at (by intro e; simp at e; simp [e] at h0)
  exact ⟨b, off, ha, fun k hk => by rw [hc k (by simpa using hk)]; simp [hk]⟩
theorem Ints.len {w : World} {a : Option Addr} {n cap : Nat} {xs : List Int} (h : Ints w (.slice a n cap) xs) : n = xs.length := by
  obtain ⟨_, a', cap', hv, _⟩ := h
  simp only [Value.slice.injEq] at hv
  exact hv.2.1
theorem Ints.of_own {w : World} {base : Nat} {v : Value} {n : Nat} {xs : List Int} (h : w.ownsRow base 3 1 v n (xs.map (Value.int .i64))) (hl : xs.length ≤ lim) : Ints w v xs := by
  have hn := h.1
  simp at hn
  obtain ⟨a, cap, hv, hr⟩ := Row.of_own h
  exact ⟨hl, a, cap, by rw [hv, hn], hr⟩

/-- The cells of tasks: a number, and a slice that holds the need. -/
def TaskCells (w : World) (xs : List Value) (ts : List T) : Prop :=
  xs.length = ts.length * 2 ∧ ∀ k (h : k < ts.length), xs[k * 2]? = some (.int .i64 ts[k].id) ∧ ∃ n, xs[k * 2 + 1]? = some n ∧ Ints w n ts[k].need
theorem TaskCells.kt {w w' : World} {xs : List Value} {ts : List T} {e : TypeId} (h : TaskCells w xs ts) (k : KT e w w') (ne : 3 ≠ e) : TaskCells w' xs ts :=
  ⟨h.1, fun j hj => ⟨(h.2 j hj).1, let ⟨n, hn, hi⟩ := (h.2 j hj).2; ⟨n, hn, hi.kt k ne⟩⟩⟩
theorem TaskCells.ext {w w' : World} {xs : List Value} {ts : List T} (h : TaskCells w xs ts) (k : Ext w w') : TaskCells w' xs ts :=
  ⟨h.1, fun j hj => ⟨(h.2 j hj).1, let ⟨n, hn, hi⟩ := (h.2 j hj).2; ⟨n, hn, hi.ext k⟩⟩⟩
theorem TaskCells.nil (w : World) : TaskCells w [] [] := ⟨rfl, fun k h => by simp at h⟩
theorem TaskCells.snoc {w : World} {xs : List Value} {ts : List T} (h : TaskCells w xs ts) {t : T} {n : Value} (hn : Ints w n t.need) : TaskCells w (xs ++ [.int .i64 t.id, n]) (ts ++ [t]) := by
  refine ⟨by simp [h.1]; omega, fun k hk => ?_⟩
  simp at hk
  by_cases hlt : k < ts.length
  · obtain ⟨h1, n', h2, h3⟩ := h.2 k hlt
    have e1 : k * 2 < xs.length := by rw [h.1]; omega
    have e2 : k * 2 + 1 < xs.length := by rw [h.1]; omega
    rw [List.getElem?_append_left e1, List.getElem?_append_left e2]
    rw [List.getElem_append_left hlt]
    exact ⟨h1, n', h2, h3⟩
  · have : k = ts.length := by omega
    subst this
    rw [← h.1, List.getElem?_append_right (Nat.le_refl _), List.getElem?_append_right (by omega)]
    simp [hn]

/-- A slice of tasks. -/
def Tasks (w : World) (v : Value) (ts : List T) : Prop :=
  ts.length ≤ lim ∧ ∃ a cap xs, v = .slice a ts.length cap ∧ Row w 31 a xs ∧ TaskCells w xs ts
theorem Tasks.kt {w w' : World} {v : Value} {ts : List T} {e : TypeId} (h : Tasks w v ts) (k : KT e w w') (n1 : 3 ≠ e) (n2 : 31 ≠ e) : Tasks w' v ts := by
  obtain ⟨hl, a, cap, xs, hv, hr, hc⟩ := h
  exact ⟨hl, a, cap, xs, hv, hr.kt k n2, hc.kt k n1⟩
theorem Tasks.ext {w w' : World} {v : Value} {ts : List T} (h : Tasks w v ts) (k : Ext w w') : Tasks w' v ts := by
  obtain ⟨hl, a, cap, xs, hv, hr, hc⟩ := h
  exact ⟨hl, a, cap, xs, hv, hr.ext k, hc.ext k⟩
theorem Tasks.open {w : World} {v : Value} {ts : List T} (h : Tasks w v ts) : ∃ a cap, v = .slice a ts.length cap ∧ Tasks w (.slice a ts.length cap) ts := by
  obtain ⟨hl, a, cap, xs, rfl, hr, hc⟩ := h
  exact ⟨a, cap, rfl, hl, a, cap, xs, rfl, hr, hc⟩
theorem Tasks.at {w : World} {a : Option Addr} {n cap : Nat} {ts : List T} (h : Tasks w (.slice a n cap) ts) {k : Nat} (hk : k < ts.length) :
    ∃ b off nd, a = some ⟨b, off, none⟩ ∧ w.cell? ⟨b, off + k * 2, none⟩ = some (.int .i64 ts[k].id) ∧ w.cell? ⟨b, off + k * 2 + 1, none⟩ = some nd ∧ Ints w nd ts[k].need := by
  obtain ⟨hl, a', cap', xs, hv, hr, hc⟩ := h
  simp only [Value.slice.injEq] at hv
  obtain ⟨rfl, rfl, rfl⟩ := hv
  have hx := hc.1
  obtain ⟨b, off, ha, hcell⟩ := hr.at (by intro e; simp [e] at hx; omega)
  obtain ⟨h1, nd, h2, h3⟩ := hc.2 k hk
  exact ⟨b, off, nd, ha, by rw [hcell _ (by omega), h1], by rw [Nat.add_assoc, hcell _ (by omega), h2], h3⟩
theorem Tasks.of_own {w : World} {base : Nat} {v : Value} {n : Nat} {xs : List Value} {ts : List T} (h : w.ownsRow base 31 2 v n xs) (hc : TaskCells w xs ts) (hl : ts.length ≤ lim) : Tasks w v ts := by
  have hn := h.1
  have hc1 := hc.1
  obtain ⟨a, cap, hv, hr⟩ := Row.of_own h
  exact ⟨hl, a, cap, xs, by rw [hv]; congr 1; omega, hr, hc⟩

/-- The cells of nodes: a slice of tasks each. -/
def BinCells (w : World) (xs : List Value) (bs : List (List T)) : Prop :=
  xs.length = bs.length ∧ ∀ k (h : k < bs.length), ∃ n, xs[k]? = some n ∧ Tasks w n bs[k]
theorem BinCells.kt {w w' : World} {xs : List Value} {bs : List (List T)} {e : TypeId} (h : BinCells w xs bs) (k : KT e w w') (n1 : 3 ≠ e) (n2 : 31 ≠ e) : BinCells w' xs bs :=
  ⟨h.1, fun j hj => let ⟨n, hn, hi⟩ := h.2 j hj; ⟨n, hn, hi.kt k n1 n2⟩⟩
theorem BinCells.ext {w w' : World} {xs : List Value} {bs : List (List T)} (h : BinCells w xs bs) (k : Ext w w') : BinCells w' xs bs :=
  ⟨h.1, fun j hj => let ⟨n, hn, hi⟩ := h.2 j hj; ⟨n, hn, hi.ext k⟩⟩
theorem BinCells.nil (w : World) : BinCells w [] [] := ⟨rfl, fun k h => by simp at h⟩
theorem BinCells.snoc {w : World} {xs : List Value} {bs : List (List T)} (h : BinCells w xs bs) {b : List T} {n : Value} (hn : Tasks w n b) : BinCells w (xs ++ [n]) (bs ++ [b]) := by
  refine ⟨by simp [h.1], fun k hk => ?_⟩
  simp at hk
  by_cases hlt : k < bs.length
  · obtain ⟨n', h2, h3⟩ := h.2 k hlt
    rw [List.getElem?_append_left (by rw [h.1]; omega), List.getElem_append_left hlt]
    exact ⟨n', h2, h3⟩
  · have : k = bs.length := by omega
    subst this
    refine ⟨n, ?_, ?_⟩
    · rw [← h.1, List.getElem?_append_right (Nat.le_refl _)]; simp
    · simpa using hn

/-- A slice of nodes. -/
def Bins (w : World) (v : Value) (bs : List (List T)) : Prop :=
  bs.length ≤ lim ∧ ∃ a cap xs, v = .slice a bs.length cap ∧ Row w 24 a xs ∧ BinCells w xs bs
theorem Bins.kt {w w' : World} {v : Value} {bs : List (List T)} {e : TypeId} (h : Bins w v bs) (k : KT e w w') (n1 : 3 ≠ e) (n2 : 31 ≠ e) (n3 : 24 ≠ e) : Bins w' v bs := by
  obtain ⟨hl, a, cap, xs, hv, hr, hc⟩ := h
  exact ⟨hl, a, cap, xs, hv, hr.kt k n3, hc.kt k n1 n2⟩
theorem Bins.ext {w w' : World} {v : Value} {bs : List (List T)} (h : Bins w v bs) (k : Ext w w') : Bins w' v bs := by
  obtain ⟨hl, a, cap, xs, hv, hr, hc⟩ := h
  exact ⟨hl, a, cap, xs, hv, hr.ext k, hc.ext k⟩
theorem Bins.open {w : World} {v : Value} {bs : List (List T)} (h : Bins w v bs) : ∃ a cap, v = .slice a bs.length cap ∧ Bins w (.slice a bs.length cap) bs := by
  obtain ⟨hl, a, cap, xs, rfl, hr, hc⟩ := h
  exact ⟨a, cap, rfl, hl, a, cap, xs, rfl, hr, hc⟩
theorem Bins.at {w : World} {a : Option Addr} {n cap : Nat} {bs : List (List T)} (h : Bins w (.slice a n cap) bs) {k : Nat} (hk : k < bs.length) :
    ∃ b off nd, a = some ⟨b, off, none⟩ ∧ w.cell? ⟨b, off + k, none⟩ = some nd ∧ Tasks w nd bs[k] := by
  obtain ⟨hl, a', cap', xs, hv, hr, hc⟩ := h
  simp only [Value.slice.injEq] at hv
  obtain ⟨rfl, rfl, rfl⟩ := hv
  have hx := hc.1
  obtain ⟨b, off, ha, hcell⟩ := hr.at (by intro e; simp [e] at hx; omega)
  obtain ⟨nd, h2, h3⟩ := hc.2 k hk
  exact ⟨b, off, nd, ha, by rw [hcell _ (by omega), h2], h3⟩
theorem Bins.of_own {w : World} {base : Nat} {v : Value} {n : Nat} {xs : List Value} {bs : List (List T)} (h : w.ownsRow base 24 1 v n xs) (hc : BinCells w xs bs) (hl : bs.length ≤ lim) : Bins w v bs := by
  have hn := h.1
  have hc1 := hc.1
  obtain ⟨a, cap, hv, hr⟩ := Row.of_own h
  exact ⟨hl, a, cap, xs, by rw [hv]; congr 1; omega, hr, hc⟩

/-- A task by value. -/
def Task1 (w : World) (v : Value) (t : T) : Prop := ∃ n, v = .agg #[.int .i64 t.id, n] ∧ Ints w n t.need
theorem Task1.ext {w w' : World} {v : Value} {t : T} (h : Task1 w v t) (k : Ext w w') : Task1 w' v t := let ⟨n, hv, hn⟩ := h; ⟨n, hv, hn.ext k⟩
theorem Task1.kt {w w' : World} {v : Value} {t : T} {e : TypeId} (h : Task1 w v t) (k : KT e w w') (ne : 3 ≠ e) : Task1 w' v t := let ⟨n, hv, hn⟩ := h; ⟨n, hv, hn.kt k ne⟩
theorem Task1.mk {w : World} {n : Value} {t : T} (h : Ints w n t.need) : Task1 w (.agg #[.int .i64 t.id, n]) t := ⟨n, rfl, h⟩
end

section
set_option maxRecDepth 100000

theorem ret_bool {a b : Bool} (h : a = b) : Ending.returned (.bool a) = .returned (.bool b) := by rw [h]
theorem ret_int {k : IntKind} {a b : Int} (h : a = b) : Ending.returned (.int k a) = .returned (.int k b) := by rw [h]

/-- Does a number lie between two others? -/
def inB (n lo hi : Int) : Bool := decide (lo ≤ n ∧ n ≤ hi)
theorem inB_true {n lo hi : Int} (h1 : lo ≤ n) (h2 : n ≤ hi) : inB n lo hi = true := by simp [inB, h1, h2]
theorem inB_false {n lo hi : Int} (h : ¬ (lo ≤ n ∧ n ≤ hi)) : inB n lo hi = false := by simpa [inB] using h
theorem inB_iff {n lo hi : Int} : inB n lo hi = true ↔ lo ≤ n ∧ n ≤ hi := by simp [inB]

/-- A vector: three numbers from 0 to 20. -/
def VecOk (xs : List Int) : Prop := xs.length = 3 ∧ ∀ n ∈ xs, 0 ≤ n ∧ n ≤ 20
instance (xs : List Int) : Decidable (VecOk xs) := by unfold VecOk; infer_instance
def vecB (xs : List Int) : Bool := decide (VecOk xs)
theorem vecB_iff {xs : List Int} : vecB xs = true ↔ VecOk xs := by simp [vecB]
theorem VecOk.three {xs : List Int} (h : VecOk xs) : ∃ x y z, xs = [x, y, z] ∧ 0 ≤ x ∧ x ≤ 20 ∧ 0 ≤ y ∧ y ≤ 20 ∧ 0 ≤ z ∧ z ≤ 20 := by
  obtain ⟨hl, hm⟩ := h
  match xs, hl with
  | [x, y, z], _ =>
    have h1 := hm x (by simp)
    have h2 := hm y (by simp)
    have h3 := hm z (by simp)
    exact ⟨x, y, z, rfl, h1.1, h1.2, h2.1, h2.2, h3.1, h3.2⟩

/-- Is no number greater? -/
def fitsB (xs ys : List Int) : Bool := (List.zip xs ys).all fun p => decide (p.1 ≤ p.2)
theorem fitsB_three (a b c x y z : Int) : fitsB [a, b, c] [x, y, z] = decide (a ≤ x ∧ b ≤ y ∧ c ≤ z) := by
  simp [fitsB, Bool.decide_and]

def vfitsB (xs ys : List Int) : Bool := vecB xs && vecB ys && fitsB xs ys

/-- A vector plus another one, some times. -/
def addL (xs ys : List Int) (t : Int) : List Int := List.zipWith (fun x y => x + t * y) xs ys

/-- What tasks need together. -/
def loadL (ts : List T) : List Int := ts.foldl (fun s t => addL s t.need 1) [0, 0, 0]

/-- A room: a vector without zeros. -/
def RoomOk (xs : List Int) : Prop := VecOk xs ∧ ∀ n ∈ xs, 1 ≤ n
instance (xs : List Int) : Decidable (RoomOk xs) := by unfold RoomOk; infer_instance
def roomB (xs : List Int) : Bool := decide (RoomOk xs)
theorem roomB_iff {xs : List Int} : roomB xs = true ↔ RoomOk xs := by simp [roomB]

/-- Does one of the first tasks have a number? -/
def hasB (ts : List T) (many : Nat) (id : Int) : Bool := (ts.take many).any fun t => t.id == id

/-- Tasks are valid. -/
def TasksOk (room : List Int) (ts : List T) : Prop :=
  RoomOk room ∧ ts.length ≤ 14 ∧ ∀ k (h : k < ts.length), (1 ≤ ts[k].id ∧ ts[k].id ≤ 40) ∧ hasB ts k ts[k].id = false ∧ vfitsB ts[k].need room = true
instance (room : List Int) (ts : List T) : Decidable (TasksOk room ts) := by unfold TasksOk; infer_instance
def tasksB (room : List Int) (ts : List T) : Bool := decide (TasksOk room ts)
theorem tasksB_iff {room : List Int} {ts : List T} : tasksB room ts = true ↔ TasksOk room ts := by simp [tasksB]
end

end Go.Proofs.YtfidamjepjgknaaDoor
