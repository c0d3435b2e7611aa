/- Slices that a call makes itself and appends to: laws for the walk. Lists of numbers, of tasks, of nodes, compared. Nodes that a call owns whole: the row of nodes and each node's own row, apart from each other; what an append and a store change. Tasks and nodes in memory of their own: each need in a block of its own. Appends whose literal lies in memory beside them, in whatever order; what a literal keeps. A part of a slice of tasks, of nodes: what 'x[l:h]' leaves. No condition. -/
import Derived.Test.YtfidamjepjgknaaDoorRep
import Derived.Deep.AppendLies
import Derived.Deep.RegionLaw
import Derived.OneCell
namespace Go.Proofs.YtfidamjepjgknaaDoor
section
set_option maxRecDepth 100000
open Go.RowKit

/-- What the table says of a slice type's elements. -/
structure Elt (P : Program) (t e : TypeId) (size bytes : Nat) : Prop where
  got : ∃ i z, P.underlying t = some (.slice e) ∧ P.info? e = some i ∧ i.zero = some z ∧ i.size = size ∧ i.bytes = bytes ∧ z.cells.size = size ∧ 0 < size

theorem Elt.mk' {P : Program} {t e : TypeId} {size bytes : Nat} {z : Value} (ht : P.underlying t = some (.slice e)) (h : (P.info? e).map (fun i => (i.zero, i.size, i.bytes)) = some (some z, size, bytes))
    (hz : z.cells.size = size) (h0 : 0 < size) : Elt P t e size bytes := by
  obtain ⟨i, h1, h2, h3, h4⟩ := info_parts h
  exact ⟨i, z, ht, h1, h2, h3, h4, hz, h0⟩

theorem elt_int : Elt Tryd.prog 23 3 1 8 := Elt.mk' (z := .int .i64 0) (by kernel_rfl) (by kernel_rfl) rfl (by decide)
theorem elt_task : Elt Tryd.prog 24 31 2 32 := Elt.mk' (z := .agg #[.int .i64 0, .slice none 0 0]) (by kernel_rfl) (by kernel_rfl) rfl (by decide)
theorem elt_bin : Elt Tryd.prog 27 24 1 24 := Elt.mk' (z := .slice none 0 0) (by kernel_rfl) (by kernel_rfl) rfl (by decide)

theorem grownBy_below {w w' : World} {B : Nat} {v : Value} {e : TypeId} {size n : Nat} {xs : List Value} (hown : w.ownsRow B e size v n xs) (hB : B ≤ w.heap.size) (h : w.grownBy w' v.ownBlock) : Below B w w' :=
  ⟨h.os, h.tape, h.output, h.size, fun k hk => h.block k (by omega) (fun x => by have := (hown.lt k x.symm).1; omega)⟩
theorem grownBy_kt {w w' : World} {B : Nat} {v : Value} {e : TypeId} {size n : Nat} {xs : List Value} (hown : w.ownsRow B e size v n xs) (h : w.grownBy w' v.ownBlock) : KT e w w' := by
  refine ⟨h.size, fun b cs t fz hb ht => h.block b (lt_of_heap hb) (fun x => ?_)⟩
  obtain ⟨_, hown⟩ := hown
  rcases hown with ⟨rfl, _⟩ | ⟨g, cap, cur, rfl, _, hg, _⟩
  · simp [Value.ownBlock] at x
  · simp only [Value.ownBlock, Option.some.injEq] at x
    subst x
    rw [hb] at hg
    simp only [Option.some.injEq, Obj.cells.injEq] at hg
    exact ht hg.2.1

theorem ownsRow_ext {w w' : World} {B : Nat} {e : TypeId} {size n : Nat} {v : Value} {xs : List Value} (h : w.ownsRow B e size v n xs) (k : Ext w w') : w'.ownsRow B e size v n xs := by
  obtain ⟨hl, h⟩ := h
  refine ⟨hl, ?_⟩
  rcases h with h | ⟨g, cap, cur, hv, hb, hg, r⟩
  · exact .inl h
  · exact .inr ⟨g, cap, cur, hv, hb, (k.block (lt_of_heap hg)).trans hg, r⟩
theorem ownsRow_kt {w w' : World} {B : Nat} {e e' : TypeId} {size n : Nat} {v : Value} {xs : List Value} (h : w.ownsRow B e size v n xs) (k : KT e' w w') (ne : e ≠ e') : w'.ownsRow B e size v n xs := by
  obtain ⟨hl, h⟩ := h
  refine ⟨hl, ?_⟩
  rcases h with h | ⟨g, cap, cur, hv, hb, hg, r⟩
  · exact .inl h
  · exact .inr ⟨g, cap, cur, hv, hb, (k.2 _ _ _ _ hg ne).trans hg, r⟩

theorem run_app {P : Program} {t e : TypeId} {size bytes : Nat} (hE : Elt P t e size bytes) (ty : TypeId) (w : World) (B : Nat) (v : Value) (n : Nat) (xs : List Value) (hown : w.ownsRow B e size v n xs) (hB : B ≤ w.heap.size)
    (src : Option Addr) (m c : Nat) (news : List Value) (hl : news.length = m * size) (e' : TypeId) (hrow : Row w e' src news) (h1 : ∀ u ∈ news, u.oneCell' = true) (hb : (n + m) * bytes ≤ 140737488355328) (hn : n + m ≤ maxLen) :
    ∃ v' w', (Builtin.append_ #[t, t] ty #[v, .slice src m c]).run P w = .ok v' w' ∧ w'.ownsRow B e size v' (n + m) (xs ++ news) ∧ KT e w w' ∧ Below B w w' := by
  obtain ⟨i, z, ht, hi, hz, hs, hby, hzs, h0⟩ := hE.got
  cases src with
  | none =>
    have hnews : news = [] := by
      rcases hrow with h | ⟨b, off, cs, ha, _⟩
      · exact h
      · cases ha
    subst hnews
    have hm : m = 0 := by
      rcases Nat.eq_zero_or_pos m with h | h
      · exact h
      · have := Nat.mul_pos h h0; simp at hl; omega
    subst hm
    refine ⟨v, w, ?_, by simpa using hown, KT.refl _ _, Below.refl _ _⟩
    rcases hown.2 with ⟨rfl, rfl⟩ | ⟨g, cap, cur, rfl, _, _, hnc, _⟩
    · simp [Builtin.append_, run_underlying ht, sizeOf, typeInfo, hi, Builtin.lenOf, Builtin.firstCells]
    · simp [Builtin.append_, run_underlying ht, sizeOf, typeInfo, hi, Builtin.lenOf, Builtin.firstCells, hnc, storeCells]
  | some ad =>
    have hnews : ∀ j u, news[j]? = some u → w.cell? (ad.add j) = some u := by
      intro j u hj
      rcases hrow with h | ⟨b, off, cs, ha, hb', hc⟩
      · simp [h] at hj
      · simp only [Option.some.injEq] at ha
        subst ha
        have hlt : j < news.length := by
          rcases Nat.lt_or_ge j news.length with h | h
          · exact h
          · simp [List.getElem?_eq_none h] at hj
        rw [Addr.add_lit]
        simp [World.cell?, hb', hc j hlt, hj]
    obtain ⟨v', w', hr, ho, hg, _⟩ := run_append_own_at (P := P) w B t ty e i z size bytes ht hi hz hs hby hzs h0 v n xs hown ad m c news hl hnews h1 hn hb hB
    exact ⟨v', w', hr, ho, grownBy_kt hown hg, grownBy_below hown hB hg⟩

theorem wp_app {P : Program} {t e : TypeId} {size bytes : Nat} (hE : Elt P t e size bytes) {w : World} {o : Oper} {a : Act} {K : Act → World → Prop} {Q : Exit → Act → World → Prop} (s x : Operand)
    (ho : o.op = .call { callee := .builtin .append, args := #[s, x], argTypes := #[t, t] }) (B : Nat) (v : Value) (n : Nat) (xs : List Value) (hs : a.eval s = v) (hown : w.ownsRow B e size v n xs) (hB : B ≤ w.heap.size)
    (src : Option Addr) (m c : Nat) (news : List Value) (hx : a.eval x = .slice src m c) (hl : news.length = m * size) (e' : TypeId) (hrow : Row w e' src news) (h1 : ∀ u ∈ news, u.oneCell' = true) (hb : (n + m) * bytes ≤ 140737488355328) (hn : n + m ≤ maxLen)
    (h : ∀ v' w', w'.ownsRow B e size v' (n + m) (xs ++ news) → KT e w w' → Below B w w' → K (a.put o.dst v') w') : o.wp P a w K Q := by
  obtain ⟨v', w', hr, h2, h3, h4⟩ := run_app hE o.type w B v n xs hown hB src m c news hl e' hrow h1 hb hn
  unfold Oper.wp execOp
  simp only [ho, resolve, invoke, builtin, Sem.run_bind, Sem.run_pure, Result.andThen_ok, List.map_toArray, List.map_cons, List.map_nil, hs, hx, hr]
  exact h v' w' h2 h3 h4


/-- A slice of numbers that the call owns. -/
def OwnInts (w : World) (B : Nat) (v : Value) (xs : List Int) : Prop := w.ownsRow B 3 1 v xs.length (xs.map (Value.int .i64))
def OwnTasks (w : World) (B : Nat) (v : Value) (ts : List T) : Prop := ∃ xs, w.ownsRow B 31 2 v ts.length xs ∧ TaskCells w xs ts
def OwnBins (w : World) (B : Nat) (v : Value) (bs : List (List T)) : Prop := ∃ xs, w.ownsRow B 24 1 v bs.length xs ∧ BinCells w xs bs

theorem OwnInts.ext {w w' : World} {B : Nat} {v : Value} {xs : List Int} (h : OwnInts w B v xs) (k : Ext w w') : OwnInts w' B v xs := ownsRow_ext h k
theorem OwnTasks.ext {w w' : World} {B : Nat} {v : Value} {ts : List T} (h : OwnTasks w B v ts) (k : Ext w w') : OwnTasks w' B v ts := let ⟨xs, h1, h2⟩ := h; ⟨xs, ownsRow_ext h1 k, h2.ext k⟩
theorem OwnBins.ext {w w' : World} {B : Nat} {v : Value} {bs : List (List T)} (h : OwnBins w B v bs) (k : Ext w w') : OwnBins w' B v bs := let ⟨xs, h1, h2⟩ := h; ⟨xs, ownsRow_ext h1 k, h2.ext k⟩
theorem OwnInts.done {w : World} {B : Nat} {v : Value} {xs : List Int} (h : OwnInts w B v xs) (hl : xs.length ≤ lim) : Ints w v xs := Ints.of_own h hl
theorem OwnTasks.done {w : World} {B : Nat} {v : Value} {ts : List T} (h : OwnTasks w B v ts) (hl : ts.length ≤ lim) : Tasks w v ts := let ⟨_, h1, h2⟩ := h; Tasks.of_own h1 h2 hl
theorem OwnBins.done {w : World} {B : Nat} {v : Value} {bs : List (List T)} (h : OwnBins w B v bs) (hl : bs.length ≤ lim) : Bins w v bs := let ⟨_, h1, h2⟩ := h; Bins.of_own h1 h2 hl
theorem OwnInts.nil (w : World) (B : Nat) : OwnInts w B (.slice none 0 0) [] := World.ownsRow_nil _ _ _ _
theorem OwnTasks.nil (w : World) (B : Nat) : OwnTasks w B (.slice none 0 0) [] := ⟨[], World.ownsRow_nil _ _ _ _, TaskCells.nil _⟩
theorem OwnBins.nil (w : World) (B : Nat) : OwnBins w B (.slice none 0 0) [] := ⟨[], World.ownsRow_nil _ _ _ _, BinCells.nil _⟩
/-- An empty literal: '[]T{}'. -/
theorem OwnInts.lit0 (w : World) (B : Nat) (hB : B ≤ w.heap.size) : OwnInts (w.alloc (.cells #[] 3)) B (.slice (some ⟨w.heap.size, 0, none⟩) 0 0) [] := World.ownsRow_lit w #[] 0 hB (by simp [maxLen]) rfl
theorem OwnTasks.lit0 (w : World) (B : Nat) (hB : B ≤ w.heap.size) : OwnTasks (w.alloc (.cells #[] 31)) B (.slice (some ⟨w.heap.size, 0, none⟩) 0 0) [] := ⟨[], World.ownsRow_lit w #[] 0 hB (by simp [maxLen]) rfl, TaskCells.nil _⟩
theorem OwnBins.lit0 (w : World) (B : Nat) (hB : B ≤ w.heap.size) : OwnBins (w.alloc (.cells #[] 24)) B (.slice (some ⟨w.heap.size, 0, none⟩) 0 0) [] := ⟨[], World.ownsRow_lit w #[] 0 hB (by simp [maxLen]) rfl, BinCells.nil _⟩

/-- A literal, laid in a new block. -/
theorem Row.lit (w : World) (cs : Array Value) (e : TypeId) : Row (w.alloc (.cells cs e)) e (some ⟨w.heap.size, 0, none⟩) cs.toList :=
  .inr ⟨w.heap.size, 0, cs, rfl, heap_alloc_new w _, fun k _ => by simp⟩
theorem Ints.lit (w : World) (cs : Array Value) (xs : List Int) (n c : Nat) (h : cs.toList = xs.map (Value.int .i64)) (hn : n = xs.length) (hl : xs.length ≤ lim) : Ints (w.alloc (.cells cs 3)) (.slice (some ⟨w.heap.size, 0, none⟩) n c) xs :=
  ⟨hl, _, c, by rw [hn], by rw [← h]; exact Row.lit _ _ _⟩
theorem Ints.lit1 (w : World) (x : Int) (c : Nat) : Ints (w.alloc (.cells #[.int .i64 x] 3)) (.slice (some ⟨w.heap.size, 0, none⟩) 1 c) [x] := Ints.lit w _ _ 1 c rfl rfl (by simp [lim])
theorem Tasks.lit1 {w : World} {t : T} {n : Value} (hn : Ints w n t.need) (c : Nat) : Tasks (w.alloc (.cells #[.int .i64 t.id, n] 31)) (.slice (some ⟨w.heap.size, 0, none⟩) 1 c) [t] :=
  ⟨by simp [lim], _, c, [.int .i64 t.id, n], rfl, Row.lit w #[.int .i64 t.id, n] _, by simpa using (TaskCells.nil _).snoc (hn.ext ((Ext.refl w).alloc _))⟩
theorem Bins.lit1 {w : World} {b : List T} {n : Value} (hn : Tasks w n b) (c : Nat) : Bins (w.alloc (.cells #[n] 24)) (.slice (some ⟨w.heap.size, 0, none⟩) 1 c) [b] :=
  ⟨by simp [lim], _, c, [n], rfl, Row.lit w #[n] _, by simpa using (BinCells.nil _).snoc (hn.ext ((Ext.refl w).alloc _))⟩

theorem Ints.parts {w : World} {a : Option Addr} {n c : Nat} {xs : List Int} (h : Ints w (.slice a n c) xs) : n = xs.length ∧ Row w 3 a (xs.map (Value.int .i64)) := by
  obtain ⟨_, a', c', hv, hr⟩ := h
  simp only [Value.slice.injEq] at hv
  obtain ⟨rfl, rfl, rfl⟩ := hv
  exact ⟨rfl, hr⟩
theorem Tasks.parts {w : World} {a : Option Addr} {n c : Nat} {ts : List T} (h : Tasks w (.slice a n c) ts) : n = ts.length ∧ ∃ xs, Row w 31 a xs ∧ TaskCells w xs ts := by
  obtain ⟨_, a', c', xs, hv, hr, hc⟩ := h
  simp only [Value.slice.injEq] at hv
  obtain ⟨rfl, rfl, rfl⟩ := hv
  exact ⟨rfl, xs, hr, hc⟩
theorem Bins.parts {w : World} {a : Option Addr} {n c : Nat} {bs : List (List T)} (h : Bins w (.slice a n c) bs) : n = bs.length ∧ ∃ xs, Row w 24 a xs ∧ BinCells w xs bs := by
  obtain ⟨_, a', c', xs, hv, hr, hc⟩ := h
  simp only [Value.slice.injEq] at hv
  obtain ⟨rfl, rfl, rfl⟩ := hv
  exact ⟨rfl, xs, hr, hc⟩

theorem TaskCells.app {w : World} {xs ys : List Value} {ts us : List T} (h : TaskCells w xs ts) (k : TaskCells w ys us) : TaskCells w (xs ++ ys) (ts ++ us) := by
  refine ⟨by simp [h.1, k.1]; omega, fun j hj => ?_⟩
  simp at hj
  by_cases hlt : j < ts.length
  · obtain ⟨h1, n', h2, h3⟩ := h.2 j hlt
    have e1 : j * 2 < xs.length := by rw [h.1]; omega
    have e2 : j * 2 + 1 < xs.length := by rw [h.1]; omega
    rw [List.getElem?_append_left e1, List.getElem?_append_left e2, List.getElem_append_left hlt]
    exact ⟨h1, n', h2, h3⟩
  · obtain ⟨h1, n', h2, h3⟩ := k.2 (j - ts.length) (by omega)
    have e1 : xs.length ≤ j * 2 := by rw [h.1]; omega
    have e2 : xs.length ≤ j * 2 + 1 := by rw [h.1]; omega
    have e3 : ts.length ≤ j := by omega
    rw [List.getElem?_append_right e1, List.getElem?_append_right e2, List.getElem_append_right e3, h.1]
    rw [show j * 2 - ts.length * 2 = (j - ts.length) * 2 by omega, show j * 2 + 1 - ts.length * 2 = (j - ts.length) * 2 + 1 by omega]
    exact ⟨h1, n', h2, h3⟩
theorem BinCells.app {w : World} {xs ys : List Value} {ts us : List (List T)} (h : BinCells w xs ts) (k : BinCells w ys us) : BinCells w (xs ++ ys) (ts ++ us) := by
  refine ⟨by simp [h.1, k.1], fun j hj => ?_⟩
  simp at hj
  by_cases hlt : j < ts.length
  · obtain ⟨n', h2, h3⟩ := h.2 j hlt
    rw [List.getElem?_append_left (by rw [h.1]; omega), List.getElem_append_left hlt]
    exact ⟨n', h2, h3⟩
  · obtain ⟨n', h2, h3⟩ := k.2 (j - ts.length) (by omega)
    have e3 : ts.length ≤ j := by omega
    rw [List.getElem?_append_right (by rw [h.1]; omega), List.getElem_append_right e3, h.1]
    exact ⟨n', h2, h3⟩

theorem TaskCells.one {w : World} {xs : List Value} {ts : List T} (h : TaskCells w xs ts) : ∀ u ∈ xs, u.oneCell' = true := by
  intro u hu
  obtain ⟨j, hj, rfl⟩ := List.getElem_of_mem hu
  have h1 := h.1
  obtain ⟨c1, n, c2, hn⟩ := h.2 (j / 2) (by omega)
  rcases Nat.mod_two_eq_zero_or_one j with e | e
  · rw [show j / 2 * 2 = j by omega, List.getElem?_eq_getElem hj] at c1
    simp only [Option.some.injEq] at c1
    rw [c1]; rfl
  · rw [show j / 2 * 2 + 1 = j by omega, List.getElem?_eq_getElem hj] at c2
    simp only [Option.some.injEq] at c2
    rw [c2]
    obtain ⟨_, a, c, rfl, _⟩ := hn
    rfl
theorem BinCells.one {w : World} {xs : List Value} {ts : List (List T)} (h : BinCells w xs ts) : ∀ u ∈ xs, u.oneCell' = true := by
  intro u hu
  obtain ⟨j, hj, rfl⟩ := List.getElem_of_mem hu
  have h1 := h.1
  obtain ⟨n, c2, hn⟩ := h.2 j (by omega)
  rw [List.getElem?_eq_getElem hj] at c2
  simp only [Option.some.injEq] at c2
  rw [c2]
  obtain ⟨_, a, c, _, rfl, _⟩ := hn
  rfl

theorem Ints.drew {w : World} {v : Value} {xs : List Int} (h : Ints w v xs) : Ints w.drew v xs := h.ext (Ext.refl w).drew
theorem Tasks.drew {w : World} {v : Value} {xs : List T} (h : Tasks w v xs) : Tasks w.drew v xs := h.ext (Ext.refl w).drew
theorem Bins.drew {w : World} {v : Value} {xs : List (List T)} (h : Bins w v xs) : Bins w.drew v xs := h.ext (Ext.refl w).drew
theorem OwnInts.drew {w : World} {B : Nat} {v : Value} {xs : List Int} (h : OwnInts w B v xs) : OwnInts w.drew B v xs := h.ext (Ext.refl w).drew
theorem OwnTasks.drew {w : World} {B : Nat} {v : Value} {xs : List T} (h : OwnTasks w B v xs) : OwnTasks w.drew B v xs := h.ext (Ext.refl w).drew
theorem OwnBins.drew {w : World} {B : Nat} {v : Value} {xs : List (List T)} (h : OwnBins w B v xs) : OwnBins w.drew B v xs := h.ext (Ext.refl w).drew
theorem OwnInts.alloc {w : World} {B : Nat} {v : Value} {xs : List Int} (h : OwnInts w B v xs) (o : Obj) : OwnInts (w.alloc o) B v xs := h.ext ((Ext.refl w).alloc o)
theorem OwnTasks.alloc {w : World} {B : Nat} {v : Value} {xs : List T} (h : OwnTasks w B v xs) (o : Obj) : OwnTasks (w.alloc o) B v xs := h.ext ((Ext.refl w).alloc o)
theorem OwnBins.alloc {w : World} {B : Nat} {v : Value} {xs : List (List T)} (h : OwnBins w B v xs) (o : Obj) : OwnBins (w.alloc o) B v xs := h.ext ((Ext.refl w).alloc o)
/-- A row that the call wrote lies from B on; what came before stays. -/
theorem Ext.below {a w w' : World} (h : Ext a w) (k : Below a.heap.size w w') : Ext a w' := Below.trans h k

section
variable {w : World} {ops : Array Oper} {rest : List Oper} {o : Oper} {a : Act} {Q : Exit → Act → World → Prop} {K : Act → World → Prop}

theorem wp_app_ints (s x : Operand) (ho : o.op = .call { callee := .builtin .append, args := #[s, x], argTypes := #[23, 23] }) (B : Nat) (v : Value) (xs : List Int) (hs : a.eval s = v) (hown : OwnInts w B v xs) (hB : B ≤ w.heap.size)
    (src : Option Addr) (m c : Nat) (ys : List Int) (hx : a.eval x = .slice src m c) (hsrc : Ints w (.slice src m c) ys) (hl : xs.length + ys.length ≤ lim)
    (h : ∀ v' w', OwnInts w' B v' (xs ++ ys) → KT 3 w w' → Below B w w' → K (a.put o.dst v') w') : o.wp Tryd.prog a w K Q := by
  obtain ⟨rfl, hr⟩ := hsrc.parts
  unfold lim at hl
  exact wp_app elt_int s x ho B v xs.length _ hs hown hB src ys.length c _ hx (by simp) _ hr (ints_oneCell _ _) (by omega) (by unfold maxLen; omega) (fun v' w' h1 h2 h3 => h v' w' (by unfold OwnInts; simpa using h1) h2 h3)
theorem wp_app_tasks (s x : Operand) (ho : o.op = .call { callee := .builtin .append, args := #[s, x], argTypes := #[24, 24] }) (B : Nat) (v : Value) (ts : List T) (hs : a.eval s = v) (hown : OwnTasks w B v ts) (hB : B ≤ w.heap.size)
    (src : Option Addr) (m c : Nat) (us : List T) (hx : a.eval x = .slice src m c) (hsrc : Tasks w (.slice src m c) us) (hl : ts.length + us.length ≤ lim)
    (h : ∀ v' w', OwnTasks w' B v' (ts ++ us) → KT 31 w w' → Below B w w' → K (a.put o.dst v') w') : o.wp Tryd.prog a w K Q := by
  obtain ⟨rfl, ys, hr, hc⟩ := hsrc.parts
  obtain ⟨xs, hown, hcx⟩ := hown
  unfold lim at hl
  exact wp_app elt_task s x ho B v ts.length _ hs hown hB src us.length c _ hx hc.1 _ hr hc.one (by omega) (by unfold maxLen; omega)
    (fun v' w' h1 h2 h3 => h v' w' ⟨xs ++ ys, by simpa using h1, (hcx.app hc).kt h2 (by decide)⟩ h2 h3)
theorem wp_app_bins (s x : Operand) (ho : o.op = .call { callee := .builtin .append, args := #[s, x], argTypes := #[27, 27] }) (B : Nat) (v : Value) (ts : List (List T)) (hs : a.eval s = v) (hown : OwnBins w B v ts) (hB : B ≤ w.heap.size)
    (src : Option Addr) (m c : Nat) (us : List (List T)) (hx : a.eval x = .slice src m c) (hsrc : Bins w (.slice src m c) us) (hl : ts.length + us.length ≤ lim)
    (h : ∀ v' w', OwnBins w' B v' (ts ++ us) → KT 24 w w' → Below B w w' → K (a.put o.dst v') w') : o.wp Tryd.prog a w K Q := by
  obtain ⟨rfl, ys, hr, hc⟩ := hsrc.parts
  obtain ⟨xs, hown, hcx⟩ := hown
  unfold lim at hl
  exact wp_app elt_bin s x ho B v ts.length _ hs hown hB src us.length c _ hx (by simpa using hc.1) _ hr hc.one (by omega) (by unfold maxLen; omega)
    (fun v' w' h1 h2 h3 => h v' w' ⟨xs ++ ys, by simpa using h1, (hcx.app hc).kt h2 (by decide) (by decide)⟩ h2 h3)

/-- At the list of a plain region's operations. -/
theorem app_ints (hgd : o.guard = none) (s x : Operand) (ho : o.op = .call { callee := .builtin .append, args := #[s, x], argTypes := #[23, 23] }) (B : Nat) (v : Value) (xs : List Int) (hs : a.eval s = v) (hown : OwnInts w B v xs) (hB : B ≤ w.heap.size)
    (src : Option Addr) (m c : Nat) (ys : List Int) (hx : a.eval x = .slice src m c) (hsrc : Ints w (.slice src m c) ys) (hl : xs.length + ys.length ≤ lim)
    (h : ∀ v' w', OwnInts w' B v' (xs ++ ys) → KT 3 w w' → Below B w w' → wpList Tryd.prog ops Q rest (a.put o.dst v') w') : wpList Tryd.prog ops Q (o :: rest) a w :=
  wpList_plain hgd fun _ hK => wp_app_ints s x ho B v xs hs hown hB src m c ys hx hsrc hl fun v' w' h1 h2 h3 => hK _ _ (h v' w' h1 h2 h3)
theorem app_tasks (hgd : o.guard = none) (s x : Operand) (ho : o.op = .call { callee := .builtin .append, args := #[s, x], argTypes := #[24, 24] }) (B : Nat) (v : Value) (ts : List T) (hs : a.eval s = v) (hown : OwnTasks w B v ts) (hB : B ≤ w.heap.size)
    (src : Option Addr) (m c : Nat) (us : List T) (hx : a.eval x = .slice src m c) (hsrc : Tasks w (.slice src m c) us) (hl : ts.length + us.length ≤ lim)
    (h : ∀ v' w', OwnTasks w' B v' (ts ++ us) → KT 31 w w' → Below B w w' → wpList Tryd.prog ops Q rest (a.put o.dst v') w') : wpList Tryd.prog ops Q (o :: rest) a w :=
  wpList_plain hgd fun _ hK => wp_app_tasks s x ho B v ts hs hown hB src m c us hx hsrc hl fun v' w' h1 h2 h3 => hK _ _ (h v' w' h1 h2 h3)
theorem app_bins (hgd : o.guard = none) (s x : Operand) (ho : o.op = .call { callee := .builtin .append, args := #[s, x], argTypes := #[27, 27] }) (B : Nat) (v : Value) (ts : List (List T)) (hs : a.eval s = v) (hown : OwnBins w B v ts) (hB : B ≤ w.heap.size)
    (src : Option Addr) (m c : Nat) (us : List (List T)) (hx : a.eval x = .slice src m c) (hsrc : Bins w (.slice src m c) us) (hl : ts.length + us.length ≤ lim)
    (h : ∀ v' w', OwnBins w' B v' (ts ++ us) → KT 24 w w' → Below B w w' → wpList Tryd.prog ops Q rest (a.put o.dst v') w') : wpList Tryd.prog ops Q (o :: rest) a w :=
  wpList_plain hgd fun _ hK => wp_app_bins s x ho B v ts hs hown hB src m c us hx hsrc hl fun v' w' h1 h2 h3 => hK _ _ (h v' w' h1 h2 h3)

/-- At a step of a region that draws its order. -/
theorem step_app_ints {E : Prop} (hgd : o.guard = none) (s x : Operand) (ho : o.op = .call { callee := .builtin .append, args := #[s, x], argTypes := #[23, 23] }) (B : Nat) (v : Value) (xs : List Int) (hs : a.eval s = v) (hown : OwnInts w B v xs) (hB : B ≤ w.heap.size)
    (src : Option Addr) (m c : Nat) (ys : List Int) (hx : a.eval x = .slice src m c) (hsrc : Ints w (.slice src m c) ys) (hl : xs.length + ys.length ≤ lim)
    (h : ∀ v' w', OwnInts w' B v' (xs ++ ys) → KT 3 w w' → Below B w w' → K (a.put o.dst v') w') : if Region.wanted o (yielded ops a.tmps) = true then Oper.wp Tryd.prog o a w K Q else E := by
  rw [if_pos (by simp [Region.wanted, hgd])]
  exact wp_app_ints s x ho B v xs hs hown hB src m c ys hx hsrc hl h
theorem step_app_tasks {E : Prop} (hgd : o.guard = none) (s x : Operand) (ho : o.op = .call { callee := .builtin .append, args := #[s, x], argTypes := #[24, 24] }) (B : Nat) (v : Value) (ts : List T) (hs : a.eval s = v) (hown : OwnTasks w B v ts) (hB : B ≤ w.heap.size)
    (src : Option Addr) (m c : Nat) (us : List T) (hx : a.eval x = .slice src m c) (hsrc : Tasks w (.slice src m c) us) (hl : ts.length + us.length ≤ lim)
    (h : ∀ v' w', OwnTasks w' B v' (ts ++ us) → KT 31 w w' → Below B w w' → K (a.put o.dst v') w') : if Region.wanted o (yielded ops a.tmps) = true then Oper.wp Tryd.prog o a w K Q else E := by
  rw [if_pos (by simp [Region.wanted, hgd])]
  exact wp_app_tasks s x ho B v ts hs hown hB src m c us hx hsrc hl h
/-- The same where the step is guarded, and the guard is met. -/
theorem stepg_app_tasks {E : Prop} (hgw : Region.wanted o (yielded ops a.tmps) = true) (s x : Operand) (ho : o.op = .call { callee := .builtin .append, args := #[s, x], argTypes := #[24, 24] }) (B : Nat) (v : Value) (ts : List T) (hs : a.eval s = v) (hown : OwnTasks w B v ts) (hB : B ≤ w.heap.size)
    (src : Option Addr) (m c : Nat) (us : List T) (hx : a.eval x = .slice src m c) (hsrc : Tasks w (.slice src m c) us) (hl : ts.length + us.length ≤ lim)
    (h : ∀ v' w', OwnTasks w' B v' (ts ++ us) → KT 31 w w' → Below B w w' → K (a.put o.dst v') w') : if Region.wanted o (yielded ops a.tmps) = true then Oper.wp Tryd.prog o a w K Q else E := by
  rw [if_pos hgw]
  exact wp_app_tasks s x ho B v ts hs hown hB src m c us hx hsrc hl h
theorem stepg_app_bins {E : Prop} (hgw : Region.wanted o (yielded ops a.tmps) = true) (s x : Operand) (ho : o.op = .call { callee := .builtin .append, args := #[s, x], argTypes := #[27, 27] }) (B : Nat) (v : Value) (ts : List (List T)) (hs : a.eval s = v) (hown : OwnBins w B v ts) (hB : B ≤ w.heap.size)
    (src : Option Addr) (m c : Nat) (us : List (List T)) (hx : a.eval x = .slice src m c) (hsrc : Bins w (.slice src m c) us) (hl : ts.length + us.length ≤ lim)
    (h : ∀ v' w', OwnBins w' B v' (ts ++ us) → KT 24 w w' → Below B w w' → K (a.put o.dst v') w') : if Region.wanted o (yielded ops a.tmps) = true then Oper.wp Tryd.prog o a w K Q else E := by
  rw [if_pos hgw]
  exact wp_app_bins s x ho B v ts hs hown hB src m c us hx hsrc hl h
end
end

section
set_option maxRecDepth 100000

theorem beq_lists {xs ys : List Int} (hl : xs.length = ys.length) (h : ∀ j (h1 : j < xs.length) (h2 : j < ys.length), xs[j] = ys[j]) : (xs == ys) = true := by
  rw [beq_iff_eq]
  exact List.ext_getElem hl h
theorem beq_lists_len {xs ys : List Int} (hl : ¬ xs.length = ys.length) : (xs == ys) = false := by
  rw [beq_eq_false_iff_ne]
  exact fun e => hl (by rw [e])
theorem beq_lists_at {xs ys : List Int} {j : Nat} (h1 : j < xs.length) (h2 : j < ys.length) (h : ¬ xs[j] = ys[j]) : (xs == ys) = false := by
  rw [beq_eq_false_iff_ne]
  intro e
  subst e
  exact h rfl

/-- Are two tasks the same? -/
def sameT (x y : T) : Bool := (x.id == y.id) && (x.need == y.need)
theorem sameT_iff {x y : T} : sameT x y = true ↔ x = y := by
  unfold sameT
  rw [Bool.and_eq_true, beq_iff_eq, beq_iff_eq]
  constructor
  · rintro ⟨h1, h2⟩; cases x; cases y; simp_all
  · rintro rfl; exact ⟨rfl, rfl⟩

/-- Are two lists of tasks the same? -/
def sameTs (xs ys : List T) : Bool := xs.length == ys.length && (List.zip xs ys).all fun p => sameT p.1 p.2
theorem sameTs_iff {xs ys : List T} : sameTs xs ys = true ↔ xs = ys := by
  unfold sameTs
  rw [Bool.and_eq_true, beq_iff_eq, List.all_eq_true]
  constructor
  · rintro ⟨hl, h⟩
    refine List.ext_getElem hl fun j h1 h2 => ?_
    have := h (xs[j], ys[j]) (by
      have hz : j < (xs.zip ys).length := by simp; omega
      have := List.getElem_mem hz
      rwa [List.getElem_zip] at this)
    exact sameT_iff.1 this
  · rintro rfl
    refine ⟨rfl, fun p hp => ?_⟩
    obtain ⟨j, hj, rfl⟩ := List.getElem_of_mem hp
    rw [List.getElem_zip]
    exact sameT_iff.2 rfl
theorem sameTs_at {xs ys : List T} {j : Nat} (h1 : j < xs.length) (h2 : j < ys.length) (h : sameT xs[j] ys[j] = false) : sameTs xs ys = false := by
  rw [Bool.eq_false_iff]
  intro e
  have := sameTs_iff.1 e
  subst this
  rw [sameT_iff.2 rfl] at h
  cases h
theorem sameTs_all {xs ys : List T} (hl : xs.length = ys.length) (h : ∀ j (h1 : j < xs.length) (h2 : j < ys.length), sameT xs[j] ys[j] = true) : sameTs xs ys = true :=
  sameTs_iff.2 (List.ext_getElem hl fun j h1 h2 => sameT_iff.1 (h j h1 h2))

/-- Are two lists of nodes the same? -/
def sameBs (xs ys : List (List T)) : Bool := xs.length == ys.length && (List.zip xs ys).all fun p => sameTs p.1 p.2
theorem sameBs_iff {xs ys : List (List T)} : sameBs xs ys = true ↔ xs = ys := by
  unfold sameBs
  rw [Bool.and_eq_true, beq_iff_eq, List.all_eq_true]
  constructor
  · rintro ⟨hl, h⟩
    refine List.ext_getElem hl fun j h1 h2 => ?_
    have := h (xs[j], ys[j]) (by
      have hz : j < (xs.zip ys).length := by simp; omega
      have := List.getElem_mem hz
      rwa [List.getElem_zip] at this)
    exact sameTs_iff.1 this
  · rintro rfl
    refine ⟨rfl, fun p hp => ?_⟩
    obtain ⟨j, hj, rfl⟩ := List.getElem_of_mem hp
    rw [List.getElem_zip]
    exact sameTs_iff.2 rfl
theorem sameBs_at {xs ys : List (List T)} {j : Nat} (h1 : j < xs.length) (h2 : j < ys.length) (h : sameTs xs[j] ys[j] = false) : sameBs xs ys = false := by
  rw [Bool.eq_false_iff]
  intro e
  have := sameBs_iff.1 e
  subst this
  rw [sameTs_iff.2 rfl] at h
  cases h
theorem sameBs_all {xs ys : List (List T)} (hl : xs.length = ys.length) (h : ∀ j (h1 : j < xs.length) (h2 : j < ys.length), sameTs xs[j] ys[j] = true) : sameBs xs ys = true :=
  sameBs_iff.2 (List.ext_getElem hl fun j h1 h2 => sameTs_iff.1 (h j h1 h2))
end

section
set_option maxRecDepth 100000
open Go.RowKit

theorem KT.below {e : TypeId} {a w w' : World} (h : KT e a w) (k : Below a.heap.size w w') : KT e a w' :=
  ⟨Nat.le_trans h.1 k.size, fun b cs t fz hb ht => (k.block b (lt_of_heap hb)).trans (h.2 b cs t fz hb ht)⟩
theorem KT.put {w : World} {e : TypeId} {p : Addr} {cs : Array Value} {fz : Nat × Nat} (hb : w.heap[p.block]? = some (Obj.cells cs e fz)) (u : Value) : KT e w (w.setCell p u) := by
  refine ⟨by simp, fun b cs' t fz' hb' ht => Below.heap_setCell w p u b (fun x => ?_)⟩
  subst x
  rw [hb] at hb'
  simp only [Option.some.injEq, Obj.cells.injEq] at hb'
  exact ht hb'.2.1.symm
theorem heap_put {w : World} {b k : Nat} {cs : Array Value} {e : TypeId} {fz : Nat × Nat} (h : w.heap[b]? = some (.cells cs e fz)) (u : Value) :
    (w.setCell ⟨b, k, none⟩ u).heap[b]? = some (.cells (cs.setIfInBounds k u) e fz) := by
  have hlt := lt_of_heap h
  have h' : w.heap[b] = .cells cs e fz := by simpa [Array.getElem?_eq_getElem hlt] using h
  show (w.heap.modify b _)[b]? = _
  rw [Array.getElem?_eq_getElem (by simpa using hlt), Array.getElem_modify_self, h']
  simp

theorem box_cell (w : World) (cs : Array Value) (e : TypeId) (k : Nat) : (w.alloc (.cells cs e)).cell? ⟨w.heap.size, k, none⟩ = cs[k]? := by
  have h : (w.alloc (.cells cs e)).heap[w.heap.size]? = some (.cells cs e (0, 0)) := heap_alloc_new w _
  unfold World.cell?
  rw [h]
  rfl
theorem cell_of_heap {w : World} {b : Nat} {cs : Array Value} {t : TypeId} {fz : Nat × Nat} (hb : w.heap[b]? = some (.cells cs t fz)) (k : Nat) : w.cell? ⟨b, k, none⟩ = cs[k]? := by
  unfold World.cell?
  rw [hb]
  rfl
theorem frozen_of_heap {w : World} {b : Nat} {cs : Array Value} {t : TypeId} (hb : w.heap[b]? = some (.cells cs t (0, 0))) (k : Nat) : w.frozen? ⟨b, k, none⟩ = false := by simp [World.frozen?, hb]
theorem cell_far {w : World} {b o b' o' : Nat} {u x : Value} (h : w.cell? ⟨b, o, none⟩ = some x) (ne : b ≠ b') : (w.setCell ⟨b', o', none⟩ u).cell? ⟨b, o, none⟩ = some x := by
  rw [World.cell?_of_block (w := w) (a := ⟨b, o, none⟩) (Below.heap_setCell w ⟨b', o', none⟩ u b ne)]
  exact h
/-- A cell of a row that is owned is written. -/
theorem ownsRow_put {w : World} {B : Nat} {e : TypeId} {size n g c : Nat} {xs : List Value} (h : w.ownsRow B e size (.slice (some ⟨g, 0, none⟩) n c) n xs) {k : Nat} (_hk : k < xs.length) (u : Value) :
    (w.setCell ⟨g, k, none⟩ u).ownsRow B e size (.slice (some ⟨g, 0, none⟩) n c) n (xs.set k u) ∧ KT e w (w.setCell ⟨g, k, none⟩ u) ∧ Below B w (w.setCell ⟨g, k, none⟩ u) ∧ w.frozen? ⟨g, k, none⟩ = false := by
  obtain ⟨hl, h⟩ := h
  rcases h with ⟨h, _⟩ | ⟨g', cap, cur, hv, hB, hg, h1, h2, h3, h4⟩
  · cases h
  · simp only [Value.slice.injEq, Option.some.injEq, Addr.mk.injEq, true_and, and_true] at hv
    obtain ⟨rfl, rfl⟩ := hv
    refine ⟨⟨by simpa using hl, .inr ⟨g, c, cur.setIfInBounds k u, rfl, hB, heap_put hg u, h1, h2, by simpa using h3, ?_⟩⟩, KT.put (p := ⟨g, k, none⟩) hg u, Below.setCell (Below.refl _ _) hB u, by simp [World.frozen?, hg]⟩
    rw [Array.toList_setIfInBounds, List.take_set, h4]
theorem ownsRow_at {w : World} {B : Nat} {e : TypeId} {size n : Nat} {a : Option Addr} {m c : Nat} {xs : List Value} (h : w.ownsRow B e size (.slice a m c) n xs) (h0 : 0 < n) :
    ∃ g, a = some ⟨g, 0, none⟩ ∧ m = n ∧ B ≤ g ∧ g < w.heap.size ∧ (∀ k, k < xs.length → w.cell? ⟨g, k, none⟩ = xs[k]?) ∧ w.ownsRow B e size (.slice (some ⟨g, 0, none⟩) n c) n xs := by
  have h' := h
  obtain ⟨hl, h⟩ := h
  rcases h with ⟨h, hn⟩ | ⟨g, cap, cur, hv, hB, hg, h1, h2, h3, h4⟩
  · omega
  · simp only [Value.slice.injEq] at hv
    obtain ⟨rfl, rfl, rfl⟩ := hv
    refine ⟨g, rfl, rfl, hB, lt_of_heap hg, fun k hk => ?_, h'⟩
    rw [← h4, List.getElem?_take, if_pos (by omega)]
    simp [World.cell?, hg]

theorem run_app2 {P : Program} {t e : TypeId} {size bytes : Nat} (hE : Elt P t e size bytes) (ty : TypeId) (w : World) (B : Nat) (v : Value) (n : Nat) (xs : List Value) (hown : w.ownsRow B e size v n xs) (hB : B ≤ w.heap.size)
    (src : Option Addr) (m c : Nat) (news : List Value) (hl : news.length = m * size) (e' : TypeId) (hrow : Row w e' src news) (h1 : ∀ u ∈ news, u.oneCell' = true) (hb : (n + m) * bytes ≤ 140737488355328) (hn : n + m ≤ maxLen) :
    ∃ v' w', (Builtin.append_ #[t, t] ty #[v, .slice src m c]).run P w = .ok v' w' ∧ w'.ownsRow B e size v' (n + m) (xs ++ news) ∧ w.grownBy w' v.ownBlock ∧ (v'.ownBlock = v.ownBlock ∨ v'.ownBlock = some w.heap.size) := by
  obtain ⟨i, z, ht, hi, hz, hs, hby, hzs, h0⟩ := hE.got
  cases src with
  | none =>
    have hnews : news = [] := by
      rcases hrow with h | ⟨b, off, cs, ha, _⟩
      · exact h
      · cases ha
    subst hnews
    have hm : m = 0 := by
      rcases Nat.eq_zero_or_pos m with h | h
      · exact h
      · have := Nat.mul_pos h h0; simp at hl; omega
    subst hm
    refine ⟨v, w, ?_, by simpa using hown, ⟨rfl, rfl, rfl, Nat.le_refl _, fun _ _ _ => rfl⟩, .inl rfl⟩
    rcases hown.2 with ⟨rfl, rfl⟩ | ⟨g, cap, cur, rfl, _, _, hnc, _⟩
    · simp [Builtin.append_, run_underlying ht, sizeOf, typeInfo, hi, Builtin.lenOf, Builtin.firstCells]
    · simp [Builtin.append_, run_underlying ht, sizeOf, typeInfo, hi, Builtin.lenOf, Builtin.firstCells, hnc, storeCells]
  | some ad =>
    have hnews : ∀ j u, news[j]? = some u → w.cell? (ad.add j) = some u := by
      intro j u hj
      rcases hrow with h | ⟨b, off, cs, ha, hb', hc⟩
      · simp [h] at hj
      · simp only [Option.some.injEq] at ha
        subst ha
        have hlt : j < news.length := by
          rcases Nat.lt_or_ge j news.length with h | h
          · exact h
          · simp [List.getElem?_eq_none h] at hj
        rw [Addr.add_lit]
        simp [World.cell?, hb', hc j hlt, hj]
    obtain ⟨v', w', hr, ho, hg, _, hk⟩ := run_append_own_at (P := P) w B t ty e i z size bytes ht hi hz hs hby hzs h0 v n xs hown ad m c news hl hnews h1 hn hb hB
    exact ⟨v', w', hr, ho, hg, hk⟩

theorem OwnTasks.kt {w w' : World} {B : Nat} {v : Value} {ts : List T} {e : TypeId} (h : OwnTasks w B v ts) (k : KT e w w') (n1 : 3 ≠ e) (n2 : 31 ≠ e) : OwnTasks w' B v ts :=
  let ⟨xs, h1, h2⟩ := h; ⟨xs, ownsRow_kt h1 k n2, h2.kt k n1⟩
theorem OwnInts.kt {w w' : World} {B : Nat} {v : Value} {xs : List Int} {e : TypeId} (h : OwnInts w B v xs) (k : KT e w w') (n1 : 3 ≠ e) : OwnInts w' B v xs := ownsRow_kt h k n1
theorem OwnTasks.base {w : World} {B B' : Nat} {v : Value} {ts : List T} (h : OwnTasks w B v ts) (hb : B' ≤ B) : OwnTasks w B' v ts := by
  obtain ⟨xs, ⟨hl, h1⟩, h2⟩ := h
  refine ⟨xs, ⟨hl, ?_⟩, h2⟩
  rcases h1 with h1 | ⟨g, cap, cur, hv, hg, r⟩
  · exact .inl h1
  · exact .inr ⟨g, cap, cur, hv, by omega, r⟩
theorem OwnTasks.block {w : World} {B : Nat} {v : Value} {ts : List T} (h : OwnTasks w B v ts) {g : Nat} (hg : v.ownBlock = some g) : B ≤ g ∧ ∃ cs fz, w.heap[g]? = some (.cells cs 31 fz) := by
  obtain ⟨xs, ⟨hl, h1⟩, h2⟩ := h
  rcases h1 with ⟨rfl, _⟩ | ⟨g', cap, cur, rfl, hB, hh, r⟩
  · simp [Value.ownBlock] at hg
  · simp only [Value.ownBlock, Option.some.injEq] at hg
    subst hg
    exact ⟨hB, cur, _, hh⟩

theorem OwnTasks.form {w : World} {B : Nat} {v : Value} {ts : List T} (h : OwnTasks w B v ts) : ∃ a c, v = .slice a ts.length c := by
  obtain ⟨xs, ⟨_, h1⟩, _⟩ := h
  rcases h1 with ⟨rfl, hn⟩ | ⟨g, cap, cur, rfl, _⟩
  · exact ⟨none, 0, by rw [hn]⟩
  · exact ⟨_, cap, rfl⟩

/-- All rows of numbers and of tasks are as they were. -/
def KI (w w' : World) : Prop := w.heap.size ≤ w'.heap.size ∧ ∀ (b : Nat) (cs : Array Value) (t : TypeId) (fz : Nat × Nat), w.heap[b]? = some (Obj.cells cs t fz) → (t = 3 ∨ t = 31) → w'.heap[b]? = w.heap[b]?
theorem KI.refl (w : World) : KI w w := ⟨Nat.le_refl _, fun _ _ _ _ _ _ => rfl⟩
theorem KI.trans {a b c : World} (h : KI a b) (k : KI b c) : KI a c :=
  ⟨Nat.le_trans h.1 k.1, fun x cs t fz hx ht => by have h1 := h.2 x cs t fz hx ht; exact (k.2 x cs t fz (h1.trans hx) ht).trans h1⟩
theorem KT.ki {e : TypeId} {w w' : World} (h : KT e w w') (n1 : 3 ≠ e) (n2 : 31 ≠ e) : KI w w' :=
  ⟨h.1, fun b cs t fz hb ht => h.2 b cs t fz hb (by rcases ht with rfl | rfl; exact n1; exact n2)⟩
theorem Ext.ki {w w' : World} (h : Ext w w') : KI w w' := ⟨h.le, fun _ _ _ _ hb _ => h.block (lt_of_heap hb)⟩
theorem KI.below {a w w' : World} (h : KI a w) (k : Below a.heap.size w w') : KI a w' :=
  ⟨Nat.le_trans h.1 k.size, fun b cs t fz hb ht => (k.block b (lt_of_heap hb)).trans (h.2 b cs t fz hb ht)⟩
theorem Ints.ki {w w' : World} {v : Value} {xs : List Int} (h : Ints w v xs) (k : KI w w') : Ints w' v xs := by
  obtain ⟨hl, a, cap, hv, hr⟩ := h
  refine ⟨hl, a, cap, hv, ?_⟩
  rcases hr with h | ⟨b, off, cs, ha, hb, hc⟩
  · exact .inl h
  · exact .inr ⟨b, off, cs, ha, (k.2 _ _ _ _ hb (.inl rfl)).trans hb, hc⟩
theorem Tasks.ki {w w' : World} {v : Value} {ts : List T} (h : Tasks w v ts) (k : KI w w') : Tasks w' v ts := by
  obtain ⟨hl, a, cap, xs, hv, hr, hc1, hc2⟩ := h
  refine ⟨hl, a, cap, xs, hv, ?_, hc1, fun j hj => ⟨(hc2 j hj).1, let ⟨n, a, b⟩ := (hc2 j hj).2; ⟨n, a, b.ki k⟩⟩⟩
  rcases hr with h | ⟨b, off, cs, ha, hb, hc⟩
  · exact .inl h
  · exact .inr ⟨b, off, cs, ha, (k.2 _ _ _ _ hb (.inr rfl)).trans hb, hc⟩

/-- Nodes that the call owns, each node too. -/
def Nest (w : World) (B C : Nat) (v : Value) (bs : List (List T)) : Prop :=
  ∃ xs, w.ownsRow B 24 1 v bs.length xs ∧ xs.length = bs.length ∧ (∀ k (h : k < bs.length), ∃ n, xs[k]? = some n ∧ OwnTasks w C n bs[k]) ∧
    ∀ (i j : Nat) (n m : Value) (g : Nat), i ≠ j → xs[i]? = some n → xs[j]? = some m → n.ownBlock = some g → m.ownBlock ≠ some g
theorem Nest.ext {w w' : World} {B C : Nat} {v : Value} {bs : List (List T)} (h : Nest w B C v bs) (k : Ext w w') : Nest w' B C v bs := by
  obtain ⟨xs, h1, h2, h3, h4⟩ := h
  exact ⟨xs, ownsRow_ext h1 k, h2, fun j hj => let ⟨n, a, b⟩ := h3 j hj; ⟨n, a, b.ext k⟩, h4⟩
theorem Nest.kt {w w' : World} {B C : Nat} {v : Value} {bs : List (List T)} {e : TypeId} (h : Nest w B C v bs) (k : KT e w w') (n1 : 3 ≠ e) (n2 : 31 ≠ e) (n3 : 24 ≠ e) : Nest w' B C v bs := by
  obtain ⟨xs, h1, h2, h3, h4⟩ := h
  exact ⟨xs, ownsRow_kt h1 k n3, h2, fun j hj => let ⟨n, a, b⟩ := h3 j hj; ⟨n, a, b.kt k n1 n2⟩, h4⟩
theorem Nest.drew {w : World} {B C : Nat} {v : Value} {bs : List (List T)} (h : Nest w B C v bs) : Nest w.drew B C v bs := h.ext (Ext.refl w).drew
theorem Nest.nil (w : World) (B C : Nat) : Nest w B C (.slice none 0 0) [] := ⟨[], World.ownsRow_nil _ _ _ _, rfl, fun _ h => by simp at h, fun _ _ _ _ _ _ h => by simp at h⟩
theorem Nest.lit0 (w : World) (B C : Nat) (hB : B ≤ w.heap.size) : Nest (w.alloc (.cells #[] 24)) B C (.slice (some ⟨w.heap.size, 0, none⟩) 0 0) [] :=
  ⟨[], World.ownsRow_lit w #[] 0 hB (by simp [maxLen]) rfl, rfl, fun _ h => by simp at h, fun _ _ _ _ _ _ h => by simp at h⟩
theorem Nest.done {w : World} {B C : Nat} {v : Value} {bs : List (List T)} (h : Nest w B C v bs) (hl : bs.length ≤ lim) (hb : ∀ b ∈ bs, b.length ≤ lim) : Bins w v bs := by
  obtain ⟨xs, h1, h2, h3, h4⟩ := h
  exact Bins.of_own h1 ⟨h2, fun k hk => let ⟨n, a, b⟩ := h3 k hk; ⟨n, a, b.done (hb _ (List.getElem_mem hk))⟩⟩ hl
theorem Nest.form {w : World} {B C : Nat} {v : Value} {bs : List (List T)} (h : Nest w B C v bs) : ∃ a c, v = .slice a bs.length c := by
  obtain ⟨xs, ⟨_, h1⟩, _⟩ := h
  rcases h1 with ⟨rfl, hn⟩ | ⟨g, cap, cur, rfl, _⟩
  · exact ⟨none, 0, by rw [hn]⟩
  · exact ⟨_, cap, rfl⟩
theorem Nest.at {w : World} {B C : Nat} {a : Option Addr} {n c : Nat} {bs : List (List T)} (h : Nest w B C (.slice a n c) bs) {k : Nat} (hk : k < bs.length) :
    ∃ b nd, a = some ⟨b, 0, none⟩ ∧ n = bs.length ∧ B ≤ b ∧ w.cell? ⟨b, k, none⟩ = some nd ∧ OwnTasks w C nd bs[k] ∧ w.frozen? ⟨b, k, none⟩ = false := by
  obtain ⟨xs, h1, h2, h3, h4⟩ := h
  obtain ⟨g, rfl, rfl, hB, _, hc, ho⟩ := ownsRow_at h1 (by omega)
  obtain ⟨nd, hn, hot⟩ := h3 k hk
  exact ⟨g, nd, rfl, rfl, hB, by rw [hc k (by omega), hn], hot, (ownsRow_put ho (k := k) (by omega) (.bool true)).2.2.2⟩

/-- A node grows: its row was appended to, and the new slice is put into the row of nodes. -/
theorem Nest.push {w w1 : World} {B C b n c : Nat} {bs : List (List T)} (h : Nest w B C (.slice (some ⟨b, 0, none⟩) n c) bs) {k : Nat} (hk : k < bs.length) {nd nd' : Value} (hc : w.cell? ⟨b, k, none⟩ = some nd) {ts : List T}
    (hC : C ≤ w.heap.size) (ho : OwnTasks w1 C nd' ts) (hg : w.grownBy w1 nd.ownBlock) (hb : nd'.ownBlock = nd.ownBlock ∨ nd'.ownBlock = some w.heap.size) :
    Nest (w1.setCell ⟨b, k, none⟩ nd') B C (.slice (some ⟨b, 0, none⟩) n c) (bs.set k ts) ∧ KT 31 w w1 ∧ KT 24 w1 (w1.setCell ⟨b, k, none⟩ nd') ∧ Below B w1 (w1.setCell ⟨b, k, none⟩ nd') ∧ Below C w w1 ∧
      w1.cell? ⟨b, k, none⟩ = some nd ∧ w1.frozen? ⟨b, k, none⟩ = false := by
  obtain ⟨xs, h1, h2, h3, h4⟩ := h
  obtain ⟨g, hga, rfl, hB, hlt, hcells, ho1⟩ := ownsRow_at h1 (by omega)
  simp only [Option.some.injEq, Addr.mk.injEq, and_true] at hga
  subst hga
  obtain ⟨nd0, hn0, hot⟩ := h3 k hk
  have e0 : nd0 = nd := by
    have := (hcells k (by omega)).symm.trans hc
    rw [hn0] at this
    simpa using this
  subst e0
  have hrow : ∃ cur fz, w.heap[b]? = some (.cells cur 24 fz) := by
    obtain ⟨_, h⟩ := ho1
    rcases h with ⟨h, _⟩ | ⟨g', cap, cur, hv, _, hg, _⟩
    · cases h
    · simp only [Value.slice.injEq, Option.some.injEq, Addr.mk.injEq, true_and, and_true] at hv
      obtain ⟨rfl, rfl⟩ := hv
      exact ⟨cur, _, hg⟩
  obtain ⟨cur, fz, hrow⟩ := hrow
  have nb : some b ≠ nd0.ownBlock := by
    intro e
    obtain ⟨_, cs, fz', h'⟩ := hot.block e.symm
    rw [hrow] at h'
    simp only [Option.some.injEq, Obj.cells.injEq] at h'
    exact absurd h'.2.1 (by decide)
  have ht : KT 31 w w1 := ⟨hg.size, fun b' cs t fz' hb' hne => hg.block b' (lt_of_heap hb') (fun x => by
    obtain ⟨_, cs', fz2, h'⟩ := hot.block x.symm
    rw [hb'] at h'
    simp only [Option.some.injEq, Obj.cells.injEq] at h'
    exact hne h'.2.1)⟩
  have hbw : Below C w w1 := ⟨hg.os, hg.tape, hg.output, hg.size, fun k' hk' => by
    refine hg.block k' (by omega) (fun x => ?_)
    have := (hot.block x.symm).1
    omega⟩
  have r1 : w1.heap[b]? = w.heap[b]? := hg.block b hlt nb
  have ho2 : w1.ownsRow B 24 1 (.slice (some ⟨b, 0, none⟩) bs.length c) bs.length xs := ownsRow_kt ho1 ht (by decide)
  obtain ⟨p1, p2, p3, p4⟩ := ownsRow_put ho2 (k := k) (by omega) nd'
  refine ⟨⟨xs.set k nd', by simpa using p1, by simpa using h2, fun j hj => ?_, fun i j n m g hij hi hj hgi => ?_⟩, ht, p2, p3, hbw, ?_, p4⟩
  · simp only [List.length_set] at hj
    by_cases e : k = j
    · subst e
      exact ⟨nd', by rw [List.getElem?_set_self (by omega)], by rw [List.getElem_set_self]; exact ho.kt p2 (by decide) (by decide)⟩
    · obtain ⟨m, hm, hom⟩ := h3 j hj
      refine ⟨m, by rw [List.getElem?_set_ne e, hm], ?_⟩
      rw [List.getElem_set_ne e]
      have hom1 : OwnTasks w1 C m bs[j] := by
        obtain ⟨ys, ⟨hl, hy⟩, hcs⟩ := hom
        refine ⟨ys, ⟨hl, ?_⟩, hcs.kt ht (by decide)⟩
        rcases hy with hy | ⟨g', cap, cur', rfl, hB', hh, r⟩
        · exact .inl hy
        · refine .inr ⟨g', cap, cur', rfl, hB', ?_, r⟩
          rw [hg.block g' (lt_of_heap hh) (fun x => h4 k j nd0 _ g' e hn0 hm x.symm rfl)]
          exact hh
      exact hom1.kt p2 (by decide) (by decide)
  · have old : ∀ (i : Nat) (n : Value) (g : Nat), i ≠ k → xs[i]? = some n → n.ownBlock = some g → nd'.ownBlock ≠ some g := by
      intro i n g hik hi hgi hx
      rcases hb with hb | hb
      · rw [hb] at hx
        exact h4 i k n nd0 g hik hi hn0 hgi hx
      · rw [hb] at hx
        simp only [Option.some.injEq] at hx
        have hil : i < bs.length := by
          rcases Nat.lt_or_ge i xs.length with h | h
          · omega
          · simp [List.getElem?_eq_none h] at hi
        obtain ⟨n', hn', ho'⟩ := h3 i hil
        rw [hi] at hn'
        simp only [Option.some.injEq] at hn'
        subst hn'
        obtain ⟨_, cs, fz', hh⟩ := ho'.block hgi
        have := lt_of_heap hh
        omega
    by_cases ei : k = i
    · subst ei
      rw [List.getElem?_set_self (by omega)] at hi
      simp only [Option.some.injEq] at hi
      subst hi
      rw [List.getElem?_set_ne hij] at hj
      exact fun hx => old j m g (Ne.symm hij) hj hx hgi
    · rw [List.getElem?_set_ne ei] at hi
      by_cases ej : k = j
      · subst ej
        rw [List.getElem?_set_self (by omega)] at hj
        simp only [Option.some.injEq] at hj
        subst hj
        exact old i n g hij hi hgi
      · rw [List.getElem?_set_ne ej] at hj
        exact h4 i j n m g hij hi hj hgi
  · rw [World.cell?_of_block (w := w) (a := ⟨b, k, none⟩) r1]
    exact hc

/-- A node more, at the end. -/
theorem Nest.snoc {w w1 : World} {B C : Nat} {v v' n : Value} {bs : List (List T)} {ts : List T} (h : Nest w B C v bs) (hE : Ext w w1) (hn : OwnTasks w1 w.heap.size n ts) (hC : C ≤ w.heap.size) {w2 : World}
    (hown : ∀ xs, w1.ownsRow B 24 1 v bs.length xs → w2.ownsRow B 24 1 v' (bs.length + 1) (xs ++ [n])) (hk : KT 24 w1 w2) : Nest w2 B C v' (bs ++ [ts]) := by
  obtain ⟨xs, h1, h2, h3, h4⟩ := h
  refine ⟨xs ++ [n], by simpa using hown xs (ownsRow_ext h1 hE), by simp [h2], fun k hk' => ?_, fun i j a b g hij hi hj hga hgb => ?_⟩
  · simp only [List.length_append, List.length_singleton] at hk'
    by_cases hlt : k < bs.length
    · obtain ⟨m, hm, hom⟩ := h3 k hlt
      refine ⟨m, by rw [List.getElem?_append_left (by omega), hm], ?_⟩
      rw [List.getElem_append_left hlt]
      exact (hom.ext hE).kt hk (by decide) (by decide)
    · have e : k = bs.length := by omega
      subst e
      refine ⟨n, by rw [← h2, List.getElem?_append_right (Nat.le_refl _)]; simp, ?_⟩
      rw [List.getElem_append_right (Nat.le_refl _)]
      simpa using (hn.base hC).kt hk (by decide) (by decide)
  · have old : ∀ (i : Nat) (a : Value) (g : Nat), xs[i]? = some a → a.ownBlock = some g → n.ownBlock ≠ some g := by
      intro i a g hi hga hx
      have hil : i < bs.length := by
        rcases Nat.lt_or_ge i xs.length with h | h
        · omega
        · simp [List.getElem?_eq_none h] at hi
      obtain ⟨n', hn', ho'⟩ := h3 i hil
      rw [hi] at hn'
      simp only [Option.some.injEq] at hn'
      subst hn'
      obtain ⟨_, cs, fz', hh⟩ := ho'.block hga
      have := lt_of_heap hh
      have := (hn.block hx).1
      omega
    have cut : ∀ (i : Nat) (a : Value), (xs ++ [n])[i]? = some a → (i < xs.length ∧ xs[i]? = some a) ∨ (i = xs.length ∧ a = n) := by
      intro i a hi
      by_cases hl : i < xs.length
      · rw [List.getElem?_append_left hl] at hi; exact .inl ⟨hl, hi⟩
      · rw [List.getElem?_append_right (by omega)] at hi
        have e : i - xs.length = 0 := by
          rcases Nat.eq_zero_or_pos (i - xs.length) with h | h
          · exact h
          · rw [List.getElem?_eq_none (by simp; omega)] at hi; cases hi
        rw [e] at hi
        simp at hi
        exact .inr ⟨by omega, hi.symm⟩
    rcases cut i a hi with ⟨_, hi⟩ | ⟨ei, ea⟩
    · rcases cut j b hj with ⟨_, hj⟩ | ⟨ej, eb⟩
      · exact h4 i j a b g hij hi hj hga hgb
      · exact old i a g hi hga (by rw [← eb]; exact hgb)
    · rcases cut j b hj with ⟨_, hj⟩ | ⟨ej, eb⟩
      · exact old j b g hj hgb (by rw [← ea]; exact hga)
      · omega

section
variable {w : World} {ops : Array Oper} {rest : List Oper} {o : Oper} {a : Act} {Q : Exit → Act → World → Prop} {K : Act → World → Prop}

/-- 'append(s, x...)' of tasks, with what changed. -/
theorem wp_app2_tasks (s x : Operand) (ho : o.op = .call { callee := .builtin .append, args := #[s, x], argTypes := #[24, 24] }) (B : Nat) (v : Value) (ts : List T) (hs : a.eval s = v) (hown : OwnTasks w B v ts) (hB : B ≤ w.heap.size)
    (src : Option Addr) (m c : Nat) (us : List T) (hx : a.eval x = .slice src m c) (hsrc : Tasks w (.slice src m c) us) (hl : ts.length + us.length ≤ lim)
    (h : ∀ v' w', OwnTasks w' B v' (ts ++ us) → w.grownBy w' v.ownBlock → (v'.ownBlock = v.ownBlock ∨ v'.ownBlock = some w.heap.size) → K (a.put o.dst v') w') : o.wp Tryd.prog a w K Q := by
  obtain ⟨rfl, ys, hr, hc⟩ := hsrc.parts
  obtain ⟨xs, hown, hcx⟩ := hown
  unfold lim at hl
  obtain ⟨v', w', hr, h2, h3, h4⟩ := run_app2 elt_task o.type w B v ts.length xs hown hB src us.length c ys hc.1 _ hr hc.one (by omega) (by unfold maxLen; omega)
  unfold Oper.wp execOp
  simp only [ho, resolve, invoke, builtin, Sem.run_bind, Sem.run_pure, Result.andThen_ok, List.map_toArray, List.map_cons, List.map_nil, hs, hx, hr]
  exact h v' w' ⟨xs ++ ys, by simpa using h2, (hcx.app hc).kt (grownBy_kt hown h3) (by decide)⟩ h3 h4
theorem app2_tasks (hgd : o.guard = none) (s x : Operand) (ho : o.op = .call { callee := .builtin .append, args := #[s, x], argTypes := #[24, 24] }) (B : Nat) (v : Value) (ts : List T) (hs : a.eval s = v) (hown : OwnTasks w B v ts) (hB : B ≤ w.heap.size)
    (src : Option Addr) (m c : Nat) (us : List T) (hx : a.eval x = .slice src m c) (hsrc : Tasks w (.slice src m c) us) (hl : ts.length + us.length ≤ lim)
    (h : ∀ v' w', OwnTasks w' B v' (ts ++ us) → w.grownBy w' v.ownBlock → (v'.ownBlock = v.ownBlock ∨ v'.ownBlock = some w.heap.size) → wpList Tryd.prog ops Q rest (a.put o.dst v') w') : wpList Tryd.prog ops Q (o :: rest) a w :=
  wpList_plain hgd fun _ hK => wp_app2_tasks s x ho B v ts hs hown hB src m c us hx hsrc hl fun v' w' h1 h2 h3 => hK _ _ (h v' w' h1 h2 h3)
theorem step_app2_tasks {E : Prop} (hgd : o.guard = none) (s x : Operand) (ho : o.op = .call { callee := .builtin .append, args := #[s, x], argTypes := #[24, 24] }) (B : Nat) (v : Value) (ts : List T) (hs : a.eval s = v) (hown : OwnTasks w B v ts) (hB : B ≤ w.heap.size)
    (src : Option Addr) (m c : Nat) (us : List T) (hx : a.eval x = .slice src m c) (hsrc : Tasks w (.slice src m c) us) (hl : ts.length + us.length ≤ lim)
    (h : ∀ v' w', OwnTasks w' B v' (ts ++ us) → w.grownBy w' v.ownBlock → (v'.ownBlock = v.ownBlock ∨ v'.ownBlock = some w.heap.size) → K (a.put o.dst v') w') : if Region.wanted o (yielded ops a.tmps) = true then Oper.wp Tryd.prog o a w K Q else E := by
  rw [if_pos (by simp [Region.wanted, hgd])]
  exact wp_app2_tasks s x ho B v ts hs hown hB src m c us hx hsrc hl h
/-- 'append(bins, bin)': a node more. -/
theorem wp_app_nest (s x : Operand) (ho : o.op = .call { callee := .builtin .append, args := #[s, x], argTypes := #[27, 27] }) (B : Nat) (v : Value) (bs : List (List T)) (hs : a.eval s = v) {C : Nat} {w0 : World} (hnest : Nest w0 B C v bs) (hE : Ext w0 w) (hB : B ≤ w0.heap.size) (hC : C ≤ w0.heap.size)
    (src : Option Addr) (c : Nat) (n : Value) (ts : List T) (hx : a.eval x = .slice src 1 c) (hrow : Row w 24 src [n]) (hn : OwnTasks w w0.heap.size n ts) (hl : bs.length + 1 ≤ lim)
    (h : ∀ v' w', Nest w' B C v' (bs ++ [ts]) → KT 24 w w' → Below B w w' → K (a.put o.dst v') w') : o.wp Tryd.prog a w K Q := by
  have hnest' := hnest
  obtain ⟨xs, hown, _⟩ := hnest
  unfold lim at hl
  have hone : n.oneCell' = true := by
    obtain ⟨_, ⟨_, hn⟩, _⟩ := hn
    rcases hn with ⟨rfl, _⟩ | ⟨_, _, _, rfl, _⟩ <;> rfl
  have hB' : B ≤ w.heap.size := Nat.le_trans hB hE.le
  refine wp_app elt_bin s x ho B v bs.length xs hs (ownsRow_ext hown hE) hB' src 1 c [n] hx rfl _ hrow (by simpa using hone) (by omega) (by unfold maxLen; omega) (fun v' w' h1 h2 h3 => h v' w' ?_ h2 h3)
  refine hnest'.snoc hE hn hC (fun ys hys => ?_) h2
  have : ys = xs := by
    have e2 := ownsRow_ext hown hE
    obtain ⟨y1, q1⟩ := hys
    obtain ⟨x1, q2⟩ := e2
    rcases q1 with ⟨rfl, hn1⟩ | ⟨g1, c1, u1, rfl, _, k1, _, _, _, t1⟩
    · have l1 : ys = [] := List.eq_nil_of_length_eq_zero (by rw [y1, hn1])
      have l2 : xs = [] := List.eq_nil_of_length_eq_zero (by rw [x1, hn1])
      rw [l1, l2]
    · rcases q2 with ⟨q2, _⟩ | ⟨g2, c2, u2, hv2, _, k2, _, _, _, t2⟩
      · cases q2
      · simp only [Value.slice.injEq, Option.some.injEq, Addr.mk.injEq, true_and, and_true] at hv2
        obtain ⟨rfl, rfl⟩ := hv2
        rw [k1] at k2
        simp only [Option.some.injEq, Obj.cells.injEq] at k2
        rw [← t1, ← t2, k2.1]
  subst this
  exact h1
theorem app_nest (hgd : o.guard = none) (s x : Operand) (ho : o.op = .call { callee := .builtin .append, args := #[s, x], argTypes := #[27, 27] }) (B : Nat) (v : Value) (bs : List (List T)) (hs : a.eval s = v) {C : Nat} {w0 : World} (hnest : Nest w0 B C v bs) (hE : Ext w0 w) (hB : B ≤ w0.heap.size) (hC : C ≤ w0.heap.size)
    (src : Option Addr) (c : Nat) (n : Value) (ts : List T) (hx : a.eval x = .slice src 1 c) (hrow : Row w 24 src [n]) (hn : OwnTasks w w0.heap.size n ts) (hl : bs.length + 1 ≤ lim)
    (h : ∀ v' w', Nest w' B C v' (bs ++ [ts]) → KT 24 w w' → Below B w w' → wpList Tryd.prog ops Q rest (a.put o.dst v') w') : wpList Tryd.prog ops Q (o :: rest) a w :=
  wpList_plain hgd fun _ hK => wp_app_nest s x ho B v bs hs hnest hE hB hC src c n ts hx hrow hn hl fun v' w' h1 h2 h3 => hK _ _ (h v' w' h1 h2 h3)
end
end

section
set_option maxRecDepth 100000
open Go.RowKit

theorem info_int : (Tryd.prog.info? 3).map (fun i => (i.zero, i.size, i.bytes)) = some (some (.int .i64 0), 1, 8) := by kernel_rfl
theorem under_ints : Tryd.prog.underlying 23 = some (.slice 3) := by kernel_rfl
theorem info_task : (Tryd.prog.info? 31).map (fun i => (i.zero, i.size, i.bytes)) = some (some (.agg #[.int .i64 0, .slice none 0 0]), 2, 32) := by kernel_rfl
theorem under_tasks : Tryd.prog.underlying 24 = some (.slice 31) := by kernel_rfl
theorem info_bin : (Tryd.prog.info? 24).map (fun i => (i.zero, i.size, i.bytes)) = some (some (.slice none 0 0), 1, 24) := by kernel_rfl
theorem under_bins : Tryd.prog.underlying 27 = some (.slice 24) := by kernel_rfl

/-- How many numbers the needs hold. -/
def needs (ts : List T) : Nat := (ts.map fun t => t.need.length).sum
theorem needs_step {ts : List T} {k : Nat} (h : k < ts.length) : needs (ts.take (k + 1)) = needs (ts.take k) + ts[k].need.length := by
  unfold needs
  rw [List.take_succ_eq_append_getElem h, List.map_append, List.sum_append]
  simp
theorem needs_le {ts : List T} {k : Nat} (h : k < ts.length) : ts[k].need.length ≤ needs ts := by
  have h1 : needs ts = needs (ts.take (k + 1)) + needs (ts.drop (k + 1)) := by
    unfold needs
    rw [← List.sum_append, ← List.map_append, List.take_append_drop]
  rw [h1, needs_step h]
  omega
/-- How many tasks and numbers the nodes hold. -/
def weigh (bs : List (List T)) : Nat := (bs.map fun b => b.length + needs b).sum
theorem weigh_step {bs : List (List T)} {k : Nat} (h : k < bs.length) : weigh (bs.take (k + 1)) = weigh (bs.take k) + (bs[k].length + needs bs[k]) := by
  unfold weigh
  rw [List.take_succ_eq_append_getElem h, List.map_append, List.sum_append]
  simp
theorem weigh_le {bs : List (List T)} {k : Nat} (h : k < bs.length) : bs[k].length + needs bs[k] ≤ weigh bs := by
  have h1 : weigh bs = weigh (bs.take (k + 1)) + weigh (bs.drop (k + 1)) := by
    unfold weigh
    rw [← List.sum_append, ← List.map_append, List.take_append_drop]
  rw [h1, weigh_step h]
  omega
theorem flat_le (bs : List (List T)) : bs.flatten.length ≤ weigh bs := by
  induction bs with
  | nil => simp
  | cons b r ih => simp [weigh] at *; omega

/-- A need that lies in a block of its own. -/
def NeedS (w : World) (L g : Nat) (v : Value) (need : List Int) : Prop := (∃ cap, v = .slice (some ⟨g, 0, none⟩) need.length cap) ∧ OwnInts w L v need
theorem NeedS.ext {w w' : World} {L g : Nat} {v : Value} {need : List Int} (h : NeedS w L g v need) (k : Ext w w') : NeedS w' L g v need := ⟨h.1, h.2.ext k⟩
theorem NeedS.kt {w w' : World} {L g : Nat} {v : Value} {need : List Int} {e : TypeId} (h : NeedS w L g v need) (k : KT e w w') (ne : 3 ≠ e) : NeedS w' L g v need := ⟨h.1, ownsRow_kt h.2 k ne⟩
theorem NeedS.lt {w : World} {L g : Nat} {v : Value} {need : List Int} (h : NeedS w L g v need) : L ≤ g ∧ g < w.heap.size := by
  obtain ⟨⟨cap, rfl⟩, ho⟩ := h
  exact ho.lt g rfl
/-- The cells of tasks whose needs lie in blocks of their own, no two in one. -/
def CellsS (w : World) (L : Nat) (xs : List Value) (ts : List T) (nb : Nat → Nat) (m : Nat) : Prop :=
  (∀ k (h : k < ts.length), k < m → xs[k * 2]? = some (.int .i64 ts[k].id) ∧ ∃ n, xs[k * 2 + 1]? = some n ∧ NeedS w L (nb k) n ts[k].need) ∧ ∀ i j, i < j → j < ts.length → j < m → nb i ≠ nb j
/-- A slice of tasks in memory of its own, from block L on. -/
def TasksS (w : World) (L : Nat) (v : Value) (ts : List T) : Prop := ∃ xs nb, w.ownsRow L 31 2 v ts.length xs ∧ CellsS w L xs ts nb ts.length
theorem TasksS.ext {w w' : World} {L : Nat} {v : Value} {ts : List T} (h : TasksS w L v ts) (k : Ext w w') : TasksS w' L v ts := by
  obtain ⟨xs, nb, h1, h2, h3⟩ := h
  exact ⟨xs, nb, ownsRow_ext h1 k, fun j hj hm => ⟨(h2 j hj hm).1, let ⟨n, a, b⟩ := (h2 j hj hm).2; ⟨n, a, b.ext k⟩⟩, h3⟩
theorem TasksS.tasks {w : World} {L : Nat} {v : Value} {ts : List T} (h : TasksS w L v ts) (hl : ts.length ≤ lim) (hn : ∀ t ∈ ts, t.need.length ≤ lim) : Tasks w v ts := by
  obtain ⟨xs, nb, h1, h2, h3⟩ := h
  refine Tasks.of_own h1 ⟨h1.1, fun k hk => ?_⟩ hl
  obtain ⟨c0, n, c1, hv⟩ := h2 k hk hk
  exact ⟨c0, n, c1, hv.2.done (hn _ (List.getElem_mem _))⟩

theorem ownsRow_base {w : World} {B B' : Nat} {e : TypeId} {size n : Nat} {v : Value} {xs : List Value} (h : w.ownsRow B e size v n xs) (hb : B' ≤ B) : w.ownsRow B' e size v n xs := by
  obtain ⟨hl, h⟩ := h
  refine ⟨hl, ?_⟩
  rcases h with h | ⟨g, cap, cur, hv, hg, r⟩
  · exact .inl h
  · exact .inr ⟨g, cap, cur, hv, by omega, r⟩
theorem NeedS.base {w : World} {L L' g : Nat} {v : Value} {need : List Int} (h : NeedS w L g v need) (hb : L' ≤ L) : NeedS w L' g v need := ⟨h.1, ownsRow_base h.2 hb⟩
theorem KT.setCell {w : World} {e : TypeId} {p : Addr} {cs : Array Value} {fz : Nat × Nat} (hb : w.heap[p.block]? = some (Obj.cells cs e fz)) (u : Value) : KT e w (w.setCell p u) := by
  refine ⟨by simp, fun b cs' t fz' hb' ht => Below.heap_setCell w p u b (fun x => ?_)⟩
  subst x
  rw [hb] at hb'
  simp only [Option.some.injEq, Obj.cells.injEq] at hb'
  exact ht hb'.2.1.symm
theorem Ext.frozen {a w : World} (h : Ext a w) {p : Addr} (hp : p.block < a.heap.size) : w.frozen? p = a.frozen? p := Below.frozen h hp
theorem TasksS.kt {w w' : World} {L : Nat} {v : Value} {ts : List T} {e : TypeId} (h : TasksS w L v ts) (k : KT e w w') (n1 : 3 ≠ e) (n2 : 31 ≠ e) : TasksS w' L v ts := by
  obtain ⟨xs, nb, h1, h2, h3⟩ := h
  exact ⟨xs, nb, ownsRow_kt h1 k n2, fun j hj hm => ⟨(h2 j hj hm).1, let ⟨n, a, b⟩ := (h2 j hj hm).2; ⟨n, a, b.kt k n1⟩⟩, h3⟩
theorem TasksS.base {w : World} {L L' : Nat} {v : Value} {ts : List T} (h : TasksS w L v ts) (hb : L' ≤ L) : TasksS w L' v ts := by
  obtain ⟨xs, nb, h1, h2, h3⟩ := h
  exact ⟨xs, nb, ownsRow_base h1 hb, fun j hj hm => ⟨(h2 j hj hm).1, let ⟨n, a, b⟩ := (h2 j hj hm).2; ⟨n, a, b.base hb⟩⟩, h3⟩
/-- A slice of nodes in memory of its own, from block L on. -/
def BinsS (w : World) (L : Nat) (v : Value) (bs : List (List T)) : Prop :=
  ∃ xs, w.ownsRow L 24 1 v bs.length xs ∧ ∀ k (h : k < bs.length), ∃ n, xs[k]? = some n ∧ TasksS w L n bs[k]
theorem BinsS.ext {w w' : World} {L : Nat} {v : Value} {bs : List (List T)} (h : BinsS w L v bs) (k : Ext w w') : BinsS w' L v bs := by
  obtain ⟨xs, h1, h2⟩ := h
  exact ⟨xs, ownsRow_ext h1 k, fun j hj => let ⟨n, a, b⟩ := h2 j hj; ⟨n, a, b.ext k⟩⟩
theorem BinsS.bins {w : World} {L : Nat} {v : Value} {bs : List (List T)} (h : BinsS w L v bs) (hl : bs.length + weigh bs ≤ lim) : Bins w v bs := by
  obtain ⟨xs, h1, h2⟩ := h
  have hx := h1.1
  refine Bins.of_own h1 ⟨by omega, fun k hk => ?_⟩ (by omega)
  obtain ⟨n, a, b⟩ := h2 k hk
  have hw := weigh_le hk
  refine ⟨n, a, b.tasks (by omega) fun t ht => ?_⟩
  obtain ⟨j, hj, rfl⟩ := List.getElem_of_mem ht
  have := needs_le hj
  omega
end

section
set_option maxRecDepth 100000
open Go.RowKit

/-- A literal of one task, known by its block. -/
theorem Tasks.of_heap {w : World} {b c : Nat} {t : T} {n : Value} (hb : w.heap[b]? = some (.cells #[.int .i64 t.id, n] 31 (0, 0))) (hn : Ints w n t.need) : Tasks w (.slice (some ⟨b, 0, none⟩) 1 c) [t] :=
  ⟨by simp [lim], _, c, [.int .i64 t.id, n], rfl, .inr ⟨b, 0, _, rfl, hb, fun k _ => by simp⟩, by simpa using (TaskCells.nil w).snoc hn⟩
/-- A literal of one node, known by its block. -/
theorem Bins.of_heap {w : World} {b c : Nat} {ts : List T} {n : Value} (hb : w.heap[b]? = some (.cells #[n] 24 (0, 0))) (hn : Tasks w n ts) : Bins w (.slice (some ⟨b, 0, none⟩) 1 c) [ts] :=
  ⟨by simp [lim], _, c, [n], rfl, .inr ⟨b, 0, _, rfl, hb, fun k _ => by simp⟩, by simpa using (BinCells.nil w).snoc hn⟩
theorem OwnTasks.lit0' (w : World) (B : Nat) (h : B ≤ w.heap.size) (n : Nat) (hn : n = w.heap.size) : OwnTasks (w.alloc (.cells #[] 31)) B (.slice (some ⟨n, 0, none⟩) 0 0) [] := by subst hn; exact OwnTasks.lit0 w B h
theorem grown_heap {w w1 : World} {b g : Nat} {o : Obj} (hb : w.heap[b]? = some o) (hg : w.grownBy w1 (some g)) (ne : b ≠ g) : w1.heap[b]? = some o := by
  have hlt := lt_of_heap hb
  rw [hg.block b hlt (by simp; omega)]
  exact hb
theorem heap1 (w : World) (o p : Obj) : ((w.alloc o).alloc p).drew.heap[w.heap.size]? = some o := (Below.heap_alloc (w.alloc o) p _ (by simp)).trans (heap_alloc_new w o)
theorem heap2 (w : World) (o p : Obj) : ((w.alloc o).alloc p).drew.heap[w.heap.size + 1]? = some p := by
  have := heap_alloc_new (w.alloc o) p
  rwa [World.size_alloc] at this
theorem Ext.of_grown {w0 w w' : World} {g : Nat} (h : Ext w0 w) (k : w.grownBy w' (some g)) (hg : w0.heap.size ≤ g) : Ext w0 w' :=
  ⟨k.os.trans h.os, k.tape.trans h.tape, k.output.trans h.output, Nat.le_trans h.le k.size, fun b hb => (k.block b (Nat.lt_of_lt_of_le hb h.le) (by simp; omega)).trans (h.block hb)⟩

theorem OwnBins.lit0' (w : World) (B : Nat) (h : B ≤ w.heap.size) (n : Nat) (hn : n = w.heap.size) : OwnBins (w.alloc (.cells #[] 24)) B (.slice (some ⟨n, 0, none⟩) 0 0) [] := by subst hn; exact OwnBins.lit0 w B h
theorem Tasks.lit1' {w : World} {t : T} {n : Value} (hn : Ints w n t.need) (c k : Nat) (hk : k = w.heap.size) : Tasks (w.alloc (.cells #[.int .i64 t.id, n] 31)) (.slice (some ⟨k, 0, none⟩) 1 c) [t] := by subst hk; exact Tasks.lit1 hn c
theorem Bins.lit1' {w : World} {b : List T} {n : Value} (hn : Tasks w n b) (c k : Nat) (hk : k = w.heap.size) : Bins (w.alloc (.cells #[n] 24)) (.slice (some ⟨k, 0, none⟩) 1 c) [b] := by subst hk; exact Bins.lit1 hn c
/-- The k-th object that a literal world holds above 'w'. -/
theorem heap_push (w : World) (o : Obj) {n : Nat} (hn : n = w.heap.size) : (w.alloc o).heap[n]? = some o := by subst hn; exact heap_alloc_new w o
theorem heap_skip (w : World) (p : Obj) {n : Nat} {o : Obj} (h : w.heap[n]? = some o) : (w.alloc p).heap[n]? = some o := (Below.heap_alloc w p _ (lt_of_heap h)).trans h
theorem heap_drew (w : World) {n : Nat} {o : Obj} (h : w.heap[n]? = some o) : w.drew.heap[n]? = some o := h
theorem Tasks.grown {w w1 : World} {b c g : Nat} {t : T} {n : Value} (hb : w.heap[b]? = some (.cells #[.int .i64 t.id, n] 31 (0, 0))) (hg : w.grownBy w1 (some g)) (ne : b ≠ g) (hn : Ints w1 n t.need) : Tasks w1 (.slice (some ⟨b, 0, none⟩) 1 c) [t] := Tasks.of_heap (grown_heap hb hg ne) hn
theorem Bins.grown {w w1 : World} {b c g : Nat} {ts : List T} {n : Value} (hb : w.heap[b]? = some (.cells #[n] 24 (0, 0))) (hg : w.grownBy w1 (some g)) (ne : b ≠ g) (hn : Tasks w1 n ts) : Bins w1 (.slice (some ⟨b, 0, none⟩) 1 c) [ts] := Bins.of_heap (grown_heap hb hg ne) hn

section
variable {a : Act} {w : World} {K : Act → World → Prop} {Q : Exit → Act → World → Prop} {o : Oper} {ops : Array Oper}
theorem stepg_app2_bins {E : Prop} (hgw : Region.wanted o (yielded ops a.tmps) = true) (s x : Operand) (ho : o.op = .call { callee := .builtin .append, args := #[s, x], argTypes := #[27, 27] }) (B : Nat) (v : Value) (ts : List (List T)) (hs : a.eval s = v) (hown : OwnBins w B v ts) (hB : B ≤ w.heap.size)
    (src : Option Addr) (m c : Nat) (us : List (List T)) (hx : a.eval x = .slice src m c) (hsrc : Bins w (.slice src m c) us) (hl : ts.length + us.length ≤ lim)
    (h : ∀ v' w', OwnBins w' B v' (ts ++ us) → w.grownBy w' v.ownBlock → (v'.ownBlock = v.ownBlock ∨ v'.ownBlock = some w.heap.size) → K (a.put o.dst v') w') : if Region.wanted o (yielded ops a.tmps) = true then Oper.wp Tryd.prog o a w K Q else E := by
  rw [if_pos hgw]
  obtain ⟨rfl, ys, hr, hc⟩ := hsrc.parts
  obtain ⟨xs, hown, hcx⟩ := hown
  unfold lim at hl
  obtain ⟨v', w', hr, h2, h3, h4⟩ := run_app2 elt_bin o.type w B v ts.length xs hown hB src us.length c ys (by simpa using hc.1) _ hr hc.one (by omega) (by unfold maxLen; omega)
  unfold Oper.wp execOp
  simp only [ho, resolve, invoke, builtin, Sem.run_bind, Sem.run_pure, Result.andThen_ok, List.map_toArray, List.map_cons, List.map_nil, hs, hx, hr]
  exact h v' w' ⟨xs ++ ys, by simpa using h2, (hcx.app hc).kt (grownBy_kt hown h3) (by decide) (by decide)⟩ h3 h4
end
end

section
set_option maxRecDepth 100000
open Go.RowKit

theorem Row.sub {w : World} {e : TypeId} {a : Option Addr} {xs : List Value} (h : Row w e a xs) {l n : Nat} (hl : l + n ≤ xs.length) (hn : 0 < n) : Row w e (a.map (·.add l)) ((xs.drop l).take n) := by
  rcases h with h | ⟨b, off, cs, rfl, hb, hc⟩
  · subst h; simp at hl; omega
  · refine .inr ⟨b, off + l, cs, by simp only [Option.map_some, Addr.add]; split <;> simp_all, hb, fun k hk => ?_⟩
    simp at hk
    rw [List.getElem?_take_of_lt (by omega), List.getElem?_drop, ← hc (l + k) (by omega), Nat.add_assoc]
theorem TaskCells.sub {w : World} {xs : List Value} {ts : List T} (h : TaskCells w xs ts) {l n : Nat} (hl : l + n ≤ ts.length) : TaskCells w ((xs.drop (l * 2)).take (n * 2)) ((ts.drop l).take n) := by
  have h1 := h.1
  refine ⟨by simp; omega, fun k hk => ?_⟩
  have hkn : k < n := by simp at hk; omega
  have e : ((ts.drop l).take n)[k] = ts[l + k]'(by omega) := by simp
  rw [List.getElem?_take_of_lt (by omega), List.getElem?_drop, List.getElem?_take_of_lt (by omega), List.getElem?_drop, e]
  have := h.2 (l + k) (by omega)
  rw [show l * 2 + k * 2 = (l + k) * 2 by omega, show l * 2 + (k * 2 + 1) = (l + k) * 2 + 1 by omega]
  exact this
theorem Tasks.sub {w : World} {a : Option Addr} {c l h : Nat} {ts : List T} (ht : Tasks w (.slice a ts.length c) ts) (h1 : l ≤ h) (h2 : h ≤ ts.length) (hc : ts.length ≤ c) : Tasks w (sliced a l h c 2) ((ts.drop l).take (h - l)) := by
  obtain ⟨hl, a', c', xs, hv, hr, hx⟩ := ht
  cases hv
  have h3 := hx.1
  refine ⟨by simp; omega, _, _, ((xs.drop (l * 2)).take ((h - l) * 2)), by unfold sliced; rw [show ((ts.drop l).take (h - l)).length = h - l by simp; omega], ?_, hx.sub (by omega)⟩
  by_cases e : l = h
  · subst e; exact .inl (by simp)
  · rw [if_neg (by omega)]
    exact hr.sub (by omega) (by omega)
theorem TasksS.formc {w : World} {L : Nat} {v : Value} {ts : List T} (h : TasksS w L v ts) : ∃ a c, v = .slice a ts.length c ∧ ts.length ≤ c := by
  obtain ⟨xs, nb, ⟨_, h1⟩, _⟩ := h
  rcases h1 with ⟨rfl, hn⟩ | ⟨g, cap, cur, rfl, _, _, r, _⟩
  · exact ⟨none, 0, by rw [hn], by omega⟩
  · exact ⟨_, _, rfl, r⟩
end

end Go.Proofs.YtfidamjepjgknaaDoor
