/- Slices that a call makes itself and appends to: laws for the walk. No condition. -/
import Derived.Test.YtipmoedflpjioaaData
import Derived.Deep.AppendLies
import Derived.Deep.RegionLaw
namespace Go.Proofs.Ytipmoedflpjioaa
set_option maxRecDepth 100000
open Go.RowKit

/-- What the table says of a slice type's elements. -/
structure Elt (P : Program) (t e : TypeId) (size bytes : Nat) : Prop where
  got : ∃ i z, P.underlying t = some (.slice e) ∧ P.info? e = some i ∧ i.zero = some z ∧ i.size = size ∧ i.bytes = bytes ∧ z.cells.size = size ∧ 0 < size

theorem Elt.mk' {P : Program} {t e : TypeId} {size bytes : Nat} {z : Value} (ht : P.underlying t = some (.slice e)) (h : (P.info? e).map (fun i => (i.zero, i.size, i.bytes)) = some (some z, size, bytes))
    (hz : z.cells.size = size) (h0 : 0 < size) : Elt P t e size bytes := by
  obtain ⟨i, h1, h2, h3, h4⟩ := info_parts h
  exact ⟨i, z, ht, h1, h2, h3, h4, hz, h0⟩

theorem elt_int : Elt Try.prog 23 3 1 8 := Elt.mk' (z := .int .i64 0) (by kernel_rfl) (by kernel_rfl) rfl (by decide)
theorem elt_task : Elt Try.prog 27 38 2 32 := Elt.mk' (z := .agg #[.int .i64 0, .slice none 0 0]) (by kernel_rfl) (by kernel_rfl) rfl (by decide)
theorem elt_bin : Elt Try.prog 24 27 1 24 := Elt.mk' (z := .slice none 0 0) (by kernel_rfl) (by kernel_rfl) rfl (by decide)

theorem grownBy_below {w w' : World} {B : Nat} {v : Value} {e : TypeId} {size n : Nat} {xs : List Value} (hown : w.ownsRow B e size v n xs) (hB : B ≤ w.heap.size) (h : w.grownBy w' v.ownBlock) : Below B w w' :=
  ⟨h.os, h.tape, h.output, h.size, fun k hk => h.block k (by omega) (fun x => by have := (hown.lt k x.symm).1; omega)⟩
theorem grownBy_kt {w w' : World} {B : Nat} {v : Value} {e : TypeId} {size n : Nat} {xs : List Value} (hown : w.ownsRow B e size v n xs) (h : w.grownBy w' v.ownBlock) : KT e w w' := by
  refine ⟨h.size, fun b cs t fz hb ht => h.block b (lt_of_heap hb) (fun x => ?_)⟩
  obtain ⟨_, hown⟩ := hown
  rcases hown with ⟨rfl, _⟩ | ⟨g, cap, cur, rfl, _, hg, _⟩
  · simp [Value.ownBlock] at x
  · simp only [Value.ownBlock, Option.some.injEq] at x
    subst x
    rw [hb] at hg
    simp only [Option.some.injEq, Obj.cells.injEq] at hg
    exact ht hg.2.1

theorem ownsRow_ext {w w' : World} {B : Nat} {e : TypeId} {size n : Nat} {v : Value} {xs : List Value} (h : w.ownsRow B e size v n xs) (k : Ext w w') : w'.ownsRow B e size v n xs := by
  obtain ⟨hl, h⟩ := h
  refine ⟨hl, ?_⟩
  rcases h with h | ⟨g, cap, cur, hv, hb, hg, r⟩
  · exact .inl h
  · exact .inr ⟨g, cap, cur, hv, hb, (k.block (lt_of_heap hg)).trans hg, r⟩
theorem ownsRow_kt {w w' : World} {B : Nat} {e e' : TypeId} {size n : Nat} {v : Value} {xs : List Value} (h : w.ownsRow B e size v n xs) (k : KT e' w w') (ne : e ≠ e') : w'.ownsRow B e size v n xs := by
  obtain ⟨hl, h⟩ := h
  refine ⟨hl, ?_⟩
  rcases h with h | ⟨g, cap, cur, hv, hb, hg, r⟩
  · exact .inl h
  · exact .inr ⟨g, cap, cur, hv, hb, (k.2 _ _ _ _ hg ne).trans hg, r⟩

theorem run_app {P : Program} {t e : TypeId} {size bytes : Nat} (hE : Elt P t e size bytes) (ty : TypeId) (w : World) (B : Nat) (v : Value) (n : Nat) (xs : List Value) (hown : w.ownsRow B e size v n xs) (hB : B ≤ w.heap.size)
    (src : Option Addr) (m c : Nat) (news : List Value) (hl : news.length = m * size) (e' : TypeId) (hrow : Row w e' src news) (h1 : ∀ u ∈ news, u.oneCell' = true) (hb : (n + m) * bytes ≤ 140737488355328) (hn : n + m ≤ maxLen) :
    ∃ v' w', (Builtin.append_ #[t, t] ty #[v, .slice src m c]).run P w = .ok v' w' ∧ w'.ownsRow B e size v' (n + m) (xs ++ news) ∧ KT e w w' ∧ Below B w w' := by
  obtain ⟨i, z, ht, hi, hz, hs, hby, hzs, h0⟩ := hE.got
  cases src with
  | none =>
    have hnews : news = [] := by
      rcases hrow with h | ⟨b, off, cs, ha, _⟩
      · exact h
      · cases ha
    subst hnews
    have hm : m = 0 := by
      rcases Nat.eq_zero_or_pos m with h | h
      · exact h
      · have := Nat.mul_pos h h0; simp at hl; omega
    subst hm
    refine ⟨v, w, ?_, by simpa using hown, KT.refl _ _, Below.refl _ _⟩
    rcases hown.2 with ⟨rfl, rfl⟩ | ⟨g, cap, cur, rfl, _, _, hnc, _⟩
    · simp [Builtin.append_, run_underlying ht, sizeOf, typeInfo, hi, Builtin.lenOf, Builtin.firstCells]
    · simp [Builtin.append_, run_underlying ht, sizeOf, typeInfo, hi, Builtin.lenOf, Builtin.firstCells, hnc, storeCells]
  | some ad =>
    have hnews : ∀ j u, news[j]? = some u → w.cell? (ad.add j) = some u := by
      intro j u hj
      rcases hrow with h | ⟨b, off, cs, ha, hb', hc⟩
      · simp [h] at hj
      · simp only [Option.some.injEq] at ha
        subst ha
        have hlt : j < news.length := by
          rcases Nat.lt_or_ge j news.length with h | h
          · exact h
          · simp [List.getElem?_eq_none h] at hj
        rw [Addr.add_lit]
        simp [World.cell?, hb', hc j hlt, hj]
    obtain ⟨v', w', hr, ho, hg, _⟩ := run_append_own_at (P := P) w B t ty e i z size bytes ht hi hz hs hby hzs h0 v n xs hown ad m c news hl hnews h1 hn hb hB
    exact ⟨v', w', hr, ho, grownBy_kt hown hg, grownBy_below hown hB hg⟩

theorem wp_app {P : Program} {t e : TypeId} {size bytes : Nat} (hE : Elt P t e size bytes) {w : World} {o : Oper} {a : Act} {K : Act → World → Prop} {Q : Exit → Act → World → Prop} (s x : Operand)
    (ho : o.op = .call { callee := .builtin .append, args := #[s, x], argTypes := #[t, t] }) (B : Nat) (v : Value) (n : Nat) (xs : List Value) (hs : a.eval s = v) (hown : w.ownsRow B e size v n xs) (hB : B ≤ w.heap.size)
    (src : Option Addr) (m c : Nat) (news : List Value) (hx : a.eval x = .slice src m c) (hl : news.length = m * size) (e' : TypeId) (hrow : Row w e' src news) (h1 : ∀ u ∈ news, u.oneCell' = true) (hb : (n + m) * bytes ≤ 140737488355328) (hn : n + m ≤ maxLen)
    (h : ∀ v' w', w'.ownsRow B e size v' (n + m) (xs ++ news) → KT e w w' → Below B w w' → K (a.put o.dst v') w') : o.wp P a w K Q := by
  obtain ⟨v', w', hr, h2, h3, h4⟩ := run_app hE o.type w B v n xs hown hB src m c news hl e' hrow h1 hb hn
  unfold Oper.wp execOp
  simp only [ho, resolve, invoke, builtin, Sem.run_bind, Sem.run_pure, Result.andThen_ok, List.map_toArray, List.map_cons, List.map_nil, hs, hx, hr]
  exact h v' w' h2 h3 h4


/-- A slice of numbers that the call owns. -/
def OwnInts (w : World) (B : Nat) (v : Value) (xs : List Int) : Prop := w.ownsRow B 3 1 v xs.length (xs.map (Value.int .i64))
def OwnTasks (w : World) (B : Nat) (v : Value) (ts : List T) : Prop := ∃ xs, w.ownsRow B 38 2 v ts.length xs ∧ TaskCells w xs ts
def OwnBins (w : World) (B : Nat) (v : Value) (bs : List (List T)) : Prop := ∃ xs, w.ownsRow B 27 1 v bs.length xs ∧ BinCells w xs bs

theorem OwnInts.ext {w w' : World} {B : Nat} {v : Value} {xs : List Int} (h : OwnInts w B v xs) (k : Ext w w') : OwnInts w' B v xs := ownsRow_ext h k
theorem OwnTasks.ext {w w' : World} {B : Nat} {v : Value} {ts : List T} (h : OwnTasks w B v ts) (k : Ext w w') : OwnTasks w' B v ts := let ⟨xs, h1, h2⟩ := h; ⟨xs, ownsRow_ext h1 k, h2.ext k⟩
theorem OwnBins.ext {w w' : World} {B : Nat} {v : Value} {bs : List (List T)} (h : OwnBins w B v bs) (k : Ext w w') : OwnBins w' B v bs := let ⟨xs, h1, h2⟩ := h; ⟨xs, ownsRow_ext h1 k, h2.ext k⟩
theorem OwnInts.done {w : World} {B : Nat} {v : Value} {xs : List Int} (h : OwnInts w B v xs) (hl : xs.length ≤ lim) : Ints w v xs := Ints.of_own h hl
theorem OwnTasks.done {w : World} {B : Nat} {v : Value} {ts : List T} (h : OwnTasks w B v ts) (hl : ts.length ≤ lim) : Tasks w v ts := let ⟨_, h1, h2⟩ := h; Tasks.of_own h1 h2 hl
theorem OwnBins.done {w : World} {B : Nat} {v : Value} {bs : List (List T)} (h : OwnBins w B v bs) (hl : bs.length ≤ lim) : Bins w v bs := let ⟨_, h1, h2⟩ := h; Bins.of_own h1 h2 hl
theorem OwnInts.nil (w : World) (B : Nat) : OwnInts w B (.slice none 0 0) [] := World.ownsRow_nil _ _ _ _
theorem OwnTasks.nil (w : World) (B : Nat) : OwnTasks w B (.slice none 0 0) [] := ⟨[], World.ownsRow_nil _ _ _ _, TaskCells.nil _⟩
theorem OwnBins.nil (w : World) (B : Nat) : OwnBins w B (.slice none 0 0) [] := ⟨[], World.ownsRow_nil _ _ _ _, BinCells.nil _⟩
/-- An empty literal: '[]T{}'. -/
theorem OwnInts.lit0 (w : World) (B : Nat) (hB : B ≤ w.heap.size) : OwnInts (w.alloc (.cells #[] 3)) B (.slice (some ⟨w.heap.size, 0, none⟩) 0 0) [] := World.ownsRow_lit w #[] 0 hB (by simp [maxLen]) rfl
theorem OwnTasks.lit0 (w : World) (B : Nat) (hB : B ≤ w.heap.size) : OwnTasks (w.alloc (.cells #[] 38)) B (.slice (some ⟨w.heap.size, 0, none⟩) 0 0) [] := ⟨[], World.ownsRow_lit w #[] 0 hB (by simp [maxLen]) rfl, TaskCells.nil _⟩
theorem OwnBins.lit0 (w : World) (B : Nat) (hB : B ≤ w.heap.size) : OwnBins (w.alloc (.cells #[] 27)) B (.slice (some ⟨w.heap.size, 0, none⟩) 0 0) [] := ⟨[], World.ownsRow_lit w #[] 0 hB (by simp [maxLen]) rfl, BinCells.nil _⟩

/-- A literal, laid in a new block. -/
theorem Row.lit (w : World) (cs : Array Value) (e : TypeId) : Row (w.alloc (.cells cs e)) e (some ⟨w.heap.size, 0, none⟩) cs.toList :=
  .inr ⟨w.heap.size, 0, cs, rfl, heap_alloc_new w _, fun k _ => by simp⟩
theorem Ints.lit (w : World) (cs : Array Value) (xs : List Int) (n c : Nat) (h : cs.toList = xs.map (Value.int .i64)) (hn : n = xs.length) (hl : xs.length ≤ lim) : Ints (w.alloc (.cells cs 3)) (.slice (some ⟨w.heap.size, 0, none⟩) n c) xs :=
  ⟨hl, _, c, by rw [hn], by rw [← h]; exact Row.lit _ _ _⟩
theorem Ints.lit1 (w : World) (x : Int) (c : Nat) : Ints (w.alloc (.cells #[.int .i64 x] 3)) (.slice (some ⟨w.heap.size, 0, none⟩) 1 c) [x] := Ints.lit w _ _ 1 c rfl rfl (by simp [lim])
theorem Tasks.lit1 {w : World} {t : T} {n : Value} (hn : Ints w n t.need) (c : Nat) : Tasks (w.alloc (.cells #[.int .i64 t.id, n] 38)) (.slice (some ⟨w.heap.size, 0, none⟩) 1 c) [t] :=
  ⟨by simp [lim], _, c, [.int .i64 t.id, n], rfl, Row.lit w #[.int .i64 t.id, n] _, by simpa using (TaskCells.nil _).snoc (hn.ext ((Ext.refl w).alloc _))⟩
theorem Bins.lit1 {w : World} {b : List T} {n : Value} (hn : Tasks w n b) (c : Nat) : Bins (w.alloc (.cells #[n] 27)) (.slice (some ⟨w.heap.size, 0, none⟩) 1 c) [b] :=
  ⟨by simp [lim], _, c, [n], rfl, Row.lit w #[n] _, by simpa using (BinCells.nil _).snoc (hn.ext ((Ext.refl w).alloc _))⟩

theorem Ints.parts {w : World} {a : Option Addr} {n c : Nat} {xs : List Int} (h : Ints w (.slice a n c) xs) : n = xs.length ∧ Row w 3 a (xs.map (Value.int .i64)) := by
  obtain ⟨_, a', c', hv, hr⟩ := h
  simp only [Value.slice.injEq] at hv
  obtain ⟨rfl, rfl, rfl⟩ := hv
  exact ⟨rfl, hr⟩
theorem Tasks.parts {w : World} {a : Option Addr} {n c : Nat} {ts : List T} (h : Tasks w (.slice a n c) ts) : n = ts.length ∧ ∃ xs, Row w 38 a xs ∧ TaskCells w xs ts := by
  obtain ⟨_, a', c', xs, hv, hr, hc⟩ := h
  simp only [Value.slice.injEq] at hv
  obtain ⟨rfl, rfl, rfl⟩ := hv
  exact ⟨rfl, xs, hr, hc⟩
theorem Bins.parts {w : World} {a : Option Addr} {n c : Nat} {bs : List (List T)} (h : Bins w (.slice a n c) bs) : n = bs.length ∧ ∃ xs, Row w 27 a xs ∧ BinCells w xs bs := by
  obtain ⟨_, a', c', xs, hv, hr, hc⟩ := h
  simp only [Value.slice.injEq] at hv
  obtain ⟨rfl, rfl, rfl⟩ := hv
  exact ⟨rfl, xs, hr, hc⟩

theorem TaskCells.app {w : World} {xs ys : List Value} {ts us : List T} (h : TaskCells w xs ts) (k : TaskCells w ys us) : TaskCells w (xs ++ ys) (ts ++ us) := by
  refine ⟨by simp [h.1, k.1]; omega, fun j hj => ?_⟩
  simp at hj
  by_cases hlt : j < ts.length
  · obtain ⟨h1, n', h2, h3⟩ := h.2 j hlt
    have e1 : j * 2 < xs.length := by rw [h.1]; omega
    have e2 : j * 2 + 1 < xs.length := by rw [h.1]; omega
    rw [List.getElem?_append_left e1, List.getElem?_append_left e2, List.getElem_append_left hlt]
    exact ⟨h1, n', h2, h3⟩
  · obtain ⟨h1, n', h2, h3⟩ := k.2 (j - ts.length) (by omega)
    have e1 : xs.length ≤ j * 2 := by rw [h.1]; omega
    have e2 : xs.length ≤ j * 2 + 1 := by rw [h.1]; omega
    have e3 : ts.length ≤ j := by omega
    rw [List.getElem?_append_right e1, List.getElem?_append_right e2, List.getElem_append_right e3, h.1]
    rw [show j * 2 - ts.length * 2 = (j - ts.length) * 2 by omega, show j * 2 + 1 - ts.length * 2 = (j - ts.length) * 2 + 1 by omega]
    exact ⟨h1, n', h2, h3⟩
theorem BinCells.app {w : World} {xs ys : List Value} {ts us : List (List T)} (h : BinCells w xs ts) (k : BinCells w ys us) : BinCells w (xs ++ ys) (ts ++ us) := by
  refine ⟨by simp [h.1, k.1], fun j hj => ?_⟩
  simp at hj
  by_cases hlt : j < ts.length
  · obtain ⟨n', h2, h3⟩ := h.2 j hlt
    rw [List.getElem?_append_left (by rw [h.1]; omega), List.getElem_append_left hlt]
    exact ⟨n', h2, h3⟩
  · obtain ⟨n', h2, h3⟩ := k.2 (j - ts.length) (by omega)
    have e3 : ts.length ≤ j := by omega
    rw [List.getElem?_append_right (by rw [h.1]; omega), List.getElem_append_right e3, h.1]
    exact ⟨n', h2, h3⟩

theorem TaskCells.one {w : World} {xs : List Value} {ts : List T} (h : TaskCells w xs ts) : ∀ u ∈ xs, u.oneCell' = true := by
  intro u hu
  obtain ⟨j, hj, rfl⟩ := List.getElem_of_mem hu
  have h1 := h.1
  obtain ⟨c1, n, c2, hn⟩ := h.2 (j / 2) (by omega)
  rcases Nat.mod_two_eq_zero_or_one j with e | e
  · rw [show j / 2 * 2 = j by omega, List.getElem?_eq_getElem hj] at c1
    simp only [Option.some.injEq] at c1
    rw [c1]; rfl
  · rw [show j / 2 * 2 + 1 = j by omega, List.getElem?_eq_getElem hj] at c2
    simp only [Option.some.injEq] at c2
    rw [c2]
    obtain ⟨_, a, c, rfl, _⟩ := hn
    rfl
theorem BinCells.one {w : World} {xs : List Value} {ts : List (List T)} (h : BinCells w xs ts) : ∀ u ∈ xs, u.oneCell' = true := by
  intro u hu
  obtain ⟨j, hj, rfl⟩ := List.getElem_of_mem hu
  have h1 := h.1
  obtain ⟨n, c2, hn⟩ := h.2 j (by omega)
  rw [List.getElem?_eq_getElem hj] at c2
  simp only [Option.some.injEq] at c2
  rw [c2]
  obtain ⟨_, a, c, _, rfl, _⟩ := hn
  rfl

theorem Ints.drew {w : World} {v : Value} {xs : List Int} (h : Ints w v xs) : Ints w.drew v xs := h.ext (Ext.refl w).drew
theorem Tasks.drew {w : World} {v : Value} {xs : List T} (h : Tasks w v xs) : Tasks w.drew v xs := h.ext (Ext.refl w).drew
theorem Bins.drew {w : World} {v : Value} {xs : List (List T)} (h : Bins w v xs) : Bins w.drew v xs := h.ext (Ext.refl w).drew
theorem OwnInts.drew {w : World} {B : Nat} {v : Value} {xs : List Int} (h : OwnInts w B v xs) : OwnInts w.drew B v xs := h.ext (Ext.refl w).drew
theorem OwnTasks.drew {w : World} {B : Nat} {v : Value} {xs : List T} (h : OwnTasks w B v xs) : OwnTasks w.drew B v xs := h.ext (Ext.refl w).drew
theorem OwnBins.drew {w : World} {B : Nat} {v : Value} {xs : List (List T)} (h : OwnBins w B v xs) : OwnBins w.drew B v xs := h.ext (Ext.refl w).drew
theorem OwnInts.alloc {w : World} {B : Nat} {v : Value} {xs : List Int} (h : OwnInts w B v xs) (o : Obj) : OwnInts (w.alloc o) B v xs := h.ext ((Ext.refl w).alloc o)
theorem OwnTasks.alloc {w : World} {B : Nat} {v : Value} {xs : List T} (h : OwnTasks w B v xs) (o : Obj) : OwnTasks (w.alloc o) B v xs := h.ext ((Ext.refl w).alloc o)
theorem OwnBins.alloc {w : World} {B : Nat} {v : Value} {xs : List (List T)} (h : OwnBins w B v xs) (o : Obj) : OwnBins (w.alloc o) B v xs := h.ext ((Ext.refl w).alloc o)
/-- A row that the call wrote lies from B on; what came before stays. -/
theorem Ext.below {a w w' : World} (h : Ext a w) (k : Below a.heap.size w w') : Ext a w' := Below.trans h k

section
variable {w : World} {ops : Array Oper} {rest : List Oper} {o : Oper} {a : Act} {Q : Exit → Act → World → Prop} {K : Act → World → Prop}

theorem wp_app_ints (s x : Operand) (ho : o.op = .call { callee := .builtin .append, args := #[s, x], argTypes := #[23, 23] }) (B : Nat) (v : Value) (xs : List Int) (hs : a.eval s = v) (hown : OwnInts w B v xs) (hB : B ≤ w.heap.size)
    (src : Option Addr) (m c : Nat) (ys : List Int) (hx : a.eval x = .slice src m c) (hsrc : Ints w (.slice src m c) ys) (hl : xs.length + ys.length ≤ lim)
    (h : ∀ v' w', OwnInts w' B v' (xs ++ ys) → KT 3 w w' → Below B w w' → K (a.put o.dst v') w') : o.wp Try.prog a w K Q := by
  obtain ⟨rfl, hr⟩ := hsrc.parts
  unfold lim at hl
  exact wp_app elt_int s x ho B v xs.length _ hs hown hB src ys.length c _ hx (by simp) _ hr (ints_oneCell _ _) (by omega) (by unfold maxLen; omega) (fun v' w' h1 h2 h3 => h v' w' (by unfold OwnInts; simpa using h1) h2 h3)
theorem wp_app_tasks (s x : Operand) (ho : o.op = .call { callee := .builtin .append, args := #[s, x], argTypes := #[27, 27] }) (B : Nat) (v : Value) (ts : List T) (hs : a.eval s = v) (hown : OwnTasks w B v ts) (hB : B ≤ w.heap.size)
    (src : Option Addr) (m c : Nat) (us : List T) (hx : a.eval x = .slice src m c) (hsrc : Tasks w (.slice src m c) us) (hl : ts.length + us.length ≤ lim)
    (h : ∀ v' w', OwnTasks w' B v' (ts ++ us) → KT 38 w w' → Below B w w' → K (a.put o.dst v') w') : o.wp Try.prog a w K Q := by
  obtain ⟨rfl, ys, hr, hc⟩ := hsrc.parts
  obtain ⟨xs, hown, hcx⟩ := hown
  unfold lim at hl
  exact wp_app elt_task s x ho B v ts.length _ hs hown hB src us.length c _ hx hc.1 _ hr hc.one (by omega) (by unfold maxLen; omega)
    (fun v' w' h1 h2 h3 => h v' w' ⟨xs ++ ys, by simpa using h1, (hcx.app hc).kt h2 (by decide)⟩ h2 h3)
theorem wp_app_bins (s x : Operand) (ho : o.op = .call { callee := .builtin .append, args := #[s, x], argTypes := #[24, 24] }) (B : Nat) (v : Value) (ts : List (List T)) (hs : a.eval s = v) (hown : OwnBins w B v ts) (hB : B ≤ w.heap.size)
    (src : Option Addr) (m c : Nat) (us : List (List T)) (hx : a.eval x = .slice src m c) (hsrc : Bins w (.slice src m c) us) (hl : ts.length + us.length ≤ lim)
    (h : ∀ v' w', OwnBins w' B v' (ts ++ us) → KT 27 w w' → Below B w w' → K (a.put o.dst v') w') : o.wp Try.prog a w K Q := by
  obtain ⟨rfl, ys, hr, hc⟩ := hsrc.parts
  obtain ⟨xs, hown, hcx⟩ := hown
  unfold lim at hl
  exact wp_app elt_bin s x ho B v ts.length _ hs hown hB src us.length c _ hx (by simpa using hc.1) _ hr hc.one (by omega) (by unfold maxLen; omega)
    (fun v' w' h1 h2 h3 => h v' w' ⟨xs ++ ys, by simpa using h1, (hcx.app hc).kt h2 (by decide) (by decide)⟩ h2 h3)

/-- At the list of a plain region's operations. -/
theorem app_ints (hgd : o.guard = none) (s x : Operand) (ho : o.op = .call { callee := .builtin .append, args := #[s, x], argTypes := #[23, 23] }) (B : Nat) (v : Value) (xs : List Int) (hs : a.eval s = v) (hown : OwnInts w B v xs) (hB : B ≤ w.heap.size)
    (src : Option Addr) (m c : Nat) (ys : List Int) (hx : a.eval x = .slice src m c) (hsrc : Ints w (.slice src m c) ys) (hl : xs.length + ys.length ≤ lim)
    (h : ∀ v' w', OwnInts w' B v' (xs ++ ys) → KT 3 w w' → Below B w w' → wpList Try.prog ops Q rest (a.put o.dst v') w') : wpList Try.prog ops Q (o :: rest) a w :=
  wpList_plain hgd fun _ hK => wp_app_ints s x ho B v xs hs hown hB src m c ys hx hsrc hl fun v' w' h1 h2 h3 => hK _ _ (h v' w' h1 h2 h3)
theorem app_tasks (hgd : o.guard = none) (s x : Operand) (ho : o.op = .call { callee := .builtin .append, args := #[s, x], argTypes := #[27, 27] }) (B : Nat) (v : Value) (ts : List T) (hs : a.eval s = v) (hown : OwnTasks w B v ts) (hB : B ≤ w.heap.size)
    (src : Option Addr) (m c : Nat) (us : List T) (hx : a.eval x = .slice src m c) (hsrc : Tasks w (.slice src m c) us) (hl : ts.length + us.length ≤ lim)
    (h : ∀ v' w', OwnTasks w' B v' (ts ++ us) → KT 38 w w' → Below B w w' → wpList Try.prog ops Q rest (a.put o.dst v') w') : wpList Try.prog ops Q (o :: rest) a w :=
  wpList_plain hgd fun _ hK => wp_app_tasks s x ho B v ts hs hown hB src m c us hx hsrc hl fun v' w' h1 h2 h3 => hK _ _ (h v' w' h1 h2 h3)
theorem app_bins (hgd : o.guard = none) (s x : Operand) (ho : o.op = .call { callee := .builtin .append, args := #[s, x], argTypes := #[24, 24] }) (B : Nat) (v : Value) (ts : List (List T)) (hs : a.eval s = v) (hown : OwnBins w B v ts) (hB : B ≤ w.heap.size)
    (src : Option Addr) (m c : Nat) (us : List (List T)) (hx : a.eval x = .slice src m c) (hsrc : Bins w (.slice src m c) us) (hl : ts.length + us.length ≤ lim)
    (h : ∀ v' w', OwnBins w' B v' (ts ++ us) → KT 27 w w' → Below B w w' → wpList Try.prog ops Q rest (a.put o.dst v') w') : wpList Try.prog ops Q (o :: rest) a w :=
  wpList_plain hgd fun _ hK => wp_app_bins s x ho B v ts hs hown hB src m c us hx hsrc hl fun v' w' h1 h2 h3 => hK _ _ (h v' w' h1 h2 h3)

/-- At a step of a region that draws its order. -/
theorem step_app_ints {E : Prop} (hgd : o.guard = none) (s x : Operand) (ho : o.op = .call { callee := .builtin .append, args := #[s, x], argTypes := #[23, 23] }) (B : Nat) (v : Value) (xs : List Int) (hs : a.eval s = v) (hown : OwnInts w B v xs) (hB : B ≤ w.heap.size)
    (src : Option Addr) (m c : Nat) (ys : List Int) (hx : a.eval x = .slice src m c) (hsrc : Ints w (.slice src m c) ys) (hl : xs.length + ys.length ≤ lim)
    (h : ∀ v' w', OwnInts w' B v' (xs ++ ys) → KT 3 w w' → Below B w w' → K (a.put o.dst v') w') : if Region.wanted o (yielded ops a.tmps) = true then Oper.wp Try.prog o a w K Q else E := by
  rw [if_pos (by simp [Region.wanted, hgd])]
  exact wp_app_ints s x ho B v xs hs hown hB src m c ys hx hsrc hl h
theorem step_app_tasks {E : Prop} (hgd : o.guard = none) (s x : Operand) (ho : o.op = .call { callee := .builtin .append, args := #[s, x], argTypes := #[27, 27] }) (B : Nat) (v : Value) (ts : List T) (hs : a.eval s = v) (hown : OwnTasks w B v ts) (hB : B ≤ w.heap.size)
    (src : Option Addr) (m c : Nat) (us : List T) (hx : a.eval x = .slice src m c) (hsrc : Tasks w (.slice src m c) us) (hl : ts.length + us.length ≤ lim)
    (h : ∀ v' w', OwnTasks w' B v' (ts ++ us) → KT 38 w w' → Below B w w' → K (a.put o.dst v') w') : if Region.wanted o (yielded ops a.tmps) = true then Oper.wp Try.prog o a w K Q else E := by
  rw [if_pos (by simp [Region.wanted, hgd])]
  exact wp_app_tasks s x ho B v ts hs hown hB src m c us hx hsrc hl h
/-- The same where the step is guarded, and the guard is met. -/
theorem stepg_app_tasks {E : Prop} (hgw : Region.wanted o (yielded ops a.tmps) = true) (s x : Operand) (ho : o.op = .call { callee := .builtin .append, args := #[s, x], argTypes := #[27, 27] }) (B : Nat) (v : Value) (ts : List T) (hs : a.eval s = v) (hown : OwnTasks w B v ts) (hB : B ≤ w.heap.size)
    (src : Option Addr) (m c : Nat) (us : List T) (hx : a.eval x = .slice src m c) (hsrc : Tasks w (.slice src m c) us) (hl : ts.length + us.length ≤ lim)
    (h : ∀ v' w', OwnTasks w' B v' (ts ++ us) → KT 38 w w' → Below B w w' → K (a.put o.dst v') w') : if Region.wanted o (yielded ops a.tmps) = true then Oper.wp Try.prog o a w K Q else E := by
  rw [if_pos hgw]
  exact wp_app_tasks s x ho B v ts hs hown hB src m c us hx hsrc hl h
theorem stepg_app_bins {E : Prop} (hgw : Region.wanted o (yielded ops a.tmps) = true) (s x : Operand) (ho : o.op = .call { callee := .builtin .append, args := #[s, x], argTypes := #[24, 24] }) (B : Nat) (v : Value) (ts : List (List T)) (hs : a.eval s = v) (hown : OwnBins w B v ts) (hB : B ≤ w.heap.size)
    (src : Option Addr) (m c : Nat) (us : List (List T)) (hx : a.eval x = .slice src m c) (hsrc : Bins w (.slice src m c) us) (hl : ts.length + us.length ≤ lim)
    (h : ∀ v' w', OwnBins w' B v' (ts ++ us) → KT 27 w w' → Below B w w' → K (a.put o.dst v') w') : if Region.wanted o (yielded ops a.tmps) = true then Oper.wp Try.prog o a w K Q else E := by
  rw [if_pos hgw]
  exact wp_app_bins s x ho B v ts hs hown hB src m c us hx hsrc hl h
end

end Go.Proofs.Ytipmoedflpjioaa
