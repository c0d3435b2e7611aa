/- The memory of the search with a stack: nodes that are owned whole with tasks whose needs lie in the argument, the stack's row, what is cut off a row (printed by gen_lsk.py). No condition. -/
import Derived.Test.YtfidamjepjgknaaDoorNestS
import Derived.Test.YtfidamjepjgknaaDoorDel
namespace Go.Proofs.YtfidamjepjgknaaDoor
set_option maxRecDepth 100000
open Go.RowKit

theorem grown_refl (w : World) (r : Option Nat) : w.grownBy w r := ⟨rfl, rfl, rfl, Nat.le_refl _, fun _ _ _ => rfl⟩
theorem elt_trial : Elt Tryd.prog 41 40 1 8 := Elt.mk' (z := .agg #[.int .i64 0]) (by kernel_rfl) (by kernel_rfl) rfl (by decide)
/-- The stack: the next places to try. -/
def OwnTr (w : World) (B : Nat) (v : Value) (ds : List Nat) : Prop := w.ownsRow B 40 1 v ds.length (ds.map fun (d : Nat) => Value.int .i64 (d : Int))
theorem OwnTr.ext {w w' : World} {B : Nat} {v : Value} {ds : List Nat} (h : OwnTr w B v ds) (k : Ext w w') : OwnTr w' B v ds := ownsRow_ext h k
theorem OwnTr.kt {w w' : World} {B : Nat} {v : Value} {ds : List Nat} {e : TypeId} (h : OwnTr w B v ds) (k : KT e w w') (ne : 40 ≠ e) : OwnTr w' B v ds := ownsRow_kt h k ne
theorem OwnTr.at {w : World} {B : Nat} {a : Option Addr} {m c : Nat} {ds : List Nat} {n : Nat} (h : OwnTr w B (.slice a m c) (ds ++ [n])) :
    ∃ g, a = some ⟨g, 0, none⟩ ∧ m = ds.length + 1 ∧ B ≤ g ∧ ds.length + 1 ≤ c ∧ w.cell? ⟨g, ds.length, none⟩ = some (.int .i64 (n : Int)) ∧ w.frozen? ⟨g, ds.length, none⟩ = false := by
  obtain ⟨g, rfl, rfl, hB, hlt, hc, ho⟩ := ownsRow_at h (by simp)
  obtain ⟨hr, -, -, hf⟩ := ownsRow_room ho
  refine ⟨g, rfl, by simp, hB, by simpa using hr, ?_, (hf ds.length (by simp at hr; omega)).2⟩
  rw [hc _ (by simp)]
  simp
theorem OwnTr.open {w : World} {B : Nat} {v : Value} {ds : List Nat} {n : Nat} (h : OwnTr w B v (ds ++ [n])) :
    ∃ g c, v = .slice (some ⟨g, 0, none⟩) (ds.length + 1) c ∧ B ≤ g ∧ ds.length + 1 ≤ c ∧ w.cell? ⟨g, ds.length, none⟩ = some (.int .i64 (n : Int)) ∧ w.frozen? ⟨g, ds.length, none⟩ = false := by
  have h' := h
  obtain ⟨_, h1⟩ := h'
  rcases h1 with ⟨_, hn⟩ | ⟨g, cap, cur, rfl, _⟩
  · simp at hn
  · obtain ⟨g', e, _, a, b, c, d⟩ := h.at
    cases e
    exact ⟨_, cap, by simp, a, b, c, d⟩
theorem OwnTr.put {w : World} {B g c p : Nat} {ds : List Nat} {n : Nat} (h : OwnTr w B (.slice (some ⟨g, 0, none⟩) (p + 1) c) (ds ++ [n])) (hp : ds.length = p) (m : Nat) :
    OwnTr (w.setCell ⟨g, p, none⟩ (.int .i64 (m : Int))) B (.slice (some ⟨g, 0, none⟩) (p + 1) c) (ds ++ [m]) ∧ KT 40 w (w.setCell ⟨g, p, none⟩ (.int .i64 (m : Int))) ∧ Below B w (w.setCell ⟨g, p, none⟩ (.int .i64 (m : Int))) ∧ w.frozen? ⟨g, p, none⟩ = false := by
  subst hp
  unfold OwnTr at h ⊢
  have e1 : (ds ++ [n]).length = ds.length + 1 := by simp
  have e2 : (ds ++ [m]).length = ds.length + 1 := by simp
  rw [e1] at h
  rw [e2]
  obtain ⟨p1, p2, p3, p4⟩ := ownsRow_put h (k := ds.length) (by simp) (.int .i64 (m : Int))
  refine ⟨?_, p2, p3, p4⟩
  have e3 : ((ds ++ [n]).map fun (d : Nat) => Value.int .i64 (d : Int)).set ds.length (.int .i64 (m : Int)) = (ds ++ [m]).map fun (d : Nat) => Value.int .i64 (d : Int) := by
    rw [List.map_append, List.map_append, List.set_append_right _ _ (by simp)]
    simp
  rw [← e3]
  exact p1
theorem OwnTr.cut {w : World} {B g c p : Nat} {ds : List Nat} {n : Nat} (h : OwnTr w B (.slice (some ⟨g, 0, none⟩) (p + 1) c) (ds ++ [n])) (hp : ds.length = p) : OwnTr w B (.slice (some ⟨g, 0, none⟩) p c) ds := by
  subst hp
  unfold OwnTr at h ⊢
  rw [show (ds ++ [n]).length = ds.length + 1 by simp] at h
  have := ownsRow_cut h (k := ds.length) (by omega)
  rwa [Nat.mul_one, List.map_append, List.take_left' (by simp)] at this
theorem OwnInts.cut {w : World} {B g m c p : Nat} {xs : List Int} {x : Int} (h : OwnInts w B (.slice (some ⟨g, 0, none⟩) m c) (xs ++ [x])) (hp : xs.length = p) : OwnInts w B (.slice (some ⟨g, 0, none⟩) p c) xs := by
  subst hp
  unfold OwnInts at h ⊢
  obtain ⟨g', hg', hm, -, -, -, ho⟩ := ownsRow_at h (by simp)
  simp only [Option.some.injEq, Addr.mk.injEq, and_true] at hg'
  subst hg' hm
  have := ownsRow_cut ho (k := xs.length) (by simp)
  rwa [Nat.mul_one, List.map_append, List.take_left' (by simp)] at this
theorem OwnInts.shape {w : World} {B : Nat} {v : Value} {xs : List Int} (h : OwnInts w B v xs) : ∃ a c, v = .slice a xs.length c := by
  obtain ⟨_, h1⟩ := h
  rcases h1 with ⟨rfl, hn⟩ | ⟨g, cap, cur, rfl, _⟩
  · exact ⟨none, 0, by rw [hn]⟩
  · exact ⟨_, cap, rfl⟩
theorem OwnInts.last {w : World} {B p : Nat} {a : Option Addr} {m c : Nat} {xs : List Int} {x : Int} (h : OwnInts w B (.slice a m c) (xs ++ [x])) (hp : xs.length = p) :
    ∃ g, a = some ⟨g, 0, none⟩ ∧ m = p + 1 ∧ p + 1 ≤ c ∧ w.cell? ⟨g, p, none⟩ = some (.int .i64 x) := by
  subst hp
  unfold OwnInts at h
  obtain ⟨g, rfl, rfl, hB, hlt, hc, ho⟩ := ownsRow_at h (by simp)
  obtain ⟨hr, -, -, -⟩ := ownsRow_room ho
  refine ⟨g, rfl, by simp, by simpa using hr, ?_⟩
  rw [hc _ (by simp)]
  simp

/-- Tasks in a row of the call's own; their needs lie in the world w0. -/
def OwnW (w0 w : World) (B : Nat) (v : Value) (ts : List T) : Prop := ∃ xs, w.ownsRow B 31 2 v ts.length xs ∧ TaskCells w0 xs ts
theorem OwnW.own {w0 w : World} {B : Nat} {v : Value} {ts : List T} (h : OwnW w0 w B v ts) (k : Ext w0 w) : OwnTasks w B v ts := let ⟨xs, h1, h2⟩ := h; ⟨xs, h1, h2.ext k⟩
theorem OwnW.ext {w0 w w' : World} {B : Nat} {v : Value} {ts : List T} (h : OwnW w0 w B v ts) (k : Ext w w') : OwnW w0 w' B v ts := let ⟨xs, h1, h2⟩ := h; ⟨xs, ownsRow_ext h1 k, h2⟩
theorem OwnW.kt {w0 w w' : World} {B : Nat} {v : Value} {ts : List T} {e : TypeId} (h : OwnW w0 w B v ts) (k : KT e w w') (n2 : 31 ≠ e) : OwnW w0 w' B v ts := let ⟨xs, h1, h2⟩ := h; ⟨xs, ownsRow_kt h1 k n2, h2⟩
theorem OwnW.base {w0 w : World} {B B' : Nat} {v : Value} {ts : List T} (h : OwnW w0 w B v ts) (hb : B' ≤ B) : OwnW w0 w B' v ts := let ⟨xs, h1, h2⟩ := h; ⟨xs, ownsRow_base h1 hb, h2⟩
theorem OwnW.block {w0 w : World} {B : Nat} {v : Value} {ts : List T} (h : OwnW w0 w B v ts) {g : Nat} (hg : v.ownBlock = some g) : B ≤ g ∧ ∃ cs fz, w.heap[g]? = some (.cells cs 31 fz) := by
  obtain ⟨xs, ⟨hl, h1⟩, h2⟩ := h
  rcases h1 with ⟨rfl, _⟩ | ⟨g', cap, cur, rfl, hB, hh, r⟩
  · simp [Value.ownBlock] at hg
  · simp only [Value.ownBlock, Option.some.injEq] at hg
    subst hg
    exact ⟨hB, cur, _, hh⟩
theorem OwnW.lt {w0 w : World} {B : Nat} {v : Value} {ts : List T} (h : OwnW w0 w B v ts) {g : Nat} (hg : v.ownBlock = some g) : g < w.heap.size := by
  obtain ⟨_, cs, fz, hh⟩ := h.block hg
  exact lt_of_heap hh
theorem OwnW.form {w0 w : World} {B : Nat} {v : Value} {ts : List T} (h : OwnW w0 w B v ts) : ∃ a c, v = .slice a ts.length c := by
  obtain ⟨xs, ⟨_, h1⟩, _⟩ := h
  rcases h1 with ⟨rfl, hn⟩ | ⟨g, cap, cur, rfl, _⟩
  · exact ⟨none, 0, by rw [hn]⟩
  · exact ⟨_, cap, rfl⟩
theorem OwnW.lit0 (w0 w : World) (B : Nat) (hB : B ≤ w.heap.size) : OwnW w0 (w.alloc (.cells #[] 31)) B (.slice (some ⟨w.heap.size, 0, none⟩) 0 0) [] := ⟨[], World.ownsRow_lit w #[] 0 hB (by simp [maxLen]) rfl, TaskCells.nil _⟩
/-- The last task is cut off. -/
theorem OwnW.cut {w0 w : World} {B m c : Nat} {a : Option Addr} {ts : List T} {x : T} (h : OwnW w0 w B (.slice a m c) (ts ++ [x])) : ∃ g, a = some ⟨g, 0, none⟩ ∧ m = ts.length + 1 ∧ ts.length + 1 ≤ c ∧ OwnW w0 w B (.slice (some ⟨g, 0, none⟩) ts.length c) ts := by
  obtain ⟨xs, h1, h2⟩ := h
  obtain ⟨g, rfl, rfl, hB, hlt, hc, ho⟩ := ownsRow_at h1 (by simp)
  obtain ⟨hr, -, -, -⟩ := ownsRow_room ho
  refine ⟨g, rfl, by simp, by simpa using hr, xs.take (ts.length * 2), ownsRow_cut ho (k := ts.length) (by simp), ?_⟩
  have hx := h2.1
  refine ⟨by simp at hx ⊢; omega, fun k hk => ?_⟩
  obtain ⟨c1, n, c2, hn⟩ := h2.2 k (by simp; omega)
  rw [List.getElem_append_left hk] at c1 hn
  exact ⟨by rw [List.getElem?_take_of_lt (by omega), c1], n, by rw [List.getElem?_take_of_lt (by omega), c2], hn⟩

/-- Nodes that the call owns, each node too; the tasks' needs lie in the world w0. -/
def NestW (w0 w : World) (B C : Nat) (v : Value) (bs : List (List T)) : Prop :=
  ∃ xs, w.ownsRow B 24 1 v bs.length xs ∧ xs.length = bs.length ∧ (∀ k (h : k < bs.length), ∃ n, xs[k]? = some n ∧ OwnW w0 w C n bs[k]) ∧
    ∀ (i j : Nat) (n m : Value) (g : Nat), i ≠ j → xs[i]? = some n → xs[j]? = some m → n.ownBlock = some g → m.ownBlock ≠ some g
theorem NestW.nest {w0 w : World} {B C : Nat} {v : Value} {bs : List (List T)} (h : NestW w0 w B C v bs) (k : Ext w0 w) : Nest w B C v bs := by
  obtain ⟨xs, h1, h2, h3, h4⟩ := h
  exact ⟨xs, h1, h2, fun j hj => let ⟨n, a, b⟩ := h3 j hj; ⟨n, a, b.own k⟩, h4⟩
theorem NestW.ext {w0 w w' : World} {B C : Nat} {v : Value} {bs : List (List T)} (h : NestW w0 w B C v bs) (k : Ext w w') : NestW w0 w' B C v bs := by
  obtain ⟨xs, h1, h2, h3, h4⟩ := h
  exact ⟨xs, ownsRow_ext h1 k, h2, fun j hj => let ⟨n, a, b⟩ := h3 j hj; ⟨n, a, b.ext k⟩, h4⟩
theorem NestW.kt {w0 w w' : World} {B C : Nat} {v : Value} {bs : List (List T)} {e : TypeId} (h : NestW w0 w B C v bs) (k : KT e w w') (n2 : 31 ≠ e) (n3 : 24 ≠ e) : NestW w0 w' B C v bs := by
  obtain ⟨xs, h1, h2, h3, h4⟩ := h
  exact ⟨xs, ownsRow_kt h1 k n3, h2, fun j hj => let ⟨n, a, b⟩ := h3 j hj; ⟨n, a, b.kt k n2⟩, h4⟩
theorem NestW.lit0 (w0 w : World) (B C : Nat) (hB : B ≤ w.heap.size) : NestW w0 (w.alloc (.cells #[] 24)) B C (.slice (some ⟨w.heap.size, 0, none⟩) 0 0) [] :=
  ⟨[], World.ownsRow_lit w #[] 0 hB (by simp [maxLen]) rfl, rfl, fun _ h => by simp at h, fun _ _ _ _ _ _ h => by simp at h⟩
theorem NestW.form {w0 w : World} {B C : Nat} {v : Value} {bs : List (List T)} (h : NestW w0 w B C v bs) : ∃ a c, v = .slice a bs.length c := by
  obtain ⟨xs, ⟨_, h1⟩, _⟩ := h
  rcases h1 with ⟨rfl, hn⟩ | ⟨g, cap, cur, rfl, _⟩
  · exact ⟨none, 0, by rw [hn]⟩
  · exact ⟨_, cap, rfl⟩
theorem NestW.at {w0 w : World} {B C : Nat} {a : Option Addr} {n c : Nat} {bs : List (List T)} (h : NestW w0 w B C (.slice a n c) bs) {k : Nat} (hk : k < bs.length) :
    ∃ b nd, a = some ⟨b, 0, none⟩ ∧ n = bs.length ∧ n ≤ c ∧ B ≤ b ∧ w.cell? ⟨b, k, none⟩ = some nd ∧ OwnW w0 w C nd bs[k] ∧ w.frozen? ⟨b, k, none⟩ = false := by
  obtain ⟨xs, h1, h2, h3, h4⟩ := h
  obtain ⟨g, rfl, rfl, hB, _, hc, ho⟩ := ownsRow_at h1 (by omega)
  obtain ⟨nd, hn, hot⟩ := h3 k hk
  exact ⟨g, nd, rfl, rfl, (ownsRow_room ho).1, hB, by rw [hc k (by omega), hn], hot, (ownsRow_put ho (k := k) (by omega) (.bool true)).2.2.2⟩
theorem NestW.rowOf {w0 w : World} {B C b n c : Nat} {bs : List (List T)} (h : NestW w0 w B C (.slice (some ⟨b, 0, none⟩) n c) bs) : ∃ cs fz, w.heap[b]? = some (Obj.cells cs 24 fz) := by
  obtain ⟨xs, ho1, -, -⟩ := h
  obtain ⟨_, h⟩ := ho1
  rcases h with ⟨h, _⟩ | ⟨g', cap, cur, hv, _, hg, _⟩
  · cases h
  · simp only [Value.slice.injEq, Option.some.injEq, Addr.mk.injEq, and_true] at hv
    obtain ⟨rfl, _⟩ := hv
    exact ⟨cur, _, hg⟩
/-- A node grows: its row was appended to, and the new slice is put into the row of nodes. -/
theorem NestW.push {w0 w w1 : World} {B C b n c : Nat} {bs : List (List T)} (h : NestW w0 w B C (.slice (some ⟨b, 0, none⟩) n c) bs) {k : Nat} (hk : k < bs.length) {nd nd' : Value} (hc : w.cell? ⟨b, k, none⟩ = some nd) {ts : List T}
    (hC : C ≤ w.heap.size) (ho : OwnW w0 w1 C nd' ts) (hg : w.grownBy w1 nd.ownBlock) (hb : nd'.ownBlock = nd.ownBlock ∨ nd'.ownBlock = some w.heap.size) :
    NestW w0 (w1.setCell ⟨b, k, none⟩ nd') B C (.slice (some ⟨b, 0, none⟩) n c) (bs.set k ts) ∧ KT 31 w w1 ∧ KT 24 w1 (w1.setCell ⟨b, k, none⟩ nd') ∧ Below B w1 (w1.setCell ⟨b, k, none⟩ nd') ∧ Below C w w1 ∧
      w1.cell? ⟨b, k, none⟩ = some nd ∧ w1.frozen? ⟨b, k, none⟩ = false := by
  obtain ⟨xs, h1, h2, h3, h4⟩ := h
  obtain ⟨g, hga, rfl, hB, hlt, hcells, ho1⟩ := ownsRow_at h1 (by omega)
  simp only [Option.some.injEq, Addr.mk.injEq, and_true] at hga
  subst hga
  obtain ⟨nd0, hn0, hot⟩ := h3 k hk
  have e0 : nd0 = nd := by
    have := (hcells k (by omega)).symm.trans hc
    rw [hn0] at this
    simpa using this
  subst e0
  have hrow : ∃ cur fz, w.heap[b]? = some (.cells cur 24 fz) := by
    obtain ⟨_, h⟩ := ho1
    rcases h with ⟨h, _⟩ | ⟨g', cap, cur, hv, _, hg, _⟩
    · cases h
    · simp only [Value.slice.injEq, Option.some.injEq, Addr.mk.injEq, true_and, and_true] at hv
      obtain ⟨rfl, rfl⟩ := hv
      exact ⟨cur, _, hg⟩
  obtain ⟨cur, fz, hrow⟩ := hrow
  have nb : some b ≠ nd0.ownBlock := by
    intro e
    obtain ⟨_, cs, fz', h'⟩ := hot.block e.symm
    rw [hrow] at h'
    simp only [Option.some.injEq, Obj.cells.injEq] at h'
    exact absurd h'.2.1 (by decide)
  have ht : KT 31 w w1 := ⟨hg.size, fun b' cs t fz' hb' hne => hg.block b' (lt_of_heap hb') (fun x => by
    obtain ⟨_, cs', fz2, h'⟩ := hot.block x.symm
    rw [hb'] at h'
    simp only [Option.some.injEq, Obj.cells.injEq] at h'
    exact hne h'.2.1)⟩
  have hbw : Below C w w1 := ⟨hg.os, hg.tape, hg.output, hg.size, fun k' hk' => by
    refine hg.block k' (by omega) (fun x => ?_)
    have := (hot.block x.symm).1
    omega⟩
  have r1 : w1.heap[b]? = w.heap[b]? := hg.block b hlt nb
  have ho2 : w1.ownsRow B 24 1 (.slice (some ⟨b, 0, none⟩) bs.length c) bs.length xs := ownsRow_kt ho1 ht (by decide)
  obtain ⟨p1, p2, p3, p4⟩ := ownsRow_put ho2 (k := k) (by omega) nd'
  refine ⟨⟨xs.set k nd', by simpa using p1, by simpa using h2, fun j hj => ?_, fun i j n m g hij hi hj hgi => ?_⟩, ht, p2, p3, hbw, ?_, p4⟩
  · simp only [List.length_set] at hj
    by_cases e : k = j
    · subst e
      exact ⟨nd', by rw [List.getElem?_set_self (by omega)], by rw [List.getElem_set_self]; exact ho.kt p2 (by decide)⟩
    · obtain ⟨m, hm, hom⟩ := h3 j hj
      refine ⟨m, by rw [List.getElem?_set_ne e, hm], ?_⟩
      rw [List.getElem_set_ne e]
      have hom1 : OwnW w0 w1 C m bs[j] := by
        obtain ⟨ys, ⟨hl, hy⟩, hcs⟩ := hom
        refine ⟨ys, ⟨hl, ?_⟩, hcs⟩
        rcases hy with hy | ⟨g', cap, cur', rfl, hB', hh, r⟩
        · exact .inl hy
        · refine .inr ⟨g', cap, cur', rfl, hB', ?_, r⟩
          rw [hg.block g' (lt_of_heap hh) (fun x => h4 k j nd0 _ g' e hn0 hm x.symm rfl)]
          exact hh
      exact hom1.kt p2 (by decide)
  · have old : ∀ (i : Nat) (n : Value) (g : Nat), i ≠ k → xs[i]? = some n → n.ownBlock = some g → nd'.ownBlock ≠ some g := by
      intro i n g hik hi hgi hx
      rcases hb with hb | hb
      · rw [hb] at hx
        exact h4 i k n nd0 g hik hi hn0 hgi hx
      · rw [hb] at hx
        simp only [Option.some.injEq] at hx
        have hil : i < bs.length := by
          rcases Nat.lt_or_ge i xs.length with h | h
          · omega
          · simp [List.getElem?_eq_none h] at hi
        obtain ⟨n', hn', ho'⟩ := h3 i hil
        rw [hi] at hn'
        simp only [Option.some.injEq] at hn'
        subst hn'
        obtain ⟨_, cs, fz', hh⟩ := ho'.block hgi
        have := lt_of_heap hh
        omega
    by_cases ei : k = i
    · subst ei
      rw [List.getElem?_set_self (by omega)] at hi
      simp only [Option.some.injEq] at hi
      subst hi
      rw [List.getElem?_set_ne hij] at hj
      exact fun hx => old j m g (Ne.symm hij) hj hx hgi
    · rw [List.getElem?_set_ne ei] at hi
      by_cases ej : k = j
      · subst ej
        rw [List.getElem?_set_self (by omega)] at hj
        simp only [Option.some.injEq] at hj
        subst hj
        exact old i n g hij hi hgi
      · rw [List.getElem?_set_ne ej] at hj
        exact h4 i j n m g hij hi hj hgi
  · rw [World.cell?_of_block (w := w) (a := ⟨b, k, none⟩) r1]
    exact hc

/-- A node more, at the end. -/
theorem NestW.snoc {w0 w w1 : World} {B C : Nat} {v v' n : Value} {bs : List (List T)} {ts : List T} (h : NestW w0 w B C v bs) (hE : Ext w w1) (hn : OwnW w0 w1 w.heap.size n ts) (hC : C ≤ w.heap.size) {w2 : World}
    (hown : ∀ xs, w1.ownsRow B 24 1 v bs.length xs → w2.ownsRow B 24 1 v' (bs.length + 1) (xs ++ [n])) (hk : KT 24 w1 w2) : NestW w0 w2 B C v' (bs ++ [ts]) := by
  obtain ⟨xs, h1, h2, h3, h4⟩ := h
  refine ⟨xs ++ [n], by simpa using hown xs (ownsRow_ext h1 hE), by simp [h2], fun k hk' => ?_, fun i j a b g hij hi hj hga hgb => ?_⟩
  · simp only [List.length_append, List.length_singleton] at hk'
    by_cases hlt : k < bs.length
    · obtain ⟨m, hm, hom⟩ := h3 k hlt
      refine ⟨m, by rw [List.getElem?_append_left (by omega), hm], ?_⟩
      rw [List.getElem_append_left hlt]
      exact (hom.ext hE).kt hk (by decide)
    · have e : k = bs.length := by omega
      subst e
      refine ⟨n, by rw [← h2, List.getElem?_append_right (Nat.le_refl _)]; simp, ?_⟩
      rw [List.getElem_append_right (Nat.le_refl _)]
      simpa using (hn.base hC).kt hk (by decide)
  · have old : ∀ (i : Nat) (a : Value) (g : Nat), xs[i]? = some a → a.ownBlock = some g → n.ownBlock ≠ some g := by
      intro i a g hi hga hx
      have hil : i < bs.length := by
        rcases Nat.lt_or_ge i xs.length with h | h
        · omega
        · simp [List.getElem?_eq_none h] at hi
      obtain ⟨n', hn', ho'⟩ := h3 i hil
      rw [hi] at hn'
      simp only [Option.some.injEq] at hn'
      subst hn'
      obtain ⟨_, cs, fz', hh⟩ := ho'.block hga
      have := lt_of_heap hh
      have := (hn.block hx).1
      omega
    have cut : ∀ (i : Nat) (a : Value), (xs ++ [n])[i]? = some a → (i < xs.length ∧ xs[i]? = some a) ∨ (i = xs.length ∧ a = n) := by
      intro i a hi
      by_cases hl : i < xs.length
      · rw [List.getElem?_append_left hl] at hi; exact .inl ⟨hl, hi⟩
      · rw [List.getElem?_append_right (by omega)] at hi
        have e : i - xs.length = 0 := by
          rcases Nat.eq_zero_or_pos (i - xs.length) with h | h
          · exact h
          · rw [List.getElem?_eq_none (by simp; omega)] at hi; cases hi
        rw [e] at hi
        simp at hi
        exact .inr ⟨by omega, hi.symm⟩
    rcases cut i a hi with ⟨_, hi⟩ | ⟨ei, ea⟩
    · rcases cut j b hj with ⟨_, hj⟩ | ⟨ej, eb⟩
      · exact h4 i j a b g hij hi hj hga hgb
      · exact old i a g hi hga (by rw [← eb]; exact hgb)
    · rcases cut j b hj with ⟨_, hj⟩ | ⟨ej, eb⟩
      · exact old j b g hj hgb (by rw [← ea]; exact hga)
      · omega

/-- The nodes from some place on are cut off. -/
theorem NestW.cut {w0 w : World} {B C b n c : Nat} {bs : List (List T)} (h : NestW w0 w B C (.slice (some ⟨b, 0, none⟩) n c) bs) {k : Nat} (hk : k ≤ bs.length) : NestW w0 w B C (.slice (some ⟨b, 0, none⟩) k c) (bs.take k) := by
  obtain ⟨xs, h1, h2, h3, h4⟩ := h
  have ho : w.ownsRow B 24 1 (.slice (some ⟨b, 0, none⟩) bs.length c) bs.length xs := by
    rcases Nat.eq_zero_or_pos bs.length with h0 | h0
    · obtain ⟨hl, hx⟩ := h1
      rcases hx with ⟨hx, _⟩ | ⟨g, cap, cur, hv, r⟩
      · cases hx
      · simp only [Value.slice.injEq, Option.some.injEq, Addr.mk.injEq, and_true] at hv
        obtain ⟨rfl, rfl, rfl⟩ := hv
        exact ⟨hl, .inr ⟨_, _, _, rfl, r⟩⟩
    · obtain ⟨g, hg, rfl, -, -, -, ho⟩ := ownsRow_at h1 h0
      simp only [Option.some.injEq, Addr.mk.injEq, and_true] at hg
      subst hg
      exact ho
  have hc := ownsRow_cut ho hk
  rw [Nat.mul_one] at hc
  have e : (bs.take k).length = k := by simp; omega
  refine ⟨xs.take k, by rw [e]; exact hc, by simp; omega, fun j hj => ?_, fun i j n m g hij hi hj => ?_⟩
  · rw [e] at hj
    obtain ⟨nd, a, o⟩ := h3 j (by omega)
    refine ⟨nd, by rw [List.getElem?_take_of_lt hj, a], ?_⟩
    rw [List.getElem_take]
    exact o
  · have hi' : xs[i]? = some n := by
      rw [List.getElem?_take] at hi
      split at hi
      · exact hi
      · cases hi
    have hj' : xs[j]? = some m := by
      rw [List.getElem?_take] at hj
      split at hj
      · exact hj
      · cases hj
    exact h4 i j n m g hij hi' hj'

section
variable {w : World} {ops : Array Oper} {rest : List Oper} {o : Oper} {a : Act} {Q : Exit → Act → World → Prop} {K : Act → World → Prop}
/-- 'append(tasks, task)'. -/
theorem wp_app2_w (s x : Operand) (ho : o.op = .call { callee := .builtin .append, args := #[s, x], argTypes := #[24, 24] }) (w0 : World) (B : Nat) (v : Value) (ts : List T) (hs : a.eval s = v) (hown : OwnW w0 w B v ts) (hB : B ≤ w.heap.size)
    (src : Option Addr) (c : Nat) (t : T) (n : Value) (hx : a.eval x = .slice src 1 c) (hrow : Row w 31 src [.int .i64 t.id, n]) (hn : Ints w0 n t.need) (hl : ts.length + 1 ≤ lim)
    (h : ∀ v' w', OwnW w0 w' B v' (ts ++ [t]) → w.grownBy w' v.ownBlock → (v'.ownBlock = v.ownBlock ∨ v'.ownBlock = some w.heap.size) → K (a.put o.dst v') w') : o.wp Tryd.prog a w K Q := by
  obtain ⟨xs, hown, hcx⟩ := hown
  unfold lim at hl
  have h1 : ∀ u ∈ [Value.int .i64 t.id, n], u.oneCell' = true := (by simpa using (TaskCells.nil w0).snoc hn : TaskCells w0 [.int .i64 t.id, n] [t]).one
  obtain ⟨v', w', hr, h2, h3, h4⟩ := run_app2 elt_task o.type w B v ts.length xs hown hB src 1 c [.int .i64 t.id, n] rfl _ hrow h1 (by omega) (by unfold maxLen; omega)
  unfold Oper.wp execOp
  simp only [ho, resolve, invoke, builtin, Sem.run_bind, Sem.run_pure, Result.andThen_ok, List.map_toArray, List.map_cons, List.map_nil, hs, hx, hr]
  exact h v' w' ⟨_, by simpa using h2, hcx.snoc hn⟩ h3 h4
/-- 'append(nodes, node)': a node more. -/
theorem wp_app_nestw (s x : Operand) (ho : o.op = .call { callee := .builtin .append, args := #[s, x], argTypes := #[27, 27] }) (w0 : World) (B : Nat) (v : Value) (bs : List (List T)) (hs : a.eval s = v) {C : Nat} {wb : World} (hnest : NestW w0 wb B C v bs) (hE : Ext wb w) (hB : B ≤ wb.heap.size) (hC : C ≤ wb.heap.size)
    (src : Option Addr) (c : Nat) (n : Value) (ts : List T) (hx : a.eval x = .slice src 1 c) (hrow : Row w 24 src [n]) (hn : OwnW w0 w wb.heap.size n ts) (hl : bs.length + 1 ≤ lim)
    (h : ∀ v' w', NestW w0 w' B C v' (bs ++ [ts]) → (∃ b c, v' = .slice (some ⟨b, 0, none⟩) (bs.length + 1) c ∧ w'.cell? ⟨b, bs.length, none⟩ = some n) → KT 24 w w' → Below B w w' → K (a.put o.dst v') w') : o.wp Tryd.prog a w K Q := by
  have hnest' := hnest
  obtain ⟨xs, hown, hxl, _⟩ := hnest
  unfold lim at hl
  have hone : n.oneCell' = true := by
    obtain ⟨_, ⟨_, hn⟩, _⟩ := hn
    rcases hn with ⟨rfl, _⟩ | ⟨_, _, _, rfl, _⟩ <;> rfl
  have hB' : B ≤ w.heap.size := Nat.le_trans hB hE.le
  refine wp_app elt_bin s x ho B v bs.length xs hs (ownsRow_ext hown hE) hB' src 1 c [n] hx rfl _ hrow (by simpa using hone) (by omega) (by unfold maxLen; omega) (fun v' w' h1 h2 h3 => h v' w' ?_ ?_ h2 h3)
  · refine hnest'.snoc hE hn hC (fun ys hys => ?_) h2
    rw [ownsRow_uniq hys (ownsRow_ext hown hE)]
    exact h1
  · obtain ⟨_, hx⟩ := id h1
    rcases hx with ⟨_, hx⟩ | ⟨g, cap, cur, rfl, _⟩
    · omega
    · obtain ⟨g', e, -, -, -, hc, -⟩ := ownsRow_at h1 (by omega)
      cases e
      refine ⟨_, _, rfl, ?_⟩
      rw [hc _ (by simp [hxl]), List.getElem?_append_right (by omega)]
      simp [hxl]
theorem app_nestw (hgd : o.guard = none) (s x : Operand) (ho : o.op = .call { callee := .builtin .append, args := #[s, x], argTypes := #[27, 27] }) (w0 : World) (B : Nat) (v : Value) (bs : List (List T)) (hs : a.eval s = v) {C : Nat} {wb : World} (hnest : NestW w0 wb B C v bs) (hE : Ext wb w) (hB : B ≤ wb.heap.size) (hC : C ≤ wb.heap.size)
    (src : Option Addr) (c : Nat) (n : Value) (ts : List T) (hx : a.eval x = .slice src 1 c) (hrow : Row w 24 src [n]) (hn : OwnW w0 w wb.heap.size n ts) (hl : bs.length + 1 ≤ lim)
    (h : ∀ v' w', NestW w0 w' B C v' (bs ++ [ts]) → (∃ b c, v' = .slice (some ⟨b, 0, none⟩) (bs.length + 1) c ∧ w'.cell? ⟨b, bs.length, none⟩ = some n) → KT 24 w w' → Below B w w' → wpList Tryd.prog ops Q rest (a.put o.dst v') w') : wpList Tryd.prog ops Q (o :: rest) a w :=
  wpList_plain hgd fun _ hK => wp_app_nestw s x ho w0 B v bs hs hnest hE hB hC src c n ts hx hrow hn hl fun v' w' h1 h2 h3 h4 => hK _ _ (h v' w' h1 h2 h3 h4)
/-- 'append(stack, trial{})'. -/
theorem app_trial (hgd : o.guard = none) (s x : Operand) (ho : o.op = .call { callee := .builtin .append, args := #[s, x], argTypes := #[41, 41] }) (B : Nat) (v : Value) (ds : List Nat) (hs : a.eval s = v) (hown : OwnTr w B v ds) (hB : B ≤ w.heap.size)
    (src : Option Addr) (c : Nat) (d : Nat) (hx : a.eval x = .slice src 1 c) (hrow : Row w 40 src [.int .i64 (d : Int)]) (hl : ds.length + 1 ≤ lim)
    (h : ∀ v' w', OwnTr w' B v' (ds ++ [d]) → KT 40 w w' → Below B w w' → wpList Tryd.prog ops Q rest (a.put o.dst v') w') : wpList Tryd.prog ops Q (o :: rest) a w := by
  unfold lim at hl
  refine wpList_plain hgd fun _ hK => wp_app elt_trial s x ho B v ds.length _ hs hown hB src 1 c [.int .i64 (d : Int)] hx rfl _ hrow (by intro u hu; simp at hu; subst hu; rfl) (by omega) (by unfold maxLen; omega) fun v' w' h1 h2 h3 => hK _ _ (h v' w' ?_ h2 h3)
  unfold OwnTr
  rw [List.length_append, List.map_append]
  exact h1
end

end Go.Proofs.YtfidamjepjgknaaDoor
