/- Nodes that a call owns whole: the row of nodes and each node's own row, apart from each other; what an append and a store change. No condition. -/
import Derived.Test.YtipmoedflpjioaaOwn
import Derived.OneCell
namespace Go.Proofs.Ytipmoedflpjioaa
set_option maxRecDepth 100000
open Go.RowKit

theorem KT.below {e : TypeId} {a w w' : World} (h : KT e a w) (k : Below a.heap.size w w') : KT e a w' :=
  ⟨Nat.le_trans h.1 k.size, fun b cs t fz hb ht => (k.block b (lt_of_heap hb)).trans (h.2 b cs t fz hb ht)⟩
theorem KT.put {w : World} {e : TypeId} {p : Addr} {cs : Array Value} {fz : Nat × Nat} (hb : w.heap[p.block]? = some (Obj.cells cs e fz)) (u : Value) : KT e w (w.setCell p u) := by
  refine ⟨by simp, fun b cs' t fz' hb' ht => Below.heap_setCell w p u b (fun x => ?_)⟩
  subst x
  rw [hb] at hb'
  simp only [Option.some.injEq, Obj.cells.injEq] at hb'
  exact ht hb'.2.1.symm
theorem heap_put {w : World} {b k : Nat} {cs : Array Value} {e : TypeId} {fz : Nat × Nat} (h : w.heap[b]? = some (.cells cs e fz)) (u : Value) :
    (w.setCell ⟨b, k, none⟩ u).heap[b]? = some (.cells (cs.setIfInBounds k u) e fz) := by
  have hlt := lt_of_heap h
  have h' : w.heap[b] = .cells cs e fz := by simpa [Array.getElem?_eq_getElem hlt] using h
  show (w.heap.modify b _)[b]? = _
  rw [Array.getElem?_eq_getElem (by simpa using hlt), Array.getElem_modify_self, h']
  simp

theorem box_cell (w : World) (cs : Array Value) (e : TypeId) (k : Nat) : (w.alloc (.cells cs e)).cell? ⟨w.heap.size, k, none⟩ = cs[k]? := by
  have h : (w.alloc (.cells cs e)).heap[w.heap.size]? = some (.cells cs e (0, 0)) := heap_alloc_new w _
  unfold World.cell?
  rw [h]
  rfl
theorem cell_of_heap {w : World} {b : Nat} {cs : Array Value} {t : TypeId} {fz : Nat × Nat} (hb : w.heap[b]? = some (.cells cs t fz)) (k : Nat) : w.cell? ⟨b, k, none⟩ = cs[k]? := by
  unfold World.cell?
  rw [hb]
  rfl
theorem frozen_of_heap {w : World} {b : Nat} {cs : Array Value} {t : TypeId} (hb : w.heap[b]? = some (.cells cs t (0, 0))) (k : Nat) : w.frozen? ⟨b, k, none⟩ = false := by simp [World.frozen?, hb]
theorem cell_far {w : World} {b o b' o' : Nat} {u x : Value} (h : w.cell? ⟨b, o, none⟩ = some x) (ne : b ≠ b') : (w.setCell ⟨b', o', none⟩ u).cell? ⟨b, o, none⟩ = some x := by
  rw [World.cell?_of_block (w := w) (a := ⟨b, o, none⟩) (Below.heap_setCell w ⟨b', o', none⟩ u b ne)]
  exact h
/-- A cell of a row that is owned is written. -/
theorem ownsRow_put {w : World} {B : Nat} {e : TypeId} {size n g c : Nat} {xs : List Value} (h : w.ownsRow B e size (.slice (some ⟨g, 0, none⟩) n c) n xs) {k : Nat} (_hk : k < xs.length) (u : Value) :
    (w.setCell ⟨g, k, none⟩ u).ownsRow B e size (.slice (some ⟨g, 0, none⟩) n c) n (xs.set k u) ∧ KT e w (w.setCell ⟨g, k, none⟩ u) ∧ Below B w (w.setCell ⟨g, k, none⟩ u) ∧ w.frozen? ⟨g, k, none⟩ = false := by
  obtain ⟨hl, h⟩ := h
  rcases h with ⟨h, _⟩ | ⟨g', cap, cur, hv, hB, hg, h1, h2, h3, h4⟩
  · cases h
  · simp only [Value.slice.injEq, Option.some.injEq, Addr.mk.injEq, true_and, and_true] at hv
    obtain ⟨rfl, rfl⟩ := hv
    refine ⟨⟨by simpa using hl, .inr ⟨g, c, cur.setIfInBounds k u, rfl, hB, heap_put hg u, h1, h2, by simpa using h3, ?_⟩⟩, KT.put (p := ⟨g, k, none⟩) hg u, Below.setCell (Below.refl _ _) hB u, by simp [World.frozen?, hg]⟩
    rw [Array.toList_setIfInBounds, List.take_set, h4]
theorem ownsRow_at {w : World} {B : Nat} {e : TypeId} {size n : Nat} {a : Option Addr} {m c : Nat} {xs : List Value} (h : w.ownsRow B e size (.slice a m c) n xs) (h0 : 0 < n) :
    ∃ g, a = some ⟨g, 0, none⟩ ∧ m = n ∧ B ≤ g ∧ g < w.heap.size ∧ (∀ k, k < xs.length → w.cell? ⟨g, k, none⟩ = xs[k]?) ∧ w.ownsRow B e size (.slice (some ⟨g, 0, none⟩) n c) n xs := by
  have h' := h
  obtain ⟨hl, h⟩ := h
  rcases h with ⟨h, hn⟩ | ⟨g, cap, cur, hv, hB, hg, h1, h2, h3, h4⟩
  · omega
  · simp only [Value.slice.injEq] at hv
    obtain ⟨rfl, rfl, rfl⟩ := hv
    refine ⟨g, rfl, rfl, hB, lt_of_heap hg, fun k hk => ?_, h'⟩
    rw [← h4, List.getElem?_take, if_pos (by omega)]
    simp [World.cell?, hg]

theorem run_app2 {P : Program} {t e : TypeId} {size bytes : Nat} (hE : Elt P t e size bytes) (ty : TypeId) (w : World) (B : Nat) (v : Value) (n : Nat) (xs : List Value) (hown : w.ownsRow B e size v n xs) (hB : B ≤ w.heap.size)
    (src : Option Addr) (m c : Nat) (news : List Value) (hl : news.length = m * size) (e' : TypeId) (hrow : Row w e' src news) (h1 : ∀ u ∈ news, u.oneCell' = true) (hb : (n + m) * bytes ≤ 140737488355328) (hn : n + m ≤ maxLen) :
    ∃ v' w', (Builtin.append_ #[t, t] ty #[v, .slice src m c]).run P w = .ok v' w' ∧ w'.ownsRow B e size v' (n + m) (xs ++ news) ∧ w.grownBy w' v.ownBlock ∧ (v'.ownBlock = v.ownBlock ∨ v'.ownBlock = some w.heap.size) := by
  obtain ⟨i, z, ht, hi, hz, hs, hby, hzs, h0⟩ := hE.got
  cases src with
  | none =>
    have hnews : news = [] := by
      rcases hrow with h | ⟨b, off, cs, ha, _⟩
      · exact h
      · cases ha
    subst hnews
    have hm : m = 0 := by
      rcases Nat.eq_zero_or_pos m with h | h
      · exact h
      · have := Nat.mul_pos h h0; simp at hl; omega
    subst hm
    refine ⟨v, w, ?_, by simpa using hown, ⟨rfl, rfl, rfl, Nat.le_refl _, fun _ _ _ => rfl⟩, .inl rfl⟩
    rcases hown.2 with ⟨rfl, rfl⟩ | ⟨g, cap, cur, rfl, _, _, hnc, _⟩
    · simp [Builtin.append_, run_underlying ht, sizeOf, typeInfo, hi, Builtin.lenOf, Builtin.firstCells]
    · simp [Builtin.append_, run_underlying ht, sizeOf, typeInfo, hi, Builtin.lenOf, Builtin.firstCells, hnc, storeCells]
  | some ad =>
    have hnews : ∀ j u, news[j]? = some u → w.cell? (ad.add j) = some u := by
      intro j u hj
      rcases hrow with h | ⟨b, off, cs, ha, hb', hc⟩
      · simp [h] at hj
      · simp only [Option.some.injEq] at ha
        subst ha
        have hlt : j < news.length := by
          rcases Nat.lt_or_ge j news.length with h | h
          · exact h
          · simp [List.getElem?_eq_none h] at hj
        rw [Addr.add_lit]
        simp [World.cell?, hb', hc j hlt, hj]
    obtain ⟨v', w', hr, ho, hg, _, hk⟩ := run_append_own_at (P := P) w B t ty e i z size bytes ht hi hz hs hby hzs h0 v n xs hown ad m c news hl hnews h1 hn hb hB
    exact ⟨v', w', hr, ho, hg, hk⟩

theorem OwnTasks.kt {w w' : World} {B : Nat} {v : Value} {ts : List T} {e : TypeId} (h : OwnTasks w B v ts) (k : KT e w w') (n1 : 3 ≠ e) (n2 : 38 ≠ e) : OwnTasks w' B v ts :=
  let ⟨xs, h1, h2⟩ := h; ⟨xs, ownsRow_kt h1 k n2, h2.kt k n1⟩
theorem OwnInts.kt {w w' : World} {B : Nat} {v : Value} {xs : List Int} {e : TypeId} (h : OwnInts w B v xs) (k : KT e w w') (n1 : 3 ≠ e) : OwnInts w' B v xs := ownsRow_kt h k n1
theorem OwnTasks.base {w : World} {B B' : Nat} {v : Value} {ts : List T} (h : OwnTasks w B v ts) (hb : B' ≤ B) : OwnTasks w B' v ts := by
  obtain ⟨xs, ⟨hl, h1⟩, h2⟩ := h
  refine ⟨xs, ⟨hl, ?_⟩, h2⟩
  rcases h1 with h1 | ⟨g, cap, cur, hv, hg, r⟩
  · exact .inl h1
  · exact .inr ⟨g, cap, cur, hv, by omega, r⟩
theorem OwnTasks.block {w : World} {B : Nat} {v : Value} {ts : List T} (h : OwnTasks w B v ts) {g : Nat} (hg : v.ownBlock = some g) : B ≤ g ∧ ∃ cs fz, w.heap[g]? = some (.cells cs 38 fz) := by
  obtain ⟨xs, ⟨hl, h1⟩, h2⟩ := h
  rcases h1 with ⟨rfl, _⟩ | ⟨g', cap, cur, rfl, hB, hh, r⟩
  · simp [Value.ownBlock] at hg
  · simp only [Value.ownBlock, Option.some.injEq] at hg
    subst hg
    exact ⟨hB, cur, _, hh⟩

theorem OwnTasks.form {w : World} {B : Nat} {v : Value} {ts : List T} (h : OwnTasks w B v ts) : ∃ a c, v = .slice a ts.length c := by
  obtain ⟨xs, ⟨_, h1⟩, _⟩ := h
  rcases h1 with ⟨rfl, hn⟩ | ⟨g, cap, cur, rfl, _⟩
  · exact ⟨none, 0, by rw [hn]⟩
  · exact ⟨_, cap, rfl⟩

/-- All rows of numbers and of tasks are as they were. -/
def KI (w w' : World) : Prop := w.heap.size ≤ w'.heap.size ∧ ∀ (b : Nat) (cs : Array Value) (t : TypeId) (fz : Nat × Nat), w.heap[b]? = some (Obj.cells cs t fz) → (t = 3 ∨ t = 38) → w'.heap[b]? = w.heap[b]?
theorem KI.refl (w : World) : KI w w := ⟨Nat.le_refl _, fun _ _ _ _ _ _ => rfl⟩
theorem KI.trans {a b c : World} (h : KI a b) (k : KI b c) : KI a c :=
  ⟨Nat.le_trans h.1 k.1, fun x cs t fz hx ht => by have h1 := h.2 x cs t fz hx ht; exact (k.2 x cs t fz (h1.trans hx) ht).trans h1⟩
theorem KT.ki {e : TypeId} {w w' : World} (h : KT e w w') (n1 : 3 ≠ e) (n2 : 38 ≠ e) : KI w w' :=
  ⟨h.1, fun b cs t fz hb ht => h.2 b cs t fz hb (by rcases ht with rfl | rfl; exact n1; exact n2)⟩
theorem Ext.ki {w w' : World} (h : Ext w w') : KI w w' := ⟨h.le, fun _ _ _ _ hb _ => h.block (lt_of_heap hb)⟩
theorem KI.below {a w w' : World} (h : KI a w) (k : Below a.heap.size w w') : KI a w' :=
  ⟨Nat.le_trans h.1 k.size, fun b cs t fz hb ht => (k.block b (lt_of_heap hb)).trans (h.2 b cs t fz hb ht)⟩
theorem Ints.ki {w w' : World} {v : Value} {xs : List Int} (h : Ints w v xs) (k : KI w w') : Ints w' v xs := by
  obtain ⟨hl, a, cap, hv, hr⟩ := h
  refine ⟨hl, a, cap, hv, ?_⟩
  rcases hr with h | ⟨b, off, cs, ha, hb, hc⟩
  · exact .inl h
  · exact .inr ⟨b, off, cs, ha, (k.2 _ _ _ _ hb (.inl rfl)).trans hb, hc⟩
theorem Tasks.ki {w w' : World} {v : Value} {ts : List T} (h : Tasks w v ts) (k : KI w w') : Tasks w' v ts := by
  obtain ⟨hl, a, cap, xs, hv, hr, hc1, hc2⟩ := h
  refine ⟨hl, a, cap, xs, hv, ?_, hc1, fun j hj => ⟨(hc2 j hj).1, let ⟨n, a, b⟩ := (hc2 j hj).2; ⟨n, a, b.ki k⟩⟩⟩
  rcases hr with h | ⟨b, off, cs, ha, hb, hc⟩
  · exact .inl h
  · exact .inr ⟨b, off, cs, ha, (k.2 _ _ _ _ hb (.inr rfl)).trans hb, hc⟩

/-- Nodes that the call owns, each node too. -/
def Nest (w : World) (B C : Nat) (v : Value) (bs : List (List T)) : Prop :=
  ∃ xs, w.ownsRow B 27 1 v bs.length xs ∧ xs.length = bs.length ∧ (∀ k (h : k < bs.length), ∃ n, xs[k]? = some n ∧ OwnTasks w C n bs[k]) ∧
    ∀ (i j : Nat) (n m : Value) (g : Nat), i ≠ j → xs[i]? = some n → xs[j]? = some m → n.ownBlock = some g → m.ownBlock ≠ some g
theorem Nest.ext {w w' : World} {B C : Nat} {v : Value} {bs : List (List T)} (h : Nest w B C v bs) (k : Ext w w') : Nest w' B C v bs := by
  obtain ⟨xs, h1, h2, h3, h4⟩ := h
  exact ⟨xs, ownsRow_ext h1 k, h2, fun j hj => let ⟨n, a, b⟩ := h3 j hj; ⟨n, a, b.ext k⟩, h4⟩
theorem Nest.kt {w w' : World} {B C : Nat} {v : Value} {bs : List (List T)} {e : TypeId} (h : Nest w B C v bs) (k : KT e w w') (n1 : 3 ≠ e) (n2 : 38 ≠ e) (n3 : 27 ≠ e) : Nest w' B C v bs := by
  obtain ⟨xs, h1, h2, h3, h4⟩ := h
  exact ⟨xs, ownsRow_kt h1 k n3, h2, fun j hj => let ⟨n, a, b⟩ := h3 j hj; ⟨n, a, b.kt k n1 n2⟩, h4⟩
theorem Nest.drew {w : World} {B C : Nat} {v : Value} {bs : List (List T)} (h : Nest w B C v bs) : Nest w.drew B C v bs := h.ext (Ext.refl w).drew
theorem Nest.nil (w : World) (B C : Nat) : Nest w B C (.slice none 0 0) [] := ⟨[], World.ownsRow_nil _ _ _ _, rfl, fun _ h => by simp at h, fun _ _ _ _ _ _ h => by simp at h⟩
theorem Nest.lit0 (w : World) (B C : Nat) (hB : B ≤ w.heap.size) : Nest (w.alloc (.cells #[] 27)) B C (.slice (some ⟨w.heap.size, 0, none⟩) 0 0) [] :=
  ⟨[], World.ownsRow_lit w #[] 0 hB (by simp [maxLen]) rfl, rfl, fun _ h => by simp at h, fun _ _ _ _ _ _ h => by simp at h⟩
theorem Nest.done {w : World} {B C : Nat} {v : Value} {bs : List (List T)} (h : Nest w B C v bs) (hl : bs.length ≤ lim) (hb : ∀ b ∈ bs, b.length ≤ lim) : Bins w v bs := by
  obtain ⟨xs, h1, h2, h3, h4⟩ := h
  exact Bins.of_own h1 ⟨h2, fun k hk => let ⟨n, a, b⟩ := h3 k hk; ⟨n, a, b.done (hb _ (List.getElem_mem hk))⟩⟩ hl
theorem Nest.form {w : World} {B C : Nat} {v : Value} {bs : List (List T)} (h : Nest w B C v bs) : ∃ a c, v = .slice a bs.length c := by
  obtain ⟨xs, ⟨_, h1⟩, _⟩ := h
  rcases h1 with ⟨rfl, hn⟩ | ⟨g, cap, cur, rfl, _⟩
  · exact ⟨none, 0, by rw [hn]⟩
  · exact ⟨_, cap, rfl⟩
theorem Nest.at {w : World} {B C : Nat} {a : Option Addr} {n c : Nat} {bs : List (List T)} (h : Nest w B C (.slice a n c) bs) {k : Nat} (hk : k < bs.length) :
    ∃ b nd, a = some ⟨b, 0, none⟩ ∧ n = bs.length ∧ B ≤ b ∧ w.cell? ⟨b, k, none⟩ = some nd ∧ OwnTasks w C nd bs[k] ∧ w.frozen? ⟨b, k, none⟩ = false := by
  obtain ⟨xs, h1, h2, h3, h4⟩ := h
  obtain ⟨g, rfl, rfl, hB, _, hc, ho⟩ := ownsRow_at h1 (by omega)
  obtain ⟨nd, hn, hot⟩ := h3 k hk
  exact ⟨g, nd, rfl, rfl, hB, by rw [hc k (by omega), hn], hot, (ownsRow_put ho (k := k) (by omega) (.bool true)).2.2.2⟩

/-- A node grows: its row was appended to, and the new slice is put into the row of nodes. -/
theorem Nest.push {w w1 : World} {B C b n c : Nat} {bs : List (List T)} (h : Nest w B C (.slice (some ⟨b, 0, none⟩) n c) bs) {k : Nat} (hk : k < bs.length) {nd nd' : Value} (hc : w.cell? ⟨b, k, none⟩ = some nd) {ts : List T}
    (hC : C ≤ w.heap.size) (ho : OwnTasks w1 C nd' ts) (hg : w.grownBy w1 nd.ownBlock) (hb : nd'.ownBlock = nd.ownBlock ∨ nd'.ownBlock = some w.heap.size) :
    Nest (w1.setCell ⟨b, k, none⟩ nd') B C (.slice (some ⟨b, 0, none⟩) n c) (bs.set k ts) ∧ KT 38 w w1 ∧ KT 27 w1 (w1.setCell ⟨b, k, none⟩ nd') ∧ Below B w1 (w1.setCell ⟨b, k, none⟩ nd') ∧ Below C w w1 ∧
      w1.cell? ⟨b, k, none⟩ = some nd ∧ w1.frozen? ⟨b, k, none⟩ = false := by
  obtain ⟨xs, h1, h2, h3, h4⟩ := h
  obtain ⟨g, hga, rfl, hB, hlt, hcells, ho1⟩ := ownsRow_at h1 (by omega)
  simp only [Option.some.injEq, Addr.mk.injEq, and_true] at hga
  subst hga
  obtain ⟨nd0, hn0, hot⟩ := h3 k hk
  have e0 : nd0 = nd := by
    have := (hcells k (by omega)).symm.trans hc
    rw [hn0] at this
    simpa using this
  subst e0
  have hrow : ∃ cur fz, w.heap[b]? = some (.cells cur 27 fz) := by
    obtain ⟨_, h⟩ := ho1
    rcases h with ⟨h, _⟩ | ⟨g', cap, cur, hv, _, hg, _⟩
    · cases h
    · simp only [Value.slice.injEq, Option.some.injEq, Addr.mk.injEq, true_and, and_true] at hv
      obtain ⟨rfl, rfl⟩ := hv
      exact ⟨cur, _, hg⟩
  obtain ⟨cur, fz, hrow⟩ := hrow
  have nb : some b ≠ nd0.ownBlock := by
    intro e
    obtain ⟨_, cs, fz', h'⟩ := hot.block e.symm
    rw [hrow] at h'
    simp only [Option.some.injEq, Obj.cells.injEq] at h'
    exact absurd h'.2.1 (by decide)
  have ht : KT 38 w w1 := ⟨hg.size, fun b' cs t fz' hb' hne => hg.block b' (lt_of_heap hb') (fun x => by
    obtain ⟨_, cs', fz2, h'⟩ := hot.block x.symm
    rw [hb'] at h'
    simp only [Option.some.injEq, Obj.cells.injEq] at h'
    exact hne h'.2.1)⟩
  have hbw : Below C w w1 := ⟨hg.os, hg.tape, hg.output, hg.size, fun k' hk' => by
    refine hg.block k' (by omega) (fun x => ?_)
    have := (hot.block x.symm).1
    omega⟩
  have r1 : w1.heap[b]? = w.heap[b]? := hg.block b hlt nb
  have ho2 : w1.ownsRow B 27 1 (.slice (some ⟨b, 0, none⟩) bs.length c) bs.length xs := ownsRow_kt ho1 ht (by decide)
  obtain ⟨p1, p2, p3, p4⟩ := ownsRow_put ho2 (k := k) (by omega) nd'
  refine ⟨⟨xs.set k nd', by simpa using p1, by simpa using h2, fun j hj => ?_, fun i j n m g hij hi hj hgi => ?_⟩, ht, p2, p3, hbw, ?_, p4⟩
  · simp only [List.length_set] at hj
    by_cases e : k = j
    · subst e
      exact ⟨nd', by rw [List.getElem?_set_self (by omega)], by rw [List.getElem_set_self]; exact ho.kt p2 (by decide) (by decide)⟩
    · obtain ⟨m, hm, hom⟩ := h3 j hj
      refine ⟨m, by rw [List.getElem?_set_ne e, hm], ?_⟩
      rw [List.getElem_set_ne e]
      have hom1 : OwnTasks w1 C m bs[j] := by
        obtain ⟨ys, ⟨hl, hy⟩, hcs⟩ := hom
        refine ⟨ys, ⟨hl, ?_⟩, hcs.kt ht (by decide)⟩
        rcases hy with hy | ⟨g', cap, cur', rfl, hB', hh, r⟩
        · exact .inl hy
        · refine .inr ⟨g', cap, cur', rfl, hB', ?_, r⟩
          rw [hg.block g' (lt_of_heap hh) (fun x => h4 k j nd0 _ g' e hn0 hm x.symm rfl)]
          exact hh
      exact hom1.kt p2 (by decide) (by decide)
  · have old : ∀ (i : Nat) (n : Value) (g : Nat), i ≠ k → xs[i]? = some n → n.ownBlock = some g → nd'.ownBlock ≠ some g := by
      intro i n g hik hi hgi hx
      rcases hb with hb | hb
      · rw [hb] at hx
        exact h4 i k n nd0 g hik hi hn0 hgi hx
      · rw [hb] at hx
        simp only [Option.some.injEq] at hx
        have hil : i < bs.length := by
          rcases Nat.lt_or_ge i xs.length with h | h
          · omega
          · simp [List.getElem?_eq_none h] at hi
        obtain ⟨n', hn', ho'⟩ := h3 i hil
        rw [hi] at hn'
        simp only [Option.some.injEq] at hn'
        subst hn'
        obtain ⟨_, cs, fz', hh⟩ := ho'.block hgi
        have := lt_of_heap hh
        omega
    by_cases ei : k = i
    · subst ei
      rw [List.getElem?_set_self (by omega)] at hi
      simp only [Option.some.injEq] at hi
      subst hi
      rw [List.getElem?_set_ne hij] at hj
      exact fun hx => old j m g (Ne.symm hij) hj hx hgi
    · rw [List.getElem?_set_ne ei] at hi
      by_cases ej : k = j
      · subst ej
        rw [List.getElem?_set_self (by omega)] at hj
        simp only [Option.some.injEq] at hj
        subst hj
        exact old i n g hij hi hgi
      · rw [List.getElem?_set_ne ej] at hj
        exact h4 i j n m g hij hi hj hgi
  · rw [World.cell?_of_block (w := w) (a := ⟨b, k, none⟩) r1]
    exact hc

/-- A node more, at the end. -/
theorem Nest.snoc {w w1 : World} {B C : Nat} {v v' n : Value} {bs : List (List T)} {ts : List T} (h : Nest w B C v bs) (hE : Ext w w1) (hn : OwnTasks w1 w.heap.size n ts) (hC : C ≤ w.heap.size) {w2 : World}
    (hown : ∀ xs, w1.ownsRow B 27 1 v bs.length xs → w2.ownsRow B 27 1 v' (bs.length + 1) (xs ++ [n])) (hk : KT 27 w1 w2) : Nest w2 B C v' (bs ++ [ts]) := by
  obtain ⟨xs, h1, h2, h3, h4⟩ := h
  refine ⟨xs ++ [n], by simpa using hown xs (ownsRow_ext h1 hE), by simp [h2], fun k hk' => ?_, fun i j a b g hij hi hj hga hgb => ?_⟩
  · simp only [List.length_append, List.length_singleton] at hk'
    by_cases hlt : k < bs.length
    · obtain ⟨m, hm, hom⟩ := h3 k hlt
      refine ⟨m, by rw [List.getElem?_append_left (by omega), hm], ?_⟩
      rw [List.getElem_append_left hlt]
      exact (hom.ext hE).kt hk (by decide) (by decide)
    · have e : k = bs.length := by omega
      subst e
      refine ⟨n, by rw [← h2, List.getElem?_append_right (Nat.le_refl _)]; simp, ?_⟩
      rw [List.getElem_append_right (Nat.le_refl _)]
      simpa using (hn.base hC).kt hk (by decide) (by decide)
  · have old : ∀ (i : Nat) (a : Value) (g : Nat), xs[i]? = some a → a.ownBlock = some g → n.ownBlock ≠ some g := by
      intro i a g hi hga hx
      have hil : i < bs.length := by
        rcases Nat.lt_or_ge i xs.length with h | h
        · omega
        · simp [List.getElem?_eq_none h] at hi
      obtain ⟨n', hn', ho'⟩ := h3 i hil
      rw [hi] at hn'
      simp only [Option.some.injEq] at hn'
      subst hn'
      obtain ⟨_, cs, fz', hh⟩ := ho'.block hga
      have := lt_of_heap hh
      have := (hn.block hx).1
      omega
    have cut : ∀ (i : Nat) (a : Value), (xs ++ [n])[i]? = some a → (i < xs.length ∧ xs[i]? = some a) ∨ (i = xs.length ∧ a = n) := by
      intro i a hi
      by_cases hl : i < xs.length
      · rw [List.getElem?_append_left hl] at hi; exact .inl ⟨hl, hi⟩
      · rw [List.getElem?_append_right (by omega)] at hi
        have e : i - xs.length = 0 := by
          rcases Nat.eq_zero_or_pos (i - xs.length) with h | h
          · exact h
          · rw [List.getElem?_eq_none (by simp; omega)] at hi; cases hi
        rw [e] at hi
        simp at hi
        exact .inr ⟨by omega, hi.symm⟩
    rcases cut i a hi with ⟨_, hi⟩ | ⟨ei, ea⟩
    · rcases cut j b hj with ⟨_, hj⟩ | ⟨ej, eb⟩
      · exact h4 i j a b g hij hi hj hga hgb
      · exact old i a g hi hga (by rw [← eb]; exact hgb)
    · rcases cut j b hj with ⟨_, hj⟩ | ⟨ej, eb⟩
      · exact old j b g hj hgb (by rw [← ea]; exact hga)
      · omega

section
variable {w : World} {ops : Array Oper} {rest : List Oper} {o : Oper} {a : Act} {Q : Exit → Act → World → Prop} {K : Act → World → Prop}

/-- 'append(s, x...)' of tasks, with what changed. -/
theorem wp_app2_tasks (s x : Operand) (ho : o.op = .call { callee := .builtin .append, args := #[s, x], argTypes := #[27, 27] }) (B : Nat) (v : Value) (ts : List T) (hs : a.eval s = v) (hown : OwnTasks w B v ts) (hB : B ≤ w.heap.size)
    (src : Option Addr) (m c : Nat) (us : List T) (hx : a.eval x = .slice src m c) (hsrc : Tasks w (.slice src m c) us) (hl : ts.length + us.length ≤ lim)
    (h : ∀ v' w', OwnTasks w' B v' (ts ++ us) → w.grownBy w' v.ownBlock → (v'.ownBlock = v.ownBlock ∨ v'.ownBlock = some w.heap.size) → K (a.put o.dst v') w') : o.wp Try.prog a w K Q := by
  obtain ⟨rfl, ys, hr, hc⟩ := hsrc.parts
  obtain ⟨xs, hown, hcx⟩ := hown
  unfold lim at hl
  obtain ⟨v', w', hr, h2, h3, h4⟩ := run_app2 elt_task o.type w B v ts.length xs hown hB src us.length c ys hc.1 _ hr hc.one (by omega) (by unfold maxLen; omega)
  unfold Oper.wp execOp
  simp only [ho, resolve, invoke, builtin, Sem.run_bind, Sem.run_pure, Result.andThen_ok, List.map_toArray, List.map_cons, List.map_nil, hs, hx, hr]
  exact h v' w' ⟨xs ++ ys, by simpa using h2, (hcx.app hc).kt (grownBy_kt hown h3) (by decide)⟩ h3 h4
theorem app2_tasks (hgd : o.guard = none) (s x : Operand) (ho : o.op = .call { callee := .builtin .append, args := #[s, x], argTypes := #[27, 27] }) (B : Nat) (v : Value) (ts : List T) (hs : a.eval s = v) (hown : OwnTasks w B v ts) (hB : B ≤ w.heap.size)
    (src : Option Addr) (m c : Nat) (us : List T) (hx : a.eval x = .slice src m c) (hsrc : Tasks w (.slice src m c) us) (hl : ts.length + us.length ≤ lim)
    (h : ∀ v' w', OwnTasks w' B v' (ts ++ us) → w.grownBy w' v.ownBlock → (v'.ownBlock = v.ownBlock ∨ v'.ownBlock = some w.heap.size) → wpList Try.prog ops Q rest (a.put o.dst v') w') : wpList Try.prog ops Q (o :: rest) a w :=
  wpList_plain hgd fun _ hK => wp_app2_tasks s x ho B v ts hs hown hB src m c us hx hsrc hl fun v' w' h1 h2 h3 => hK _ _ (h v' w' h1 h2 h3)
theorem step_app2_tasks {E : Prop} (hgd : o.guard = none) (s x : Operand) (ho : o.op = .call { callee := .builtin .append, args := #[s, x], argTypes := #[27, 27] }) (B : Nat) (v : Value) (ts : List T) (hs : a.eval s = v) (hown : OwnTasks w B v ts) (hB : B ≤ w.heap.size)
    (src : Option Addr) (m c : Nat) (us : List T) (hx : a.eval x = .slice src m c) (hsrc : Tasks w (.slice src m c) us) (hl : ts.length + us.length ≤ lim)
    (h : ∀ v' w', OwnTasks w' B v' (ts ++ us) → w.grownBy w' v.ownBlock → (v'.ownBlock = v.ownBlock ∨ v'.ownBlock = some w.heap.size) → K (a.put o.dst v') w') : if Region.wanted o (yielded ops a.tmps) = true then Oper.wp Try.prog o a w K Q else E := by
  rw [if_pos (by simp [Region.wanted, hgd])]
  exact wp_app2_tasks s x ho B v ts hs hown hB src m c us hx hsrc hl h
/-- 'append(bins, bin)': a node more. -/
theorem wp_app_nest (s x : Operand) (ho : o.op = .call { callee := .builtin .append, args := #[s, x], argTypes := #[24, 24] }) (B : Nat) (v : Value) (bs : List (List T)) (hs : a.eval s = v) {C : Nat} {w0 : World} (hnest : Nest w0 B C v bs) (hE : Ext w0 w) (hB : B ≤ w0.heap.size) (hC : C ≤ w0.heap.size)
    (src : Option Addr) (c : Nat) (n : Value) (ts : List T) (hx : a.eval x = .slice src 1 c) (hrow : Row w 27 src [n]) (hn : OwnTasks w w0.heap.size n ts) (hl : bs.length + 1 ≤ lim)
    (h : ∀ v' w', Nest w' B C v' (bs ++ [ts]) → KT 27 w w' → Below B w w' → K (a.put o.dst v') w') : o.wp Try.prog a w K Q := by
  have hnest' := hnest
  obtain ⟨xs, hown, _⟩ := hnest
  unfold lim at hl
  have hone : n.oneCell' = true := by
    obtain ⟨_, ⟨_, hn⟩, _⟩ := hn
    rcases hn with ⟨rfl, _⟩ | ⟨_, _, _, rfl, _⟩ <;> rfl
  have hB' : B ≤ w.heap.size := Nat.le_trans hB hE.le
  refine wp_app elt_bin s x ho B v bs.length xs hs (ownsRow_ext hown hE) hB' src 1 c [n] hx rfl _ hrow (by simpa using hone) (by omega) (by unfold maxLen; omega) (fun v' w' h1 h2 h3 => h v' w' ?_ h2 h3)
  refine hnest'.snoc hE hn hC (fun ys hys => ?_) h2
  have : ys = xs := by
    have e2 := ownsRow_ext hown hE
    obtain ⟨y1, q1⟩ := hys
    obtain ⟨x1, q2⟩ := e2
    rcases q1 with ⟨rfl, hn1⟩ | ⟨g1, c1, u1, rfl, _, k1, _, _, _, t1⟩
    · have l1 : ys = [] := List.eq_nil_of_length_eq_zero (by rw [y1, hn1])
      have l2 : xs = [] := List.eq_nil_of_length_eq_zero (by rw [x1, hn1])
      rw [l1, l2]
    · rcases q2 with ⟨q2, _⟩ | ⟨g2, c2, u2, hv2, _, k2, _, _, _, t2⟩
      · cases q2
      · simp only [Value.slice.injEq, Option.some.injEq, Addr.mk.injEq, true_and, and_true] at hv2
        obtain ⟨rfl, rfl⟩ := hv2
        rw [k1] at k2
        simp only [Option.some.injEq, Obj.cells.injEq] at k2
        rw [← t1, ← t2, k2.1]
  subst this
  exact h1
theorem app_nest (hgd : o.guard = none) (s x : Operand) (ho : o.op = .call { callee := .builtin .append, args := #[s, x], argTypes := #[24, 24] }) (B : Nat) (v : Value) (bs : List (List T)) (hs : a.eval s = v) {C : Nat} {w0 : World} (hnest : Nest w0 B C v bs) (hE : Ext w0 w) (hB : B ≤ w0.heap.size) (hC : C ≤ w0.heap.size)
    (src : Option Addr) (c : Nat) (n : Value) (ts : List T) (hx : a.eval x = .slice src 1 c) (hrow : Row w 27 src [n]) (hn : OwnTasks w w0.heap.size n ts) (hl : bs.length + 1 ≤ lim)
    (h : ∀ v' w', Nest w' B C v' (bs ++ [ts]) → KT 27 w w' → Below B w w' → wpList Try.prog ops Q rest (a.put o.dst v') w') : wpList Try.prog ops Q (o :: rest) a w :=
  wpList_plain hgd fun _ hK => wp_app_nest s x ho B v bs hs hnest hE hB hC src c n ts hx hrow hn hl fun v' w' h1 h2 h3 => hK _ _ (h v' w' h1 h2 h3)
end

end Go.Proofs.Ytipmoedflpjioaa
