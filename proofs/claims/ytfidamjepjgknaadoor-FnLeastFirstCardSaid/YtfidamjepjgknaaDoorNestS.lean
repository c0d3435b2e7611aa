/- Nodes that a call owns whole, each node's blocks apart from those of all others: what an append and a store leave. No condition. -/
import Derived.Test.YtfidamjepjgknaaDoorMark
import Derived.Test.YtfidamjepjgknaaDoorOwn
import Derived.Test.YtfidamjepjgknaaDoorI7
namespace Go.Proofs.YtfidamjepjgknaaDoor
set_option maxRecDepth 100000
open Go.RowKit

theorem ownsRow_keep {A : Nat} {w w' : World} {e : TypeId} {size n : Nat} {v : Value} {xs : List Value} (h : w.ownsRow A e size v n xs) (k : ∀ g, v.ownBlock = some g → g < w.heap.size → w'.heap[g]? = w.heap[g]?) : w'.ownsRow A e size v n xs := by
  obtain ⟨hl, h⟩ := h
  refine ⟨hl, ?_⟩
  rcases h with h | ⟨g, cap, cur, rfl, hb, hh, r⟩
  · exact .inl h
  · exact .inr ⟨g, cap, cur, rfl, hb, (k g rfl (lt_of_heap hh)).trans hh, r⟩
theorem NeedS.keep {w w' : World} {L g : Nat} {v : Value} {need : List Int} (h : NeedS w L g v need) (k : g < w.heap.size → w'.heap[g]? = w.heap[g]?) : NeedS w' L g v need := by
  have hl := h.lt.2
  obtain ⟨⟨cap, rfl⟩, h2⟩ := h
  exact ⟨⟨cap, rfl⟩, ownsRow_keep h2 fun g' e _ => by simp only [Value.ownBlock, Option.some.injEq] at e; subst e; exact k hl⟩
theorem ownsRow_raise {B B' : Nat} {w : World} {e : TypeId} {size n : Nat} {v : Value} {xs : List Value} (h : w.ownsRow B e size v n xs) (hb : ∀ g, v.ownBlock = some g → B' ≤ g) : w.ownsRow B' e size v n xs := by
  obtain ⟨hl, h⟩ := h
  refine ⟨hl, ?_⟩
  rcases h with h | ⟨g, cap, cur, rfl, hB, r⟩
  · exact .inl h
  · exact .inr ⟨g, cap, cur, rfl, hb g rfl, r⟩
/-- What lies in a row that is owned is known. -/
theorem ownsRow_uniq {A B : Nat} {w : World} {e e' : TypeId} {size n : Nat} {v : Value} {xs ys : List Value} (h : w.ownsRow A e size v n xs) (k : w.ownsRow B e' size v n ys) : xs = ys := by
  obtain ⟨y1, q1⟩ := h
  obtain ⟨x1, q2⟩ := k
  rcases q1 with ⟨rfl, hn1⟩ | ⟨g1, c1, u1, rfl, _, k1, _, _, _, t1⟩
  · have l1 : ys = [] := List.eq_nil_of_length_eq_zero (by rw [x1, hn1]; simp)
    have l2 : xs = [] := List.eq_nil_of_length_eq_zero (by rw [y1, hn1]; simp)
    rw [l1, l2]
  · rcases q2 with ⟨q2, _⟩ | ⟨g2, c2, u2, hv2, _, k2, _, _, _, t2⟩
    · cases q2
    · simp only [Value.slice.injEq, Option.some.injEq, Addr.mk.injEq, true_and, and_true] at hv2
      obtain ⟨rfl, rfl⟩ := hv2
      rw [k1] at k2
      simp only [Option.some.injEq, Obj.cells.injEq] at k2
      rw [← t1, ← t2, k2.1]

/-- Tasks in memory of their own: each block in which they lie has P. -/
def TasksP (w : World) (P : Nat → Prop) (v : Value) (ts : List T) : Prop :=
  ∃ xs nb, w.ownsRow 0 31 2 v ts.length xs ∧ CellsS w 0 xs ts nb ts.length ∧ (∀ g, v.ownBlock = some g → P g) ∧ ∀ j, j < ts.length → P (nb j)
theorem TasksP.keep {w w' : World} {P : Nat → Prop} {v : Value} {ts : List T} (h : TasksP w P v ts) (k : ∀ g, P g → g < w.heap.size → w'.heap[g]? = w.heap[g]?) : TasksP w' P v ts := by
  obtain ⟨xs, nb, h1, h2, h3, h4⟩ := h
  refine ⟨xs, nb, ownsRow_keep h1 fun g hg hl => k g (h3 g hg) hl, ⟨fun j hj hm => ⟨(h2.1 j hj hm).1, ?_⟩, h2.2⟩, h3, h4⟩
  obtain ⟨n, a, b⟩ := (h2.1 j hj hm).2
  exact ⟨n, a, b.keep (k _ (h4 j hj))⟩
theorem TasksP.ext {w w' : World} {P : Nat → Prop} {v : Value} {ts : List T} (h : TasksP w P v ts) (k : Ext w w') : TasksP w' P v ts := h.keep fun _ _ hl => k.block hl
theorem TasksP.weaken {w : World} {P Q : Nat → Prop} {v : Value} {ts : List T} (h : TasksP w P v ts) (k : ∀ g, P g → g < w.heap.size → Q g) : TasksP w Q v ts := by
  obtain ⟨xs, nb, h1, h2, h3, h4⟩ := h
  refine ⟨xs, nb, h1, h2, fun g hg => k g (h3 g hg) (h1.lt g hg).2, fun j hj => ?_⟩
  obtain ⟨_, n, _, hn⟩ := h2.1 j hj hj
  exact k _ (h4 j hj) hn.lt.2
theorem TasksP.s {w : World} {P : Nat → Prop} {v : Value} {ts : List T} (h : TasksP w P v ts) : TasksS w 0 v ts := let ⟨xs, nb, h1, h2, _⟩ := h; ⟨xs, nb, h1, h2⟩
theorem TasksS.p {w : World} {L : Nat} {v : Value} {ts : List T} (h : TasksS w L v ts) : TasksP w (fun g => L ≤ g ∧ g < w.heap.size) v ts := by
  obtain ⟨xs, nb, h1, h2⟩ := h
  refine ⟨xs, nb, ownsRow_base h1 (Nat.zero_le _), ⟨fun j hj hm => ⟨(h2.1 j hj hm).1, ?_⟩, h2.2⟩, fun g hg => h1.lt g hg, fun j hj => ?_⟩
  · obtain ⟨n, a, b⟩ := (h2.1 j hj hm).2
    exact ⟨n, a, b.base (Nat.zero_le _)⟩
  · obtain ⟨_, n, _, hn⟩ := h2.1 j hj hj
    exact hn.lt
theorem TasksP.form {w : World} {P : Nat → Prop} {v : Value} {ts : List T} (h : TasksP w P v ts) : ∃ a c, v = .slice a ts.length c := h.s.form
/-- One task more, its need in a new block. -/
theorem TasksP.snoc {w0 w w' : World} {P : Nat → Prop} {v v' n : Value} {ts : List T} {t : T} {g : Nat} (h : TasksP w0 P v ts) (hP : ∀ g, P g → g < w0.heap.size) (hE : Ext w0 w) (hn : NeedS w w0.heap.size g n t.need)
    (happ : ∀ xs, w.ownsRow 0 31 2 v ts.length xs → w'.ownsRow 0 31 2 v' (ts.length + 1) (xs ++ [.int .i64 t.id, n])) (hg : w.grownBy w' v.ownBlock) (hb : v'.ownBlock = v.ownBlock ∨ v'.ownBlock = some w.heap.size) :
    TasksP w' (fun x => P x ∨ (w0.heap.size ≤ x ∧ x < w'.heap.size)) v' (ts ++ [t]) := by
  obtain ⟨xs, nb, h1, h2, h3, h4⟩ := h
  have r1 := ownsRow_ext h1 hE
  have r2 := happ xs r1
  have hk : KT 31 w w' := grownBy_kt r1 hg
  have hx := h1.1
  have hsz : ∀ x, v'.ownBlock = some x → x < w'.heap.size := fun x e => (r2.lt x e).2
  refine ⟨_, fun k => if k = ts.length then g else nb k, by simpa using r2, ⟨fun k hk1 hk2 => ?_, fun i j hij hj hjm => ?_⟩, fun x e => ?_, fun k hk1 => ?_⟩
  · simp only [List.length_append, List.length_singleton] at hk1
    dsimp only
    by_cases e : k = ts.length
    · subst e
      rw [List.getElem?_append_right (by omega), List.getElem?_append_right (by omega), hx, Nat.sub_self, show ts.length * 2 + 1 - ts.length * 2 = 1 by omega, List.getElem_append_right (Nat.le_refl _), if_pos rfl]
      simp only [Nat.sub_self, List.getElem_cons_zero]
      exact ⟨rfl, n, rfl, (hn.base (Nat.zero_le _)).kt hk (by decide)⟩
    · obtain ⟨c0, n', c1, hn'⟩ := h2.1 k (by omega) (by omega)
      rw [List.getElem?_append_left (by omega), List.getElem?_append_left (by omega), List.getElem_append_left (by omega), if_neg e]
      exact ⟨c0, n', c1, (hn'.ext hE).kt hk (by decide)⟩
  · simp only [List.length_append, List.length_singleton] at hj
    dsimp only
    rw [if_neg (by omega : ¬ i = ts.length)]
    by_cases e : j = ts.length
    · rw [if_pos e]
      have := hP _ (h4 i (by omega))
      have := hn.lt
      omega
    · rw [if_neg e]
      exact h2.2 i j hij (by omega) (by omega)
  · rcases hb with hb | hb
    · exact .inl (h3 x (hb ▸ e))
    · refine .inr ⟨?_, hsz x e⟩
      rw [hb] at e
      simp only [Option.some.injEq] at e
      have := hE.le
      omega
  · simp only [List.length_append, List.length_singleton] at hk1
    dsimp only
    by_cases e : k = ts.length
    · rw [if_pos e]
      exact .inr ⟨hn.lt.1, Nat.lt_of_lt_of_le hn.lt.2 hk.1⟩
    · rw [if_neg e]
      exact .inl (h4 k (by omega))
/-- A task alone, its need in a new block. -/
theorem TasksP.lit1 {w : World} {L g : Nat} {n : Value} {t : T} (hn : NeedS w L g n t.need) (c : Nat) (hc : 1 ≤ c) (hc1 : c ≤ 1) : TasksP (w.alloc (.cells #[.int .i64 t.id, n] 31)) (fun x => L ≤ x ∧ x < (w.alloc (.cells #[.int .i64 t.id, n] 31)).heap.size) (.slice (some ⟨w.heap.size, 0, none⟩) 1 c) [t] := by
  have hE : Ext w (w.alloc (.cells #[.int .i64 t.id, n] 31)) := (Ext.refl w).alloc _
  have hl := hn.lt
  obtain rfl : c = 1 := by omega
  refine ⟨[.int .i64 t.id, n], fun _ => g, World.ownsRow_lit w #[.int .i64 t.id, n] 1 (Nat.zero_le _) (by simp [maxLen]) rfl, ⟨fun k hk _ => ?_, fun i j hij hj _ => ?_⟩, fun x e => ?_, fun j hj => ?_⟩
  · simp only [List.length_singleton] at hk
    obtain rfl : k = 0 := by omega
    exact ⟨rfl, n, rfl, (hn.ext hE).base (Nat.zero_le _)⟩
  · simp only [List.length_singleton] at hj; omega
  · simp only [Value.ownBlock, Option.some.injEq] at e
    subst e
    exact ⟨by omega, by simp⟩
  · exact ⟨hl.1, Nat.lt_of_lt_of_le hl.2 hE.le⟩

/-- Nodes that a call owns whole: S tells the blocks of each node, no block is of two. -/
def NestS (w : World) (L : Nat) (v : Value) (bs : List (List T)) : Prop :=
  ∃ (xs : List Value) (S : Nat → Nat → Prop), w.ownsRow L 24 1 v bs.length xs ∧ (∀ k g, S k g → L ≤ g ∧ g < w.heap.size ∧ v.ownBlock ≠ some g) ∧ (∀ i j g, i ≠ j → S i g → ¬ S j g) ∧ ∀ k (h : k < bs.length), ∃ n, xs[k]? = some n ∧ TasksP w (S k) n bs[k]
theorem NestS.ext {w w' : World} {L : Nat} {v : Value} {bs : List (List T)} (h : NestS w L v bs) (k : Ext w w') : NestS w' L v bs := by
  obtain ⟨xs, S, h1, h2, h3, h4⟩ := h
  exact ⟨xs, S, ownsRow_ext h1 k, fun i g hg => ⟨(h2 i g hg).1, Nat.lt_of_lt_of_le (h2 i g hg).2.1 k.le, (h2 i g hg).2.2⟩, h3, fun j hj => let ⟨n, a, b⟩ := h4 j hj; ⟨n, a, b.ext k⟩⟩
theorem NestS.nil (w : World) (L : Nat) : NestS w L (.slice none 0 0) [] := ⟨[], fun _ _ => False, World.ownsRow_nil _ _ _ _, fun _ _ h => h.elim, fun _ _ _ _ h => h.elim, fun _ h => by simp at h⟩
theorem NestS.lit0 (w : World) (L : Nat) (hL : L ≤ w.heap.size) : NestS (w.alloc (.cells #[] 24)) L (.slice (some ⟨w.heap.size, 0, none⟩) 0 0) [] :=
  ⟨[], fun _ _ => False, World.ownsRow_lit w #[] 0 hL (by simp [maxLen]) rfl, fun _ _ h => h.elim, fun _ _ _ _ h => h.elim, fun _ h => by simp at h⟩
theorem NestS.form {w : World} {L : Nat} {v : Value} {bs : List (List T)} (h : NestS w L v bs) : ∃ a c, v = .slice a bs.length c := by
  obtain ⟨xs, S, ⟨_, h1⟩, _⟩ := h
  rcases h1 with ⟨rfl, hn⟩ | ⟨g, cap, cur, rfl, _⟩
  · exact ⟨none, 0, by rw [hn]⟩
  · exact ⟨_, cap, rfl⟩
theorem NestS.base {w : World} {L L' : Nat} {v : Value} {bs : List (List T)} (h : NestS w L v bs) (hb : L' ≤ L) : NestS w L' v bs := by
  obtain ⟨xs, S, h1, h2, h3, h4⟩ := h
  exact ⟨xs, S, ownsRow_base h1 hb, fun k g hg => ⟨Nat.le_trans hb (h2 k g hg).1, (h2 k g hg).2⟩, h3, h4⟩
theorem NestS.bins {w : World} {L : Nat} {v : Value} {bs : List (List T)} (h : NestS w L v bs) (hl : bs.length ≤ lim) (hb : ∀ b ∈ bs, b.length ≤ lim ∧ ∀ t ∈ b, t.need.length ≤ lim) : Bins w v bs := by
  obtain ⟨xs, S, h1, h2, h3, h4⟩ := h
  refine Bins.of_own h1 ⟨by have := h1.1; omega, fun k hk => ?_⟩ hl
  obtain ⟨n, a, b⟩ := h4 k hk
  exact ⟨n, a, b.s.tasks (hb _ (List.getElem_mem hk)).1 (hb _ (List.getElem_mem hk)).2⟩
/-- One node. -/
theorem NestS.at {w : World} {L : Nat} {a : Option Addr} {n c : Nat} {bs : List (List T)} (h : NestS w L (.slice a n c) bs) {k : Nat} (hk : k < bs.length) :
    ∃ b nd xs, a = some ⟨b, 0, none⟩ ∧ n = bs.length ∧ L ≤ b ∧ b < w.heap.size ∧ w.cell? ⟨b, k, none⟩ = some nd ∧ w.ownsRow 0 31 2 nd bs[k].length xs ∧ (∃ na nc, nd = .slice na bs[k].length nc) ∧ w.frozen? ⟨b, k, none⟩ = false := by
  obtain ⟨xs, S, h1, h2, h3, h4⟩ := h
  have hx := h1.1
  obtain ⟨g, rfl, rfl, hB, hlt, hc, ho⟩ := ownsRow_at h1 (by omega)
  obtain ⟨nd, hn, hot⟩ := h4 k hk
  have hf := hot.form
  obtain ⟨ys, nb, r, _⟩ := hot
  exact ⟨g, nd, ys, rfl, rfl, hB, hlt, by rw [hc k (by omega), hn], r, hf, (ownsRow_put ho (k := k) (by omega) (.bool true)).2.2.2⟩

/-- A node grows by a task: its row was appended to, and the new slice is put into the row of nodes. -/
theorem NestS.push {w0 w w1 : World} {L b n c : Nat} {bs : List (List T)} (h : NestS w0 L (.slice (some ⟨b, 0, none⟩) n c) bs) (hE : Ext w0 w) {k : Nat} (hk : k < bs.length) {nd nd' nv : Value} (hc : w.cell? ⟨b, k, none⟩ = some nd) {t : T} {g : Nat}
    (hn : NeedS w w0.heap.size g nv t.need) (happ : ∀ xs, w.ownsRow 0 31 2 nd bs[k].length xs → w1.ownsRow 0 31 2 nd' (bs[k].length + 1) (xs ++ [.int .i64 t.id, nv]))
    (hg : w.grownBy w1 nd.ownBlock) (hb : nd'.ownBlock = nd.ownBlock ∨ nd'.ownBlock = some w.heap.size) :
    NestS (w1.setCell ⟨b, k, none⟩ nd') L (.slice (some ⟨b, 0, none⟩) n c) (bs.set k (bs[k] ++ [t])) ∧ Below L w (w1.setCell ⟨b, k, none⟩ nd') ∧ w1.cell? ⟨b, k, none⟩ = some nd ∧ w1.frozen? ⟨b, k, none⟩ = false ∧ (∀ x, w0.heap.size ≤ x → x < w.heap.size → w1.heap[x]? = w.heap[x]?) ∧ ∀ x, w0.heap.size ≤ x → x < w.heap.size → (w1.setCell ⟨b, k, none⟩ nd').heap[x]? = w.heap[x]? := by
  obtain ⟨xs, S, h1, h2, h3, h4⟩ := h
  have hx := h1.1
  obtain ⟨g0, hga, rfl, hB, hlt, hcells, ho1⟩ := ownsRow_at h1 (by omega)
  simp only [Option.some.injEq, Addr.mk.injEq, and_true] at hga
  subst hga
  obtain ⟨nd0, hn0, hot⟩ := h4 k hk
  have e0 : nd0 = nd := by
    have := hE.cell ((hcells k (by omega)).trans hn0)
    rw [hc] at this
    simpa using this.symm
  subst e0
  have hsn := hot.snoc (fun x hx => (h2 k x hx).2.1) hE hn happ hg hb
  obtain ⟨ys, nb, r1, r2, r3, r4⟩ := hot
  have kt : KT 31 w w1 := grownBy_kt (ownsRow_ext r1 hE) hg
  have ho2 : w1.ownsRow L 24 1 (.slice (some ⟨b, 0, none⟩) bs.length c) bs.length xs := ownsRow_kt (ownsRow_ext ho1 hE) kt (by decide)
  obtain ⟨p1, p2, p3, p4⟩ := ownsRow_put ho2 (k := k) (by omega) nd'
  have nb1 : nd0.ownBlock ≠ some b := fun e => absurd rfl ((h2 k b (r3 b e)).2.2)
  have blk : w1.heap[b]? = w.heap[b]? := hg.block b (Nat.lt_of_lt_of_le hlt hE.le) (fun e => nb1 e.symm)
  have hbw : Below L w w1 := ⟨hg.os, hg.tape, hg.output, hg.size, fun i hi => hg.block i (by have := hE.le; omega) (fun x => by have := (h2 k i (r3 i x.symm)).1; omega)⟩
  have new1 : ∀ x, w0.heap.size ≤ x → x < w.heap.size → w1.heap[x]? = w.heap[x]? := fun x hx1 hx2 => hg.block x hx2 (fun e => by have := (h2 k x (r3 x e.symm)).2.1; omega)
  have far : ∀ i, i ≠ b → (w1.setCell ⟨b, k, none⟩ nd').heap[i]? = w1.heap[i]? := fun i hi => Below.heap_setCell w1 ⟨b, k, none⟩ nd' i hi
  refine ⟨⟨xs.set k nd', fun j x => if j = k then (S k x ∨ (w0.heap.size ≤ x ∧ x < w1.heap.size)) else S j x, by simpa using p1, fun j x hjx => ?_, fun i j x hij hi hj => ?_, fun j hj => ?_⟩, Below.trans hbw p3, ?_, p4, new1, fun x hx1 hx2 => (far x (by omega)).trans (new1 x hx1 hx2)⟩
  · have hs0 : w0.heap.size ≤ w1.heap.size := Nat.le_trans hE.le hg.size
    have hs1 : (w1.setCell ⟨b, k, none⟩ nd').heap.size = w1.heap.size := by simp
    rw [hs1]
    dsimp only at hjx
    split at hjx
    · rcases hjx with hjx | hjx
      · have := h2 k x hjx; exact ⟨this.1, by omega, this.2.2⟩
      · refine ⟨by omega, hjx.2, fun e => ?_⟩
        simp only [Value.ownBlock, Option.some.injEq] at e
        omega
    · have := h2 j x hjx; exact ⟨this.1, by omega, this.2.2⟩
  · dsimp only at hi hj
    split at hi
    · rename_i ei
      rw [if_neg (by omega)] at hj
      rcases hi with hi | hi
      · exact h3 k j x (by omega) hi hj
      · have := (h2 j x hj).2.1; omega
    · split at hj
      · rename_i ej
        rcases hj with hj | hj
        · exact h3 i k x (by omega) hi hj
        · have := (h2 i x hi).2.1; omega
      · exact h3 i j x hij hi hj
  · simp only [List.length_set] at hj
    by_cases e : k = j
    · subst e
      refine ⟨nd', by rw [List.getElem?_set_self (by omega)], ?_⟩
      rw [List.getElem_set_self]
      simp only [↓reduceIte]
      refine hsn.keep fun x hx hl => far x fun e => ?_
      subst e
      rcases hx with hx | hx
      · exact absurd rfl (h2 k x hx).2.2
      · omega
    · obtain ⟨m, hm, hom⟩ := h4 j hj
      refine ⟨m, by rw [List.getElem?_set_ne e, hm], ?_⟩
      rw [List.getElem_set_ne e]
      simp only [if_neg (show ¬ j = k from fun x => e x.symm)]
      refine (hom.ext hE).keep fun x hx hl => (far x fun e => absurd (by rw [e]; rfl) (h2 j x hx).2.2).trans (hg.block x hl fun e2 => ?_)
      exact h3 j k x (fun y => e y.symm) hx (r3 x e2.symm)
  · rw [World.cell?_of_block (w := w) (a := ⟨b, k, none⟩) blk]
    exact hc

/-- A node more, at the end. -/
theorem NestS.snoc {w0 w1 w2 : World} {L : Nat} {v v' n : Value} {bs : List (List T)} {ts : List T} (h : NestS w0 L v bs) (hE : Ext w0 w1) (hn : TasksP w1 (fun g => w0.heap.size ≤ g ∧ g < w1.heap.size) n ts) (hL : L ≤ w0.heap.size)
    (hown : ∀ xs, w1.ownsRow L 24 1 v bs.length xs → w2.ownsRow L 24 1 v' (bs.length + 1) (xs ++ [n])) (hg : w1.grownBy w2 v.ownBlock) (hb : v'.ownBlock = v.ownBlock ∨ v'.ownBlock = some w1.heap.size) :
    NestS w2 L v' (bs ++ [ts]) := by
  obtain ⟨xs, S, h1, h2, h3, h4⟩ := h
  have hx := h1.1
  have hle := hE.le
  have hle2 : w1.heap.size ≤ w2.heap.size := hg.size
  have hvb : ∀ g, v.ownBlock = some g → g < w0.heap.size := fun g e => (h1.lt g e).2
  have keepOld : ∀ (P : Nat → Prop), (∀ g, P g → v.ownBlock ≠ some g) → ∀ g, P g → g < w1.heap.size → w2.heap[g]? = w1.heap[g]? := fun P hP g hg' hl => hg.block g hl fun e => hP g hg' e.symm
  refine ⟨xs ++ [n], fun k g => if k = bs.length then (w0.heap.size ≤ g ∧ g < w1.heap.size) else S k g, by simpa using hown xs (ownsRow_ext h1 hE), fun k g hkg => ?_, fun i j g hij hi hj => ?_, fun k hk => ?_⟩
  · dsimp only at hkg
    split at hkg
    · refine ⟨by omega, by omega, fun e => ?_⟩
      rcases hb with hb | hb
      · rw [hb] at e; have := hvb g e; omega
      · rw [hb] at e; simp only [Option.some.injEq] at e; omega
    · have q := h2 k g hkg
      refine ⟨q.1, by omega, fun e => ?_⟩
      rcases hb with hb | hb
      · rw [hb] at e; exact q.2.2 e
      · rw [hb] at e; simp only [Option.some.injEq] at e; omega
  · dsimp only at hi hj
    split at hi
    · rw [if_neg (by omega)] at hj
      have := (h2 j g hj).2.1; omega
    · split at hj
      · have := (h2 i g hi).2.1; omega
      · exact h3 i j g hij hi hj
  · simp only [List.length_append, List.length_singleton] at hk
    by_cases hlt : k < bs.length
    · obtain ⟨m, hm, hom⟩ := h4 k hlt
      refine ⟨m, by rw [List.getElem?_append_left (by omega), hm], ?_⟩
      rw [List.getElem_append_left hlt]
      simp only [if_neg (show ¬ k = bs.length by omega)]
      exact (hom.ext hE).keep (keepOld _ fun g hg' => (h2 k g hg').2.2)
    · have e : k = bs.length := by omega
      subst e
      refine ⟨n, by rw [List.getElem?_append_right (by omega), show bs.length - xs.length = 0 by omega]; rfl, ?_⟩
      rw [List.getElem_append_right (Nat.le_refl _)]
      simp only [↓reduceIte, Nat.sub_self, List.getElem_cons_zero]
      exact hn.keep (keepOld _ fun g hg' e => by have := hvb g e; omega)

section
variable {w : World} {ops : Array Oper} {rest : List Oper} {o : Oper} {a : Act} {Q : Exit → Act → World → Prop} {K : Act → World → Prop}

/-- 'append(bins, bin)': a node more. -/
theorem wp_app_nestS (s x : Operand) (ho : o.op = .call { callee := .builtin .append, args := #[s, x], argTypes := #[27, 27] }) {w0 : World} {L : Nat} {v : Value} {bs : List (List T)} (hs : a.eval s = v) (hn : NestS w0 L v bs) (hE : Ext w0 w) (hL : L ≤ w0.heap.size)
    (src : Option Addr) (c : Nat) (n : Value) (ts : List T) (hx : a.eval x = .slice src 1 c) (hrow : Row w 24 src [n]) (hp : TasksP w (fun g => w0.heap.size ≤ g ∧ g < w.heap.size) n ts) (hl : bs.length + 1 ≤ lim)
    (h : ∀ v' w', NestS w' L v' (bs ++ [ts]) → Below L w w' → (∀ x, w0.heap.size ≤ x → x < w.heap.size → w'.heap[x]? = w.heap[x]?) → K (a.put o.dst v') w') : o.wp Tryd.prog a w K Q := by
  have hn' := hn
  obtain ⟨xs, S, hown, _⟩ := hn
  have hone : n.oneCell' = true := by
    obtain ⟨na, nc, rfl⟩ := hp.form
    rfl
  have hvb : ∀ g, v.ownBlock = some g → g < w0.heap.size := fun g e => (hown.lt g e).2
  have hown := ownsRow_ext hown hE
  unfold lim at hl
  obtain ⟨v', w', hr, h2, h3, h4⟩ := run_app2 elt_bin o.type w L v bs.length xs hown (Nat.le_trans hL hE.le) src 1 c [n] rfl _ hrow (by simpa using hone) (by omega) (by unfold maxLen; omega)
  unfold Oper.wp execOp
  simp only [ho, resolve, invoke, builtin, Sem.run_bind, Sem.run_pure, Result.andThen_ok, List.map_toArray, List.map_cons, List.map_nil, hs, hx, hr]
  exact h v' w' (NestS.snoc hn' hE hp hL (fun ys hys => by rw [ownsRow_uniq hys hown]; exact h2) h3 h4) (grownBy_below hown (Nat.le_trans hL hE.le) h3) (fun x hx1 hx2 => h3.block x hx2 (fun e => by have := hvb x e.symm; omega))
theorem app_nestS (hgd : o.guard = none) (s x : Operand) (ho : o.op = .call { callee := .builtin .append, args := #[s, x], argTypes := #[27, 27] }) {w0 : World} {L : Nat} {v : Value} {bs : List (List T)} (hs : a.eval s = v) (hn : NestS w0 L v bs) (hE : Ext w0 w) (hL : L ≤ w0.heap.size)
    (src : Option Addr) (c : Nat) (n : Value) (ts : List T) (hx : a.eval x = .slice src 1 c) (hrow : Row w 24 src [n]) (hp : TasksP w (fun g => w0.heap.size ≤ g ∧ g < w.heap.size) n ts) (hl : bs.length + 1 ≤ lim)
    (h : ∀ v' w', NestS w' L v' (bs ++ [ts]) → Below L w w' → (∀ x, w0.heap.size ≤ x → x < w.heap.size → w'.heap[x]? = w.heap[x]?) → wpList Tryd.prog ops Q rest (a.put o.dst v') w') : wpList Tryd.prog ops Q (o :: rest) a w :=
  wpList_plain hgd fun _ hK => wp_app_nestS s x ho hs hn hE hL src c n ts hx hrow hp hl fun v' w' h1 h2 h3 => hK _ _ (h v' w' h1 h2 h3)
/-- 'append(bin, x)': a task more in a row that is owned. -/
theorem step_app_row {E : Prop} (hgw : Region.wanted o (yielded ops a.tmps) = true) (s x : Operand) (ho : o.op = .call { callee := .builtin .append, args := #[s, x], argTypes := #[24, 24] }) (v : Value) (n : Nat) (xs : List Value) (hs : a.eval s = v) (hown : w.ownsRow 0 31 2 v n xs)
    (src : Option Addr) (c : Nat) (id : Int) (nv : Value) (hx : a.eval x = .slice src 1 c) (hrow : Row w 31 src [.int .i64 id, nv]) (hone : nv.oneCell' = true) (hl : n + 1 ≤ lim)
    (h : ∀ v' w', (∀ ys, w.ownsRow 0 31 2 v n ys → w'.ownsRow 0 31 2 v' (n + 1) (ys ++ [.int .i64 id, nv])) → w.grownBy w' v.ownBlock → (v'.ownBlock = v.ownBlock ∨ v'.ownBlock = some w.heap.size) → (∃ a c, v' = .slice a (n + 1) c) → K (a.put o.dst v') w') : if Region.wanted o (yielded ops a.tmps) = true then Oper.wp Tryd.prog o a w K Q else E := by
  rw [if_pos hgw]
  unfold lim at hl
  have hone' : ∀ u ∈ [Value.int .i64 id, nv], u.oneCell' = true := by
    intro u hu
    simp at hu
    rcases hu with rfl | rfl
    · rfl
    · exact hone
  obtain ⟨v', w', hr, h2, h3, h4⟩ := run_app2 elt_task o.type w 0 v n xs hown (Nat.zero_le _) src 1 c [.int .i64 id, nv] rfl _ hrow hone' (by omega) (by unfold maxLen; omega)
  unfold Oper.wp execOp
  simp only [ho, resolve, invoke, builtin, Sem.run_bind, Sem.run_pure, Result.andThen_ok, List.map_toArray, List.map_cons, List.map_nil, hs, hx, hr]
  refine h v' w' (fun ys hys => by rw [ownsRow_uniq hys hown]; exact h2) h3 h4 ?_
  obtain ⟨_, h5⟩ := h2
  rcases h5 with ⟨rfl, hn⟩ | ⟨g, cap, cur, rfl, _⟩
  · omega
  · exact ⟨_, cap, rfl⟩
end

end Go.Proofs.YtfidamjepjgknaaDoor
