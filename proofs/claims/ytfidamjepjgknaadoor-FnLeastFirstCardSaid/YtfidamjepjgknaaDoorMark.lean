/- Marks that a law lays over memory, and what they leave as it was. A law's marks over numbers and over tasks: what they leave, and that they are found again. A law's marks over tasks and over nodes; copies of nodes, each node in memory of its own. No condition. -/
import Derived.Test.YtfidamjepjgknaaDoorOwn
import Derived.Test.YtfidamjepjgknaaDoorArg
namespace Go.Proofs.YtfidamjepjgknaaDoor
section
set_option maxRecDepth 100000
open Go.RowKit

/-- Blocks from L up to U may have changed, and new ones have come. -/
structure Chg (L U : Nat) (w w' : World) : Prop where
  os : w'.os = w.os
  tape : w'.tape = w.tape
  output : w'.output = w.output
  size : w.heap.size ≤ w'.heap.size
  block : ∀ b, b < w.heap.size → (b < L ∨ U ≤ b) → w'.heap[b]? = w.heap[b]?
theorem Chg.refl (L U : Nat) (w : World) : Chg L U w w := ⟨rfl, rfl, rfl, Nat.le_refl _, fun _ _ _ => rfl⟩
theorem Chg.trans {L U : Nat} {a b c : World} (h : Chg L U a b) (k : Chg L U b c) : Chg L U a c :=
  ⟨k.os.trans h.os, k.tape.trans h.tape, k.output.trans h.output, Nat.le_trans h.size k.size, fun i hi hx => (k.block i (Nat.lt_of_lt_of_le hi h.size) hx).trans (h.block i hi hx)⟩
theorem Chg.mono {L U L' U' : Nat} {w w' : World} (h : Chg L U w w') (h1 : L' ≤ L) (h2 : U ≤ U') : Chg L' U' w w' :=
  ⟨h.os, h.tape, h.output, h.size, fun i hi hx => h.block i hi (by omega)⟩
theorem Ext.chg {w w' : World} (h : Ext w w') (L U : Nat) : Chg L U w w' := ⟨h.os, h.tape, h.output, h.le, fun _ hi _ => h.block hi⟩
theorem Chg.below {L U : Nat} {w w' : World} (h : Chg L U w w') (hL : L ≤ w.heap.size) : Below L w w' := ⟨h.os, h.tape, h.output, h.size, fun i hi => h.block i (by omega) (.inl hi)⟩
/-- What was there before the blocks that changed is as it was. -/
theorem Chg.ext {L U : Nat} {a w w' : World} (h : Chg L U w w') (ha : Ext a w) (hs : a.heap.size ≤ L) : Ext a w' :=
  ⟨h.os.trans ha.os, h.tape.trans ha.tape, h.output.trans ha.output, Nat.le_trans ha.le h.size, fun i hi => (h.block i (Nat.lt_of_lt_of_le hi ha.le) (by omega)).trans (ha.block hi)⟩
theorem Chg.only {w w' : World} {g : Nat} (h : w.grownBy w' (some g)) : Chg g (g + 1) w w' :=
  ⟨h.os, h.tape, h.output, h.size, fun i hi hx => h.block i hi (fun e => by simp only [Option.some.injEq] at e; omega)⟩
theorem grownBy_put (w : World) (g k : Nat) (u : Value) : w.grownBy (w.setCell ⟨g, k, none⟩ u) (some g) :=
  ⟨rfl, rfl, rfl, by simp, fun i _ hx => Below.heap_setCell w ⟨g, k, none⟩ u i (fun e => hx (by simp only [Option.some.injEq]; exact e))⟩
theorem grownBy_refl (w : World) (r : Option Nat) : w.grownBy w r := ⟨rfl, rfl, rfl, Nat.le_refl _, fun _ _ _ => rfl⟩
theorem grownBy_trans {a b c : World} {r : Option Nat} (h : a.grownBy b r) (k : b.grownBy c r) : a.grownBy c r :=
  ⟨k.os.trans h.os, k.tape.trans h.tape, k.output.trans h.output, Nat.le_trans h.size k.size, fun i hi hx => (k.block i (Nat.lt_of_lt_of_le hi h.size) hx).trans (h.block i hi hx)⟩
theorem ownsRow_chg {L U A : Nat} {w w' : World} {e : TypeId} {size n : Nat} {v : Value} {xs : List Value} (h : w.ownsRow A e size v n xs) (k : Chg L U w w') (hg : ∀ g, v.ownBlock = some g → g < L ∨ U ≤ g) : w'.ownsRow A e size v n xs := by
  obtain ⟨hl, h⟩ := h
  refine ⟨hl, ?_⟩
  rcases h with h | ⟨g, cap, cur, rfl, hb, hh, r⟩
  · exact .inl h
  · exact .inr ⟨g, cap, cur, rfl, hb, (k.block g (lt_of_heap hh) (hg g rfl)).trans hh, r⟩
theorem NeedS.chg {L U A g : Nat} {w w' : World} {v : Value} {need : List Int} (h : NeedS w A g v need) (k : Chg L U w w') (hg : g < L ∨ U ≤ g) : NeedS w' A g v need := by
  obtain ⟨⟨cap, rfl⟩, h2⟩ := h
  exact ⟨⟨cap, rfl⟩, ownsRow_chg h2 k fun g' e => by simp only [Value.ownBlock, Option.some.injEq] at e; subst e; exact hg⟩

/-- A slice of tasks in memory of its own, from block A on and below B. -/
def TasksU (w : World) (A B : Nat) (v : Value) (ts : List T) : Prop :=
  ∃ xs nb, w.ownsRow A 31 2 v ts.length xs ∧ CellsS w A xs ts nb ts.length ∧ (∀ g, v.ownBlock = some g → g < B) ∧ ∀ k, k < ts.length → nb k < B
theorem TasksS.upto {w : World} {A : Nat} {v : Value} {ts : List T} (h : TasksS w A v ts) : TasksU w A w.heap.size v ts := by
  obtain ⟨xs, nb, h1, h2⟩ := h
  refine ⟨xs, nb, h1, h2, fun g hg => (h1.lt g hg).2, fun k hk => ?_⟩
  obtain ⟨_, n, _, hn⟩ := h2.1 k hk hk
  exact hn.lt.2
theorem TasksU.s {w : World} {A B : Nat} {v : Value} {ts : List T} (h : TasksU w A B v ts) : TasksS w A v ts := let ⟨xs, nb, h1, h2, _⟩ := h; ⟨xs, nb, h1, h2⟩
theorem TasksU.chg {L U A B : Nat} {w w' : World} {v : Value} {ts : List T} (h : TasksU w A B v ts) (k : Chg L U w w') (hd : B ≤ L ∨ U ≤ A) : TasksU w' A B v ts := by
  obtain ⟨xs, nb, h1, h2, h3, h4⟩ := h
  refine ⟨xs, nb, ownsRow_chg h1 k fun g hg => by have := (h1.lt g hg).1; have := h3 g hg; omega, ⟨fun j hj hm => ⟨(h2.1 j hj hm).1, ?_⟩, h2.2⟩, h3, h4⟩
  obtain ⟨n, a, b⟩ := (h2.1 j hj hm).2
  exact ⟨n, a, b.chg k (by have := b.lt; have := h4 j hj; omega)⟩
theorem TasksU.ext {A B : Nat} {w w' : World} {v : Value} {ts : List T} (h : TasksU w A B v ts) (k : Ext w w') : TasksU w' A B v ts := by
  obtain ⟨xs, nb, h1, h2, h3, h4⟩ := h
  exact ⟨xs, nb, ownsRow_ext h1 k, ⟨fun j hj hm => ⟨(h2.1 j hj hm).1, let ⟨n, a, b⟩ := (h2.1 j hj hm).2; ⟨n, a, b.ext k⟩⟩, h2.2⟩, h3, h4⟩

theorem TasksU.base {w : World} {A A' B : Nat} {v : Value} {ts : List T} (h : TasksU w A B v ts) (hb : A' ≤ A) : TasksU w A' B v ts := by
  obtain ⟨xs, nb, h1, h2, h3, h4⟩ := h
  exact ⟨xs, nb, ownsRow_base h1 hb, ⟨fun j hj hm => ⟨(h2.1 j hj hm).1, let ⟨n, a, b⟩ := (h2.1 j hj hm).2; ⟨n, a, b.base hb⟩⟩, h2.2⟩, h3, h4⟩
theorem TasksU.up {w : World} {A B B' : Nat} {v : Value} {ts : List T} (h : TasksU w A B v ts) (hb : B ≤ B') : TasksU w A B' v ts := by
  obtain ⟨xs, nb, h1, h2, h3, h4⟩ := h
  exact ⟨xs, nb, h1, h2, fun g hg => by have := h3 g hg; omega, fun k hk => by have := h4 k hk; omega⟩
theorem TasksU.tasks {w : World} {A B : Nat} {v : Value} {ts : List T} (h : TasksU w A B v ts) (hl : ts.length ≤ lim) (hn : ∀ t ∈ ts, t.need.length ≤ lim) : Tasks w v ts := h.s.tasks hl hn
/-- Numbers that the call owns, in a block from A on and below B. -/
def IntsU (w : World) (A B : Nat) (v : Value) (xs : List Int) : Prop := OwnInts w A v xs ∧ ∀ g, v.ownBlock = some g → g < B
theorem IntsU.upto {w : World} {A : Nat} {v : Value} {xs : List Int} (h : OwnInts w A v xs) : IntsU w A w.heap.size v xs := ⟨h, fun g hg => (World.ownsRow.lt h g hg).2⟩
theorem IntsU.ext {A B : Nat} {w w' : World} {v : Value} {xs : List Int} (h : IntsU w A B v xs) (k : Ext w w') : IntsU w' A B v xs := ⟨h.1.ext k, h.2⟩
theorem IntsU.chg {L U A B : Nat} {w w' : World} {v : Value} {xs : List Int} (h : IntsU w A B v xs) (k : Chg L U w w') (hd : B ≤ L ∨ U ≤ A) : IntsU w' A B v xs :=
  ⟨ownsRow_chg h.1 k fun g hg => by have := (World.ownsRow.lt h.1 g hg).1; have := h.2 g hg; omega, h.2⟩
theorem IntsU.base {w : World} {A A' B : Nat} {v : Value} {xs : List Int} (h : IntsU w A B v xs) (hb : A' ≤ A) : IntsU w A' B v xs := ⟨ownsRow_base h.1 hb, h.2⟩
theorem IntsU.up {w : World} {A B B' : Nat} {v : Value} {xs : List Int} (h : IntsU w A B v xs) (hb : B ≤ B') : IntsU w A B' v xs := ⟨h.1, fun g hg => by have := h.2 g hg; omega⟩
theorem IntsU.ints {w : World} {A B : Nat} {v : Value} {xs : List Int} (h : IntsU w A B v xs) (hl : xs.length ≤ lim) : Ints w v xs := h.1.done hl

/-- Numbers in a row from k on. -/
def seqI (k : Int) (n : Nat) : List Int := (List.range n).map fun (i : Nat) => k + (i : Int)
theorem seqI_len (k : Int) (n : Nat) : (seqI k n).length = n := by simp [seqI]
theorem seqI_get {k : Int} {n j : Nat} (h : j < (seqI k n).length) : (seqI k n)[j] = k + (j : Int) := by simp [seqI]
/-- The first j of the one list, the others of the other. -/
def blendL {α : Type} (ys xs : List α) (j : Nat) : List α := ys.take j ++ xs.drop j
theorem blendL_len {α : Type} {ys xs : List α} (h : ys.length = xs.length) {j : Nat} (hj : j ≤ xs.length) : (blendL ys xs j).length = xs.length := by simp [blendL]; omega
theorem blendL_zero {α : Type} (ys xs : List α) : blendL ys xs 0 = xs := by simp [blendL]
theorem blendL_all {α : Type} {ys xs : List α} (h : ys.length = xs.length) : blendL ys xs xs.length = ys := by simp [blendL, ← h]
theorem blendL_get {α : Type} {ys xs : List α} {j : Nat} (h : ys.length = xs.length) (hj : j ≤ xs.length) (i : Nat) : (blendL ys xs j)[i]? = if i < j then ys[i]? else xs[i]? := by
  unfold blendL
  rw [List.getElem?_append, List.length_take, Nat.min_eq_left (by omega)]
  split
  · rw [List.getElem?_take, if_pos (by omega)]
  · rw [List.getElem?_drop]
    congr 1
    omega
theorem blendL_at {α : Type} {ys xs : List α} {j : Nat} (h : ys.length = xs.length) (hj : j < xs.length) (h' : j < (blendL ys xs j).length) : (blendL ys xs j)[j] = xs[j] := by
  have := blendL_get h (j := j) (by omega) j
  rw [List.getElem?_eq_getElem h', if_neg (by omega), List.getElem?_eq_getElem hj] at this
  simpa using this
theorem blendL_step {α : Type} {ys xs : List α} {j : Nat} (h : ys.length = xs.length) (hj : j < xs.length) : (blendL ys xs j).set j (ys[j]'(by omega)) = blendL ys xs (j + 1) := by
  apply List.ext_getElem?
  intro i
  rw [blendL_get h (by omega), List.getElem?_set, blendL_get h (by omega), blendL_len h (by omega)]
  by_cases e : j = i
  · subst e
    rw [if_pos rfl, if_pos hj, if_pos (by omega), List.getElem?_eq_getElem]
  · rw [if_neg e]
    by_cases hi : i < j
    · rw [if_pos hi, if_pos (by omega)]
    · rw [if_neg hi, if_neg (by omega)]

/-- How many marks tasks take. -/
def wt (ts : List T) : Nat := ts.length + needs ts
theorem wt_step {ts : List T} {k : Nat} (h : k < ts.length) : wt (ts.take (k + 1)) = wt (ts.take k) + 1 + ts[k].need.length := by
  unfold wt
  rw [needs_step h]
  simp [List.length_take]
  omega
/-- The tasks, marked from k on. -/
def markTs (k : Int) (ts : List T) : List T := (List.range ts.length).map fun j => ⟨k + (wt (ts.take j) : Int), seqI (k + (wt (ts.take j) : Int) + 1) (ts[j]?.map (fun t => t.need.length)).get!⟩
theorem markTs_len (k : Int) (ts : List T) : (markTs k ts).length = ts.length := by simp [markTs]
theorem markTs_get {k : Int} {ts : List T} {j : Nat} (h : j < (markTs k ts).length) (h' : j < ts.length) : (markTs k ts)[j] = ⟨k + (wt (ts.take j) : Int), seqI (k + (wt (ts.take j) : Int) + 1) ts[j].need.length⟩ := by
  simp [markTs, List.getElem?_eq_getElem h']

theorem TasksU.at {A B : Nat} {w : World} {v : Value} {ts : List T} (h : TasksU w A B v ts) {j : Nat} (hj : j < ts.length) :
    ∃ b c n g, v = .slice (some ⟨b, 0, none⟩) ts.length c ∧ A ≤ b ∧ b < B ∧ w.cell? ⟨b, j * 2, none⟩ = some (.int .i64 ts[j].id) ∧ w.cell? ⟨b, j * 2 + 1, none⟩ = some n ∧ NeedS w A g n ts[j].need ∧ g < B ∧ w.frozen? ⟨b, j * 2, none⟩ = false := by
  obtain ⟨xs, nb, h1, h2, h3, h4⟩ := h
  have hx := h1.1
  obtain ⟨a, m, c, rfl⟩ : ∃ a m c, v = .slice a m c := by
    rcases h1.2 with ⟨rfl, hn⟩ | ⟨g, cap, cur, rfl, _⟩
    · exact ⟨_, _, _, rfl⟩
    · exact ⟨_, _, _, rfl⟩
  obtain ⟨b, rfl, rfl, hA, hlt, hc, ho⟩ := ownsRow_at h1 (by omega)
  obtain ⟨c0, n, c1, hn⟩ := h2.1 j hj hj
  exact ⟨b, c, n, nb j, rfl, hA, h3 b rfl, by rw [hc _ (by omega), c0], by rw [hc _ (by omega), c1], hn, h4 j hj, (ownsRow_put ho (k := j * 2) (by omega) (.bool true)).2.2.2⟩

/-- One task is marked: its number, then its need. -/
theorem TasksU.put {A B b c g j : Nat} {w w2 : World} {n : Value} {ts : List T} (h : TasksU w A B (.slice (some ⟨b, 0, none⟩) ts.length c) ts) (hj : j < ts.length) (hn : w.cell? ⟨b, j * 2 + 1, none⟩ = some n) (hs : NeedS w A g n ts[j].need)
    (id : Int) {need : List Int} (hg : (w.setCell ⟨b, j * 2, none⟩ (.int .i64 id)).grownBy w2 (some g)) (hs2 : NeedS w2 A g n need) : TasksU w2 A B (.slice (some ⟨b, 0, none⟩) ts.length c) (ts.set j ⟨id, need⟩) := by
  obtain ⟨xs, nb, h1, h2, h3, h4⟩ := h
  have hx := h1.1
  obtain ⟨g', hga, _, hA, hlt, hc, ho⟩ := ownsRow_at h1 (by omega)
  simp only [Option.some.injEq, Addr.mk.injEq, and_true] at hga
  subst hga
  obtain ⟨c0, n0, c1, hn0⟩ := h2.1 j hj hj
  have e0 : n0 = n := by
    have := (hc (j * 2 + 1) (by omega)).symm.trans hn
    rw [c1] at this
    simpa using this
  subst e0
  have eg : g = nb j := by
    obtain ⟨⟨c1, e1⟩, _⟩ := hs
    obtain ⟨⟨c2, e2⟩, _⟩ := hn0
    rw [e1] at e2
    simp only [Value.slice.injEq, Option.some.injEq, Addr.mk.injEq, and_true] at e2
    exact e2.1
  subst eg
  obtain ⟨p1, p2, p3, p4⟩ := ownsRow_put ho (k := j * 2) (by omega) (.int .i64 id)
  have hne : b ≠ nb j := by
    intro e
    obtain ⟨⟨cn, rfl⟩, _, hno⟩ := hn0
    obtain ⟨_, hbo⟩ := ho
    rcases hbo with ⟨hbo, _⟩ | ⟨b', cb, ub, hvb, _, kb, _⟩
    · cases hbo
    · simp only [Value.slice.injEq, Option.some.injEq, Addr.mk.injEq, true_and, and_true] at hvb
      obtain ⟨rfl, rfl⟩ := hvb
      rcases hno with ⟨hno, _⟩ | ⟨g2, cg, ug, hvg, _, kg, _⟩
      · cases hno
      · simp only [Value.slice.injEq, Option.some.injEq, Addr.mk.injEq, true_and, and_true] at hvg
        obtain ⟨rfl, rfl⟩ := hvg
        rw [e] at kb
        rw [kb] at kg
        simp only [Option.some.injEq, Obj.cells.injEq] at kg
        exact absurd kg.2.1 (by decide)
  have k2 := Chg.only hg
  have q1 := ownsRow_chg p1 k2 fun g' e => by simp only [Value.ownBlock, Option.some.injEq] at e; omega
  refine ⟨xs.set (j * 2) (.int .i64 id), nb, by simpa using q1, ⟨fun i hi him => ?_, fun i k hik hk hkm => h2.2 i k hik (by simpa using hk) (by simpa using hkm)⟩, h3, fun k hk => h4 k (by simpa using hk)⟩
  simp only [List.length_set] at hi
  obtain ⟨a0, m, a1, hm⟩ := h2.1 i hi hi
  rw [List.getElem?_set_ne (by omega : j * 2 ≠ i * 2 + 1)]
  by_cases e : j = i
  · subst e
    rw [List.getElem?_set_self (by omega), List.getElem_set_self]
    have : m = n0 := by rw [c1] at a1; simpa using a1.symm
    subst this
    exact ⟨rfl, m, a1, hs2⟩
  · rw [List.getElem?_set_ne (by omega), List.getElem_set_ne e]
    have hd : nb j ≠ nb i := by
      rcases Nat.lt_or_gt_of_ne e with h | h
      · exact h2.2 j i h hi hi
      · exact fun x => h2.2 i j h hj hj x.symm
    exact ⟨a0, m, a1, (hm.kt p2 (by decide)).chg k2 (by omega)⟩
end

section
set_option maxRecDepth 100000
open Go.RowKit

theorem IntsU.form {w : World} {A B : Nat} {v : Value} {xs : List Int} (h : IntsU w A B v xs) : ∃ a c, v = .slice a xs.length c := by
  obtain ⟨⟨_, h1⟩, _⟩ := h
  rcases h1 with ⟨rfl, hn⟩ | ⟨g, cap, cur, rfl, _⟩
  · exact ⟨none, 0, by rw [hn]⟩
  · exact ⟨_, cap, rfl⟩
theorem seq_mix {k : Int} {xs : List Int} {j : Nat} (hj : j < xs.length) : (blendL (seqI k xs.length) xs j).set j (k + (j : Int)) = blendL (seqI k xs.length) xs (j + 1) := by
  rw [← blendL_step (seqI_len _ _) hj, seqI_get]

end

section
set_option maxRecDepth 100000
open Go.RowKit

/-- Few tasks, with short needs. -/
def Sm (ts : List T) : Prop := ts.length ≤ 1000 ∧ ∀ t ∈ ts, t.need.length ≤ 1000
theorem Sm.len {ts : List T} (h : Sm ts) : ts.length ≤ lim := by have := h.1; unfold lim; omega
theorem Sm.need {ts : List T} (h : Sm ts) : ∀ t ∈ ts, t.need.length ≤ lim := fun t ht => by have := h.2 t ht; unfold lim; omega
theorem Sm.wt {ts : List T} (h : Sm ts) : wt ts ≤ 4194304 := by
  have key : ∀ l : List T, (∀ t ∈ l, t.need.length ≤ 1000) → needs l ≤ 1000 * l.length := by
    intro l
    induction l with
    | nil => intro _; simp [needs]
    | cons t r ih =>
      intro hl
      have h1 := hl t (by simp)
      have h2 := ih fun u hu => hl u (by simp [hu])
      unfold needs at h2 ⊢
      simp only [List.map_cons, List.sum_cons, List.length_cons]
      omega
  have h1 := h.1
  have h2 := key ts h.2
  unfold Go.Proofs.YtfidamjepjgknaaDoor.wt
  omega
theorem Sm.mark {ts : List T} (h : Sm ts) (k : Int) : Sm (markTs k ts) := by
  refine ⟨by rw [markTs_len]; exact h.1, fun t ht => ?_⟩
  obtain ⟨j, hj, rfl⟩ := List.getElem_of_mem ht
  have hj' : j < ts.length := by rwa [markTs_len] at hj
  rw [markTs_get hj hj']
  dsimp only
  rw [seqI_len]
  exact h.2 _ (List.getElem_mem hj')
theorem mark_mix {k : Int} {ts : List T} {j : Nat} (hj : j < ts.length) : (blendL (markTs k ts) ts j).set j ⟨k + (wt (ts.take j) : Int), seqI (k + (wt (ts.take j) : Int) + 1) ts[j].need.length⟩ = blendL (markTs k ts) ts (j + 1) := by
  rw [← blendL_step (markTs_len _ _) hj, markTs_get (by rw [markTs_len]; exact hj) hj]
theorem wt_part {ts : List T} {j : Nat} (hj : j < ts.length) : wt (ts.take j) + 1 + ts[j].need.length ≤ wt ts := by
  rw [← wt_step hj]
  unfold wt
  have h1 : needs ts = needs (ts.take (j + 1)) + needs (ts.drop (j + 1)) := by
    unfold needs
    rw [← List.sum_append, ← List.map_append, List.take_append_drop]
  simp [List.length_take]
  omega
theorem TasksU.form {w : World} {A B : Nat} {v : Value} {ts : List T} (h : TasksU w A B v ts) : ∃ a c, v = .slice a ts.length c := by
  obtain ⟨xs, nb, ⟨_, h1⟩, _⟩ := h
  rcases h1 with ⟨rfl, hn⟩ | ⟨g, cap, cur, rfl, _⟩
  · exact ⟨none, 0, by rw [hn]⟩
  · exact ⟨_, cap, rfl⟩

/-- Nodes in memory of their own, each node's tasks in blocks of its own. -/
def BinsU (w : World) (L U : Nat) (v : Value) (bs : List (List T)) : Prop :=
  ∃ (xs : List Value) (S : Nat → Nat), w.ownsRow L 24 1 v bs.length xs ∧ L ≤ S 0 ∧ (∀ g, v.ownBlock = some g → g < S 0) ∧ S bs.length ≤ U ∧ (∀ i, i < bs.length → S i ≤ S (i + 1)) ∧
    ∀ k (h : k < bs.length), ∃ n, xs[k]? = some n ∧ TasksU w (S k) (S (k + 1)) n bs[k]
theorem mono_S {S : Nat → Nat} {n : Nat} (h : ∀ i, i < n → S i ≤ S (i + 1)) : ∀ d i, i + d ≤ n → S i ≤ S (i + d) := by
  intro d
  induction d with
  | zero => intro i _; exact Nat.le_refl _
  | succ d ih => intro i hi; exact Nat.le_trans (ih i (by omega)) (h (i + d) (by omega))
theorem BinsU.s {w : World} {L U : Nat} {v : Value} {bs : List (List T)} (h : BinsU w L U v bs) : BinsS w L v bs := by
  obtain ⟨xs, S, h1, hL, hg, hU, hm, h2⟩ := h
  exact ⟨xs, h1, fun k hk => let ⟨n, a, b⟩ := h2 k hk; ⟨n, a, b.s.base (by have := mono_S hm k 0 (by omega); simp at this; omega)⟩⟩
theorem BinsU.bins {w : World} {L U : Nat} {v : Value} {bs : List (List T)} (h : BinsU w L U v bs) (hl : bs.length + weigh bs ≤ lim) : Bins w v bs := h.s.bins hl
theorem BinsU.ext {L U : Nat} {w w' : World} {v : Value} {bs : List (List T)} (h : BinsU w L U v bs) (k : Ext w w') : BinsU w' L U v bs := by
  obtain ⟨xs, S, h1, hL, hg, hU, hm, h2⟩ := h
  exact ⟨xs, S, ownsRow_ext h1 k, hL, hg, hU, hm, fun j hj => let ⟨n, a, b⟩ := h2 j hj; ⟨n, a, b.ext k⟩⟩
theorem BinsU.chg {L U A B : Nat} {w w' : World} {v : Value} {bs : List (List T)} (h : BinsU w A B v bs) (k : Chg L U w w') (hd : B ≤ L ∨ U ≤ A) : BinsU w' A B v bs := by
  obtain ⟨xs, S, h1, hL, hg, hU, hm, h2⟩ := h
  have m1 : ∀ i, i ≤ bs.length → S 0 ≤ S i ∧ S i ≤ S bs.length := fun i hi => ⟨by have := mono_S hm i 0 (by omega); simpa using this, by have := mono_S hm (bs.length - i) i (by omega); rwa [show i + (bs.length - i) = bs.length by omega] at this⟩
  have m0 := m1 0 (by omega)
  refine ⟨xs, S, ownsRow_chg h1 k fun g e => ?_, hL, hg, hU, hm, fun j hj => ?_⟩
  · have := (h1.lt g e).1
    have := hg g e
    omega
  · obtain ⟨n, a, b⟩ := h2 j hj
    have := m1 j (by omega)
    have := m1 (j + 1) (by omega)
    exact ⟨n, a, b.chg k (by omega)⟩
theorem BinsU.form {w : World} {L U : Nat} {v : Value} {bs : List (List T)} (h : BinsU w L U v bs) : ∃ a c, v = .slice a bs.length c := by
  obtain ⟨xs, S, ⟨_, h1⟩, _⟩ := h
  rcases h1 with ⟨rfl, hn⟩ | ⟨g, cap, cur, rfl, _⟩
  · exact ⟨none, 0, by rw [hn]⟩
  · exact ⟨_, cap, rfl⟩
/-- One node, and what it is to change that node alone. -/
theorem BinsU.at {w : World} {L U : Nat} {v : Value} {bs : List (List T)} (h : BinsU w L U v bs) {k : Nat} (hk : k < bs.length) :
    ∃ b c n A B, v = .slice (some ⟨b, 0, none⟩) bs.length c ∧ w.cell? ⟨b, k, none⟩ = some n ∧ TasksU w A B n bs[k] ∧ L ≤ A ∧ B ≤ U ∧ ∀ w' ts, Chg A B w w' → TasksU w' A B n ts → BinsU w' L U v (bs.set k ts) := by
  obtain ⟨xs, S, h1, hL, hg, hU, hm, h2⟩ := h
  have m1 : ∀ i, i ≤ bs.length → S 0 ≤ S i ∧ S i ≤ S bs.length := fun i hi => ⟨by have := mono_S hm i 0 (by omega); simpa using this, by have := mono_S hm (bs.length - i) i (by omega); rwa [show i + (bs.length - i) = bs.length by omega] at this⟩
  have hx := h1.1
  obtain ⟨a, m, c, rfl⟩ : ∃ a m c, v = .slice a m c := by
    rcases h1.2 with ⟨rfl, hn⟩ | ⟨g, cap, cur, rfl, _⟩
    · exact ⟨_, _, _, rfl⟩
    · exact ⟨_, _, _, rfl⟩
  obtain ⟨b, rfl, rfl, hA, hlt, hc, ho⟩ := ownsRow_at h1 (by omega)
  obtain ⟨n, hn, ht⟩ := h2 k hk
  have q1 := m1 k (by omega)
  have q2 := m1 (k + 1) (by omega)
  refine ⟨b, c, n, S k, S (k + 1), rfl, by rw [hc k (by omega), hn], ht, by omega, by omega, fun w' ts hC hT => ?_⟩
  refine ⟨xs, S, ?_, hL, hg, by simpa using hU, by simpa using hm, fun j hj => ?_⟩
  · have := ownsRow_chg h1 hC fun g e => by have := hg g e; omega
    simpa using this
  · simp only [List.length_set] at hj
    by_cases e : k = j
    · subst e
      exact ⟨n, hn, by rw [List.getElem_set_self]; exact hT⟩
    · obtain ⟨m, a, b⟩ := h2 j hj
      rw [List.getElem_set_ne e]
      refine ⟨m, a, b.chg hC ?_⟩
      rcases Nat.lt_or_gt_of_ne e with h | h
      · have := mono_S hm (j - (k + 1)) (k + 1) (by omega)
        rw [show k + 1 + (j - (k + 1)) = j by omega] at this
        omega
      · have := mono_S hm (k - (j + 1)) (j + 1) (by omega)
        rw [show j + 1 + (k - (j + 1)) = k by omega] at this
        omega

theorem weigh_wt {bs : List (List T)} {k : Nat} (h : k < bs.length) : weigh (bs.take (k + 1)) = weigh (bs.take k) + wt bs[k] := by rw [weigh_step h]; rfl
theorem weigh_part {bs : List (List T)} {k : Nat} (h : k < bs.length) : weigh (bs.take k) + wt bs[k] ≤ weigh bs := by
  rw [← weigh_wt h]
  have h1 : weigh bs = weigh (bs.take (k + 1)) + weigh (bs.drop (k + 1)) := by
    unfold weigh
    rw [← List.sum_append, ← List.map_append, List.take_append_drop]
  omega

end

end Go.Proofs.YtfidamjepjgknaaDoor
