/- Rows of two numbers each: as they lie in memory. No condition. -/
import Derived.Test.YtfidamjepjgknaaMark
namespace Go.Proofs.Ytfidamjepjgknaa
set_option maxRecDepth 100000
open Go.RowKit

/-- Two numbers. -/
structure Pr where
  a : Int
  b : Int
theorem Pr.eq {p q : Pr} (h1 : p.a = q.a) (h2 : p.b = q.b) : p = q := by cases p; cases q; cases h1; cases h2; rfl
def cellsP (ps : List Pr) : List Value := ps.flatMap fun p => [.int .i64 p.a, .int .i64 p.b]
theorem cellsP_nil : cellsP [] = [] := rfl
theorem cellsP_cons (p : Pr) (ps : List Pr) : cellsP (p :: ps) = .int .i64 p.a :: .int .i64 p.b :: cellsP ps := by simp [cellsP]
theorem cellsP_app (ps qs : List Pr) : cellsP (ps ++ qs) = cellsP ps ++ cellsP qs := by simp [cellsP]
theorem cellsP_len (ps : List Pr) : (cellsP ps).length = ps.length * 2 := by
  induction ps with
  | nil => rfl
  | cons p ps ih => rw [cellsP_cons]; simp [ih]; omega
theorem cellsP_at {ps : List Pr} : ∀ {k : Nat} (hk : k < ps.length), (cellsP ps)[k * 2]? = some (.int .i64 ps[k].a) ∧ (cellsP ps)[k * 2 + 1]? = some (.int .i64 ps[k].b) := by
  induction ps with
  | nil => intro k hk; simp at hk
  | cons p ps ih =>
    intro k hk
    rw [cellsP_cons]
    cases k with
    | zero => exact ⟨rfl, rfl⟩
    | succ k =>
      have hk' : k < ps.length := by simpa using hk
      obtain ⟨h1, h2⟩ := ih hk'
      have e1 : (k + 1) * 2 = k * 2 + 1 + 1 := by omega
      have e2 : (k + 1) * 2 + 1 = k * 2 + 1 + 1 + 1 := by omega
      rw [e2, e1]
      simp only [List.getElem?_cons_succ, List.getElem_cons_succ]
      exact ⟨h1, h2⟩
theorem cellsP_set {ps : List Pr} {p : Pr} : ∀ {k : Nat}, k < ps.length → ((cellsP ps).set (k * 2) (.int .i64 p.a)).set (k * 2 + 1) (.int .i64 p.b) = cellsP (ps.set k p) := by
  induction ps with
  | nil => intro k hk; simp at hk
  | cons q ps ih =>
    intro k hk
    rw [cellsP_cons]
    cases k with
    | zero => simp [cellsP_cons]
    | succ k =>
      have hk' : k < ps.length := by simpa using hk
      have e1 : (k + 1) * 2 = k * 2 + 1 + 1 := by omega
      have e2 : (k + 1) * 2 + 1 = k * 2 + 1 + 1 + 1 := by omega
      rw [e2, e1]
      simp only [List.set_cons_succ]
      rw [ih hk', cellsP_cons]
theorem cellsP_one (ps : List Pr) : ∀ u ∈ cellsP ps, u.oneCell' = true := by
  intro u hu
  simp only [cellsP, List.mem_flatMap, List.mem_cons, List.not_mem_nil, or_false] at hu
  obtain ⟨p, _, rfl | rfl⟩ := hu <;> rfl

/-- A slice of such rows. -/
def Twos (e : TypeId) (w : World) (v : Value) (ps : List Pr) : Prop := ps.length ≤ lim ∧ ∃ a cap, v = .slice a ps.length cap ∧ Row w e a (cellsP ps)
theorem Twos.ext {e : TypeId} {w w' : World} {v : Value} {ps : List Pr} (h : Twos e w v ps) (k : Ext w w') : Twos e w' v ps := by
  obtain ⟨hl, a, cap, hv, hr⟩ := h
  exact ⟨hl, a, cap, hv, hr.ext k⟩
theorem Twos.drew {e : TypeId} {w : World} {v : Value} {ps : List Pr} (h : Twos e w v ps) : Twos e w.drew v ps := h.ext (Ext.refl w).drew
theorem Twos.kt {e e' : TypeId} {w w' : World} {v : Value} {ps : List Pr} (h : Twos e w v ps) (k : KT e' w w') (ne : e ≠ e') : Twos e w' v ps := by
  obtain ⟨hl, a, cap, hv, hr⟩ := h
  exact ⟨hl, a, cap, hv, hr.kt k ne⟩
theorem Twos.open {e : TypeId} {w : World} {v : Value} {ps : List Pr} (h : Twos e w v ps) : ∃ a cap, v = .slice a ps.length cap ∧ Twos e w (.slice a ps.length cap) ps := by
  obtain ⟨hl, a, cap, rfl, hr⟩ := h
  exact ⟨a, cap, rfl, hl, a, cap, rfl, hr⟩
theorem Twos.at {e : TypeId} {w : World} {a : Option Addr} {n cap : Nat} {ps : List Pr} (h : Twos e w (.slice a n cap) ps) {k : Nat} (hk : k < ps.length) :
    ∃ b off, a = some ⟨b, off, none⟩ ∧ w.cell? ⟨b, off + k * 2, none⟩ = some (.int .i64 ps[k].a) ∧ w.cell? ⟨b, off + k * 2 + 1, none⟩ = some (.int .i64 ps[k].b) := by
  obtain ⟨hl, a', cap', hv, hr⟩ := h
  simp only [Value.slice.injEq] at hv
  obtain ⟨rfl, rfl, rfl⟩ := hv
  have hx := cellsP_len ps
  obtain ⟨b, off, ha, hcell⟩ := hr.at (by intro e; simp [e] at hx; omega)
  obtain ⟨h1, h2⟩ := cellsP_at hk
  exact ⟨b, off, ha, by rw [hcell _ (by omega), h1], by rw [Nat.add_assoc, hcell _ (by omega), h2]⟩
theorem Twos.take {e : TypeId} {w : World} {a : Option Addr} {n cap : Nat} {ps : List Pr} (h : Twos e w (.slice a n cap) ps) (m : Nat) (hm : m ≤ ps.length) (c : Nat) : Twos e w (.slice a m c) (ps.take m) := by
  obtain ⟨hl, a', cap', hv, hr⟩ := h
  simp only [Value.slice.injEq] at hv
  obtain ⟨rfl, rfl, rfl⟩ := hv
  have e1 : (ps.take m).length = m := by simp; omega
  refine ⟨by omega, a, c, by rw [e1], ?_⟩
  have e2 : cellsP (ps.take m) = (cellsP ps).take (m * 2) := by
    have : cellsP ps = cellsP (ps.take m) ++ cellsP (ps.drop m) := by rw [← cellsP_app, List.take_append_drop]
    rw [this, List.take_left' (by rw [cellsP_len, e1])]
  rw [e2]
  exact hr.prefix _
/-- A slice of such rows that the call owns. -/
def OwnTwos (e : TypeId) (w : World) (B : Nat) (v : Value) (ps : List Pr) : Prop := w.ownsRow B e 2 v ps.length (cellsP ps)
theorem OwnTwos.ext {e : TypeId} {w w' : World} {B : Nat} {v : Value} {ps : List Pr} (h : OwnTwos e w B v ps) (k : Ext w w') : OwnTwos e w' B v ps := ownsRow_ext h k
theorem OwnTwos.kt {e e' : TypeId} {w w' : World} {B : Nat} {v : Value} {ps : List Pr} (h : OwnTwos e w B v ps) (k : KT e' w w') (ne : e ≠ e') : OwnTwos e w' B v ps := ownsRow_kt h k ne
theorem OwnTwos.done {e : TypeId} {w : World} {B : Nat} {v : Value} {ps : List Pr} (h : OwnTwos e w B v ps) (hl : ps.length ≤ lim) : Twos e w v ps := by
  obtain ⟨a, cap, hv, hr⟩ := Row.of_own h
  exact ⟨hl, a, cap, hv, hr⟩
theorem OwnTwos.lit0 (e : TypeId) (w : World) (B : Nat) (hB : B ≤ w.heap.size) : OwnTwos e (w.alloc (.cells #[] e)) B (.slice (some ⟨w.heap.size, 0, none⟩) 0 0) [] := World.ownsRow_lit w #[] 0 hB (by simp [maxLen]) rfl
theorem OwnTwos.form {e : TypeId} {w : World} {B : Nat} {v : Value} {ps : List Pr} (h : OwnTwos e w B v ps) : ∃ a c, v = .slice a ps.length c := by
  rcases h.2 with ⟨rfl, hn⟩ | ⟨g, cap, cur, rfl, _⟩
  · exact ⟨none, 0, by rw [hn]⟩
  · exact ⟨_, cap, rfl⟩
/-- Rows in a block from A on and below B. -/
def TwosU (e : TypeId) (w : World) (A B : Nat) (v : Value) (ps : List Pr) : Prop := OwnTwos e w A v ps ∧ ∀ g, v.ownBlock = some g → g < B
theorem OwnTwos.upto {e : TypeId} {w : World} {A : Nat} {v : Value} {ps : List Pr} (h : OwnTwos e w A v ps) : TwosU e w A w.heap.size v ps := ⟨h, fun g hg => (World.ownsRow.lt h g hg).2⟩
theorem TwosU.ext {e : TypeId} {A B : Nat} {w w' : World} {v : Value} {ps : List Pr} (h : TwosU e w A B v ps) (k : Ext w w') : TwosU e w' A B v ps := ⟨h.1.ext k, h.2⟩
theorem TwosU.chg {e : TypeId} {L U A B : Nat} {w w' : World} {v : Value} {ps : List Pr} (h : TwosU e w A B v ps) (k : Chg L U w w') (hd : B ≤ L ∨ U ≤ A) : TwosU e w' A B v ps :=
  ⟨ownsRow_chg h.1 k fun g hg => by have := (World.ownsRow.lt h.1 g hg).1; have := h.2 g hg; omega, h.2⟩
theorem TwosU.base {e : TypeId} {w : World} {A A' B : Nat} {v : Value} {ps : List Pr} (h : TwosU e w A B v ps) (hb : A' ≤ A) : TwosU e w A' B v ps := ⟨ownsRow_base h.1 hb, h.2⟩
theorem TwosU.up {e : TypeId} {w : World} {A B B' : Nat} {v : Value} {ps : List Pr} (h : TwosU e w A B v ps) (hb : B ≤ B') : TwosU e w A B' v ps := ⟨h.1, fun g hg => by have := h.2 g hg; omega⟩
theorem TwosU.pairs {e : TypeId} {w : World} {A B : Nat} {v : Value} {ps : List Pr} (h : TwosU e w A B v ps) (hl : ps.length ≤ 2097152) : Twos e w v ps := h.1.done (by unfold lim; omega)
theorem OwnTwos.pairs {e : TypeId} {w : World} {B : Nat} {v : Value} {ps : List Pr} (h : OwnTwos e w B v ps) (hl : ps.length ≤ 2097152) : Twos e w v ps := h.done (by unfold lim; omega)
theorem TwosU.moves {e : TypeId} {w : World} {A B : Nat} {v : Value} {ps : List Pr} (h : TwosU e w A B v ps) (hl : ps.length ≤ lim) : Twos e w v ps := h.1.done hl

/-- The marks of such rows. -/
def seqM (k : Int) (n : Nat) : List Pr := (List.range n).map fun (i : Nat) => ⟨k + 2 * (i : Int), k + 2 * (i : Int) + 1⟩
theorem seqM_len (k : Int) (n : Nat) : (seqM k n).length = n := by simp [seqM]
theorem seqM_get {k : Int} {n j : Nat} (h : j < (seqM k n).length) : (seqM k n)[j] = ⟨k + 2 * (j : Int), k + 2 * (j : Int) + 1⟩ := by simp [seqM]
theorem seqM_mix {k : Int} {ps : List Pr} {j : Nat} (hj : j < ps.length) : (blendL (seqM k ps.length) ps j).set j ⟨k + 2 * (j : Int), k + 2 * (j : Int) + 1⟩ = blendL (seqM k ps.length) ps (j + 1) := by
  rw [← blendL_step (seqM_len _ _) hj, seqM_get]
def sameP (x y : Pr) : Bool := (x.a == y.a) && (x.b == y.b)
theorem sameP_iff {x y : Pr} : sameP x y = true ↔ x = y := by
  cases x; cases y; simp [sameP]
def samePs (xs ys : List Pr) : Bool := xs.length == ys.length && (List.zip xs ys).all fun p => sameP p.1 p.2
theorem samePs_iff {xs ys : List Pr} : samePs xs ys = true ↔ xs = ys := by
  induction xs generalizing ys with
  | nil => cases ys <;> simp [samePs]
  | cons x xs ih =>
    cases ys with
    | nil => simp [samePs]
    | cons y ys =>
      have e : samePs (x :: xs) (y :: ys) = (sameP x y && samePs xs ys) := by
        simp only [samePs, List.length_cons, List.zip_cons_cons, List.all_cons]
        cases h1 : sameP x y <;> simp
      rw [e, Bool.and_eq_true, sameP_iff, ih]
      simp
theorem samePs_at {xs ys : List Pr} {j : Nat} (h1 : j < xs.length) (h2 : j < ys.length) (h : sameP xs[j] ys[j] = false) : samePs xs ys = false := by
  rw [Bool.eq_false_iff]
  intro e
  rw [samePs_iff] at e
  subst e
  rw [Bool.eq_false_iff] at h
  exact h (sameP_iff.2 rfl)
theorem samePs_all {xs ys : List Pr} (hl : xs.length = ys.length) (h : ∀ j (h1 : j < xs.length) (h2 : j < ys.length), sameP xs[j] ys[j] = true) : samePs xs ys = true :=
  samePs_iff.2 (List.ext_getElem hl fun j h1 h2 => sameP_iff.1 (h j h1 h2))
/-- Such rows as they came in. -/
def ArgTwos (w : World) (v : Value) (ps : List Pr) : Prop :=
  ps.length ≤ 9223372036854775807 ∧ ∃ a cap, v = .slice a ps.length cap ∧ (0 < ps.length → ∃ b off, a = some ⟨b, off, none⟩ ∧ ∀ k (hk : k < ps.length), w.cell? ⟨b, off + k * 2, none⟩ = some (.int .i64 ps[k].a) ∧ w.cell? ⟨b, off + k * 2 + 1, none⟩ = some (.int .i64 ps[k].b))
theorem ArgTwos.ext {w w' : World} {v : Value} {ps : List Pr} (h : ArgTwos w v ps) (k : Ext w w') : ArgTwos w' v ps := by
  obtain ⟨hl, a, cap, hv, hc⟩ := h
  exact ⟨hl, a, cap, hv, fun h0 => let ⟨b, off, ha, hc⟩ := hc h0; ⟨b, off, ha, fun j hj => ⟨k.cell (hc j hj).1, k.cell (hc j hj).2⟩⟩⟩

/-- The first rows are the argument's, the others are zeros. -/
def fillP (ps : List Pr) (k : Nat) : List Pr := ps.take k ++ List.replicate (ps.length - k) ⟨0, 0⟩
theorem fillP_len (ps : List Pr) {k : Nat} (h : k ≤ ps.length) : (fillP ps k).length = ps.length := by simp [fillP]; omega
theorem fillP_step {ps : List Pr} {k : Nat} (h : k < ps.length) : (fillP ps k).set k ps[k] = fillP ps (k + 1) := by
  unfold fillP
  apply List.ext_getElem
  · simp; omega
  · intro i h1 h2
    rw [List.getElem_set]
    by_cases e : k = i
    · subst e
      rw [if_pos rfl, List.getElem_append_left (by rw [List.length_take]; omega)]
      simp
    · rw [if_neg e]
      by_cases hi : i < k
      · rw [List.getElem_append_left (by simp; omega), List.getElem_append_left (by simp; omega)]
        simp
      · rw [List.getElem_append_right (by simp; omega), List.getElem_append_right (by simp; omega)]
        simp
theorem madeCells_size (z : Array Value) (n : Nat) : (madeCells z n).size = n := by simp [madeCells]
theorem madeCells_two {n i : Nat} (h : i < n) : (madeCells #[Value.int .i64 0, Value.int .i64 0] n).toList[i]? = some (.int .i64 0) := by
  rw [List.getElem?_eq_getElem (by rw [Array.length_toList, madeCells_size]; exact h)]
  congr 1
  simp only [madeCells, Array.getElem_toList, Array.getElem_map, Array.getElem_range]
  rcases Nat.mod_two_eq_zero_or_one i with e | e
  · show #[Value.int .i64 0, Value.int .i64 0][i % 2]! = _
    rw [e]; rfl
  · show #[Value.int .i64 0, Value.int .i64 0][i % 2]! = _
    rw [e]; rfl
theorem fillP_zero (n : Nat) : (List.replicate n [Value.int .i64 0, Value.int .i64 0]).flatten = cellsP (List.replicate n ⟨0, 0⟩) := by
  induction n with
  | zero => rfl
  | succ n ih => rw [List.replicate_succ, List.flatten_cons, ih, List.replicate_succ, cellsP_cons]; rfl

end Go.Proofs.Ytfidamjepjgknaa
