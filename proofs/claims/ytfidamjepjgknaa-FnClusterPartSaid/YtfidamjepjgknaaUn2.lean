/- Units and clusters: the copies that a law makes of them, their comparison, their marks. No condition. -/
import Derived.Test.YtfidamjepjgknaaUn
namespace Go.Proofs.Ytfidamjepjgknaa
section
set_option maxRecDepth 100000
open Go.RowKit

theorem info_unit : (Try.prog.info? 31).map (fun i => (i.zero, i.size, i.bytes)) = some (some (.agg #[.bool false, .slice none 0 0]), 2, 32) := by kernel_rfl
theorem under_units : Try.prog.underlying 24 = some (.slice 31) := by kernel_rfl

/-- Units in memory of their own, each node's tasks in blocks of its own. -/
def UnitsU (w : World) (L U : Nat) (v : Value) (us : List Un) : Prop :=
  ∃ (xs : List Value) (S : Nat → Nat), w.ownsRow L 31 2 v us.length xs ∧ L ≤ S 0 ∧ (∀ g, v.ownBlock = some g → g < S 0) ∧ S us.length ≤ U ∧ (∀ i, i < us.length → S i ≤ S (i + 1)) ∧
    ∀ k (h : k < us.length), xs[k * 2]? = some (.bool us[k].op) ∧ ∃ n, xs[k * 2 + 1]? = some n ∧ TasksU w (S k) (S (k + 1)) n us[k].ts
theorem UnitsU.units {w : World} {L U : Nat} {v : Value} {us : List Un} (h : UnitsU w L U v us) (hl : weighU us ≤ lim) : Units w v us := by
  obtain ⟨xs, S, h1, hL, hg, hU, hm, h2⟩ := h
  refine Units.of_own h1 ⟨h1.1, fun k hk => ?_⟩ (by unfold weighU at hl; omega)
  obtain ⟨ha, n, hb, ht⟩ := h2 k hk
  have := weighU_le hk
  refine ⟨ha, n, hb, ht.tasks (by unfold weighU at hl; omega) fun t ht => ?_⟩
  obtain ⟨j, hj, rfl⟩ := List.getElem_of_mem ht
  have := needs_le hj
  unfold weighU at hl
  omega
theorem UnitsU.ext {L U : Nat} {w w' : World} {v : Value} {us : List Un} (h : UnitsU w L U v us) (k : Ext w w') : UnitsU w' L U v us := by
  obtain ⟨xs, S, h1, hL, hg, hU, hm, h2⟩ := h
  exact ⟨xs, S, ownsRow_ext h1 k, hL, hg, hU, hm, fun j hj => ⟨(h2 j hj).1, let ⟨n, a, b⟩ := (h2 j hj).2; ⟨n, a, b.ext k⟩⟩⟩
theorem UnitsU.chg {L U A B : Nat} {w w' : World} {v : Value} {us : List Un} (h : UnitsU w A B v us) (k : Chg L U w w') (hd : B ≤ L ∨ U ≤ A) : UnitsU w' A B v us := by
  obtain ⟨xs, S, h1, hL, hg, hU, hm, h2⟩ := h
  have m1 : ∀ i, i ≤ us.length → S 0 ≤ S i ∧ S i ≤ S us.length := fun i hi => ⟨by have := mono_S hm i 0 (by omega); simpa using this, by have := mono_S hm (us.length - i) i (by omega); rwa [show i + (us.length - i) = us.length by omega] at this⟩
  have m0 := m1 0 (by omega)
  refine ⟨xs, S, ownsRow_chg h1 k fun g e => ?_, hL, hg, hU, hm, fun j hj => ?_⟩
  · have := (h1.lt g e).1
    have := hg g e
    omega
  · obtain ⟨ha, n, a, b⟩ := h2 j hj
    have := m1 j (by omega)
    have := m1 (j + 1) (by omega)
    exact ⟨ha, n, a, b.chg k (by omega)⟩
theorem UnitsU.form {w : World} {L U : Nat} {v : Value} {us : List Un} (h : UnitsU w L U v us) : ∃ a c, v = .slice a us.length c := by
  obtain ⟨xs, S, ⟨_, h1⟩, _⟩ := h
  rcases h1 with ⟨rfl, hn⟩ | ⟨g, cap, cur, rfl, _⟩
  · exact ⟨none, 0, by rw [hn]⟩
  · exact ⟨_, cap, rfl⟩
theorem UnitsU.up {w : World} {A B B' : Nat} {v : Value} {us : List Un} (h : UnitsU w A B v us) (hb : B ≤ B') : UnitsU w A B' v us := by
  obtain ⟨xs, S, h1, hL, hg, hU, hm, h2⟩ := h
  exact ⟨xs, S, h1, hL, hg, Nat.le_trans hU hb, hm, h2⟩
/-- One unit, and what it is to change that unit alone. -/
theorem UnitsU.at {w : World} {L U : Nat} {v : Value} {us : List Un} (h : UnitsU w L U v us) {k : Nat} (hk : k < us.length) :
    ∃ b c n A B, v = .slice (some ⟨b, 0, none⟩) us.length c ∧ w.cell? ⟨b, k * 2, none⟩ = some (.bool us[k].op) ∧ w.cell? ⟨b, k * 2 + 1, none⟩ = some n ∧ w.frozen? ⟨b, k * 2, none⟩ = false ∧ TasksU w A B n us[k].ts ∧ L ≤ b ∧ b < A ∧ A ≤ B ∧ B ≤ U ∧
      ∀ w' ts q, Chg A B (w.setCell ⟨b, k * 2, none⟩ (.bool q)) w' → TasksU w' A B n ts → UnitsU w' L U v (us.set k ⟨q, ts⟩) := by
  obtain ⟨xs, S, h1, hL, hg, hU, hm, h2⟩ := h
  have m1 : ∀ i, i ≤ us.length → S 0 ≤ S i ∧ S i ≤ S us.length := fun i hi => ⟨by have := mono_S hm i 0 (by omega); simpa using this, by have := mono_S hm (us.length - i) i (by omega); rwa [show i + (us.length - i) = us.length by omega] at this⟩
  have hx := h1.1
  obtain ⟨a, m, c, rfl⟩ : ∃ a m c, v = .slice a m c := by
    rcases h1.2 with ⟨rfl, hn⟩ | ⟨g, cap, cur, rfl, _⟩
    · exact ⟨_, _, _, rfl⟩
    · exact ⟨_, _, _, rfl⟩
  obtain ⟨b, rfl, rfl, hA, hlt, hc, ho⟩ := ownsRow_at h1 (by omega)
  obtain ⟨hop, n, hn, ht⟩ := h2 k hk
  have q1 := m1 k (by omega)
  have q2 := m1 (k + 1) (by omega)
  have hb := hg b rfl
  have hput := fun q => ownsRow_put ho (k := k * 2) (by omega) (.bool q)
  refine ⟨b, c, n, S k, S (k + 1), rfl, by rw [hc _ (by omega), hop], by rw [hc _ (by omega), hn], (hput true).2.2.2, ht, hA, by omega, hm k hk, by omega, fun w' ts q hC hT => ?_⟩
  obtain ⟨p1, p2, p3, f1⟩ := hput q
  have low : Chg b (b + 1) w (w.setCell ⟨b, k * 2, none⟩ (.bool q)) := Chg.only (grownBy_put w b (k * 2) _)
  refine ⟨xs.set (k * 2) (.bool q), S, ?_, hL, hg, by simpa using hU, by simpa using hm, fun j hj => ?_⟩
  · have := ownsRow_chg p1 hC fun g e => by have := hg g e; omega
    simpa using this
  · simp only [List.length_set] at hj
    by_cases e : k = j
    · subst e
      exact ⟨by rw [List.getElem_set_self, List.getElem?_set_self (by omega)], n, by rw [List.getElem?_set_ne (by omega), hn], by rw [List.getElem_set_self]; exact hT⟩
    · obtain ⟨ha, m, a, t⟩ := h2 j hj
      rw [List.getElem_set_ne e]
      have qj := m1 j (by omega)
      refine ⟨by rw [List.getElem?_set_ne (by omega), ha], m, by rw [List.getElem?_set_ne (by omega), a], (t.chg low (by omega)).chg hC ?_⟩
      rcases Nat.lt_or_gt_of_ne e with h | h
      · have := mono_S hm (j - (k + 1)) (k + 1) (by omega)
        rw [show k + 1 + (j - (k + 1)) = j by omega] at this
        omega
      · have := mono_S hm (k - (j + 1)) (j + 1) (by omega)
        rw [show j + 1 + (k - (j + 1)) = k by omega] at this
        omega

/-- A cluster in memory of its own. -/
def CluU (w : World) (L U : Nat) (v : Value) (c : C) : Prop := ∃ r u M, v = .agg #[r, u] ∧ IntsU w L M r c.room ∧ UnitsU w M U u c.us ∧ L ≤ M ∧ M ≤ U
theorem CluU.ext {L U : Nat} {w w' : World} {v : Value} {c : C} (h : CluU w L U v c) (k : Ext w w') : CluU w' L U v c := let ⟨r, u, M, hv, h1, h2, h3, h4⟩ := h; ⟨r, u, M, hv, h1.ext k, h2.ext k, h3, h4⟩
theorem CluU.up {w : World} {A B B' : Nat} {v : Value} {c : C} (h : CluU w A B v c) (hb : B ≤ B') : CluU w A B' v c := let ⟨r, u, M, hv, h1, h2, h3, h4⟩ := h; ⟨r, u, M, hv, h1, h2.up hb, h3, Nat.le_trans h4 hb⟩
theorem CluU.base {w : World} {A A' B : Nat} {v : Value} {c : C} (h : CluU w A B v c) (hb : A' ≤ A) : CluU w A' B v c := let ⟨r, u, M, hv, h1, h2, h3, h4⟩ := h; ⟨r, u, M, hv, h1.base hb, h2, Nat.le_trans hb h3, h4⟩
theorem CluU.chg {L U A B : Nat} {w w' : World} {v : Value} {c : C} (h : CluU w A B v c) (k : Chg L U w w') (hd : B ≤ L ∨ U ≤ A) : CluU w' A B v c := by
  obtain ⟨r, u, M, hv, h1, h2, h3, h4⟩ := h
  exact ⟨r, u, M, hv, h1.chg k (by omega), h2.chg k (by omega), h3, h4⟩
theorem CluU.cluster {L U : Nat} {w : World} {v : Value} {c : C} (h : CluU w L U v c) (hl : weighC c ≤ 2097152) : Clu w v c := by
  obtain ⟨r, u, M, hv, h1, h2, h3, h4⟩ := h
  unfold weighC at hl
  exact ⟨r, u, hv, h1.ints (by unfold lim; omega), h2.units (by unfold lim; omega)⟩

def sameU (x y : Un) : Bool := (x.op == y.op) && sameTs x.ts y.ts
theorem sameU_iff {x y : Un} : sameU x y = true ↔ x = y := by
  cases x; cases y
  simp only [sameU, Bool.and_eq_true, sameTs_iff, Un.mk.injEq, beq_iff_eq]
def sameUs (xs ys : List Un) : Bool := xs.length == ys.length && (List.zip xs ys).all fun p => sameU p.1 p.2
theorem sameUs_iff {xs ys : List Un} : sameUs xs ys = true ↔ xs = ys := by
  induction xs generalizing ys with
  | nil => cases ys <;> simp [sameUs]
  | cons x xs ih =>
    cases ys with
    | nil => simp [sameUs]
    | cons y ys =>
      have e : sameUs (x :: xs) (y :: ys) = (sameU x y && sameUs xs ys) := by
        simp only [sameUs, List.length_cons, List.zip_cons_cons, List.all_cons]
        cases h1 : sameU x y <;> simp
      rw [e, Bool.and_eq_true, sameU_iff, ih]
      simp
theorem sameUs_at {xs ys : List Un} {j : Nat} (h1 : j < xs.length) (h2 : j < ys.length) (h : sameU xs[j] ys[j] = false) : sameUs xs ys = false := by
  rw [Bool.eq_false_iff]
  intro e
  rw [sameUs_iff] at e
  subst e
  rw [Bool.eq_false_iff] at h
  exact h (sameU_iff.2 rfl)
theorem sameUs_all {xs ys : List Un} (hl : xs.length = ys.length) (h : ∀ j (h1 : j < xs.length) (h2 : j < ys.length), sameU xs[j] ys[j] = true) : sameUs xs ys = true :=
  sameUs_iff.2 (List.ext_getElem hl fun j h1 h2 => sameU_iff.1 (h j h1 h2))

def sameC (x y : C) : Bool := (x.room == y.room) && sameUs x.us y.us
theorem sameC_iff {x y : C} : sameC x y = true ↔ x = y := by
  cases x; cases y
  simp only [sameC, Bool.and_eq_true, sameUs_iff, C.mk.injEq, beq_iff_eq]
end

section
set_option maxRecDepth 100000
open Go.RowKit Go.ChangeShapes Go.WideShapes Go.Deep
theorem cells_bool : Try.prog.cellsOf 4 = 1 := by kernel_rfl
variable {H : Type} {enc : TypeId × Value → H} {w : World} {base : Nat} {spare : Nat → Bool} {held : Bool}
end
end Go.Proofs.Ytfidamjepjgknaa
