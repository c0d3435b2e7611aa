/- Units that a call owns, each unit's tasks too: what a store and an append leave. No condition. -/
import Derived.Test.YtfidamjepjgknaaUn2
import Derived.Test.YtfidamjepjgknaaNestS
namespace Go.Proofs.Ytfidamjepjgknaa
set_option maxRecDepth 100000
open Go.RowKit

theorem elt_unit : Elt Try.prog 24 31 2 32 := Elt.mk' (z := .agg #[.bool false, .slice none 0 0]) (by kernel_rfl) (by kernel_rfl) rfl (by decide)
/-- Units that the call owns, each unit's row of tasks too, no row twice. -/
def NestU (w : World) (B : Nat) (v : Value) (us : List Un) : Prop :=
  ∃ xs, w.ownsRow B 31 2 v us.length xs ∧ (∀ k (h : k < us.length), xs[k * 2]? = some (.bool us[k].op) ∧ ∃ n, xs[k * 2 + 1]? = some n ∧ OwnTasks w B n us[k].ts) ∧
    ∀ (i j : Nat) (n m : Value) (g : Nat), i ≠ j → xs[i * 2 + 1]? = some n → xs[j * 2 + 1]? = some m → n.ownBlock = some g → m.ownBlock ≠ some g
theorem NestU.ext {w w' : World} {B : Nat} {v : Value} {us : List Un} (h : NestU w B v us) (k : Ext w w') : NestU w' B v us := by
  obtain ⟨xs, h1, h2, h3⟩ := h
  exact ⟨xs, ownsRow_ext h1 k, fun j hj => ⟨(h2 j hj).1, let ⟨n, a, b⟩ := (h2 j hj).2; ⟨n, a, b.ext k⟩⟩, h3⟩
theorem NestU.kt {w w' : World} {B : Nat} {v : Value} {us : List Un} {e : TypeId} (h : NestU w B v us) (k : KT e w w') (n1 : 3 ≠ e) (n2 : 37 ≠ e) (n3 : 31 ≠ e) : NestU w' B v us := by
  obtain ⟨xs, h1, h2, h3⟩ := h
  exact ⟨xs, ownsRow_kt h1 k n3, fun j hj => ⟨(h2 j hj).1, let ⟨n, a, b⟩ := (h2 j hj).2; ⟨n, a, b.kt k n1 n2⟩⟩, h3⟩
theorem NestU.base {w : World} {B B' : Nat} {v : Value} {us : List Un} (h : NestU w B v us) (hb : B' ≤ B) : NestU w B' v us := by
  obtain ⟨xs, h1, h2, h3⟩ := h
  exact ⟨xs, ownsRow_base h1 hb, fun j hj => ⟨(h2 j hj).1, let ⟨n, a, b⟩ := (h2 j hj).2; ⟨n, a, b.base hb⟩⟩, h3⟩
theorem NestU.nil (w : World) (B : Nat) : NestU w B (.slice none 0 0) [] := ⟨[], World.ownsRow_nil _ _ _ _, fun _ h => by simp at h, fun _ _ _ _ _ _ h => by simp at h⟩
theorem NestU.lit0 (w : World) (B : Nat) (hB : B ≤ w.heap.size) : NestU (w.alloc (.cells #[] 31)) B (.slice (some ⟨w.heap.size, 0, none⟩) 0 0) [] :=
  ⟨[], World.ownsRow_lit w #[] 0 hB (by simp [maxLen]) rfl, fun _ h => by simp at h, fun _ _ _ _ _ _ h => by simp at h⟩
theorem NestU.units {w : World} {B : Nat} {v : Value} {us : List Un} (h : NestU w B v us) (hl : us.length ≤ lim) (hb : ∀ u ∈ us, u.ts.length ≤ lim) : Units w v us := by
  obtain ⟨xs, h1, h2, h3⟩ := h
  exact Units.of_own h1 ⟨h1.1, fun k hk => ⟨(h2 k hk).1, let ⟨n, a, b⟩ := (h2 k hk).2; ⟨n, a, b.done (hb _ (List.getElem_mem hk))⟩⟩⟩ hl
theorem NestU.form {w : World} {B : Nat} {v : Value} {us : List Un} (h : NestU w B v us) : ∃ a c, v = .slice a us.length c := by
  obtain ⟨xs, ⟨_, h1⟩, _⟩ := h
  rcases h1 with ⟨rfl, hn⟩ | ⟨g, cap, cur, rfl, _⟩
  · exact ⟨none, 0, by rw [hn]⟩
  · exact ⟨_, cap, rfl⟩
theorem NestU.at {w : World} {B : Nat} {a : Option Addr} {n c : Nat} {us : List Un} (h : NestU w B (.slice a n c) us) {k : Nat} (hk : k < us.length) :
    ∃ b nd, a = some ⟨b, 0, none⟩ ∧ n = us.length ∧ B ≤ b ∧ b < w.heap.size ∧ w.cell? ⟨b, k * 2, none⟩ = some (.bool us[k].op) ∧ w.cell? ⟨b, k * 2 + 1, none⟩ = some nd ∧ OwnTasks w B nd us[k].ts ∧ w.frozen? ⟨b, k * 2, none⟩ = false ∧ w.frozen? ⟨b, k * 2 + 1, none⟩ = false := by
  obtain ⟨xs, h1, h2, h3⟩ := h
  have hx := h1.1
  obtain ⟨g, rfl, rfl, hB, hlt, hc, ho⟩ := ownsRow_at h1 (by omega)
  obtain ⟨hop, nd, hn, hot⟩ := h2 k hk
  exact ⟨g, nd, rfl, rfl, hB, hlt, by rw [hc _ (by omega), hop], by rw [hc _ (by omega), hn], hot, (ownsRow_put ho (k := k * 2) (by omega) (.bool true)).2.2.2, (ownsRow_put ho (k := k * 2 + 1) (by omega) (.bool true)).2.2.2⟩
/-- A unit is opened or closed. -/
theorem NestU.putOp {w : World} {B b n c : Nat} {us : List Un} (h : NestU w B (.slice (some ⟨b, 0, none⟩) n c) us) {k : Nat} (hk : k < us.length) (q : Bool) :
    NestU (w.setCell ⟨b, k * 2, none⟩ (.bool q)) B (.slice (some ⟨b, 0, none⟩) n c) (us.set k ⟨q, us[k].ts⟩) ∧ KT 31 w (w.setCell ⟨b, k * 2, none⟩ (.bool q)) ∧ Below B w (w.setCell ⟨b, k * 2, none⟩ (.bool q)) := by
  obtain ⟨xs, h1, h2, h3⟩ := h
  have hx := h1.1
  obtain ⟨g, hga, rfl, hB, hlt, hcells, ho⟩ := ownsRow_at h1 (by omega)
  simp only [Option.some.injEq, Addr.mk.injEq, and_true] at hga
  subst hga
  obtain ⟨p1, p2, p3, p4⟩ := ownsRow_put ho (k := k * 2) (by omega) (.bool q)
  refine ⟨⟨xs.set (k * 2) (.bool q), by simpa using p1, fun j hj => ?_, fun i j n m g hij hi hj hg => ?_⟩, p2, p3⟩
  · simp only [List.length_set] at hj
    obtain ⟨a1, nd, a2, a3⟩ := h2 j hj
    by_cases e : k = j
    · subst e
      refine ⟨by rw [List.getElem?_set_self (by omega), List.getElem_set_self], nd, by rw [List.getElem?_set_ne (by omega), a2], ?_⟩
      rw [List.getElem_set_self]
      exact a3.kt p2 (by decide) (by decide)
    · rw [List.getElem_set_ne e]
      exact ⟨by rw [List.getElem?_set_ne (by omega), a1], nd, by rw [List.getElem?_set_ne (by omega), a2], a3.kt p2 (by decide) (by decide)⟩
  · rw [List.getElem?_set_ne (by omega)] at hi hj
    exact h3 i j n m g hij hi hj hg
/-- A unit gets other tasks: its row was appended to or is new, and the new slice is put into the row of units. -/
theorem NestU.putTs {w w1 : World} {B b n c : Nat} {us : List Un} (h : NestU w B (.slice (some ⟨b, 0, none⟩) n c) us) {k : Nat} (hk : k < us.length) {nd nd' : Value} (hc : w.cell? ⟨b, k * 2 + 1, none⟩ = some nd) {ts : List T}
    (_hB : B ≤ w.heap.size) (ho : OwnTasks w1 B nd' ts) (hg : w.grownBy w1 nd.ownBlock) (hb : ∀ g, nd'.ownBlock = some g → nd.ownBlock = some g ∨ w.heap.size ≤ g) :
    NestU (w1.setCell ⟨b, k * 2 + 1, none⟩ nd') B (.slice (some ⟨b, 0, none⟩) n c) (us.set k ⟨us[k].op, ts⟩) ∧ KT 37 w w1 ∧ KT 31 w1 (w1.setCell ⟨b, k * 2 + 1, none⟩ nd') ∧ Below B w1 (w1.setCell ⟨b, k * 2 + 1, none⟩ nd') ∧ Below B w w1 ∧
      w1.cell? ⟨b, k * 2 + 1, none⟩ = some nd ∧ w1.frozen? ⟨b, k * 2 + 1, none⟩ = false := by
  obtain ⟨xs, h1, h2, h3⟩ := h
  have hx := h1.1
  obtain ⟨g, hga, rfl, hBg, hlt, hcells, ho1⟩ := ownsRow_at h1 (by omega)
  simp only [Option.some.injEq, Addr.mk.injEq, and_true] at hga
  subst hga
  obtain ⟨hop0, nd0, hn0, hot⟩ := h2 k hk
  have e0 : nd0 = nd := by
    have := (hcells (k * 2 + 1) (by omega)).symm.trans hc
    rw [hn0] at this
    simpa using this
  subst e0
  have hrow : ∃ cur fz, w.heap[b]? = some (.cells cur 31 fz) := by
    obtain ⟨_, h⟩ := ho1
    rcases h with ⟨h, _⟩ | ⟨g', cap, cur, hv, _, hg, _⟩
    · cases h
    · simp only [Value.slice.injEq, Option.some.injEq, Addr.mk.injEq, true_and, and_true] at hv
      obtain ⟨rfl, rfl⟩ := hv
      exact ⟨cur, _, hg⟩
  obtain ⟨cur, fz, hrow⟩ := hrow
  have nb : some b ≠ nd0.ownBlock := by
    intro e
    obtain ⟨_, cs, fz', h'⟩ := hot.block e.symm
    rw [hrow] at h'
    simp only [Option.some.injEq, Obj.cells.injEq] at h'
    exact absurd h'.2.1 (by decide)
  have ht : KT 37 w w1 := ⟨hg.size, fun b' cs t fz' hb' hne => hg.block b' (lt_of_heap hb') (fun x => by
    obtain ⟨_, cs', fz2, h'⟩ := hot.block x.symm
    rw [hb'] at h'
    simp only [Option.some.injEq, Obj.cells.injEq] at h'
    exact hne h'.2.1)⟩
  have hbw : Below B w w1 := ⟨hg.os, hg.tape, hg.output, hg.size, fun k' hk' => by
    refine hg.block k' (by omega) (fun x => ?_)
    have := (hot.block x.symm).1
    omega⟩
  have r1 : w1.heap[b]? = w.heap[b]? := hg.block b hlt nb
  have ho2 : w1.ownsRow B 31 2 (.slice (some ⟨b, 0, none⟩) us.length c) us.length xs := ownsRow_kt ho1 ht (by decide)
  obtain ⟨p1, p2, p3, p4⟩ := ownsRow_put ho2 (k := k * 2 + 1) (by omega) nd'
  refine ⟨⟨xs.set (k * 2 + 1) nd', by simpa using p1, fun j hj => ?_, fun i j n m g hij hi hj hgi => ?_⟩, ht, p2, p3, hbw, ?_, p4⟩
  · simp only [List.length_set] at hj
    obtain ⟨hop, m, hm, hom⟩ := h2 j hj
    by_cases e : k = j
    · subst e
      exact ⟨by rw [List.getElem?_set_ne (by omega), hop, List.getElem_set_self], nd', by rw [List.getElem?_set_self (by omega)], by rw [List.getElem_set_self]; exact ho.kt p2 (by decide) (by decide)⟩
    · refine ⟨by rw [List.getElem?_set_ne (by omega), hop, List.getElem_set_ne e], m, by rw [List.getElem?_set_ne (by omega), hm], ?_⟩
      rw [List.getElem_set_ne e]
      have hom1 : OwnTasks w1 B m us[j].ts := by
        obtain ⟨ys, ⟨hl, hy⟩, hcs⟩ := hom
        refine ⟨ys, ⟨hl, ?_⟩, hcs.kt ht (by decide)⟩
        rcases hy with hy | ⟨g', cap, cur', rfl, hB', hh, r⟩
        · exact .inl hy
        · refine .inr ⟨g', cap, cur', rfl, hB', ?_, r⟩
          rw [hg.block g' (lt_of_heap hh) (fun x => h3 k j nd0 _ g' e hn0 hm x.symm rfl)]
          exact hh
      exact hom1.kt p2 (by decide) (by decide)
  · have old : ∀ (i : Nat) (n : Value) (g : Nat), i ≠ k → xs[i * 2 + 1]? = some n → n.ownBlock = some g → nd'.ownBlock ≠ some g := by
      intro i n g hik hi hgi hx'
      rcases hb g hx' with hb | hb
      · exact h3 i k n nd0 g hik hi hn0 hgi hb
      · have hil : i < us.length := by
          rcases Nat.lt_or_ge (i * 2 + 1) xs.length with h | h
          · omega
          · simp [List.getElem?_eq_none h] at hi
        obtain ⟨_, n', hn', ho'⟩ := h2 i hil
        rw [hi] at hn'
        simp only [Option.some.injEq] at hn'
        subst hn'
        obtain ⟨_, cs, fz', hh⟩ := ho'.block hgi
        have := lt_of_heap hh
        omega
    by_cases ei : k = i
    · subst ei
      rw [List.getElem?_set_self (by omega)] at hi
      simp only [Option.some.injEq] at hi
      subst hi
      rw [List.getElem?_set_ne (by omega)] at hj
      exact fun hx => old j m g (Ne.symm hij) hj hx hgi
    · rw [List.getElem?_set_ne (by omega)] at hi
      by_cases ej : k = j
      · subst ej
        rw [List.getElem?_set_self (by omega)] at hj
        simp only [Option.some.injEq] at hj
        subst hj
        exact old i n g hij hi hgi
      · rw [List.getElem?_set_ne (by omega)] at hj
        exact h3 i j n m g hij hi hj hgi
  · rw [World.cell?_of_block (w := w) (a := ⟨b, k * 2 + 1, none⟩) r1]
    exact hc
/-- A unit more, at the end. -/
theorem NestU.snoc {w w1 : World} {B : Nat} {v v' n : Value} {us : List Un} {q : Bool} {ts : List T} (h : NestU w B v us) (hE : Ext w w1) (hn : OwnTasks w1 w.heap.size n ts) (hC : B ≤ w.heap.size) {w2 : World}
    (hown : ∀ xs, w1.ownsRow B 31 2 v us.length xs → w2.ownsRow B 31 2 v' (us.length + 1) (xs ++ [.bool q, n])) (hk : KT 31 w1 w2) : NestU w2 B v' (us ++ [⟨q, ts⟩]) := by
  obtain ⟨xs, h1, h2, h3⟩ := h
  have hx := h1.1
  refine ⟨xs ++ [.bool q, n], by simpa using hown xs (ownsRow_ext h1 hE), fun k hk' => ?_, fun i j a b g hij hi hj hga hgb => ?_⟩
  · simp only [List.length_append, List.length_singleton] at hk'
    by_cases hlt : k < us.length
    · obtain ⟨hop, m, hm, hom⟩ := h2 k hlt
      refine ⟨by rw [List.getElem?_append_left (by omega), List.getElem_append_left hlt, hop], m, by rw [List.getElem?_append_left (by omega), hm], ?_⟩
      rw [List.getElem_append_left hlt]
      exact (hom.ext hE).kt hk (by decide) (by decide)
    · have e : k = us.length := by omega
      subst e
      rw [List.getElem?_append_right (by omega), List.getElem?_append_right (by omega), List.getElem_append_right (Nat.le_refl _), hx, Nat.sub_self, show us.length * 2 + 1 - us.length * 2 = 1 by omega]
      simp only [Nat.sub_self, List.getElem_cons_zero]
      exact ⟨rfl, n, rfl, (hn.base hC).kt hk (by decide) (by decide)⟩
  · have old : ∀ (i : Nat) (a : Value) (g : Nat), xs[i * 2 + 1]? = some a → a.ownBlock = some g → n.ownBlock ≠ some g := by
      intro i a g hi hga hx'
      have hil : i < us.length := by
        rcases Nat.lt_or_ge (i * 2 + 1) xs.length with h | h
        · omega
        · simp [List.getElem?_eq_none h] at hi
      obtain ⟨_, n', hn', ho'⟩ := h2 i hil
      rw [hi] at hn'
      simp only [Option.some.injEq] at hn'
      subst hn'
      obtain ⟨_, cs, fz', hh⟩ := ho'.block hga
      have := lt_of_heap hh
      have := (hn.block hx').1
      omega
    have cut : ∀ (i : Nat) (a : Value), (xs ++ [.bool q, n])[i * 2 + 1]? = some a → (i < us.length ∧ xs[i * 2 + 1]? = some a) ∨ (i = us.length ∧ a = n) := by
      intro i a hi
      by_cases hl : i < us.length
      · rw [List.getElem?_append_left (by omega)] at hi; exact .inl ⟨hl, hi⟩
      · rw [List.getElem?_append_right (by omega)] at hi
        have e : i = us.length := by
          rcases Nat.lt_or_ge us.length i with h | h
          · rw [List.getElem?_eq_none (by simp; omega)] at hi; cases hi
          · omega
        subst e
        rw [hx, show us.length * 2 + 1 - us.length * 2 = 1 by omega] at hi
        simp at hi
        exact .inr ⟨rfl, hi.symm⟩
    rcases cut i a hi with ⟨_, hi⟩ | ⟨ei, ea⟩
    · rcases cut j b hj with ⟨_, hj⟩ | ⟨ej, eb⟩
      · exact h3 i j a b g hij hi hj hga hgb
      · exact old i a g hi hga (by rw [← eb]; exact hgb)
    · rcases cut j b hj with ⟨_, hj⟩ | ⟨ej, eb⟩
      · exact old j b g hj hgb (by rw [← ea]; exact hga)
      · omega

section
variable {w : World} {ops : Array Oper} {rest : List Oper} {o : Oper} {a : Act} {Q : Exit → Act → World → Prop} {K : Act → World → Prop}
/-- 'append(units, unit)': a unit more. -/
theorem wp_app_nestU (s x : Operand) (ho : o.op = .call { callee := .builtin .append, args := #[s, x], argTypes := #[24, 24] }) (B : Nat) (v : Value) (us : List Un) (hs : a.eval s = v) {w0 : World} (hnest : NestU w0 B v us) (hE : Ext w0 w) (hB : B ≤ w0.heap.size)
    (src : Option Addr) (c : Nat) (q : Bool) (n : Value) (ts : List T) (hx : a.eval x = .slice src 1 c) (hrow : Row w 31 src [.bool q, n]) (hn : OwnTasks w w0.heap.size n ts) (hl : us.length + 1 ≤ lim)
    (h : ∀ v' w', NestU w' B v' (us ++ [⟨q, ts⟩]) → KT 31 w w' → Below B w w' → K (a.put o.dst v') w') : o.wp Try.prog a w K Q := by
  have hnest' := hnest
  obtain ⟨xs, hown, _⟩ := hnest
  unfold lim at hl
  have hone : n.oneCell' = true := by
    obtain ⟨_, ⟨_, hn⟩, _⟩ := hn
    rcases hn with ⟨rfl, _⟩ | ⟨_, _, _, rfl, _⟩ <;> rfl
  have hB' : B ≤ w.heap.size := Nat.le_trans hB hE.le
  refine wp_app elt_unit s x ho B v us.length xs hs (ownsRow_ext hown hE) hB' src 1 c [.bool q, n] hx rfl _ hrow (by intro u hu; simp only [List.mem_cons, List.not_mem_nil, or_false] at hu; rcases hu with rfl | rfl <;> first | rfl | exact hone) (by omega) (by unfold maxLen; omega) (fun v' w' h1 h2 h3 => h v' w' ?_ h2 h3)
  refine hnest'.snoc hE hn hB (fun ys hys => ?_) h2
  rw [ownsRow_uniq hys (ownsRow_ext hown hE)]
  exact h1
theorem app_nestU (hgd : o.guard = none) (s x : Operand) (ho : o.op = .call { callee := .builtin .append, args := #[s, x], argTypes := #[24, 24] }) (B : Nat) (v : Value) (us : List Un) (hs : a.eval s = v) {w0 : World} (hnest : NestU w0 B v us) (hE : Ext w0 w) (hB : B ≤ w0.heap.size)
    (src : Option Addr) (c : Nat) (q : Bool) (n : Value) (ts : List T) (hx : a.eval x = .slice src 1 c) (hrow : Row w 31 src [.bool q, n]) (hn : OwnTasks w w0.heap.size n ts) (hl : us.length + 1 ≤ lim)
    (h : ∀ v' w', NestU w' B v' (us ++ [⟨q, ts⟩]) → KT 31 w w' → Below B w w' → wpList Try.prog ops Q rest (a.put o.dst v') w') : wpList Try.prog ops Q (o :: rest) a w :=
  wpList_plain hgd fun _ hK => wp_app_nestU s x ho B v us hs hnest hE hB src c q n ts hx hrow hn hl fun v' w' h1 h2 h3 => hK _ _ (h v' w' h1 h2 h3)
end

end Go.Proofs.Ytfidamjepjgknaa
