/- A task taken out of a row that is owned: package slices' Delete of one element. No condition. -/
import Derived.Test.YtjdhiabdcmindaaDoorOwn
import Derived.Test.YtjdhiabdcmindaaDoorReg
import Derived.Laws.OwnMore
import Derived.Lib.SliceRun
namespace Go.Proofs.YtjdhiabdcmindaaDoor
set_option maxRecDepth 100000
open Go.RowKit

theorem run_clear_task (w : World) (ty : TypeId) (b o c : Nat) (hc : ∀ j, j < 2 → (w.cell? ⟨b, o + j, none⟩).isSome = true) (hf : ∀ j, j < 2 → w.frozen? ⟨b, o + j, none⟩ = false) :
    (Builtin.clear_ #[51] ty #[.slice (some ⟨b, o, none⟩) 1 c]).run Tryd.prog w = .ok (.tuple #[]) (w.setCells b o [.int .i64 0, .slice none 0 0]) := by
  have hzc : (Builtin.zeroCells (Value.agg #[.int .i64 0, .slice none 0 0]).cells 1).toList = [.int .i64 0, .slice none 0 0] := by kernel_rfl
  have hz : (zeroValue 61).run Tryd.prog w = .ok (.agg #[.int .i64 0, .slice none 0 0]) w := by kernel_rfl
  have hst := run_storeCells_cells (P := Tryd.prog) b o [.int .i64 0, .slice none 0 0] 0 w (by simpa using hc) (by simpa using hf) (by intro v hv; simp at hv; rcases hv with rfl | rfl <;> rfl)
  simp only [Nat.add_zero] at hst
  simp [Builtin.clear_, run_underlying Tryd.underlying51, hz, hzc, hst]

section
variable {w : World} {ops : Array Oper} {rest : List Oper} {o : Oper} {a : Act} {Q : Exit → Act → World → Prop} {K : Act → World → Prop}
/-- 'append' of tasks within the capacity. -/
theorem wp_fits_tasks (s x : Operand) (ho : o.op = .call { callee := .builtin .append, args := #[s, x], argTypes := #[51, 51] }) (B g n q cap : Nat) (xs : List Value) (hs : a.eval s = .slice (some ⟨g, 0, none⟩) n cap) (hown : w.ownsRow B 61 2 (.slice (some ⟨g, 0, none⟩) n cap) n xs)
    (ad : Addr) (m c : Nat) (news : List Value) (hx : a.eval x = .slice (some ad) m c) (hl : news.length = m * 2) (hnews : ∀ j u, news[j]? = some u → w.cell? (ad.add j) = some u) (h1 : ∀ u ∈ news, u.oneCell' = true) (hroom : n + m ≤ cap) (hq : n + m = q)
    (h : ∀ w', w'.ownsRow B 61 2 (.slice (some ⟨g, 0, none⟩) q cap) q (xs ++ news) → w.grownBy w' (some g) → K (a.put o.dst (.slice (some ⟨g, 0, none⟩) q cap)) w') : o.wp Tryd.prog a w K Q := by
  subst hq
  obtain ⟨i, z, ht, hi, hz, hs', hby, hzs, h0⟩ := elt_task.got
  obtain ⟨w', hrun, r1, r2⟩ := run_append_fits (P := Tryd.prog) w B _ o.type _ i 2 ht hi hs' g n cap xs hown ad m c news hl hnews h1 hroom
  unfold Oper.wp execOp
  simp only [ho, resolve, invoke, builtin, Sem.run_bind, Sem.run_pure, Result.andThen_ok, List.map_toArray, List.map_cons, List.map_nil, hs, hx, hrun]
  exact h w' r1 r2
end

theorem ownsRow_cut {w : World} {B : Nat} {e : TypeId} {size g n c : Nat} {xs : List Value} (h : w.ownsRow B e size (.slice (some ⟨g, 0, none⟩) n c) n xs) {k : Nat} (hk : k ≤ n) : w.ownsRow B e size (.slice (some ⟨g, 0, none⟩) k c) k (xs.take (k * size)) := by
  obtain ⟨hl, h⟩ := h
  have hks : k * size ≤ n * size := Nat.mul_le_mul_right _ hk
  rcases h with ⟨h, _⟩ | ⟨g', cap, cur, hv, hB, hg, h1, h2, h3, h4⟩
  · cases h
  · simp only [Value.slice.injEq, Option.some.injEq, Addr.mk.injEq, true_and, and_true] at hv
    obtain ⟨rfl, rfl⟩ := hv
    refine ⟨by simp; omega, .inr ⟨g, c, cur, rfl, hB, hg, by omega, h2, h3, ?_⟩⟩
    rw [← h4, List.take_take, Nat.min_eq_left hks]
/-- A cell behind the row's end is written. -/
theorem ownsRow_far {w : World} {B : Nat} {e : TypeId} {size g n c : Nat} {xs : List Value} (h : w.ownsRow B e size (.slice (some ⟨g, 0, none⟩) n c) n xs) {k : Nat} (hk : n * size ≤ k) (u : Value) :
    (w.setCell ⟨g, k, none⟩ u).ownsRow B e size (.slice (some ⟨g, 0, none⟩) n c) n xs := by
  obtain ⟨hl, h⟩ := h
  rcases h with ⟨h, _⟩ | ⟨g', cap, cur, hv, hB, hg, h1, h2, h3, h4⟩
  · cases h
  · simp only [Value.slice.injEq, Option.some.injEq, Addr.mk.injEq, true_and, and_true] at hv
    obtain ⟨rfl, rfl⟩ := hv
    refine ⟨hl, .inr ⟨g, c, cur.setIfInBounds k u, rfl, hB, heap_put hg u, h1, h2, by simpa using h3, ?_⟩⟩
    rw [Array.toList_setIfInBounds, List.take_set_of_le hk, h4]
theorem ownsRow_room {w : World} {B : Nat} {e : TypeId} {size g n c : Nat} {xs : List Value} (h : w.ownsRow B e size (.slice (some ⟨g, 0, none⟩) n c) n xs) : n ≤ c ∧ g < w.heap.size ∧ B ≤ g ∧ ∀ k, k < c * size → (w.cell? ⟨g, k, none⟩).isSome = true ∧ w.frozen? ⟨g, k, none⟩ = false := by
  obtain ⟨hl, h⟩ := h
  rcases h with ⟨h, _⟩ | ⟨g', cap, cur, hv, hB, hg, h1, h2, h3, h4⟩
  · cases h
  · simp only [Value.slice.injEq, Option.some.injEq, Addr.mk.injEq, true_and, and_true] at hv
    obtain ⟨rfl, rfl⟩ := hv
    refine ⟨h1, lt_of_heap hg, hB, fun k hk => ⟨?_, frozen_of_heap hg k⟩⟩
    rw [cell_of_heap hg k, Array.getElem?_eq_getElem (by omega)]; rfl
theorem grownBy_set (w : World) (g k : Nat) (u : Value) : w.grownBy (w.setCell ⟨g, k, none⟩ u) (some g) :=
  ⟨rfl, rfl, rfl, by simp, fun b _ hne => Below.heap_setCell w ⟨g, k, none⟩ u b (fun e => hne (by rw [e]))⟩

theorem grown_tr {a b c : World} {r : Option Nat} (h : a.grownBy b r) (k : b.grownBy c r) : a.grownBy c r :=
  ⟨k.os.trans h.os, k.tape.trans h.tape, k.output.trans h.output, Nat.le_trans h.size k.size, fun x hx hne => (k.block x (Nat.lt_of_lt_of_le hx h.size) hne).trans (h.block x hx hne)⟩

set_option maxHeartbeats 2000000 in
theorem Delete1_any (B g q c i : Nat) (xs : List Value) (w : World) (hown : w.ownsRow B 61 2 (.slice (some ⟨g, 0, none⟩) (q + 1) c) (q + 1) xs) (hi : i ≤ q) (h1 : ∀ u ∈ xs, u.oneCell' = true) (hn : q + 1 ≤ 4194304) (hcm : c ≤ 9223372036854775807) :
    Calls Tryd.prog 64 #[.slice (some ⟨g, 0, none⟩) (q + 1) c, .int .i64 (i : Int), .int .i64 ((i : Int) + 1)] w fun e w' => e = .returned (.slice (some ⟨g, 0, none⟩) q c) ∧ w.grownBy w' (some g) ∧
      w'.ownsRow B 61 2 (.slice (some ⟨g, 0, none⟩) q c) q (xs.take (i * 2) ++ xs.drop ((i + 1) * 2)) := by
  obtain ⟨hc, -, -, -⟩ := ownsRow_room hown
  have HL := Lib.hid hown.1
  have O1 := Lib.hid (ownsRow_cut (w := w.drew) hown (k := i) (by omega))
  have H1 := Lib.hid h1
  have HC := Lib.hid (fun j hj => World.ownsRow.cellAt hown j hj)
  have i0 : (0 : Int) ≤ (i : Int) := by omega
  have i1 : (i : Int) ≤ (i : Int) + 1 := by omega
  have i2 : (i : Int) + 1 ≤ (q : Int) + 1 := by omega
  have i3 : (q : Int) + 1 ≤ (c : Int) := by omega
  have i4 : (i : Int) + 1 ≤ (c : Int) := by omega
  have i5 : (i : Int) ≤ (c : Int) := by omega
  have i6 : (0 : Int) ≤ (i : Int) + 1 := by omega
  have i7 : ((i : Int) + 1).toNat = i + 1 := by omega
  have ne : ((i : Int) == (i : Int) + 1) = false := beq_eq_false_iff_ne.2 (by omega)
  clear h1 hown
  by_cases hc1 : c = i + 1
  · obtain rfl : i = q := by omega
    subst hc1
    have HNW := Lib.hid (show ∀ (ad : Addr) j u, (xs.drop ((i + 1) * 2))[j]? = some u → True → w.cell? (ad.add j) = some u from fun ad j u hj _ => by
      rw [List.drop_eq_nil_of_le (by have := HL.out; omega)] at hj
      simp at hj)
    go_enter Tryd.func64, Tryd.ntmps64
    go_wp2_with fail
    refine wp_region_held_drew (S := fun _ => True) (by kernel_rfl) trivial (fun hHeld => ?_)
    refine takeH (i := 0) (d := some 20) (v := ?_) rfl rfl (by kernel_rfl) (by kernel_rfl) (by kernel_rfl) (fun _ _ _ h => h) (by rfl) ?_ (by assumption) ?_
    rotate_left
    · intro w hSw; (try dsimp only at hSw); (try go_simp); (try with_reducible rfl)
    try simp only [Act.put, List.setIfInBounds_toArray, List.set_cons_zero, List.set_cons_succ]
    refine takeH (i := 1) (d := some 21) (v := ?_) rfl rfl (by kernel_rfl) (by kernel_rfl) (by kernel_rfl) (fun _ _ _ h => h) (by rfl) ?_ (by assumption) ?_
    rotate_left
    · intro w hSw; (try dsimp only at hSw); (try go_simp); (try with_reducible rfl)
    try simp only [Act.put, List.setIfInBounds_toArray, List.set_cons_zero, List.set_cons_succ]
    refine takeH (i := 2) (d := some 22) (v := ?_) rfl rfl (by kernel_rfl) (by kernel_rfl) (by kernel_rfl) (fun _ _ _ h => h) (by rfl) ?_ (by assumption) ?_
    rotate_left
    · intro w hSw; (try dsimp only at hSw); (try go_simp); (try with_reducible rfl)
    try simp only [Act.put, List.setIfInBounds_toArray, List.set_cons_zero, List.set_cons_succ]
    refine takeH (i := 3) (d := some 23) (v := ?_) rfl rfl (by kernel_rfl) (by kernel_rfl) (by kernel_rfl) (fun _ _ _ h => h) (by rfl) ?_ (by assumption) ?_
    rotate_left
    · intro w hSw; (try dsimp only at hSw); (try go_simp); (try with_reducible rfl)
    try simp only [Act.put, List.setIfInBounds_toArray, List.set_cons_zero, List.set_cons_succ]
    refine takeH (i := 4) (d := some 24) (v := ?_) rfl rfl (by kernel_rfl) (by kernel_rfl) (by kernel_rfl) (fun _ _ _ h => h) (by rfl) ?_ (by assumption) ?_
    rotate_left
    · intro w hSw; (try dsimp only at hSw); (try go_simp); (try with_reducible rfl)
    try simp only [Act.put, List.setIfInBounds_toArray, List.set_cons_zero, List.set_cons_succ]
    refine takeH (i := 5) (d := some 25) (v := ?_) rfl rfl (by kernel_rfl) (by kernel_rfl) (by kernel_rfl) (fun _ _ _ h => h) (by rfl) ?_ (by assumption) ?_
    rotate_left
    · intro w hSw; (try dsimp only at hSw); (try go_simp); (try with_reducible rfl)
    try simp only [Act.put, List.setIfInBounds_toArray, List.set_cons_zero, List.set_cons_succ]
    refine oneH (i := 6) (by kernel_rfl) rfl (by rfl) (fun K hK => ?_)
    refine wp_fits_tasks _ _ rfl B g i i (i + 1) (xs.take (i * 2)) rfl O1.out _ _ _ (xs.drop ((i + 1) * 2)) rfl (by have := HL.out; simp; omega) (fun j u hj => HNW.out _ j u hj trivial) (fun u hu => H1.out u (List.mem_of_mem_drop hu)) (by omega) (by omega) ?_; intro w5 hown hg; have O5 := Lib.hid hown; have G5 := Lib.hid hg; clear hown hg
    try dsimp only
    refine hK.out _ _ (trivial) (fun hHeld => ?_)
    clear hK K
    try simp only [Act.put, List.setIfInBounds_toArray]
    refine takeH (i := 7) (d := some 0) (v := ?_) rfl rfl (by kernel_rfl) (by kernel_rfl) (by kernel_rfl) (fun _ _ _ h => h) (by rfl) ?_ (by assumption) ?_
    rotate_left
    · intro w hSw; (try dsimp only at hSw); (try go_simp); (try with_reducible rfl)
    try simp only [Act.put]
    refine wpAnyH_done (by kernel_rfl) ?_ _
    clear hHeld
    obtain ⟨-, -, -, hc5⟩ := ownsRow_room O5.out
    have hclr := fun ty => run_clear_task w5 ty g (i * 2) 1 (fun j hj => (hc5 (i * 2 + j) (by omega)).1) (fun j hj => (hc5 (i * 2 + j) (by omega)).2)
    have q0 : (0 : Int) ≤ (i : Int) := by omega
    have q1 : (i : Int) ≤ (i : Int) + 1 := by omega
    have q2 : (i : Int) + 1 ≤ ((i + 1 : Nat) : Int) := by omega
    have q3 : ¬ i + 1 = i := by omega
    clear hc5
    go_wp2_with fail
    go_ret
    exact ⟨rfl, grown_tr ⟨G5.out.os, G5.out.tape, G5.out.output, G5.out.size, G5.out.block⟩ (grown_tr (grownBy_set w5 g (i * 2) (.int .i64 0)) (grownBy_set _ g (i * 2 + 1) (.slice none 0 0))), ownsRow_far (ownsRow_far O5.out (Nat.le_refl _) _) (by omega) _⟩
  · have HNW := Lib.hid (show ∀ (ad : Addr) j u, (xs.drop ((i + 1) * 2))[j]? = some u → ad = ⟨g, (i + 1) * 2, none⟩ → w.cell? (ad.add j) = some u from fun ad j u hj e => by
      subst e
      rw [List.getElem?_drop] at hj
      have hlt : (i + 1) * 2 + j < xs.length := by
        rcases Nat.lt_or_ge ((i + 1) * 2 + j) xs.length with h | h
        · exact h
        · simp [List.getElem?_eq_none h] at hj
      rw [Addr.add_lit, HC.out _ (by have := HL.out; omega)]
      exact hj)
    go_enter Tryd.func64, Tryd.ntmps64
    go_wp2_with fail
    refine wp_region_held_drew (S := fun _ => True) (by kernel_rfl) trivial (fun hHeld => ?_)
    refine takeH (i := 0) (d := some 20) (v := ?_) rfl rfl (by kernel_rfl) (by kernel_rfl) (by kernel_rfl) (fun _ _ _ h => h) (by rfl) ?_ (by assumption) ?_
    rotate_left
    · intro w hSw; (try dsimp only at hSw); (try go_simp); (try with_reducible rfl)
    try simp only [Act.put, List.setIfInBounds_toArray, List.set_cons_zero, List.set_cons_succ]
    refine takeH (i := 1) (d := some 21) (v := ?_) rfl rfl (by kernel_rfl) (by kernel_rfl) (by kernel_rfl) (fun _ _ _ h => h) (by rfl) ?_ (by assumption) ?_
    rotate_left
    · intro w hSw; (try dsimp only at hSw); (try go_simp); (try with_reducible rfl)
    try simp only [Act.put, List.setIfInBounds_toArray, List.set_cons_zero, List.set_cons_succ]
    refine takeH (i := 2) (d := some 22) (v := ?_) rfl rfl (by kernel_rfl) (by kernel_rfl) (by kernel_rfl) (fun _ _ _ h => h) (by rfl) ?_ (by assumption) ?_
    rotate_left
    · intro w hSw; (try dsimp only at hSw); (try go_simp); (try with_reducible rfl)
    try simp only [Act.put, List.setIfInBounds_toArray, List.set_cons_zero, List.set_cons_succ]
    refine takeH (i := 3) (d := some 23) (v := ?_) rfl rfl (by kernel_rfl) (by kernel_rfl) (by kernel_rfl) (fun _ _ _ h => h) (by rfl) ?_ (by assumption) ?_
    rotate_left
    · intro w hSw; (try dsimp only at hSw); (try go_simp); (try with_reducible rfl)
    try simp only [Act.put, List.setIfInBounds_toArray, List.set_cons_zero, List.set_cons_succ]
    refine takeH (i := 4) (d := some 24) (v := ?_) rfl rfl (by kernel_rfl) (by kernel_rfl) (by kernel_rfl) (fun _ _ _ h => h) (by rfl) ?_ (by assumption) ?_
    rotate_left
    · intro w hSw; (try dsimp only at hSw); (try go_simp); (try with_reducible rfl)
    try simp only [Act.put, List.setIfInBounds_toArray, List.set_cons_zero, List.set_cons_succ]
    refine takeH (i := 5) (d := some 25) (v := ?_) rfl rfl (by kernel_rfl) (by kernel_rfl) (by kernel_rfl) (fun _ _ _ h => h) (by rfl) ?_ (by assumption) ?_
    rotate_left
    · intro w hSw; (try dsimp only at hSw); (try go_simp); (try with_reducible rfl)
    try simp only [Act.put, List.setIfInBounds_toArray, List.set_cons_zero, List.set_cons_succ]
    refine oneH (i := 6) (by kernel_rfl) rfl (by rfl) (fun K hK => ?_)
    refine wp_fits_tasks _ _ rfl B g i q c (xs.take (i * 2)) rfl O1.out _ _ _ (xs.drop ((i + 1) * 2)) rfl (by have := HL.out; simp; omega) (fun j u hj => HNW.out _ j u hj (by first | rfl | (simp [Addr.add]))) (fun u hu => H1.out u (List.mem_of_mem_drop hu)) (by omega) (by omega) ?_; intro w5 hown hg; have O5 := Lib.hid hown; have G5 := Lib.hid hg; clear hown hg
    try dsimp only
    refine hK.out _ _ (trivial) (fun hHeld => ?_)
    clear hK K
    try simp only [Act.put, List.setIfInBounds_toArray]
    refine takeH (i := 7) (d := some 0) (v := ?_) rfl rfl (by kernel_rfl) (by kernel_rfl) (by kernel_rfl) (fun _ _ _ h => h) (by rfl) ?_ (by assumption) ?_
    rotate_left
    · intro w hSw; (try dsimp only at hSw); (try go_simp); (try with_reducible rfl)
    try simp only [Act.put]
    refine wpAnyH_done (by kernel_rfl) ?_ _
    clear hHeld
    obtain ⟨-, -, -, hc5⟩ := ownsRow_room O5.out
    have hclr := fun ty => run_clear_task w5 ty g (q * 2) (c - q) (fun j hj => (hc5 (q * 2 + j) (by omega)).1) (fun j hj => (hc5 (q * 2 + j) (by omega)).2)
    have q0 : (0 : Int) ≤ (q : Int) := by omega
    have q1 : (q : Int) ≤ (q : Int) + 1 := by omega
    have q2 : (q : Int) + 1 ≤ (c : Int) := by omega
    have q3 : ¬ c = q := by omega
    clear hc5
    go_wp2_with fail
    go_ret
    exact ⟨rfl, grown_tr ⟨G5.out.os, G5.out.tape, G5.out.output, G5.out.size, G5.out.block⟩ (grown_tr (grownBy_set w5 g (q * 2) (.int .i64 0)) (grownBy_set _ g (q * 2 + 1) (.slice none 0 0))), ownsRow_far (ownsRow_far O5.out (Nat.le_refl _) _) (by omega) _⟩
end Go.Proofs.YtjdhiabdcmindaaDoor
