/- The program's copies of tasks; where a task is; which nodes are empty. -/
import Derived.Test.YtfidamjepjgknaaI4
import Derived.Test.YtfidamjepjgknaaOwn
import Derived.Test.YtfidamjepjgknaaP1
import Derived.Deep.RegionHeld3
namespace Go.Proofs.Ytfidamjepjgknaa
set_option maxRecDepth 100000
open Go.RowKit

theorem NeedS.of_own {w : World} {B : Nat} {v : Value} {xs : List Int} (h : OwnInts w B v xs) (h0 : 0 < xs.length) : ∃ g, NeedS w B g v xs := by
  obtain ⟨hl, h1⟩ := h
  rcases h1 with ⟨rfl, hn⟩ | ⟨g, cap, cur, rfl, r⟩
  · omega
  · exact ⟨g, ⟨cap, rfl⟩, hl, .inr ⟨g, cap, cur, rfl, r⟩⟩

section
variable {w : World} {ops : Array Oper} {rest : List Oper} {o : Oper} {a : Act} {Q : Exit → Act → World → Prop} {K : Act → World → Prop}

/-- One task more, its need in a new block. -/
theorem TasksS.snoc {w0 w w' : World} {L g : Nat} {v' : Value} {xs : List Value} {ts : List T} {nb : Nat → Nat} {t : T} {n : Value} (hc : CellsS w0 L xs ts nb ts.length) (hx : xs.length = ts.length * 2) (hE : Ext w0 w) (hL : L ≤ w0.heap.size) (hk : KT 37 w w')
    (hn : NeedS w w0.heap.size g n t.need) (ho : w'.ownsRow L 37 2 v' (ts.length + 1) (xs ++ [.int .i64 t.id, n])) : TasksS w' L v' (ts ++ [t]) := by
  refine ⟨_, fun k => if k = ts.length then g else nb k, by simpa using ho, fun k h hm => ?_, fun i j hij hj hjm => ?_⟩
  · simp only [List.length_append, List.length_singleton] at h
    dsimp only
    by_cases e : k = ts.length
    · subst e
      rw [List.getElem?_append_right (by omega), List.getElem?_append_right (by omega), hx, Nat.sub_self, show ts.length * 2 + 1 - ts.length * 2 = 1 by omega, List.getElem_append_right (Nat.le_refl _), if_pos rfl]
      simp only [Nat.sub_self, List.getElem_cons_zero]
      exact ⟨rfl, n, rfl, (hn.base hL).kt hk (by decide)⟩
    · obtain ⟨c0, n', c1, hn'⟩ := hc.1 k (by omega) (by omega)
      rw [List.getElem?_append_left (by omega), List.getElem?_append_left (by omega), List.getElem_append_left (by omega), if_neg e]
      exact ⟨c0, n', c1, (hn'.ext hE).kt hk (by decide)⟩
  · simp only [List.length_append, List.length_singleton] at hj
    dsimp only
    rw [if_neg (by omega : ¬ i = ts.length)]
    by_cases e : j = ts.length
    · rw [if_pos e]
      obtain ⟨_, n', _, hn'⟩ := hc.1 i (by omega) (by omega)
      have := hn'.lt
      have := hn.lt
      omega
    · rw [if_neg e]
      exact hc.2 i j hij (by omega) (by omega)
theorem app_copy (hgd : o.guard = none) (s x : Operand) (ho : o.op = .call { callee := .builtin .append, args := #[s, x], argTypes := #[29, 29] }) (L : Nat) (v : Value) (ts : List T) (hs : a.eval s = v) {w0 : World} (hts : TasksS w0 L v ts) (hE : Ext w0 w) (hL : L ≤ w0.heap.size)
    (src : Option Addr) (c : Nat) (t : T) (n : Value) (g : Nat) (hx : a.eval x = .slice src 1 c) (hrow : Row w 37 src [.int .i64 t.id, n]) (hn : NeedS w w0.heap.size g n t.need) (hl : ts.length + 1 ≤ lim)
    (h : ∀ v' w', TasksS w' L v' (ts ++ [t]) → KT 37 w w' → Below L w w' → wpList Try.prog ops Q rest (a.put o.dst v') w') : wpList Try.prog ops Q (o :: rest) a w := by
  obtain ⟨xs, nb, h1, h2⟩ := hts
  have hone : ∀ u ∈ [Value.int .i64 t.id, n], u.oneCell' = true := by
    obtain ⟨⟨c, rfl⟩, _⟩ := hn
    intro u hu
    simp at hu
    rcases hu with rfl | rfl <;> rfl
  unfold lim at hl
  exact wpList_plain hgd fun _ hK => wp_app elt_task s x ho L v ts.length xs hs (ownsRow_ext h1 hE) (Nat.le_trans hL hE.le) src 1 c [.int .i64 t.id, n] hx rfl _ hrow hone (by omega) (by unfold maxLen; omega)
    (fun v' w' k1 k2 k3 => hK _ _ (h v' w' (TasksS.snoc h2 h1.1 hE hL k2 hn k1) k2 k3))
end
theorem TasksS.form {w : World} {L : Nat} {v : Value} {ts : List T} (h : TasksS w L v ts) : ∃ a c, v = .slice a ts.length c := by
  obtain ⟨xs, nb, ⟨_, h1⟩, _⟩ := h
  rcases h1 with ⟨rfl, hn⟩ | ⟨g, cap, cur, rfl, _⟩
  · exact ⟨none, 0, by rw [hn]⟩
  · exact ⟨_, cap, rfl⟩
theorem TasksS.nil (w : World) (L : Nat) : TasksS w L (.slice none 0 0) [] := ⟨[], fun _ => 0, World.ownsRow_nil _ _ _ _, fun k h _ => by simp at h, fun _ _ _ h _ => by simp at h⟩

/-- All tasks of the nodes, if the nodes are valid. -/
def binsTasksL (room : List Int) (bs : List (List T)) : List T := if binsB room bs = true then bs.flatten else []
theorem BinsOk.three {room : List Int} {bs : List (List T)} (h : BinsOk room bs) : ∀ t ∈ bs.flatten, t.need.length = 3 := fun t ht => (h.1.good t ht).1

end Go.Proofs.Ytfidamjepjgknaa
