/- The plan, the program. No condition. -/
import Derived.Test.YtjdhiabdcmindaaPl
import Derived.Test.YtjdhiabdcmindaaMv3
import Derived.Test.YtjdhiabdcmindaaDr14
namespace Go.Proofs.Ytjdhiabdcmindaa
set_option maxRecDepth 100000
open Go.RowKit

theorem Ints.km {w w' : World} {v : Value} {xs : List Int} (h : Ints w v xs) (k : KM w w') : Ints w' v xs := by
  obtain ⟨hl, a, cap, hv, hr⟩ := h
  refine ⟨hl, a, cap, hv, ?_⟩
  rcases hr with h | ⟨b, off, cs, ha, hb, hc⟩
  · exact .inl h
  · exact .inr ⟨b, off, cs, ha, (k.2 _ _ _ _ hb (by decide) (by decide)).trans hb, hc⟩
theorem Move.lit1 (w : World) (x y : Int) (c : Nat) (e : TypeId) : Twos e (w.alloc (.cells #[.int .i64 x, .int .i64 y] e)) (.slice (some ⟨w.heap.size, 0, none⟩) 1 c) [⟨x, y⟩] :=
  ⟨by unfold lim; simp, _, c, rfl, Row.lit w #[.int .i64 x, .int .i64 y] e⟩
section
variable {w : World} {ops : Array Oper} {rest : List Oper} {o : Oper} {a : Act} {Q : Exit → Act → World → Prop}
theorem app_mvs (hgd : o.guard = none) (s x : Operand) (ho : o.op = .call { callee := .builtin .append, args := #[s, x], argTypes := #[32, 32] }) (B : Nat) (v : Value) (ps : List Pr) (hs : a.eval s = v) (hown : OwnTwos 28 w B v ps) (hB : B ≤ w.heap.size)
    (src : Option Addr) (m c : Nat) (qs : List Pr) (hx : a.eval x = .slice src m c) (hsrc : Twos 28 w (.slice src m c) qs) (hl : ps.length + qs.length ≤ lim)
    (h : ∀ v' w', OwnTwos 28 w' B v' (ps ++ qs) → KT 28 w w' → Below B w w' → wpList Try.prog ops Q rest (a.put o.dst v') w') : wpList Try.prog ops Q (o :: rest) a w := by
  obtain ⟨hql, a', c', hv, hr⟩ := hsrc
  simp only [Value.slice.injEq] at hv
  obtain ⟨rfl, rfl, rfl⟩ := hv
  unfold lim at hl
  have hx2 := cellsP_len qs
  exact wpList_plain hgd fun _ hK => wp_app elt_move s x ho B v ps.length (cellsP ps) hs hown hB src qs.length c (cellsP qs) hx (by omega) _ hr (cellsP_one qs) (by omega) (by unfold maxLen; omega)
    (fun v' w' h1 h2 h3 => hK _ _ (h v' w' (by unfold OwnTwos; rw [cellsP_app, List.length_append]; exact h1) h2 h3))
end
theorem plan_step {room : List Int} {m : Nat} {cur : List (List T)} {id : Int} {tt : Nat} {cur' : List (List T)} (hm : 0 < m) (h : nextO room cur = some (id, tt)) (hs : stepL cur id tt = cur') : planL room m cur = ⟨id, (tt : Int)⟩ :: planL room (m - 1) cur' := by
  obtain ⟨n, rfl⟩ : ∃ n, m = n + 1 := ⟨m - 1, by omega⟩
  rw [planL, h, ← hs]
  rfl
theorem plan_stop {room : List Int} {m : Nat} {cur : List (List T)} (h : nextO room cur = none) : planL room m cur = [] := by
  cases m with
  | zero => rfl
  | succ n => rw [planL, h]

theorem gplan_no {room : List Int} {bs : List (List T)} {most : Int} (h : (binsB room bs && inB most 0 20) = false) : gplanL room bs most = [] := by unfold gplanL; rw [h]; rfl
theorem gplan_yes {room : List Int} {bs : List (List T)} {n : Nat} (h : binsB room bs = true) (hn : n ≤ 20) : gplanL room bs (n : Int) = planL room n bs := by
  unfold gplanL
  rw [h, inB_true (by omega) (by omega)]
  rfl
theorem OwnTwos.formc' {e : TypeId} {w : World} {B : Nat} {v : Value} {ps : List Pr} (h : OwnTwos e w B v ps) : ∃ a c, v = .slice a ps.length c ∧ ps.length ≤ c := by
  obtain ⟨_, h1⟩ := h
  rcases h1 with ⟨rfl, hn⟩ | ⟨g, cap, cur, rfl, _, _, r, _⟩
  · exact ⟨none, 0, by rw [hn], by omega⟩
  · exact ⟨_, _, rfl, r⟩
theorem OwnTwos.none0 (e : TypeId) (w : World) : OwnTwos e w 0 (.slice none 0 0) [] := World.ownsRow_nil _ _ _ _

end Go.Proofs.Ytjdhiabdcmindaa
