/- The plan, the reference; two lists of moves compared; a plan's question drawn. No condition. -/
import Derived.Test.YtjdhiabdcmindaaGp
import Derived.Test.YtjdhiabdcmindaaTk
import Derived.Test.YtjdhiabdcmindaaPuc
namespace Go.Proofs.Ytjdhiabdcmindaa
set_option maxRecDepth 100000
open Go.RowKit

section
variable {w : World} {ops : Array Oper} {rest : List Oper} {o : Oper} {a : Act} {Q : Exit → Act → World → Prop}
theorem app2_mvs (hgd : o.guard = none) (s x : Operand) (ho : o.op = .call { callee := .builtin .append, args := #[s, x], argTypes := #[32, 32] }) (B : Nat) (v : Value) (ps : List Pr) (hs : a.eval s = v) (hown : OwnTwos 28 w B v ps) (hB : B ≤ w.heap.size)
    (src : Option Addr) (m c : Nat) (qs : List Pr) (hx : a.eval x = .slice src m c) (hsrc : Twos 28 w (.slice src m c) qs) (hl : ps.length + qs.length ≤ lim)
    (h : ∀ v' w', OwnTwos 28 w' B v' (ps ++ qs) → w.grownBy w' v.ownBlock → wpList Try.prog ops Q rest (a.put o.dst v') w') : wpList Try.prog ops Q (o :: rest) a w := by
  obtain ⟨hql, a', c', hv, hr⟩ := hsrc
  simp only [Value.slice.injEq] at hv
  obtain ⟨rfl, rfl, rfl⟩ := hv
  unfold lim at hl
  have hx2 := cellsP_len qs
  obtain ⟨v', w', hrn, h2, h3, h4⟩ := run_app2 elt_move o.type w B v ps.length (cellsP ps) hown hB src qs.length c (cellsP qs) (by omega) _ hr (cellsP_one qs) (by omega) (by unfold maxLen; omega)
  refine wpList_plain hgd fun _ hK => ?_
  unfold Oper.wp execOp
  simp only [ho, resolve, invoke, builtin, Sem.run_bind, Sem.run_pure, Result.andThen_ok, List.map_toArray, List.map_cons, List.map_nil, hs, hx, hrn]
  exact hK _ _ (h v' w' (by unfold OwnTwos; rw [cellsP_app, List.length_append]; exact h2) h3)
end
theorem Move.lit1' (w : World) (x y : Int) (c n : Nat) (e : TypeId) (hn : n = w.heap.size) : Twos e (w.alloc (.cells #[.int .i64 x, .int .i64 y] e)) (.slice (some ⟨n, 0, none⟩) 1 c) [⟨x, y⟩] := by subst hn; exact Move.lit1 w x y c e

end Go.Proofs.Ytjdhiabdcmindaa
