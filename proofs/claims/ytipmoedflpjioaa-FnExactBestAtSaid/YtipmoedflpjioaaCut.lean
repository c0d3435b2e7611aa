/- A part of a slice of tasks, of nodes: what 'x[l:h]' leaves. No condition. -/
import Derived.Test.YtipmoedflpjioaaNest
import Derived.Test.YtipmoedflpjioaaOwn2
namespace Go.Proofs.Ytipmoedflpjioaa
set_option maxRecDepth 100000
open Go.RowKit

theorem Row.sub {w : World} {e : TypeId} {a : Option Addr} {xs : List Value} (h : Row w e a xs) {l n : Nat} (hl : l + n ≤ xs.length) (hn : 0 < n) : Row w e (a.map (·.add l)) ((xs.drop l).take n) := by
  rcases h with h | ⟨b, off, cs, rfl, hb, hc⟩
  · subst h; simp at hl; omega
  · refine .inr ⟨b, off + l, cs, by simp only [Option.map_some, Addr.add]; split <;> simp_all, hb, fun k hk => ?_⟩
    simp at hk
    rw [List.getElem?_take_of_lt (by omega), List.getElem?_drop, ← hc (l + k) (by omega), Nat.add_assoc]
theorem TaskCells.sub {w : World} {xs : List Value} {ts : List T} (h : TaskCells w xs ts) {l n : Nat} (hl : l + n ≤ ts.length) : TaskCells w ((xs.drop (l * 2)).take (n * 2)) ((ts.drop l).take n) := by
  have h1 := h.1
  refine ⟨by simp; omega, fun k hk => ?_⟩
  have hkn : k < n := by simp at hk; omega
  have e : ((ts.drop l).take n)[k] = ts[l + k]'(by omega) := by simp
  rw [List.getElem?_take_of_lt (by omega), List.getElem?_drop, List.getElem?_take_of_lt (by omega), List.getElem?_drop, e]
  have := h.2 (l + k) (by omega)
  rw [show l * 2 + k * 2 = (l + k) * 2 by omega, show l * 2 + (k * 2 + 1) = (l + k) * 2 + 1 by omega]
  exact this
theorem Tasks.sub {w : World} {a : Option Addr} {c l h : Nat} {ts : List T} (ht : Tasks w (.slice a ts.length c) ts) (h1 : l ≤ h) (h2 : h ≤ ts.length) (hc : ts.length ≤ c) : Tasks w (sliced a l h c 2) ((ts.drop l).take (h - l)) := by
  obtain ⟨hl, a', c', xs, hv, hr, hx⟩ := ht
  cases hv
  have h3 := hx.1
  refine ⟨by simp; omega, _, _, ((xs.drop (l * 2)).take ((h - l) * 2)), by unfold sliced; rw [show ((ts.drop l).take (h - l)).length = h - l by simp; omega], ?_, hx.sub (by omega)⟩
  by_cases e : l = h
  · subst e; exact .inl (by simp)
  · rw [if_neg (by omega)]
    exact hr.sub (by omega) (by omega)
theorem TasksS.formc {w : World} {L : Nat} {v : Value} {ts : List T} (h : TasksS w L v ts) : ∃ a c, v = .slice a ts.length c ∧ ts.length ≤ c := by
  obtain ⟨xs, nb, ⟨_, h1⟩, _⟩ := h
  rcases h1 with ⟨rfl, hn⟩ | ⟨g, cap, cur, rfl, _, _, r, _⟩
  · exact ⟨none, 0, by rw [hn], by omega⟩
  · exact ⟨_, _, rfl, r⟩

end Go.Proofs.Ytipmoedflpjioaa
