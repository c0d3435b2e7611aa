/- A node of a row of nodes is written anew; the first nodes of a slice. No condition. -/
import Derived.Test.YtfidamjepjgknaaOwn
namespace Go.Proofs.Ytfidamjepjgknaa
set_option maxRecDepth 100000
open Go.RowKit

theorem OwnBins.form {w : World} {B : Nat} {v : Value} {bs : List (List T)} (h : OwnBins w B v bs) : ∃ a c, v = .slice a bs.length c := by
  obtain ⟨xs, ⟨_, h1⟩, _⟩ := h
  rcases h1 with ⟨rfl, hn⟩ | ⟨g, cap, cur, rfl, _⟩
  · exact ⟨none, 0, by rw [hn]⟩
  · exact ⟨_, cap, rfl⟩
theorem OwnBins.at {w : World} {B n c k : Nat} {a : Option Addr} {bs : List (List T)} (h : OwnBins w B (.slice a n c) bs) (hk : k < bs.length) :
    ∃ g u, a = some ⟨g, 0, none⟩ ∧ n = bs.length ∧ B ≤ g ∧ w.cell? ⟨g, k, none⟩ = some u ∧ w.frozen? ⟨g, k, none⟩ = false := by
  obtain ⟨xs, h1, h2⟩ := h
  have hx := h1.1
  obtain ⟨g, rfl, rfl, hB, _, hc, ho⟩ := ownsRow_at h1 (by omega)
  exact ⟨g, xs[k]'(by omega), rfl, rfl, hB, by rw [hc k (by omega), List.getElem?_eq_getElem], (ownsRow_put ho (k := k) (by omega) (.bool true)).2.2.2⟩
theorem OwnBins.put {w : World} {B g n c k : Nat} {bs : List (List T)} (h : OwnBins w B (.slice (some ⟨g, 0, none⟩) n c) bs) (hk : k < bs.length) {nd : Value} {ts : List T} (hn : Tasks w nd ts) (hl : bs.length ≤ lim) :
    Bins (w.setCell ⟨g, k, none⟩ nd) (.slice (some ⟨g, 0, none⟩) n c) (bs.set k ts) ∧ Below B w (w.setCell ⟨g, k, none⟩ nd) := by
  obtain ⟨xs, h1, h2⟩ := h
  have hx := h1.1
  obtain ⟨g', hga, hnn, hB, hlt, hc, ho⟩ := ownsRow_at h1 (by omega)
  simp only [Option.some.injEq, Addr.mk.injEq, and_true] at hga
  subst hga hnn
  obtain ⟨p1, p2, p3, p4⟩ := ownsRow_put ho (k := k) (by omega) nd
  refine ⟨Bins.of_own (xs := xs.set k nd) (by simpa using p1) ⟨by simpa using h2.1, fun j hj => ?_⟩ (by simpa using hl), p3⟩
  simp only [List.length_set] at hj
  by_cases e : k = j
  · subst e
    exact ⟨nd, by rw [List.getElem?_set_self (by omega)], by rw [List.getElem_set_self]; exact hn.kt p2 (by decide) (by decide)⟩
  · obtain ⟨m, hm, hom⟩ := h2.2 j hj
    exact ⟨m, by rw [List.getElem?_set_ne e, hm], by rw [List.getElem_set_ne e]; exact hom.kt p2 (by decide) (by decide)⟩
theorem Bins.take {w : World} {a : Option Addr} {c : Nat} {bs : List (List T)} (h : Bins w (.slice a bs.length c) bs) {q : Nat} (hq : q ≤ bs.length) : Bins w (.slice a q c) (bs.take q) := by
  obtain ⟨hl, a', c', xs, hv, hr, hx⟩ := h
  cases hv
  refine ⟨by simp; omega, _, _, xs.take q, by rw [List.length_take, Nat.min_eq_left hq], hr.prefix _, ⟨by simp [hx.1], fun k hk => ?_⟩⟩
  simp only [List.length_take] at hk
  obtain ⟨n, hn, ht⟩ := hx.2 k (by omega)
  exact ⟨n, by rw [List.getElem?_take_of_lt (by omega), hn], by rw [List.getElem_take]; exact ht⟩

end Go.Proofs.Ytfidamjepjgknaa
