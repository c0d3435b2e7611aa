/- The reference's drawing of a room and tasks; of a room, nodes and a task. No condition. -/
import Derived.Test.YtfidamjepjgknaaDoorDr8
namespace Go.Proofs.YtfidamjepjgknaaDoor
set_option maxRecDepth 100000
open Go.RowKit

/-- A drawn room with tasks. -/
def DrawnTasks (w : World) (vr vb : Value) (room : List Int) (ts : List T) : Prop := Ints w vr room ∧ Tasks w vb ts ∧ DnT ts ∧ ts.length ≤ 20 ∧ ∃ a c, vb = .slice a ts.length c ∧ ts.length ≤ c
theorem OwnTasks.formc {w : World} {B : Nat} {v : Value} {ts : List T} (h : OwnTasks w B v ts) : ∃ a c, v = .slice a ts.length c ∧ ts.length ≤ c := by
  obtain ⟨xs, ⟨_, h1⟩, _⟩ := h
  rcases h1 with ⟨rfl, hn⟩ | ⟨g, cap, cur, rfl, _, _, r, _⟩
  · exact ⟨none, 0, by rw [hn], by omega⟩
  · exact ⟨_, _, rfl, r⟩
/-- The first tasks of a slice. -/
theorem Tasks.take {w : World} {a : Option Addr} {c : Nat} {ts : List T} (h : Tasks w (.slice a ts.length c) ts) {q : Nat} (hq : q ≤ ts.length) : Tasks w (.slice a q c) (ts.take q) := by
  obtain ⟨hl, a', c', xs, hv, hr, hx⟩ := h
  cases hv
  refine ⟨by simp; omega, _, _, xs.take (q * 2), by rw [List.length_take, Nat.min_eq_left hq], hr.prefix _, ?_⟩
  have := hx.sub (l := 0) (n := q) (by omega)
  simpa using this
/-- One task of a slice, as a slice. -/
theorem Tasks.one {w : World} {b off n c : Nat} {ts : List T} (h : Tasks w (.slice (some ⟨b, off, none⟩) n c) ts) {k : Nat} (hk : k < ts.length) (c' : Nat) : Tasks w (.slice (some ⟨b, off + k * 2, none⟩) 1 c') [ts[k]] := by
  obtain ⟨hl, a', c'', xs, hv, hr, hx⟩ := h
  cases hv
  have h3 := hx.1
  refine ⟨by simp [lim], _, _, ((xs.drop (k * 2)).take (1 * 2)), rfl, ?_, ?_⟩
  · have := hr.sub (l := k * 2) (n := 1 * 2) (by omega) (by omega)
    simpa [Addr.add_lit] using this
  · have := hx.sub (l := k) (n := 1) (by omega)
    have e : (ts.drop k).take 1 = [ts[k]] := by rw [List.drop_eq_getElem_cons hk]; rfl
    rw [e] at this
    exact this
theorem DrawnTasks.ext {w w' : World} {vr vb : Value} {room : List Int} {ts : List T} (h : DrawnTasks w vr vb room ts) (k : Ext w w') : DrawnTasks w' vr vb room ts := ⟨h.1.ext k, h.2.1.ext k, h.2.2⟩

end Go.Proofs.YtfidamjepjgknaaDoor
