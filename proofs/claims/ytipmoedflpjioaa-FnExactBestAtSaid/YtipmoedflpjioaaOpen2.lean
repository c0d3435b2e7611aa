/- Opening the arguments: nodes, a task by value, a number. No condition. -/
import Derived.Test.YtipmoedflpjioaaOpen
import Derived.Test.YtipmoedflpjioaaArg3
import Derived.Lib.SmallJoins
namespace Go.Proofs.Ytipmoedflpjioaa
set_option maxRecDepth 100000
open Go.RowKit Go.ChangeShapes Go.WideShapes Go.Deep

theorem cells_ltasks : Try.prog.cellsOf 41 = 1 := by kernel_rfl

/-- A task by value that came in. -/
def ArgTask (w : World) (v : Value) (t : T) : Prop := ∃ n, v = .agg #[.int .i64 t.id, n] ∧ ArgInts w n t.need
theorem ArgTask.ext {w w' : World} {v : Value} {t : T} (h : ArgTask w v t) (k : Ext w w') : ArgTask w' v t := let ⟨n, hv, hn⟩ := h; ⟨n, hv, hn.ext k⟩

section
variable {H : Type} {enc : TypeId × Value → H} {w : World} {base : Nat} {spare : Nat → Bool} {held : Bool}

theorem argBins_cells {fuel : Nat} {v : Value} {x : DataW H × List MemPlace} (h : DataW.trod enc Try.prog w base spare held fuel 60 [v] = some x) : ∃ bs, ArgBins w v bs := by
  rcases open_slice1 Try.underlying60 cells_ltasks h with ⟨hcs, hx⟩ | ⟨a, len, cap, m, n, V, D, Pl, hcs, _, hl, hm, hmm, hx, hcell⟩
  · simp only [List.cons.injEq, and_true] at hcs
    subst hcs
    exact ⟨[], by simp, none, 0, rfl, fun h => by simp at h⟩
  · simp only [List.cons.injEq, and_true] at hcs
    subst hcs
    have hlm : len ≤ m := by rw [hmm]; split <;> omega
    have each : ∀ i, i < len → ∃ ts, ArgTasks w (V i) ts := fun i hi => argTasks_cells (hcell i (by omega)).2
    obtain ⟨f, hf⟩ := @choose_lt (List T) ⟨[]⟩ len _ each
    refine ⟨(List.range len).map f, by simp; unfold maxLen at hm; omega, some a, cap, by simp, fun h0 => ?_⟩
    have h0' : 0 < len := by simpa using h0
    obtain ⟨b, off, spot⟩ := a
    have hspot : spot = none := by simpa [Addr.add] using World.cell?_spot (hcell 0 (by omega)).1
    subst hspot
    refine ⟨b, off, rfl, fun k hk => ?_⟩
    have hk' : k < len := by simpa using hk
    have g0 := (hcell k (by omega)).1
    rw [Go.WideShapes.add_plain] at g0
    exact ⟨V k, g0, by simpa using hf k hk'⟩

theorem argBins_of {v : Value} {d : DataW H} {p : List MemPlace} (h : DataW.Trod enc Try.prog w base spare held 60 v d p) (hv : ∃ a n c, v = .slice a n c) : ∃ bs, ArgBins w v bs := by
  obtain ⟨a, n, c, rfl⟩ := hv
  obtain ⟨fuel, hf⟩ := h
  exact argBins_cells hf

theorem argTask_of {r : Reach} {b0 : Nat} {v : Value} {d : DataW H} {p : List MemPlace} (hv : Value.okWide Try.prog w r b0 61 v) (h : DataW.Trod enc Try.prog w base spare held 61 v d p) : ∃ t, ArgTask w v t := by
  obtain ⟨v0, v1, y0, y1, n, rfl, -, -, h0, h1⟩ := Joins.open_agg2 Try.underlying61 (by kernel_rfl) cells_ltask hv h
  obtain ⟨q, e0, _, _⟩ := DataW.trod_int Try.underlying3 h0
  obtain ⟨xs, hxs⟩ := argInts_cells h1
  simp only [List.cons.injEq, and_true] at e0
  subst e0
  exact ⟨⟨q, xs⟩, v1, rfl, hxs⟩
end

end Go.Proofs.Ytipmoedflpjioaa
