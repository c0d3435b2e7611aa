/- Opening the arguments: from the form's reading to slices of numbers and of tasks. Opening the arguments: nodes, a task by value, a number. No condition. -/
import Derived.Test.YtjdhiabdcmindaaArg
import Derived.ProofKit
import Derived.Deep.SlicePairs
import Derived.Lib.SmallJoins
namespace Go.Proofs.Ytjdhiabdcmindaa
section
set_option maxRecDepth 100000
open Go.RowKit Go.ChangeShapes Go.WideShapes Go.Deep

theorem cells_int : Try.prog.cellsOf 3 = 1 := by kernel_rfl
theorem cells_ints : Try.prog.cellsOf 23 = 1 := by kernel_rfl
theorem cells_ltask : Try.prog.cellsOf 92 = 2 := by kernel_rfl

section
variable {H : Type} {enc : TypeId × Value → H} {w : World} {base : Nat} {spare : Nat → Bool} {held : Bool}

/-- A slice of numbers, read. -/
theorem argInts_cells {fuel : Nat} {v : Value} {x : DataW H × List MemPlace} (h : DataW.trod enc Try.prog w base spare held fuel 23 [v] = some x) : ∃ xs, ArgInts w v xs := by
  rcases open_ints Try.underlying23 Try.underlying3 cells_int h with ⟨hcs, hx⟩ | ⟨a, len, cap, zs, hcs, _, hl, hm, hz, hx, hcell, hwz⟩
  · simp only [List.cons.injEq, and_true] at hcs
    subst hcs
    exact ⟨[], by simp, none, 0, rfl, fun h => by simp at h⟩
  · simp only [List.cons.injEq, and_true] at hcs
    subst hcs
    have hzl : len ≤ zs.length := by rw [hz]; split <;> omega
    refine ⟨zs.take len, by simp; unfold maxLen at hm; omega, some a, cap, by simp; omega, fun h0 => ?_⟩
    have h0' : 0 < zs.length := by simp at h0; omega
    obtain ⟨b, off, spot⟩ := a
    have hspot : spot = none := by simpa [Addr.add] using World.cell?_spot (hcell 0 h0')
    subst hspot
    refine ⟨b, off, rfl, fun k hk => ?_⟩
    have hk' : k < zs.length := by simp at hk; omega
    have := hcell k hk'
    rw [Go.WideShapes.add_plain] at this
    rw [this]
    simp [List.getD, List.getElem?_eq_getElem hk']

theorem argTasks_cells {fuel : Nat} {v : Value} {x : DataW H × List MemPlace} (h : DataW.trod enc Try.prog w base spare held fuel 61 [v] = some x) : ∃ ts, ArgTasks w v ts := by
  rcases open_slice_pairs Try.underlying61 Try.underlying92 cells_ltask rfl rfl cells_int cells_ints h with ⟨hcs, hx⟩ | ⟨a, len, cap, m, n, V0, V1, D0, D1, P0, P1, hcs, _, hl, hm, hmm, hx, hcell⟩
  · simp only [List.cons.injEq, and_true] at hcs
    subst hcs
    exact ⟨[], by simp, none, 0, rfl, fun h => by simp at h⟩
  · simp only [List.cons.injEq, and_true] at hcs
    subst hcs
    have hlm : len ≤ m := by rw [hmm]; split <;> omega
    have each : ∀ i, i < len → ∃ t : T, V0 i = .int .i64 t.id ∧ ArgInts w (V1 i) t.need := by
      intro i hi
      obtain ⟨_, _, h0, h1⟩ := hcell i (by omega)
      obtain ⟨q, e0, _, _⟩ := DataW.trod_int Try.underlying3 h0
      obtain ⟨xs, hxs⟩ := argInts_cells h1
      simp at e0
      exact ⟨⟨q, xs⟩, e0, hxs⟩
    obtain ⟨f, hf⟩ := @choose_lt T ⟨⟨0, []⟩⟩ len _ each
    refine ⟨(List.range len).map f, by simp; unfold maxLen at hm; omega, some a, cap, by simp, fun h0 => ?_⟩
    have h0' : 0 < m := by simp at h0; omega
    obtain ⟨b, off, spot⟩ := a
    have hspot : spot = none := by simpa [Addr.add] using World.cell?_spot (hcell 0 h0').1
    subst hspot
    refine ⟨b, off, rfl, fun k hk => ?_⟩
    have hk' : k < len := by simpa using hk
    obtain ⟨g0, g1, _, _⟩ := hcell k (by omega)
    rw [Go.WideShapes.add_plain] at g0 g1
    obtain ⟨e0, e1⟩ := hf k hk'
    rw [e0] at g0
    refine ⟨by simpa using g0, V1 k, by rw [Nat.add_assoc]; exact g1, by simpa using e1⟩

theorem argInts_of {v : Value} {d : DataW H} {p : List MemPlace} (h : DataW.Trod enc Try.prog w base spare held 23 v d p) (hv : ∃ a n c, v = .slice a n c) : ∃ xs, ArgInts w v xs := by
  obtain ⟨a, n, c, rfl⟩ := hv
  obtain ⟨fuel, hf⟩ := h
  exact argInts_cells hf
theorem argTasks_of {v : Value} {d : DataW H} {p : List MemPlace} (h : DataW.Trod enc Try.prog w base spare held 61 v d p) (hv : ∃ a n c, v = .slice a n c) : ∃ ts, ArgTasks w v ts := by
  obtain ⟨a, n, c, rfl⟩ := hv
  obtain ⟨fuel, hf⟩ := h
  exact argTasks_cells hf
end
end

section
set_option maxRecDepth 100000
open Go.RowKit Go.ChangeShapes Go.WideShapes Go.Deep

theorem cells_ltasks : Try.prog.cellsOf 61 = 1 := by kernel_rfl

/-- A task by value that came in. -/
def ArgTask (w : World) (v : Value) (t : T) : Prop := ∃ n, v = .agg #[.int .i64 t.id, n] ∧ ArgInts w n t.need
theorem ArgTask.ext {w w' : World} {v : Value} {t : T} (h : ArgTask w v t) (k : Ext w w') : ArgTask w' v t := let ⟨n, hv, hn⟩ := h; ⟨n, hv, hn.ext k⟩

section
variable {H : Type} {enc : TypeId × Value → H} {w : World} {base : Nat} {spare : Nat → Bool} {held : Bool}

theorem argBins_cells {fuel : Nat} {v : Value} {x : DataW H × List MemPlace} (h : DataW.trod enc Try.prog w base spare held fuel 36 [v] = some x) : ∃ bs, ArgBins w v bs := by
  rcases open_slice1 Try.underlying36 cells_ltasks h with ⟨hcs, hx⟩ | ⟨a, len, cap, m, n, V, D, Pl, hcs, _, hl, hm, hmm, hx, hcell⟩
  · simp only [List.cons.injEq, and_true] at hcs
    subst hcs
    exact ⟨[], by simp, none, 0, rfl, fun h => by simp at h⟩
  · simp only [List.cons.injEq, and_true] at hcs
    subst hcs
    have hlm : len ≤ m := by rw [hmm]; split <;> omega
    have each : ∀ i, i < len → ∃ ts, ArgTasks w (V i) ts := fun i hi => argTasks_cells (hcell i (by omega)).2
    obtain ⟨f, hf⟩ := @choose_lt (List T) ⟨[]⟩ len _ each
    refine ⟨(List.range len).map f, by simp; unfold maxLen at hm; omega, some a, cap, by simp, fun h0 => ?_⟩
    have h0' : 0 < len := by simpa using h0
    obtain ⟨b, off, spot⟩ := a
    have hspot : spot = none := by simpa [Addr.add] using World.cell?_spot (hcell 0 (by omega)).1
    subst hspot
    refine ⟨b, off, rfl, fun k hk => ?_⟩
    have hk' : k < len := by simpa using hk
    have g0 := (hcell k (by omega)).1
    rw [Go.WideShapes.add_plain] at g0
    exact ⟨V k, g0, by simpa using hf k hk'⟩

theorem argBins_of {v : Value} {d : DataW H} {p : List MemPlace} (h : DataW.Trod enc Try.prog w base spare held 36 v d p) (hv : ∃ a n c, v = .slice a n c) : ∃ bs, ArgBins w v bs := by
  obtain ⟨a, n, c, rfl⟩ := hv
  obtain ⟨fuel, hf⟩ := h
  exact argBins_cells hf

theorem argTask_of {r : Reach} {b0 : Nat} {v : Value} {d : DataW H} {p : List MemPlace} (hv : Value.okWide Try.prog w r b0 92 v) (h : DataW.Trod enc Try.prog w base spare held 92 v d p) : ∃ t, ArgTask w v t := by
  obtain ⟨v0, v1, y0, y1, n, rfl, -, -, h0, h1⟩ := Joins.open_agg2 Try.underlying92 (by kernel_rfl) cells_ltask hv h
  obtain ⟨q, e0, _, _⟩ := DataW.trod_int Try.underlying3 h0
  obtain ⟨xs, hxs⟩ := argInts_cells h1
  simp only [List.cons.injEq, and_true] at e0
  subst e0
  exact ⟨⟨q, xs⟩, v1, rfl, hxs⟩
end
end

end Go.Proofs.Ytjdhiabdcmindaa
