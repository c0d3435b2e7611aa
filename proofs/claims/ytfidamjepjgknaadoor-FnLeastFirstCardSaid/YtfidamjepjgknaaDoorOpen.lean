/- Opening the arguments: from the form's reading to slices of numbers and of tasks. Opening the arguments: nodes, a task by value, a number. No condition. -/
import Derived.Test.YtfidamjepjgknaaDoorArg
import Derived.ProofKit
import Derived.Deep.SlicePairs
import Derived.Lib.SmallJoins
namespace Go.Proofs.YtfidamjepjgknaaDoor
section
set_option maxRecDepth 100000
open Go.RowKit Go.ChangeShapes Go.WideShapes Go.Deep

theorem cells_int : Tryd.prog.cellsOf 3 = 1 := by kernel_rfl
theorem cells_ints : Tryd.prog.cellsOf 23 = 1 := by kernel_rfl
section
variable {H : Type} {enc : TypeId × Value → H} {w : World} {base : Nat} {spare : Nat → Bool} {held : Bool}

/-- A slice of numbers, read. -/
theorem argInts_cells {fuel : Nat} {v : Value} {x : DataW H × List MemPlace} (h : DataW.trod enc Tryd.prog w base spare held fuel 23 [v] = some x) : ∃ xs, ArgInts w v xs := by
  rcases open_ints Tryd.underlying23 Tryd.underlying3 cells_int h with ⟨hcs, hx⟩ | ⟨a, len, cap, zs, hcs, _, hl, hm, hz, hx, hcell, hwz⟩
  · simp only [List.cons.injEq, and_true] at hcs
    subst hcs
    exact ⟨[], by simp, none, 0, rfl, fun h => by simp at h⟩
  · simp only [List.cons.injEq, and_true] at hcs
    subst hcs
    have hzl : len ≤ zs.length := by rw [hz]; split <;> omega
    refine ⟨zs.take len, by simp; unfold maxLen at hm; omega, some a, cap, by simp; omega, fun h0 => ?_⟩
    have h0' : 0 < zs.length := by simp at h0; omega
    obtain ⟨b, off, spot⟩ := a
    have hspot : spot = none := by simpa [Addr.add] using World.cell?_spot (hcell 0 h0')
    subst hspot
    refine ⟨b, off, rfl, fun k hk => ?_⟩
    have hk' : k < zs.length := by simp at hk; omega
    have := hcell k hk'
    rw [Go.WideShapes.add_plain] at this
    rw [this]
    simp [List.getD, List.getElem?_eq_getElem hk']

theorem argInts_of {v : Value} {d : DataW H} {p : List MemPlace} (h : DataW.Trod enc Tryd.prog w base spare held 23 v d p) (hv : ∃ a n c, v = .slice a n c) : ∃ xs, ArgInts w v xs := by
  obtain ⟨a, n, c, rfl⟩ := hv
  obtain ⟨fuel, hf⟩ := h
  exact argInts_cells hf
end
end

section
set_option maxRecDepth 100000
open Go.RowKit Go.ChangeShapes Go.WideShapes Go.Deep

/-- A task by value that came in. -/
def ArgTask (w : World) (v : Value) (t : T) : Prop := ∃ n, v = .agg #[.int .i64 t.id, n] ∧ ArgInts w n t.need
theorem ArgTask.ext {w w' : World} {v : Value} {t : T} (h : ArgTask w v t) (k : Ext w w') : ArgTask w' v t := let ⟨n, hv, hn⟩ := h; ⟨n, hv, hn.ext k⟩

section
variable {H : Type} {enc : TypeId × Value → H} {w : World} {base : Nat} {spare : Nat → Bool} {held : Bool}

end
end

end Go.Proofs.YtfidamjepjgknaaDoor
