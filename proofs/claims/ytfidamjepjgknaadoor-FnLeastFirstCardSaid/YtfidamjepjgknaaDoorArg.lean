/- Arguments as they come in, and the copies that a law makes of them. Copies of tasks that a law makes, each in memory of its own; and their comparison. The laws' comparisons. Nodes as they come in, and the copies that a law makes of them. No condition. -/
import Derived.Test.YtfidamjepjgknaaDoorS1
import Derived.Test.YtfidamjepjgknaaDoorOwn
namespace Go.Proofs.YtfidamjepjgknaaDoor
section
set_option maxRecDepth 100000
open Go.RowKit

/-- A slice of numbers that came in. -/
def ArgInts (w : World) (v : Value) (xs : List Int) : Prop :=
  xs.length ≤ 9223372036854775807 ∧ ∃ a cap, v = .slice a xs.length cap ∧ (0 < xs.length → ∃ b off, a = some ⟨b, off, none⟩ ∧ ∀ k (hk : k < xs.length), w.cell? ⟨b, off + k, none⟩ = some (.int .i64 xs[k]))
theorem ArgInts.ext {w w' : World} {v : Value} {xs : List Int} (h : ArgInts w v xs) (k : Ext w w') : ArgInts w' v xs := by
  obtain ⟨hl, a, cap, hv, hc⟩ := h
  exact ⟨hl, a, cap, hv, fun h0 => let ⟨b, off, ha, hc⟩ := hc h0; ⟨b, off, ha, fun j hj => k.cell (hc j hj)⟩⟩
/-- A slice of the laws' tasks that came in. -/
def ArgTasks (w : World) (v : Value) (ts : List T) : Prop :=
  ts.length ≤ 9223372036854775807 ∧ ∃ a cap, v = .slice a ts.length cap ∧ (0 < ts.length → ∃ b off, a = some ⟨b, off, none⟩ ∧ ∀ k (hk : k < ts.length), w.cell? ⟨b, off + k * 2, none⟩ = some (.int .i64 ts[k].id) ∧ ∃ n, w.cell? ⟨b, off + k * 2 + 1, none⟩ = some n ∧ ArgInts w n ts[k].need)
theorem ArgTasks.ext {w w' : World} {v : Value} {ts : List T} (h : ArgTasks w v ts) (k : Ext w w') : ArgTasks w' v ts := by
  obtain ⟨hl, a, cap, hv, hc⟩ := h
  exact ⟨hl, a, cap, hv, fun h0 => let ⟨b, off, ha, hc⟩ := hc h0; ⟨b, off, ha, fun j hj => ⟨k.cell (hc j hj).1, let ⟨n, h1, h2⟩ := (hc j hj).2; ⟨n, k.cell h1, h2.ext k⟩⟩⟩⟩

/-- What a size function returns: -1, or what is left. -/
def Left1 (n : Nat) (left : Int) (P : Int → Prop) (w : World) (e : Ending) (w' : World) : Prop := ∃ r : Int, e = .returned (.int .i64 r) ∧ P r ∧ (0 ≤ r → r + n = left) ∧ Ext w w'

def SzPost (n : Nat) (left : Int) (w : World) (e : Ending) (w' : World) : Prop := ∃ r : Int, e = .returned (.int .i64 r) ∧ (r = -1 ∨ 0 ≤ r ∧ r + n = left) ∧ Ext w w'

/-- The first numbers are the argument's, the others are zeros. -/
def fillL (xs : List Int) (k : Nat) : List Int := xs.take k ++ List.replicate (xs.length - k) 0
theorem fillL_len (xs : List Int) {k : Nat} (h : k ≤ xs.length) : (fillL xs k).length = xs.length := by simp [fillL]; omega
theorem fillL_step {xs : List Int} {k : Nat} (h : k < xs.length) : (fillL xs k).set k xs[k] = fillL xs (k + 1) := by
  unfold fillL
  apply List.ext_getElem
  · simp; omega
  · intro i h1 h2
    rw [List.getElem_set]
    by_cases e : k = i
    · subst e
      rw [if_pos rfl, List.getElem_append_left (by rw [List.length_take]; omega)]
      simp
    · rw [if_neg e]
      by_cases hi : i < k
      · rw [List.getElem_append_left (by simp; omega), List.getElem_append_left (by simp; omega)]
        simp
      · rw [List.getElem_append_right (by simp; omega), List.getElem_append_right (by simp; omega)]
        simp

end

section
set_option maxRecDepth 100000
open Go.RowKit

theorem CellsS.step {w w1 w2 : World} {L g : Nat} {xs : List Value} {ts : List T} {nb : Nat → Nat} {k : Nat} {v : Value} (hk : k < ts.length) (hx : xs.length = ts.length * 2) (h : CellsS w L xs ts nb k) (hE : Ext w w1) (hkt : KT 31 w1 w2)
    (hn : NeedS w1 w.heap.size g v ts[k].need) (hL : L ≤ w.heap.size) : CellsS w2 L ((xs.set (k * 2) (.int .i64 ts[k].id)).set (k * 2 + 1) v) ts (fun j => if j = k then g else nb j) (k + 1) := by
  obtain ⟨h1, h2⟩ := h
  refine ⟨fun j hj hjm => ?_, fun i j hij hj hjm => ?_⟩
  · by_cases e : j = k
    · subst e
      refine ⟨?_, v, ?_, ?_⟩
      · rw [List.getElem?_set_ne (by omega), List.getElem?_set_self (by omega)]
      · rw [List.getElem?_set_self (by simp; omega)]
      · simpa using (hn.base hL).kt hkt (by decide)
    · obtain ⟨a, n, b, c⟩ := h1 j hj (by omega)
      refine ⟨?_, n, ?_, ?_⟩
      · rw [List.getElem?_set_ne (by omega), List.getElem?_set_ne (by omega), a]
      · rw [List.getElem?_set_ne (by omega), List.getElem?_set_ne (by omega), b]
      · simpa [e] using (c.ext hE).kt hkt (by decide)
  · have low : ∀ i, i < k → nb i < w.heap.size := fun i hi => by
      obtain ⟨_, n, _, c⟩ := h1 i (by omega) hi
      exact c.lt.2
    have hg := hn.lt.1
    by_cases e : j = k
    · have := low i (by omega)
      show (if i = k then g else nb i) ≠ (if j = k then g else nb j)
      rw [if_neg (by omega), if_pos e]
      omega
    · show (if i = k then g else nb i) ≠ (if j = k then g else nb j)
      rw [if_neg (by omega), if_neg e]
      exact h2 i j hij hj (by omega)

end

section
set_option maxRecDepth 100000
open Go.RowKit

end

section
set_option maxRecDepth 100000
open Go.RowKit

/-- A slice of slices of the laws' tasks that came in. -/
def ArgBins (w : World) (v : Value) (bs : List (List T)) : Prop :=
  bs.length ≤ 9223372036854775807 ∧ ∃ a cap, v = .slice a bs.length cap ∧ (0 < bs.length → ∃ b off, a = some ⟨b, off, none⟩ ∧ ∀ k (hk : k < bs.length), ∃ n, w.cell? ⟨b, off + k, none⟩ = some n ∧ ArgTasks w n bs[k])
theorem ArgBins.ext {w w' : World} {v : Value} {bs : List (List T)} (h : ArgBins w v bs) (k : Ext w w') : ArgBins w' v bs := by
  obtain ⟨hl, a, cap, hv, hc⟩ := h
  exact ⟨hl, a, cap, hv, fun h0 => let ⟨b, off, ha, hc⟩ := hc h0; ⟨b, off, ha, fun j hj => let ⟨n, h1, h2⟩ := hc j hj; ⟨n, k.cell h1, h2.ext k⟩⟩⟩

end

end Go.Proofs.YtfidamjepjgknaaDoor
