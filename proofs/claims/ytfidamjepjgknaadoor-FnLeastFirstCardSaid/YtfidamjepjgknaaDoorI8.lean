/- The program: where a task is, which nodes are empty. -/
import Derived.Test.YtfidamjepjgknaaDoorI7
namespace Go.Proofs.YtfidamjepjgknaaDoor
set_option maxRecDepth 100000
open Go.RowKit

def isId (x : Int) (t : T) : Bool := t.id == x

theorem find_none {α : Type} {p : α → Bool} {l : List α} (h : ∀ j (hj : j < l.length), p l[j] = false) : l.findIdx? p = none := by
  rw [List.findIdx?_eq_none_iff]
  intro b hb
  obtain ⟨j, hj, rfl⟩ := List.getElem_of_mem hb
  exact h j hj
theorem find_some {α : Type} {p : α → Bool} {l : List α} {k : Nat} (h : ∀ j (hj : j < l.length), j < k → p l[j] = false) (hk : k < l.length) (hf : p l[k] = true) : l.findIdx? p = some k := by
  rw [List.findIdx?_eq_some_iff_getElem]
  exact ⟨hk, hf, fun j hj => by simp [h j (by omega) hj]⟩

theorem nodeI_some {o : Option Nat} : decide (0 ≤ nodeI o) = o.isSome := by cases o <;> simp [nodeI] <;> omega
theorem any_find {α : Type} (p : α → Bool) (l : List α) : (l.findIdx? p).isSome = l.any p := by
  simp [List.findIdx?_isSome]

theorem makes_func (fn : Fn) (first cap : Array Value) (w : World) : (Instr.makeFunc fn first cap).run Tryd.prog w = .ok (.func fn first cap) w := rfl

/-- A slice of numbers that the call owns, not nil. -/
def NeedX (w : World) (B : Nat) (v : Value) (xs : List Int) : Prop := ∃ g, NeedS w B g v xs
theorem NeedX.ext {w w' : World} {B : Nat} {v : Value} {xs : List Int} (h : NeedX w B v xs) (k : Ext w w') : NeedX w' B v xs := let ⟨g, h⟩ := h; ⟨g, h.ext k⟩
theorem NeedX.own {w : World} {B : Nat} {v : Value} {xs : List Int} (h : NeedX w B v xs) : OwnInts w B v xs := let ⟨_, h⟩ := h; h.2
theorem NeedX.lit0 (w : World) (B : Nat) (hB : B ≤ w.heap.size) : NeedX (w.alloc (.cells #[] 3)) B (.slice (some ⟨w.heap.size, 0, none⟩) 0 0) [] := ⟨w.heap.size, ⟨0, rfl⟩, OwnInts.lit0 w B hB⟩
theorem emptyL_step {bs : List (List T)} {k : Nat} (h : k < bs.length) : emptyL (bs.take (k + 1)) = if bs[k].length = 0 then emptyL (bs.take k) ++ [(k : Int)] else emptyL (bs.take k) := by
  have e : ∀ m, m ≤ bs.length → emptyL (bs.take m) = ((List.range m).filter fun i => (bs.getD i []).isEmpty).map fun (i : Nat) => (i : Int) := by
    intro m hm
    unfold emptyL
    rw [List.length_take, Nat.min_eq_left hm]
    congr 1
    apply List.filter_congr
    intro i hi
    simp only [List.mem_range] at hi
    rw [List.getD_eq_getElem?_getD, List.getD_eq_getElem?_getD, List.getElem?_take, if_pos hi]
  rw [e _ (by omega), e _ (by omega), List.range_succ, List.filter_append, List.map_append]
  have hg : bs.getD k [] = bs[k] := by simp [List.getD_eq_getElem?_getD, List.getElem?_eq_getElem h]
  simp only [List.filter_cons, List.filter_nil, hg]
  by_cases h0 : bs[k].length = 0
  · rw [if_pos h0, if_pos (by simpa using List.eq_nil_of_length_eq_zero h0)]
    rfl
  · rw [if_neg h0, if_neg (by intro x; exact h0 (by simpa using x))]
    simp
theorem emptyL_len (bs : List (List T)) : (emptyL bs).length ≤ bs.length := by
  unfold emptyL
  rw [List.length_map]
  exact Nat.le_trans (List.length_filter_le _ _) (by simp)

theorem empties_lim (room : List Int) (bs : List (List T)) : (emptiesL room bs).length ≤ lim := by
  unfold emptiesL lim
  split
  · rename_i hb
    have h1 := (binsB_iff.1 hb).2.1
    have h2 := emptyL_len bs
    omega
  · simp

end Go.Proofs.YtfidamjepjgknaaDoor
