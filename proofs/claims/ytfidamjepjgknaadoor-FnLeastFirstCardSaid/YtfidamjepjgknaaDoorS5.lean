/- The reference's bounds. The reference's bound of tasks that are apart. The reference's best bound. No condition. -/
import Derived.Test.YtfidamjepjgknaaDoorS1
namespace Go.Proofs.YtfidamjepjgknaaDoor
section
set_option maxRecDepth 100000
open Go.RowKit

/-- How many nodes a dimension asks for: the greatest number. -/
def quoL (load room : List Int) : List Int := List.zipWith (fun l r => (l + r - 1) / r) load room
def sumI (room : List Int) (ts : List T) : Int := (quoL (loadL ts) room).foldl max 0
def clashB (room : List Int) (a b : T) : Bool := !fitsB (addL a.need b.need 1) room
def takenL (room : List Int) (ts : List T) : List T := ts.foldl (fun s t => if s.all (fun u => clashB room u t) then s ++ [t] else s) []
def apartI (room : List Int) (ts : List T) : Int := (takenL room ts).length
def boundI (room : List Int) (ts : List T) : Int := if tasksB room ts = true then max (sumI room ts) (apartI room ts) else -1

theorem addL_nonneg {xs ys : List Int} (hx : ∀ n ∈ xs, 0 ≤ n) (hy : ∀ n ∈ ys, 0 ≤ n) : ∀ n ∈ addL xs ys 1, 0 ≤ n := by
  intro n hn
  unfold addL at hn
  obtain ⟨i, hi, rfl⟩ := List.getElem_of_mem hn
  rw [List.getElem_zipWith]
  have h1 := hx _ (List.getElem_mem (by simp at hi; omega : i < xs.length))
  have h2 := hy _ (List.getElem_mem (by simp at hi; omega : i < ys.length))
  omega
theorem loadL_nonneg (ts : List T) (h : ∀ t ∈ ts, ∀ n ∈ t.need, 0 ≤ n) : ∀ n ∈ loadL ts, 0 ≤ n := by
  suffices H : ∀ k, k ≤ ts.length → ∀ n ∈ loadL (ts.take k), 0 ≤ n by
    have := H ts.length (Nat.le_refl _)
    rwa [List.take_length] at this
  intro k
  induction k with
  | zero => intro _ n hn; simp [loadL] at hn; omega
  | succ k ih =>
    intro hk
    rw [loadL_step (by omega)]
    exact addL_nonneg (ih (by omega)) (h _ (List.getElem_mem _))
theorem TasksOk.nonneg {room : List Int} {ts : List T} (h : TasksOk room ts) : ∀ t ∈ ts, ∀ n ∈ t.need, 0 ≤ n := fun t ht n hn => by
  obtain ⟨k, hk, rfl⟩ := List.getElem_of_mem ht
  exact ((vfitsB_iff.1 (h.2.2 k hk).2.2).1.2 n hn).1

theorem quoL_step {xs ys : List Int} {k : Nat} (hx : xs.length = 3) (hy : ys.length = 3) (h : k < 3) : (quoL xs ys).take (k + 1) = (quoL xs ys).take k ++ [(xs[k] + ys[k] - 1) / ys[k]] := by
  match xs, hx, ys, hy, k, h with
  | [a, b, c], _, [x, y, z], _, 0, _ => rfl
  | [a, b, c], _, [x, y, z], _, 1, _ => rfl
  | [a, b, c], _, [x, y, z], _, 2, _ => rfl
theorem foldl_snoc_max (l : List Int) (x : Int) : (l ++ [x]).foldl max 0 = max (l.foldl max 0) x := by simp

/-- A task's need can be added. -/
def Good1 (t : T) : Prop := t.need.length = 3 ∧ Bd 1000000 t.need

end

section
set_option maxRecDepth 100000
open Go.RowKit

theorem takenL_step {room : List Int} {ts : List T} {k : Nat} (h : k < ts.length) :
    takenL room (ts.take (k + 1)) = if (takenL room (ts.take k)).all (fun u => clashB room u ts[k]) = true then takenL room (ts.take k) ++ [ts[k]] else takenL room (ts.take k) := by
  unfold takenL
  rw [List.take_succ_eq_append_getElem h, List.foldl_append]
  rfl
theorem takenL_sub (room : List Int) (ts : List T) : ∀ t ∈ takenL room ts, t ∈ ts := by
  suffices H : ∀ k, k ≤ ts.length → ∀ t ∈ takenL room (ts.take k), t ∈ ts by
    have := H ts.length (Nat.le_refl _)
    rwa [List.take_length] at this
  intro k
  induction k with
  | zero => intro _ t ht; simp [takenL] at ht
  | succ k ih =>
    intro hk
    rw [takenL_step (by omega)]
    split
    · intro t ht
      simp at ht
      rcases ht with ht | ht
      · exact ih (by omega) t ht
      · rw [ht]; exact List.getElem_mem _
    · exact ih (by omega)
theorem takenL_len (room : List Int) (ts : List T) {k : Nat} (hk : k ≤ ts.length) : (takenL room (ts.take k)).length ≤ k := by
  induction k with
  | zero => simp [takenL]
  | succ k ih =>
    rw [takenL_step (by omega)]
    have := ih (by omega)
    split
    · simp; omega
    · omega
theorem all_take_succ {α : Type} {p : α → Bool} {l : List α} {k : Nat} (h : k < l.length) : (l.take (k + 1)).all p = ((l.take k).all p && p l[k]) := by
  rw [List.take_succ_eq_append_getElem h, List.all_append]; simp

end

section
set_option maxRecDepth 100000
open Go.RowKit

end

end Go.Proofs.YtfidamjepjgknaaDoor
