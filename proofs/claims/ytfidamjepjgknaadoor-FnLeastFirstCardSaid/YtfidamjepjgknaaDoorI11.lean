/- The program: the first node for a task; scores. -/
import Derived.Test.YtfidamjepjgknaaDoorI10
namespace Go.Proofs.YtfidamjepjgknaaDoor
set_option maxRecDepth 100000
open Go.RowKit

/-- The product of two vectors. -/
def dotI (xs ys : List Int) : Int := (List.zipWith (fun x y => x * y) xs ys).foldl (fun s z => s + z) 0
theorem dotI_step {xs ys : List Int} {k : Nat} (h1 : k < xs.length) (h2 : k < ys.length) : ((List.zipWith (fun x y => x * y) xs ys).take (k + 1)).foldl (fun s z => s + z) 0 = ((List.zipWith (fun x y => x * y) xs ys).take k).foldl (fun s z => s + z) 0 + xs[k] * ys[k] := by
  rw [List.take_succ_eq_append_getElem (by simp; omega), List.foldl_append, List.getElem_zipWith]
  rfl
theorem mul_bd {a b : Int} (ha : -1000000 ≤ a ∧ a ≤ 1000000) (hb : -100000000 ≤ b ∧ b ≤ 100000000) : -100000000000000 ≤ a * b ∧ a * b ≤ 100000000000000 := by
  have h1 : (a * b).natAbs ≤ 1000000 * 100000000 := by
    rw [Int.natAbs_mul]
    exact Nat.mul_le_mul (by omega) (by omega)
  omega

/-- What is left of a room. -/
def leftL (room : List Int) (b : List T) : List Int := addL room (loadL b) (-1)
theorem fits_left {room n l : List Int} (h1 : room.length = 3) (h2 : n.length = 3) (h3 : l.length = 3) : fitsB n (addL room l (-1)) = fitsB (addL l n 1) room := by
  match room, h1, n, h2, l, h3 with
  | [a, b, c], _, [x, y, z], _, [p, q, r], _ =>
    simp only [addL, List.zipWith_cons_cons, List.zipWith_nil_right, fitsB_three]
    rw [Bool.eq_iff_iff, decide_eq_true_eq, decide_eq_true_eq]
    omega
/-- A score, or -1 where there is no room. -/
def scoreI (room : List Int) (b : List T) (x : T) : Int := if fits11 room b x = true then dotI x.need (leftL room b) else -1
theorem left_bd {room : List Int} {b : List T} (hr : RoomOk room) (hg : Good b) (hl : b.length ≤ 50) : (leftL room b).length = 3 ∧ Bd 100000000 (leftL room b) := by
  have hg' := loadL_good b hg
  refine ⟨(addL_get hr.1.1 hg'.1).1, fun n hn => ?_⟩
  unfold leftL addL at hn
  obtain ⟨i, hi, rfl⟩ := List.getElem_of_mem hn
  rw [List.getElem_zipWith]
  have h1 := hr.1.2 _ (List.getElem_mem (by simp at hi; omega : i < room.length))
  have h2 := hg'.2 _ (List.getElem_mem (by simp at hi; omega : i < (loadL b).length))
  omega

end Go.Proofs.YtfidamjepjgknaaDoor
