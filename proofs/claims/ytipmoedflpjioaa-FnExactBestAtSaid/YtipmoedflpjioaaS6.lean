/- The reference's bound of tasks that are apart. -/
import Derived.Test.YtipmoedflpjioaaS5
namespace Go.Proofs.Ytipmoedflpjioaa
set_option maxRecDepth 100000
open Go.RowKit

theorem takenL_step {room : List Int} {ts : List T} {k : Nat} (h : k < ts.length) :
    takenL room (ts.take (k + 1)) = if (takenL room (ts.take k)).all (fun u => clashB room u ts[k]) = true then takenL room (ts.take k) ++ [ts[k]] else takenL room (ts.take k) := by
  unfold takenL
  rw [List.take_succ_eq_append_getElem h, List.foldl_append]
  rfl
theorem takenL_sub (room : List Int) (ts : List T) : ∀ t ∈ takenL room ts, t ∈ ts := by
  suffices H : ∀ k, k ≤ ts.length → ∀ t ∈ takenL room (ts.take k), t ∈ ts by
    have := H ts.length (Nat.le_refl _)
    rwa [List.take_length] at this
  intro k
  induction k with
  | zero => intro _ t ht; simp [takenL] at ht
  | succ k ih =>
    intro hk
    rw [takenL_step (by omega)]
    split
    · intro t ht
      simp at ht
      rcases ht with ht | ht
      · exact ih (by omega) t ht
      · rw [ht]; exact List.getElem_mem _
    · exact ih (by omega)
theorem takenL_len (room : List Int) (ts : List T) {k : Nat} (hk : k ≤ ts.length) : (takenL room (ts.take k)).length ≤ k := by
  induction k with
  | zero => simp [takenL]
  | succ k ih =>
    rw [takenL_step (by omega)]
    have := ih (by omega)
    split
    · simp; omega
    · omega
theorem all_take_succ {α : Type} {p : α → Bool} {l : List α} {k : Nat} (h : k < l.length) : (l.take (k + 1)).all p = ((l.take k).all p && p l[k]) := by
  rw [List.take_succ_eq_append_getElem h, List.all_append]; simp

end Go.Proofs.Ytipmoedflpjioaa
