/- The program: the node with the greatest score. -/
import Derived.Test.YtfidamjepjgknaaDoorI12
import Derived.Test.YtfidamjepjgknaaDoorP2
namespace Go.Proofs.YtfidamjepjgknaaDoor
set_option maxRecDepth 100000
open Go.RowKit

/-- The greatest score among the first k nodes, or -1. -/
def scoreK (room : List Int) (bs : List (List T)) (x : T) (k : Nat) : Int := match bestK room bs x k with | none => -1 | some j => dotAt room bs x j
theorem dot_nonneg {room : List Int} {b : List T} {x : T} (hr : room.length = 3) (gx : Good1 x) (nx : ∀ m ∈ x.need, 0 ≤ m) (hl : (loadL b).length = 3) (h : fits11 room b x = true) : 0 ≤ dotI x.need (leftL room b) := by
  have hx := gx.1
  obtain ⟨id, need⟩ := x
  unfold fits11 at h
  unfold leftL dotI
  generalize loadL b = ld at *
  match need, hx, room, hr, ld, hl with
  | [a, b, c], _, [x, y, z], _, [p, q, r], _ =>
    have na := nx a (by simp)
    have nb := nx b (by simp)
    have nc := nx c (by simp)
    simp only [addL, List.zipWith_cons_cons, List.zipWith_nil_right, fitsB_three, decide_eq_true_eq] at h
    simp only [addL, List.zipWith_cons_cons, List.zipWith_nil_right, List.foldl_cons, List.foldl_nil]
    have p1 := Int.mul_nonneg na (show 0 ≤ x + -1 * p by omega)
    have p2 := Int.mul_nonneg nb (show 0 ≤ y + -1 * q by omega)
    have p3 := Int.mul_nonneg nc (show 0 ≤ z + -1 * r by omega)
    omega
theorem scoreK_yes {room : List Int} {bs : List (List T)} {x : T} {k : Nat} (hk : k < bs.length) (hlt : scoreK room bs x k < scoreI room bs[k] x) (h0 : -1 ≤ scoreK room bs x k) : bestK room bs x (k + 1) = some k ∧ scoreK room bs x (k + 1) = scoreI room bs[k] x := by
  have e := getD_at hk
  have hf : fits11 room bs[k] x = true := by
    cases hf : fits11 room bs[k] x with
    | true => rfl
    | false => simp [scoreI, hf] at hlt; omega
  have es : scoreI room bs[k] x = dotAt room bs x k := by unfold scoreI dotAt; rw [if_pos hf, e]
  have key : bestK room bs x (k + 1) = some k := by
    cases hb : bestK room bs x k with
    | none => exact bestK_new (by rw [e]; exact hf) hb
    | some j =>
      refine bestK_more (by rw [e]; exact hf) hb ?_
      rw [es] at hlt
      simpa [scoreK, hb] using hlt
  exact ⟨key, by rw [es]; simp [scoreK, key]⟩
theorem scoreK_no {room : List Int} {bs : List (List T)} {x : T} {k : Nat} (hk : k < bs.length) (hlt : ¬ scoreK room bs x k < scoreI room bs[k] x) (hd : fits11 room bs[k] x = true → 0 ≤ dotI x.need (leftL room bs[k])) : bestK room bs x (k + 1) = bestK room bs x k ∧ scoreK room bs x (k + 1) = scoreK room bs x k := by
  have e := getD_at hk
  have key : bestK room bs x (k + 1) = bestK room bs x k := by
    cases hf : fits11 room bs[k] x with
    | false => exact bestK_no (by rw [e]; exact hf)
    | true =>
      have es : scoreI room bs[k] x = dotAt room bs x k := by unfold scoreI dotAt; rw [if_pos hf, e]
      have h0 := hd hf
      cases hb : bestK room bs x k with
      | none =>
        exfalso
        refine hlt ?_
        rw [es]
        simp only [scoreK, hb, dotAt, e]
        omega
      | some j =>
        refine bestK_less hb fun x' => hlt ?_
        rw [es]
        simpa [scoreK, hb] using x'
  exact ⟨key, by simp [scoreK, key]⟩
theorem scoreK_ge {room : List Int} {bs : List (List T)} {x : T} (hd : ∀ b ∈ bs, fits11 room b x = true → 0 ≤ dotI x.need (leftL room b)) {k : Nat} (hk : k ≤ bs.length) : -1 ≤ scoreK room bs x k := by
  rcases bestK_spec room bs x k with ⟨h1, _⟩ | ⟨i, h1, h2, h3, _⟩
  · simp [scoreK, h1]
  · have hi : i < bs.length := by omega
    rw [getD_at hi] at h3
    have := hd _ (List.getElem_mem hi) h3
    simp only [scoreK, h1, dotAt, getD_at hi]
    omega

def bestAtI (room : List Int) (bs : List (List T)) (x : T) : Int := if ok11 room bs x = true then nodeI (best12 room bs x) else -1
theorem ok11_facts {room : List Int} {bs : List (List T)} {x : T} (h : ok11 room bs x = true) : BinsOk room bs ∧ TasksOk room (bs.flatten ++ [x]) ∧ (∀ b ∈ bs, b.length ≤ 50) ∧ Good1 x ∧ ∀ m ∈ x.need, 0 ≤ m := by
  unfold ok11 at h
  rw [Bool.and_eq_true] at h
  have h1 := binsB_iff.1 h.1
  have h2 := tasksB_iff.1 h.2
  refine ⟨h1, h2, fun b hb => ?_, h2.good x (by simp), h2.nonneg x (by simp)⟩
  have := (sub_flat hb).length_le
  have := h1.1.2.1
  omega

end Go.Proofs.YtfidamjepjgknaaDoor
