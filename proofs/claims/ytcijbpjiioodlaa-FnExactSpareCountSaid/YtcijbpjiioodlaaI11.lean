/- The program: the first node for a task; scores. -/
import Derived.Test.YtcijbpjiioodlaaI10
namespace Go.Proofs.Ytcijbpjiioodlaa
set_option maxRecDepth 100000
open Go.RowKit

set_option maxHeartbeats 1000000 in
theorem minus_any (v u : Value) (xs ys : List Int) (w : World) (h : Ints w v xs) (h' : Ints w u ys) (hx : xs.length = 3) (hy : ys.length = 3)
    (bx : Bd 1000000000000000 xs) (bY : Bd 1000000000000000 ys) :
    Calls Try.prog 174 #[v, u] w fun e w' => ∃ r, e = .returned r ∧ Ext w w' ∧ Ints w' r (addL xs ys (-1)) := by
  obtain ⟨a, cap, rfl, h⟩ := h.open
  obtain ⟨a', cap', rfl, h'⟩ := h'.open
  obtain ⟨b, off, rfl, hc⟩ := h.at (by omega)
  obtain ⟨b', off', rfl, hc'⟩ := h'.at (by omega)
  rw [hx, hy]
  have Hc := Lib.hid hc
  have Hc' := Lib.hid hc'
  have Hx := Lib.hid hx
  have Hy := Lib.hid hy
  have Bx := Lib.hid bx
  have By := Lib.hid bY
  clear hc hc' h h' hx hy bx bY
  have hmk := make3
  go_enter Try.func174, Try.ntmps174
  go_wp2
  clear hmk
  go_loopw [10] (fun i wr => ∃ k : Nat, k ≤ 3 ∧ i = .int .i64 k ∧ Ext w wr ∧ wr.ownsRow w.heap.size 3 1 (.slice (some ⟨w.heap.size, 0, none⟩) 3 3) 3 ((mixL xs ys (-1) k).map (Value.int .i64))) (fun i _ => 3 - (intOf i).toNat)
  case atStart => exact ⟨0, by omega, rfl, (Ext.refl w).alloc _, World.ownsRow_lit w #[.int .i64 0, .int .i64 0, .int .i64 0] 3 (Nat.le_refl _) (by simp [maxLen]) rfl⟩
  case round =>
    obtain ⟨k, hk, rfl, hE, hown⟩ := hrel
    by_cases hlt : k < 3
    · have l1 : k < xs.length := by have := Hx.out; omega
      have l2 : k < ys.length := by have := Hy.out; omega
      have c1 := hE.cell (Hc.out k l1)
      have c2 := hE.cell (Hc'.out k l2)
      have l3 : k < (mixL xs ys (-1) k).length := by rw [mixL_len Hx.out Hy.out hk]; exact hlt
      have c3 := hown.cellAt k (by omega)
      rw [List.getElem?_map, List.getElem?_eq_getElem l3, Option.map_some] at c3
      have f3 := hown.frozenAt k
      have b1 : (k : Int) < 3 := by omega
      have b0 : (0 : Int) ≤ (k : Int) := by omega
      have m1 := Bx.out _ (List.getElem_mem l1)
      have m2 := By.out _ (List.getElem_mem l2)
      have Hn := Lib.hid (mixL_step (t := -1) Hx.out Hy.out hlt)
      have Ho := Lib.hid hown
      clear hown
      go_wp2
      go_region
      have hE1 := (hE.setCell (p := ⟨w.heap.size, k, none⟩) (Nat.le_refl _) (.int .i64 (xs[k] - ys[k]))).drew
      have Ho1 := Lib.hid (show (wr.setCell ⟨w.heap.size, k, none⟩ (.int .i64 (xs[k] - ys[k]))).drew.ownsRow w.heap.size 3 1 (.slice (some ⟨w.heap.size, 0, none⟩) 3 3) 3 ((mixL xs ys (-1) (k + 1)).map (Value.int .i64)) from by
        have h1 := (World.ownsRow.stored Ho.out k (.int .i64 (xs[k] - ys[k]))).1.drew
        rw [← Hn.out, List.map_set, show xs[k] + -1 * ys[k] = xs[k] - ys[k] by omega]
        simpa using h1)
      clear hE
      go_wp2
      go_roundw
      case rel => exact ⟨k + 1, by omega, by go_num, hE1, Ho1.out⟩
      case measure => simp [intOf]; omega
    · have e : k = 3 := by omega
      subst e
      have Ho1 := Lib.hid (show Ints wr (.slice (some ⟨w.heap.size, 0, none⟩) 3 3) (addL xs ys (-1)) from by
        have h3 := (addL_get (t := -1) Hx.out Hy.out).1
        have e : mixL xs ys (-1) 3 = addL xs ys (-1) := by
          unfold mixL
          rw [List.take_of_length_le (by omega)]
          simp
        rw [e] at hown
        exact Ints.of_own hown (by simp [lim]; omega))
      clear hown
      go_wp2
      go_ret
      exact ⟨_, rfl, hE, Ho1.out⟩

/-- The product of two vectors. -/
def dotI (xs ys : List Int) : Int := (List.zipWith (fun x y => x * y) xs ys).foldl (fun s z => s + z) 0
theorem dotI_step {xs ys : List Int} {k : Nat} (h1 : k < xs.length) (h2 : k < ys.length) : ((List.zipWith (fun x y => x * y) xs ys).take (k + 1)).foldl (fun s z => s + z) 0 = ((List.zipWith (fun x y => x * y) xs ys).take k).foldl (fun s z => s + z) 0 + xs[k] * ys[k] := by
  rw [List.take_succ_eq_append_getElem (by simp; omega), List.foldl_append, List.getElem_zipWith]
  rfl
theorem mul_bd {a b : Int} (ha : -1000000 ≤ a ∧ a ≤ 1000000) (hb : -100000000 ≤ b ∧ b ≤ 100000000) : -100000000000000 ≤ a * b ∧ a * b ≤ 100000000000000 := by
  have h1 : (a * b).natAbs ≤ 1000000 * 100000000 := by
    rw [Int.natAbs_mul]
    exact Nat.mul_le_mul (by omega) (by omega)
  omega

/-- What is left of a room. -/
def leftL (room : List Int) (b : List T) : List Int := addL room (loadL b) (-1)
theorem fits_left {room n l : List Int} (h1 : room.length = 3) (h2 : n.length = 3) (h3 : l.length = 3) : fitsB n (addL room l (-1)) = fitsB (addL l n 1) room := by
  match room, h1, n, h2, l, h3 with
  | [a, b, c], _, [x, y, z], _, [p, q, r], _ =>
    simp only [addL, List.zipWith_cons_cons, List.zipWith_nil_right, fitsB_three]
    rw [Bool.eq_iff_iff, decide_eq_true_eq, decide_eq_true_eq]
    omega
/-- A score, or -1 where there is no room. -/
def scoreI (room : List Int) (b : List T) (x : T) : Int := if fits11 room b x = true then dotI x.need (leftL room b) else -1
theorem left_bd {room : List Int} {b : List T} (hr : RoomOk room) (hg : Good b) (hl : b.length ≤ 50) : (leftL room b).length = 3 ∧ Bd 100000000 (leftL room b) := by
  have hg' := loadL_good b hg
  refine ⟨(addL_get hr.1.1 hg'.1).1, fun n hn => ?_⟩
  unfold leftL addL at hn
  obtain ⟨i, hi, rfl⟩ := List.getElem_of_mem hn
  rw [List.getElem_zipWith]
  have h1 := hr.1.2 _ (List.getElem_mem (by simp at hi; omega : i < room.length))
  have h2 := hg'.2 _ (List.getElem_mem (by simp at hi; omega : i < (loadL b).length))
  omega

end Go.Proofs.Ytcijbpjiioodlaa
