/- The reference's vectors: fitting. -/
import Derived.Test.YtipmoedflpjioaaS1
import Derived.Test.YtipmoedflpjioaaOwn
import Derived.StillTailTactics
namespace Go.Proofs.Ytipmoedflpjioaa
set_option maxRecDepth 100000
open Go.RowKit

theorem fitsB_iff {xs ys : List Int} (hx : xs.length = 3) (hy : ys.length = 3) : fitsB xs ys = true ↔ ∀ j (h1 : j < xs.length) (h2 : j < ys.length), xs[j] ≤ ys[j] := by
  match xs, hx, ys, hy with
  | [a, b, c], _, [x, y, z], _ =>
    rw [fitsB_three]
    simp only [decide_eq_true_eq]
    constructor
    · rintro ⟨h1, h2, h3⟩ j hj hj2
      match j, hj with
      | 0, _ => exact h1
      | 1, _ => exact h2
      | 2, _ => exact h3
    · intro h
      exact ⟨h 0 (by simp) (by simp), h 1 (by simp) (by simp), h 2 (by simp) (by simp)⟩

set_option maxHeartbeats 400000 in
theorem l1Fits_any (v u : Value) (xs ys : List Int) (w : World) (h : Ints w v xs) (h' : Ints w u ys) (hx : xs.length = 3) (hy : ys.length = 3) :
    Calls Try.prog 69 #[v, u] w fun e w' => e = .returned (.bool (fitsB xs ys)) ∧ ∃ n, w' = w.drewN n := by
  obtain ⟨a, cap, rfl, h⟩ := h.open
  obtain ⟨a', cap', rfl, h'⟩ := h'.open
  obtain ⟨b, off, rfl, hc⟩ := h.at (by omega)
  obtain ⟨b', off', rfl, hc'⟩ := h'.at (by omega)
  rw [hx, hy]
  have Hc := Lib.hid hc
  have Hc' := Lib.hid hc'
  have Hx := Lib.hid hx
  have Hy := Lib.hid hy
  clear hc hc' h h' hx hy
  go_enter Try.func69, Try.ntmps69
  go_wp2
  go_loopw [5] (fun i wr => ∃ k n : Nat, k ≤ 3 ∧ i = .int .i64 k ∧ wr = w.drewN n ∧ ∀ j (h1 : j < xs.length) (h2 : j < ys.length), j < k → xs[j] ≤ ys[j]) (fun i _ => 3 - (intOf i).toNat)
  case atStart => exact ⟨0, 0, by omega, rfl, rfl, fun _ _ _ h => by omega⟩
  case round =>
    obtain ⟨k, n, hk, rfl, rfl, hg⟩ := hrel
    have Hg := Lib.hid hg
    clear hg
    by_cases hlt : k < 3
    · have l1 : k < xs.length := by have := Hx.out; omega
      have l2 : k < ys.length := by have := Hy.out; omega
      have c1 := Hc.out k l1
      have c2 := Hc'.out k l2
      have b1 : (k : Int) < 3 := by omega
      have b0 : (0 : Int) ≤ (k : Int) := by omega
      by_cases hgt : ys[k] < xs[k]
      · have Hr : Hid (fitsB xs ys = false) := by
          rw [Bool.eq_false_iff]
          intro e
          have := (fitsB_iff Hx.out Hy.out).1 e k l1 l2
          omega
        go_wp2
        go_quiet (fail)
        go_wp2
        go_ret
        exact ⟨ret_bool Hr.out.symm, n + nq, (by first | rfl | exact World.drewN_drewN _ _ _)⟩
      · have hle : xs[k] ≤ ys[k] := by omega
        have Hle := Lib.hid hle
        clear hle
        go_wp2
        go_quiet (fail)
        go_wp2
        go_roundw
        case rel => exact ⟨k + 1, n + nq, by omega, by go_num, rfl, fun j h1 h2 hj => by
          by_cases e : j = k
          · subst e; exact Hle.out
          · exact Hg.out j h1 h2 (by omega)⟩
        case measure => simp [intOf]; omega
    · have e : k = 3 := by omega
      subst e
      have Hr : Hid (fitsB xs ys = true) := (fitsB_iff Hx.out Hy.out).2 fun j h1 h2 => Hg.out j h1 h2 (by have := Hx.out; omega)
      go_wp2
      go_ret
      exact ⟨ret_bool Hr.out.symm, n, rfl⟩

set_option maxHeartbeats 400000 in
theorem sVecFits_any (v u : Value) (xs ys : List Int) (w : World) (h : Ints w v xs) (h' : Ints w u ys) :
    Calls Try.prog 82 #[v, u] w fun e w' => e = .returned (.bool (vfitsB xs ys)) ∧ ∃ n, w' = w.drewN n := by
  by_cases h1 : vecB xs = true
  · by_cases h2 : vecB ys = true
    · have l1 := Lib.hid (vecB_iff.1 h1).1
      have l2 := Lib.hid (vecB_iff.1 h2).1
      have Hr : Hid (vfitsB xs ys = fitsB xs ys) := by show vfitsB xs ys = _; simp [vfitsB, h1, h2]
      go_enter Try.func82, Try.ntmps82
      go_wp2_with fail
      refine (sVecValid_any _ _ _ h).mono ?_; rintro e w' ⟨rfl, rfl⟩
      go_wp2_with fail
      refine (sVecValid_any _ _ _ h').mono ?_; rintro e w' ⟨rfl, rfl⟩
      go_wp2_with fail
      refine (l1Fits_any _ _ _ _ _ h h' l1.out l2.out).mono ?_; rintro e w' ⟨rfl, n, rfl⟩
      go_wp2
      go_ret
      exact ⟨ret_bool Hr.out.symm, n, rfl⟩
    · have h3 : vecB ys = false := by simpa using h2
      have Hr : Hid (vfitsB xs ys = false) := by show vfitsB xs ys = _; simp [vfitsB, h1, h3]
      clear h2
      go_enter Try.func82, Try.ntmps82
      go_wp2_with fail
      refine (sVecValid_any _ _ _ h).mono ?_; rintro e w' ⟨rfl, rfl⟩
      go_wp2_with fail
      refine (sVecValid_any _ _ _ h').mono ?_; rintro e w' ⟨rfl, rfl⟩
      go_wp2
      go_ret
      exact ⟨ret_bool Hr.out.symm, 0, rfl⟩
  · have h3 : vecB xs = false := by simpa using h1
    have Hr : Hid (vfitsB xs ys = false) := by show vfitsB xs ys = _; simp [vfitsB, h3]
    clear h1
    go_enter Try.func82, Try.ntmps82
    go_wp2_with fail
    refine (sVecValid_any _ _ _ h).mono ?_; rintro e w' ⟨rfl, rfl⟩
    go_wp2
    go_ret
    exact ⟨ret_bool Hr.out.symm, 0, rfl⟩

theorem roomB_bad {xs : List Int} {k : Nat} (hk : k < xs.length) (h : xs[k] < 1) : roomB xs = false := by
  rw [Bool.eq_false_iff]
  intro x
  have := (roomB_iff.1 x).2 _ (List.getElem_mem hk)
  omega
theorem roomB_good {xs : List Int} (h : ∀ j (hj : j < xs.length), 1 ≤ xs[j]) : roomB xs = vecB xs := by
  rw [Bool.eq_iff_iff, roomB_iff, vecB_iff]
  refine ⟨fun x => x.1, fun x => ⟨x, fun n hn => ?_⟩⟩
  obtain ⟨j, hj, rfl⟩ := List.getElem_of_mem hn
  exact h j hj

set_option maxHeartbeats 400000 in
theorem l2Room_any (v : Value) (xs : List Int) (w : World) (h : Ints w v xs) :
    Calls Try.prog 79 #[v] w fun e w' => e = .returned (.bool (roomB xs)) ∧ w = w' := by
  obtain ⟨a, cap, rfl, h⟩ := h.open
  have hl : xs.length ≤ 4194304 := h.1
  go_enter Try.func79, Try.ntmps79
  go_wp2
  go_loop [3] (fun i => ∃ k : Nat, k ≤ xs.length ∧ i = .int .i64 k ∧ ∀ j (hj : j < xs.length), j < k → 1 ≤ xs[j]) (fun i => xs.length - (intOf i).toNat)
  case atStart => exact ⟨0, by omega, rfl, fun _ _ h => by omega⟩
  case round =>
    obtain ⟨k, hk, rfl, hg⟩ := hrel
    by_cases hlt : k < xs.length
    · obtain ⟨b, off, rfl, hc⟩ := h.at (by omega)
      have hck := hc k hlt
      have Hg := Lib.hid hg
      clear hg hc
      by_cases h0 : xs[k] < 1
      · have Hr := Lib.hid (roomB_bad hlt h0)
        go_wp2
        go_ret
        exact ⟨ret_bool Hr.out.symm, rfl⟩
      · have h1 : 1 ≤ xs[k] := by omega
        go_wp2
        go_round
        case rel => exact ⟨k + 1, by omega, by go_num, fun j hj hjk => by
          by_cases e : j = k
          · subst e; exact h1
          · exact Hg.out j hj (by omega)⟩
        case measure => simp [intOf]; omega
    · have e : k = xs.length := by omega
      subst e
      have H0 := Lib.hid (roomB_good (fun j hj => hg j hj hj))
      clear hg
      go_wp2_with (go_at_call 114; refine (sVecValid_any _ _ _ h).mono ?_; rintro e w' ⟨rfl, rfl⟩)
      go_ret
      exact ⟨ret_bool H0.out.symm, rfl⟩

def Bd (M : Int) (xs : List Int) : Prop := ∀ n ∈ xs, -M ≤ n ∧ n ≤ M

theorem addL_get {xs ys : List Int} {t : Int} (hx : xs.length = 3) (hy : ys.length = 3) : (addL xs ys t).length = 3 ∧ ∀ k (h : k < 3), (addL xs ys t)[k]? = some (xs[k] + t * ys[k]) := by
  match xs, hx, ys, hy with
  | [a, b, c], _, [x, y, z], _ =>
    refine ⟨rfl, fun k hk => ?_⟩
    match k, hk with
    | 0, _ => rfl
    | 1, _ => rfl
    | 2, _ => rfl

theorem addL_take {xs ys : List Int} {t : Int} {k : Nat} (hx : xs.length = 3) (hy : ys.length = 3) (h : k < 3) : (addL xs ys t).take (k + 1) = (addL xs ys t).take k ++ [xs[k] + t * ys[k]] := by
  obtain ⟨h1, h2⟩ := addL_get (t := t) hx hy
  have h3 := h2 k h
  rw [List.getElem?_eq_getElem (by omega)] at h3
  rw [List.take_succ_eq_append_getElem (by omega)]
  simp only [Option.some.injEq] at h3
  rw [h3]

set_option maxHeartbeats 1000000 in
theorem l1Add_any (v u : Value) (xs ys : List Int) (t : Int) (w : World) (h : Ints w v xs) (h' : Ints w u ys) (hx : xs.length = 3) (hy : ys.length = 3) (ht : t = 1 ∨ t = -1)
    (bx : Bd 1000000000000000 xs) (bY : Bd 1000000000000000 ys) :
    Calls Try.prog 108 #[v, u, .int .i64 t] w fun e w' => ∃ r, e = .returned r ∧ Ext w w' ∧ Ints w' r (addL xs ys t) := by
  obtain ⟨a, cap, rfl, h⟩ := h.open
  obtain ⟨a', cap', rfl, h'⟩ := h'.open
  obtain ⟨b, off, rfl, hc⟩ := h.at (by omega)
  obtain ⟨b', off', rfl, hc'⟩ := h'.at (by omega)
  rw [hx, hy]
  have Hc := Lib.hid hc
  have Hc' := Lib.hid hc'
  have Hx := Lib.hid hx
  have Hy := Lib.hid hy
  have Bx := Lib.hid bx
  have By := Lib.hid bY
  clear hc hc' h h' hx hy bx bY
  have Ht := Lib.hid ht
  clear ht
  go_enter Try.func108, Try.ntmps108
  go_wp2
  go_loopw [7, 8] (fun s i wr => ∃ k : Nat, k ≤ 3 ∧ i = .int .i64 k ∧ Ext w wr ∧ OwnInts wr w.heap.size s ((addL xs ys t).take k)) (fun _ i _ => 3 - (intOf i).toNat)
  case atStart => exact ⟨0, by omega, rfl, (Ext.refl w).alloc _, by simpa using OwnInts.lit0 w w.heap.size (Nat.le_refl _)⟩
  case round =>
    obtain ⟨k, hk, rfl, hE, hown⟩ := hrel
    by_cases hlt : k < 3
    · have l1 : k < xs.length := by have := Hx.out; omega
      have l2 : k < ys.length := by have := Hy.out; omega
      have c1 := hE.cell (Hc.out k l1)
      have c2 := hE.cell (Hc'.out k l2)
      have b1 : (k : Int) < 3 := by omega
      have b0 : (0 : Int) ≤ (k : Int) := by omega
      have m1 := Bx.out _ (List.getElem_mem l1)
      have m2 := By.out _ (List.getElem_mem l2)
      have Hn := Lib.hid (addL_take (t := t) Hx.out Hy.out hlt)
      rcases Ht.out with rfl | rfl
      · go_wp2
        go_region_law ((refine step_app_ints rfl _ _ rfl w.heap.size _ _ rfl (hown.alloc _).drew (by have := hE.le; simp; omega) _ _ _ _ rfl (Ints.lit1 wr _ 1).drew (by simp [lim]; omega) ?_; intro v' w1 hown1 hkt hbl))
        all_goals
         have hE1 := ((hE.alloc _).drew).below hbl
         have Ho := Lib.hid (show OwnInts w1 w.heap.size v' (List.take (k + 1) (addL xs ys 1)) from by
          rw [Hn.out]
          rw [IntWalk.i64_in ys[k] (by omega), IntWalk.i64_in (xs[k] + ys[k]) (by omega)] at hown1
          simpa using hown1)
         clear hown1 hown hkt hbl hE
         go_wp2
         go_roundw
         case rel => exact ⟨k + 1, by omega, by go_num, hE1, Ho.out⟩
         case measure => simp [intOf]; omega
      · go_wp2
        go_region_law ((refine step_app_ints rfl _ _ rfl w.heap.size _ _ rfl (hown.alloc _).drew (by have := hE.le; simp; omega) _ _ _ _ rfl (Ints.lit1 wr _ 1).drew (by simp [lim]; omega) ?_; intro v' w1 hown1 hkt hbl))
        all_goals
         have hE1 := ((hE.alloc _).drew).below hbl
         have Ho := Lib.hid (show OwnInts w1 w.heap.size v' (List.take (k + 1) (addL xs ys (-1))) from by
          rw [Hn.out]
          rw [IntWalk.i64_in (-ys[k]) (by omega), IntWalk.i64_in (xs[k] + -ys[k]) (by omega)] at hown1
          simpa using hown1)
         clear hown1 hown hkt hbl hE
         go_wp2
         go_roundw
         case rel => exact ⟨k + 1, by omega, by go_num, hE1, Ho.out⟩
         case measure => simp [intOf]; omega
    · have e : k = 3 := by omega
      subst e
      go_wp2
      go_ret
      refine ⟨_, rfl, hE, ?_⟩
      have h3 := (addL_get (t := t) Hx.out Hy.out).1
      rw [List.take_of_length_le (by omega)] at hown
      exact hown.done (by simp [lim]; omega)
end Go.Proofs.Ytipmoedflpjioaa
