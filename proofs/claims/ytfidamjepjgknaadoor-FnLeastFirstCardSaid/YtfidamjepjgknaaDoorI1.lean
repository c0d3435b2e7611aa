/- The program's vectors: what its functions return. The program's sums of vectors, rooms and loads. The map of numbers that have been seen; laws for the walk. No condition. -/
import Derived.Test.YtfidamjepjgknaaDoorS1
import Derived.Lib.AppendZeros
import Derived.Maps.OwnSet
namespace Go.Proofs.YtfidamjepjgknaaDoor
section
set_option maxRecDepth 100000
open Go.RowKit

set_option maxHeartbeats 400000 in
theorem within_any (n lo hi : Int) (w : World) :
    Calls Tryd.prog 50 #[.int .i64 n, .int .i64 lo, .int .i64 hi] w fun e w' => e = .returned (.bool (inB n lo hi)) ∧ w = w' := by
  by_cases h : lo ≤ n ∧ n ≤ hi
  · rw [inB_true h.1 h.2]
    obtain ⟨h1, h2⟩ := h
    go_enter Tryd.func50, Tryd.ntmps50
    go_wp2
    go_ret
    exact ⟨rfl, rfl⟩
  · rw [inB_false h]
    by_cases h1 : lo ≤ n
    · have h2 : ¬ n ≤ hi := fun x => h ⟨h1, x⟩
      clear h
      go_enter Tryd.func50, Tryd.ntmps50
      go_wp2
      go_ret
      exact ⟨rfl, rfl⟩
    · clear h
      go_enter Tryd.func50, Tryd.ntmps50
      go_wp2
      go_ret
      exact ⟨rfl, rfl⟩

def outB (n : Int) : Bool := !inB n 0 20
set_option maxHeartbeats 400000 in
theorem validF_any (n : Int) (w : World) :
    Calls Tryd.prog 59 #[.int .i64 n] w fun e w' => e = .returned (.bool (outB n)) ∧ w = w' := by
  go_enter Tryd.func59, Tryd.ntmps59
  go_wp2_with (go_at_call 50; refine (within_any _ _ _ _).mono ?_; rintro e w' ⟨rfl, rfl⟩)
  go_ret
  exact ⟨rfl, rfl⟩

/-- The place of the first number out of range, or -1. -/
def outAt (xs : List Int) : Int := if xs.any outB then 0 else -1
theorem any_get {α : Type} {p : α → Bool} {xs : List α} {k : Nat} (hk : k < xs.length) (h : p xs[k] = true) : xs.any p = true := List.any_eq_true.2 ⟨_, List.getElem_mem hk, h⟩
theorem any_none {α : Type} {p : α → Bool} {xs : List α} (h : ∀ k (hk : k < xs.length), p xs[k] = false) : xs.any p = false := by
  rw [List.any_eq_false]
  intro x hx
  obtain ⟨k, hk, rfl⟩ := List.getElem_of_mem hx
  simp [h k hk]

set_option maxHeartbeats 400000 in
theorem indexFuncV_any (v : Value) (xs : List Int) (w : World) (h : Ints w v xs) :
    Calls Tryd.prog 60 #[v, .func (.func 59) #[] #[]] w fun e w' => (∃ n : Int, e = .returned (.int .i64 n) ∧ decide (0 ≤ n) = xs.any outB) ∧ w = w' := by
  obtain ⟨a, cap, rfl, h⟩ := h.open
  have hl : xs.length ≤ 4194304 := h.1
  go_enter Tryd.func60, Tryd.ntmps60
  go_wp2
  go_loop [8] (fun i => ∃ k : Nat, k ≤ xs.length ∧ i = .int .i64 k ∧ ∀ j (hj : j < xs.length), j < k → outB xs[j] = false) (fun i => xs.length - (intOf i).toNat)
  case atStart => exact ⟨0, by omega, rfl, fun _ _ h => by omega⟩
  case round =>
    obtain ⟨k, hk, rfl, hg⟩ := hrel
    have Hg := Lib.hid hg
    clear hg
    by_cases hlt : k < xs.length
    · obtain ⟨b, off, rfl, hc⟩ := h.at (by omega)
      have hck := hc k hlt
      clear hc
      cases hb : outB xs[k] with
      | true =>
        have Hd := Lib.hid (any_get hlt hb)
        go_wp2_with (go_at_call 59; refine (validF_any _ _).mono ?_; rintro e w' ⟨rfl, rfl⟩)
        go_ret
        exact ⟨⟨k, rfl, by rw [Hd.out]; simp⟩, rfl⟩
      | false =>
        have Hd : Hid (∀ j (hj : j < xs.length), j < k + 1 → outB xs[j] = false) := by
          intro j hj hjk
          by_cases e : j = k
          · subst e; exact hb
          · exact Hg.out j hj (by omega)
        go_wp2_with (go_at_call 59; refine (validF_any _ _).mono ?_; rintro e w' ⟨rfl, rfl⟩)
        go_round
        case rel => exact ⟨k + 1, by omega, by go_num, Hd.out⟩
        case measure => simp [intOf]; omega
    · have e : k = xs.length := by omega
      subst e
      have Hd := Lib.hid (any_none (fun j hj => Hg.out j hj hj))
      go_wp2
      go_ret
      exact ⟨⟨-1, rfl, by rw [Hd.out]; simp⟩, rfl⟩

set_option maxHeartbeats 400000 in
theorem containsFuncV_any (v : Value) (xs : List Int) (w : World) (h : Ints w v xs) :
    Calls Tryd.prog 58 #[v, .func (.func 59) #[] #[]] w fun e w' => e = .returned (.bool (xs.any outB)) ∧ w = w' := by
  go_enter Tryd.func58, Tryd.ntmps58
  go_wp2_with fail
  refine (indexFuncV_any _ _ _ h).mono ?_
  rintro e w' ⟨⟨n, rfl, hn⟩, rfl⟩
  have Hn := Lib.hid hn
  clear hn
  go_wp2
  go_ret
  exact ⟨ret_bool Hn.out, rfl⟩

theorem vecB_eq (xs : List Int) : vecB xs = (decide ((xs.length : Int) = 3) && !xs.any outB) := by
  rw [Bool.eq_iff_iff, vecB_iff]
  simp only [VecOk, Bool.and_eq_true, decide_eq_true_eq, Bool.not_eq_true', List.any_eq_false, outB, inB, decide_eq_false_iff_not]
  constructor
  · rintro ⟨h1, h2⟩; exact ⟨by omega, fun n hn => by simpa using h2 n hn⟩
  · rintro ⟨h1, h2⟩; exact ⟨by omega, fun n hn => by simpa using h2 n hn⟩

set_option maxHeartbeats 400000 in
theorem valid_any (v : Value) (xs : List Int) (w : World) (h : Ints w v xs) :
    Calls Tryd.prog 57 #[v] w fun e w' => e = .returned (.bool (vecB xs)) ∧ w = w' := by
  obtain ⟨a, cap, rfl, h⟩ := h.open
  by_cases h3 : xs.length = 3
  · have Hd : Hid (vecB xs = !xs.any outB) := by show vecB xs = _; rw [vecB_eq]; simp [h3]
    have hb : (((xs.length : Nat) : Int) == 3) = true := by simp [h3]
    clear h3
    go_enter Tryd.func57, Tryd.ntmps57
    go_wp2_with (go_at_call 58; refine (containsFuncV_any _ _ _ h).mono ?_; rintro e w' ⟨rfl, rfl⟩)
    go_ret
    exact ⟨ret_bool Hd.out.symm, rfl⟩
  · have Hd : Hid (vecB xs = false) := by
      show vecB xs = _
      rw [vecB_eq, decide_eq_false (by omega)]; rfl
    have hb : (((xs.length : Nat) : Int) == 3) = false := by simp; omega
    clear h3
    go_enter Tryd.func57, Tryd.ntmps57
    go_wp2
    go_ret
    exact ⟨ret_bool Hd.out.symm, rfl⟩

set_option maxHeartbeats 400000 in
theorem VecValid_any (v : Value) (xs : List Int) (w : World) (h : Ints w v xs) :
    Calls Tryd.prog 48 #[v] w fun e w' => e = .returned (.bool (vecB xs)) ∧ w = w' := by
  go_enter Tryd.func48, Tryd.ntmps48
  go_wp2_with (go_at_call 57; refine (valid_any _ _ _ h).mono ?_; rintro e w' ⟨rfl, rfl⟩)
  go_ret
  exact ⟨rfl, rfl⟩

set_option maxHeartbeats 400000 in
theorem bothValid_any (v u : Value) (xs ys : List Int) (w : World) (h : Ints w v xs) (h' : Ints w u ys) :
    Calls Tryd.prog 51 #[v, u] w fun e w' => e = .returned (.bool (vecB xs && vecB ys)) ∧ w = w' := by
  cases h1 : vecB xs with
  | true =>
    go_enter Tryd.func51, Tryd.ntmps51
    go_wp2_with fail
    refine (VecValid_any _ _ _ h).mono ?_; rintro e w' ⟨rfl, rfl⟩
    go_wp2_with fail
    refine (VecValid_any _ _ _ h').mono ?_; rintro e w' ⟨rfl, rfl⟩
    go_wp2
    go_ret
    exact ⟨ret_bool (by simp), rfl⟩
  | false =>
    go_enter Tryd.func51, Tryd.ntmps51
    go_wp2_with fail
    refine (VecValid_any _ _ _ h).mono ?_; rintro e w' ⟨rfl, rfl⟩
    go_wp2
    go_ret
    exact ⟨ret_bool (by simp), rfl⟩

set_option maxHeartbeats 400000 in
theorem fits_any (v u : Value) (xs ys : List Int) (w : World) (h : Ints w v xs) (h' : Ints w u ys) (hx : xs.length = 3) (hy : ys.length = 3) :
    Calls Tryd.prog 25 #[v, u] w fun e w' => e = .returned (.bool (fitsB xs ys)) ∧ w = w' := by
  obtain ⟨a, cap, rfl, h⟩ := h.open
  obtain ⟨a', cap', rfl, h'⟩ := h'.open
  obtain ⟨b, off, rfl, hc⟩ := h.at (by omega)
  obtain ⟨b', off', rfl, hc'⟩ := h'.at (by omega)
  rw [hx, hy]
  have Hc := Lib.hid hc
  have Hc' := Lib.hid hc'
  have Hx := Lib.hid hx
  have Hy := Lib.hid hy
  clear hc hc' h h' hx hy
  go_enter Tryd.func25, Tryd.ntmps25
  go_wp2
  go_loop [9] (fun i => ∃ k : Nat, k ≤ 3 ∧ i = .int .i64 k ∧ ∀ j (h1 : j < xs.length) (h2 : j < ys.length), j < k → xs[j] ≤ ys[j]) (fun i => 3 - (intOf i).toNat)
  case atStart => exact ⟨0, by omega, rfl, fun _ _ _ h => by omega⟩
  case round =>
    obtain ⟨k, hk, rfl, hg⟩ := hrel
    have Hg := Lib.hid hg
    clear hg
    by_cases hlt : k < 3
    · have l1 : k < xs.length := by have := Hx.out; omega
      have l2 : k < ys.length := by have := Hy.out; omega
      have c1 := Hc.out k l1
      have c2 := Hc'.out k l2
      by_cases hgt : ys[k] < xs[k]
      · have Hr : Hid (fitsB xs ys = false) := by
          rw [Bool.eq_false_iff]
          intro e
          have := (fitsB_iff Hx.out Hy.out).1 e k l1 l2
          omega
        go_wp2
        go_ret
        exact ⟨ret_bool Hr.out.symm, rfl⟩
      · have hle : xs[k] ≤ ys[k] := by omega
        have Hle := Lib.hid hle
        clear hle
        go_wp2
        go_round
        case rel => exact ⟨k + 1, by omega, by go_num, fun j h1 h2 hj => by
          by_cases e : j = k
          · subst e; exact Hle.out
          · exact Hg.out j h1 h2 (by omega)⟩
        case measure => simp [intOf]; omega
    · have e : k = 3 := by omega
      subst e
      have Hr : Hid (fitsB xs ys = true) := (fitsB_iff Hx.out Hy.out).2 fun j h1 h2 => Hg.out j h1 h2 (by have := Hx.out; omega)
      go_wp2
      go_ret
      exact ⟨ret_bool Hr.out.symm, rfl⟩

set_option maxHeartbeats 400000 in
theorem VecFits_any (v u : Value) (xs ys : List Int) (w : World) (h : Ints w v xs) (h' : Ints w u ys) :
    Calls Tryd.prog 34 #[v, u] w fun e w' => e = .returned (.bool (vfitsB xs ys)) ∧ w = w' := by
  cases h1 : vecB xs && vecB ys with
  | true =>
    have h2 : vecB xs = true ∧ vecB ys = true := by simpa using h1
    have l1 := Lib.hid (vecB_iff.1 h2.1).1
    have l2 := Lib.hid (vecB_iff.1 h2.2).1
    have Hr : Hid (vfitsB xs ys = fitsB xs ys) := by show vfitsB xs ys = _; simp [vfitsB, h1]
    clear h2
    go_enter Tryd.func34, Tryd.ntmps34
    go_wp2_with fail
    refine (bothValid_any _ _ _ _ _ h h').mono ?_; rintro e w' ⟨rfl, rfl⟩
    go_wp2_with fail
    refine (fits_any _ _ _ _ _ h h' l1.out l2.out).mono ?_; rintro e w' ⟨rfl, rfl⟩
    go_wp2
    go_ret
    exact ⟨ret_bool Hr.out.symm, rfl⟩
  | false =>
    have Hr : Hid (vfitsB xs ys = false) := by show vfitsB xs ys = _; simp [vfitsB, h1]
    go_enter Tryd.func34, Tryd.ntmps34
    go_wp2_with fail
    refine (bothValid_any _ _ _ _ _ h h').mono ?_; rintro e w' ⟨rfl, rfl⟩
    go_wp2
    go_ret
    exact ⟨ret_bool Hr.out.symm, rfl⟩
end

section
set_option maxRecDepth 100000
open Go.RowKit

set_option maxHeartbeats 400000 in
theorem min_any (v : Value) (xs : List Int) (w : World) (h : Ints w v xs) (hx : 0 < xs.length) :
    Calls Tryd.prog 49 #[v] w fun e w' => (∃ m : Int, e = .returned (.int .i64 m) ∧ (∀ n ∈ xs, m ≤ n) ∧ m ∈ xs) ∧ w = w' := by
  obtain ⟨a, cap, rfl, h⟩ := h.open
  obtain ⟨b, off, rfl, hc⟩ := h.at (by omega)
  have hl : xs.length ≤ 4194304 := h.1
  have Hc := Lib.hid hc
  have c0 := hc 0 hx
  simp only [Nat.add_zero] at c0
  have hx1 : ¬ (xs.length : Int) < 1 := by omega
  have H0 : Hid (∀ j (hj : j < xs.length), j < 1 → xs[0] ≤ xs[j]) := by
    intro j hj h
    have e : j = 0 := by omega
    subst e
    exact Int.le_refl _
  clear hc h
  go_enter Tryd.func49, Tryd.ntmps49
  go_wp2
  go_loop [3, 4] (fun s i => ∃ (k : Nat) (m : Int), 1 ≤ k ∧ k ≤ xs.length ∧ i = .int .i64 k ∧ s = .int .i64 m ∧ (∀ j (hj : j < xs.length), j < k → m ≤ xs[j]) ∧ m ∈ xs) (fun _ i => xs.length - (intOf i).toNat)
  case atStart => exact ⟨1, xs[0], by omega, by omega, rfl, rfl, H0.out, List.getElem_mem _⟩
  case round =>
    obtain ⟨k, m, hk1, hk, rfl, rfl, hg, hm⟩ := hrel
    have Hg := Lib.hid hg
    have Hm := Lib.hid hm
    clear hg hm
    by_cases hlt : k < xs.length
    · have ck := Hc.out k hlt
      by_cases hle : xs[k] < m
      · go_wp2
        go_round
        case rel => exact ⟨k + 1, xs[k], by omega, by omega, by go_num, rfl, fun j hj hjk => by
          by_cases e : j = k
          · subst e; omega
          · have := Hg.out j hj (by omega); omega, List.getElem_mem _⟩
        case measure => simp [intOf]; omega
      · go_wp2
        go_round
        case rel => exact ⟨k + 1, m, by omega, by omega, by go_num, rfl, fun j hj hjk => by
          by_cases e : j = k
          · subst e; omega
          · exact Hg.out j hj (by omega), Hm.out⟩
        case measure => simp [intOf]; omega
    · have e : k = xs.length := by omega
      subst e
      go_wp2
      go_ret
      exact ⟨⟨m, rfl, fun n hn => by
        obtain ⟨j, hj, rfl⟩ := List.getElem_of_mem hn
        exact Hg.out j hj hj, Hm.out⟩, rfl⟩

set_option maxHeartbeats 400000 in
theorem roomValid_any (v : Value) (xs : List Int) (w : World) (h : Ints w v xs) :
    Calls Tryd.prog 32 #[v] w fun e w' => e = .returned (.bool (roomB xs)) ∧ w = w' := by
  cases h1 : vecB xs with
  | true =>
    have l1 := Lib.hid (vecB_iff.1 h1)
    go_enter Tryd.func32, Tryd.ntmps32
    go_wp2_with fail
    refine (VecValid_any _ _ _ h).mono ?_; rintro e w' ⟨rfl, rfl⟩
    go_wp2_with fail
    refine (min_any _ _ _ h (by have := l1.out.1; omega)).mono ?_
    rintro e w' ⟨⟨m, rfl, h1, h2⟩, rfl⟩
    have Hd : Hid (roomB xs = decide (1 ≤ m)) := by
      show roomB xs = _
      rw [Bool.eq_iff_iff, roomB_iff, decide_eq_true_eq]
      exact ⟨fun x => x.2 m h2, fun x => ⟨l1.out, fun n hn => by have := h1 n hn; omega⟩⟩
    clear h1 h2
    go_wp2
    go_ret
    exact ⟨ret_bool Hd.out.symm, rfl⟩
  | false =>
    have Hd : Hid (roomB xs = false) := by
      show roomB xs = _
      rw [Bool.eq_false_iff]
      intro x
      rw [vecB_iff.2 (roomB_iff.1 x).1] at h1
      cases h1
    go_enter Tryd.func32, Tryd.ntmps32
    go_wp2_with fail
    refine (VecValid_any _ _ _ h).mono ?_; rintro e w' ⟨rfl, rfl⟩
    go_wp2
    go_ret
    exact ⟨ret_bool Hd.out.symm, rfl⟩

set_option maxHeartbeats 400000 in
theorem idValid_any (n : Int) (w : World) :
    Calls Tryd.prog 33 #[.int .i64 n] w fun e w' => e = .returned (.bool (inB n 1 40)) ∧ w = w' := by
  go_enter Tryd.func33, Tryd.ntmps33
  go_wp2_with (go_at_call 50; refine (within_any _ _ _ _).mono ?_; rintro e w' ⟨rfl, rfl⟩)
  go_ret
  exact ⟨rfl, rfl⟩

theorem make3 (w : World) : (Instr.makeSlice 55 (.int .i64 3) (.int .i64 3)).run Tryd.prog w = .ok (.slice (some ⟨w.heap.size, 0, none⟩) 3 3) (w.alloc (.cells #[.int .i64 0, .int .i64 0, .int .i64 0] 3)) := by kernel_rfl

set_option maxHeartbeats 400000 in
theorem zeros_any (w : World) :
    Calls Tryd.prog 37 #[] w fun e w' => ∃ r, e = .returned r ∧ Ext w w' ∧ Ints w' r [0, 0, 0] := by
  have hmk := make3
  go_enter Tryd.func37, Tryd.ntmps37
  go_wp2
  go_ret
  exact ⟨_, rfl, (Ext.refl w).alloc _, Ints.lit w _ [0, 0, 0] 3 3 rfl rfl (by simp [lim])⟩

/-- The first numbers are sums, the others are zeros. -/
def mixL (xs ys : List Int) (t : Int) (k : Nat) : List Int := (addL xs ys t).take k ++ List.replicate (3 - k) 0
theorem mixL_step {xs ys : List Int} {t : Int} {k : Nat} (hx : xs.length = 3) (hy : ys.length = 3) (h : k < 3) : (mixL xs ys t k).set k (xs[k] + t * ys[k]) = mixL xs ys t (k + 1) := by
  match xs, hx, ys, hy, k, h with
  | [a, b, c], _, [x, y, z], _, 0, _ => rfl
  | [a, b, c], _, [x, y, z], _, 1, _ => rfl
  | [a, b, c], _, [x, y, z], _, 2, _ => rfl
theorem mixL_len {xs ys : List Int} {t : Int} {k : Nat} (hx : xs.length = 3) (hy : ys.length = 3) (h : k ≤ 3) : (mixL xs ys t k).length = 3 := by
  have := (addL_get (t := t) hx hy).1
  simp [mixL, this]; omega

set_option maxHeartbeats 1000000 in
theorem plus_any (v u : Value) (xs ys : List Int) (w : World) (h : Ints w v xs) (h' : Ints w u ys) (hx : xs.length = 3) (hy : ys.length = 3)
    (bx : Bd 1000000000000000 xs) (bY : Bd 1000000000000000 ys) :
    Calls Tryd.prog 26 #[v, u] w fun e w' => ∃ r, e = .returned r ∧ Ext w w' ∧ Ints w' r (addL xs ys 1) := by
  obtain ⟨a, cap, rfl, h⟩ := h.open
  obtain ⟨a', cap', rfl, h'⟩ := h'.open
  obtain ⟨b, off, rfl, hc⟩ := h.at (by omega)
  obtain ⟨b', off', rfl, hc'⟩ := h'.at (by omega)
  rw [hx, hy]
  have Hc := Lib.hid hc
  have Hc' := Lib.hid hc'
  have Hx := Lib.hid hx
  have Hy := Lib.hid hy
  have Bx := Lib.hid bx
  have By := Lib.hid bY
  clear hc hc' h h' hx hy bx bY
  have hmk := make3
  go_enter Tryd.func26, Tryd.ntmps26
  go_wp2
  clear hmk
  go_loopw [10] (fun i wr => ∃ k : Nat, k ≤ 3 ∧ i = .int .i64 k ∧ Ext w wr ∧ wr.ownsRow w.heap.size 3 1 (.slice (some ⟨w.heap.size, 0, none⟩) 3 3) 3 ((mixL xs ys 1 k).map (Value.int .i64))) (fun i _ => 3 - (intOf i).toNat)
  case atStart => exact ⟨0, by omega, rfl, (Ext.refl w).alloc _, World.ownsRow_lit w #[.int .i64 0, .int .i64 0, .int .i64 0] 3 (Nat.le_refl _) (by simp [maxLen]) rfl⟩
  case round =>
    obtain ⟨k, hk, rfl, hE, hown⟩ := hrel
    by_cases hlt : k < 3
    · have l1 : k < xs.length := by have := Hx.out; omega
      have l2 : k < ys.length := by have := Hy.out; omega
      have c1 := hE.cell (Hc.out k l1)
      have c2 := hE.cell (Hc'.out k l2)
      have l3 : k < (mixL xs ys 1 k).length := by rw [mixL_len Hx.out Hy.out hk]; exact hlt
      have c3 := hown.cellAt k (by omega)
      rw [List.getElem?_map, List.getElem?_eq_getElem l3, Option.map_some] at c3
      have f3 := hown.frozenAt k
      have b1 : (k : Int) < 3 := by omega
      have b0 : (0 : Int) ≤ (k : Int) := by omega
      have m1 := Bx.out _ (List.getElem_mem l1)
      have m2 := By.out _ (List.getElem_mem l2)
      have Hn := Lib.hid (mixL_step (t := 1) Hx.out Hy.out hlt)
      have Ho := Lib.hid hown
      clear hown
      go_wp2
      go_region
      have hE1 := (hE.setCell (p := ⟨w.heap.size, k, none⟩) (Nat.le_refl _) (.int .i64 (xs[k] + ys[k]))).drew
      have Ho1 := Lib.hid (show (wr.setCell ⟨w.heap.size, k, none⟩ (.int .i64 (xs[k] + ys[k]))).drew.ownsRow w.heap.size 3 1 (.slice (some ⟨w.heap.size, 0, none⟩) 3 3) 3 ((mixL xs ys 1 (k + 1)).map (Value.int .i64)) from by
        have h1 := (World.ownsRow.stored Ho.out k (.int .i64 (xs[k] + ys[k]))).1.drew
        rw [← Hn.out, List.map_set]
        simpa using h1)
      clear hE
      go_wp2
      go_roundw
      case rel => exact ⟨k + 1, by omega, by go_num, hE1, Ho1.out⟩
      case measure => simp [intOf]; omega
    · have e : k = 3 := by omega
      subst e
      have Ho1 := Lib.hid (show Ints wr (.slice (some ⟨w.heap.size, 0, none⟩) 3 3) (addL xs ys 1) from by
        have h3 := (addL_get (t := 1) Hx.out Hy.out).1
        have e : mixL xs ys 1 3 = addL xs ys 1 := by
          unfold mixL
          rw [List.take_of_length_le (by omega)]
          simp
        rw [e] at hown
        exact Ints.of_own hown (by simp [lim]; omega))
      clear hown
      go_wp2
      go_ret
      exact ⟨_, rfl, hE, Ho1.out⟩

set_option maxHeartbeats 1000000 in
theorem loadOf_any (v : Value) (ts : List T) (w : World) (h : Tasks w v ts) (hg : Good ts) :
    Calls Tryd.prog 23 #[v] w fun e w' => ∃ r, e = .returned r ∧ Ext w w' ∧ Ints w' r (loadL ts) := by
  obtain ⟨a, cap, rfl, h⟩ := h.open
  have hl : ts.length ≤ 4194304 := h.1
  have Hg := Lib.hid hg
  clear hg
  go_enter Tryd.func23, Tryd.ntmps23
  go_wp2_with fail
  refine (zeros_any _).mono ?_
  rintro e w1 ⟨r, rfl, hE, hz⟩
  have Hz := Lib.hid hz
  clear hz
  go_wp2_with fail
  go_loopw [3, 9] (fun s i wr => ∃ k : Nat, k ≤ ts.length ∧ i = .int .i64 k ∧ Ext w wr ∧ Ints wr s (loadL (ts.take k))) (fun _ i _ => ts.length - (intOf i).toNat)
  case atStart => exact ⟨0, by omega, rfl, hE, Hz.out⟩
  case round =>
    clear hE Hz
    obtain ⟨k, hk, rfl, hE, hs⟩ := hrel
    by_cases hlt : k < ts.length
    · obtain ⟨b, off, nd, rfl, c0, c1, hn⟩ := h.at hlt
      have c0' := hE.cell c0
      have c1' := hE.cell c1
      obtain ⟨an, cn, rfl, hn'⟩ := (hn.ext hE).open
      have Hn := Lib.hid hn'
      have Hs := Lib.hid hs
      have H1 := Lib.hid (loadL_good _ (Hg.out.take k))
      have H2 := Lib.hid (Hg.out _ (List.getElem_mem hlt))
      have Hst := Lib.hid (loadL_step hlt)
      have hkl : (ts.take k).length ≤ 4194304 := by simp; omega
      clear hn hn' hs c0 c1
      go_wp2_with fail
      have hEx : Ext wr _ := (Ext.refl wr).alloc (Obj.cells #[.int .i64 ts[k].id, .slice an ts[k].need.length cn] 31)
      refine (plus_any _ _ _ _ _ (Hs.out.ext hEx) (Hn.out.ext hEx) H1.out.1 H2.out.1 (H1.out.2.mono (by omega)) (H2.out.2.mono (by omega))).mono ?_
      rintro e w3 ⟨r3, rfl, hE3, hr⟩
      have hE4 := hE.trans (hEx.trans hE3)
      have Hr := Lib.hid hr
      clear hr hEx hE3
      go_wp2_with fail
      go_roundw
      case rel => exact ⟨k + 1, by omega, by go_num, hE4, by rw [Hst.out]; exact Hr.out⟩
      case measure => simp [intOf]; omega
    · have e : k = ts.length := by omega
      subst e
      rw [List.take_length] at hs
      have Hs := Lib.hid hs
      clear hs
      go_wp2
      go_ret
      exact ⟨_, rfl, hE, Hs.out⟩
end

section
set_option maxRecDepth 100000
open Go.RowKit

/-- A block is a map whose keys are these numbers, each with a task. -/
def MapIds (w : World) (b : Nat) (ids : List Int) : Prop :=
  ∃ es clock, w.heap[b]? = some (Obj.map es clock) ∧ es.toList.map (·.key) = ids.map (Value.int .i64) ∧ ∀ e ∈ es.toList, ∃ i a n c, e.val = .agg #[.int .i64 i, .slice a n c]

theorem MapIds.ext {w w' : World} {b : Nat} {ids : List Int} (h : MapIds w b ids) (k : Ext w w') : MapIds w' b ids := by
  obtain ⟨es, clock, hb, r⟩ := h
  exact ⟨es, clock, (k.block (lt_of_heap hb)).trans hb, r⟩
theorem MapIds.made (w : World) : MapIds (w.alloc (.map #[] 0)) w.heap.size [] := ⟨#[], 0, heap_alloc_new w _, rfl, fun e h => by simp at h⟩

theorem findNow_ids (id : Int) : ∀ (es : List MapEntry) (ids : List Int) (i : Nat), es.map (·.key) = ids.map (Value.int .i64) →
    ∃ r, Instr.findNow (.int .i64) (.int .i64 id) es i = some r ∧ r.isSome = ids.contains id ∧ ∀ x, r = some x → ∃ e ∈ es, x.2 = e.val
  | [], [], i, _ => ⟨none, rfl, by simp, fun x h => by cases h⟩
  | e :: es, n :: ids, i, h => by
    simp only [List.map_cons, List.cons.injEq] at h
    simp only [Instr.findNow, h.1, Instr.sameNow]
    by_cases hn : id = n
    · subst hn
      refine ⟨some (i, e.val), by simp, by simp, fun x hx => ?_⟩
      simp only [Option.some.injEq] at hx
      subst hx
      exact ⟨e, by simp, rfl⟩
    · obtain ⟨r, h1, h2, h3⟩ := findNow_ids id es ids (i + 1) h.2
      refine ⟨r, ?_, ?_, fun x hx => ?_⟩
      · have hb : (id == n) = false := by simpa using hn
        simp [hb, h1]
      · rw [h2]; simp [hn]
      · obtain ⟨e', he', hx'⟩ := h3 x hx
        exact ⟨e', by simp [he'], hx'⟩
  | [], _ :: _, _, h => by simp at h
  | _ :: _, [], _, h => by simp at h

theorem under_int : Tryd.prog.underlying 3 = some (.int .i64) := by kernel_rfl
theorem under_seen : Tryd.prog.underlying 64 = some (.map 3 31) := by kernel_rfl
theorem zero_task (w : World) : (zeroValue 31).run Tryd.prog w = .ok (.agg #[.int .i64 0, .slice none 0 0]) w := by kernel_rfl

theorem checkKey_succ (b : Bool) (m : Nat) (id : Int) (w : World) : (Instr.checkKey b (m + 1) 3 (.int .i64 id)).run Tryd.prog w = .ok () w := by
  simp [Instr.checkKey, run_underlying under_int]
theorem checkKey_int (b : Bool) (id : Int) (w : World) : (Instr.checkKey b 10000 3 (.int .i64 id)).run Tryd.prog w = .ok () w := checkKey_succ b 9999 id w

theorem run_lookup_ids {w : World} {b : Nat} {ids : List Int} (h : MapIds w b ids) (id : Int) :
    ∃ i a n c, (Instr.lookup 64 (.map (some b)) (.int .i64 id) true).run Tryd.prog w = .ok (.tuple #[.agg #[.int .i64 i, .slice a n c], .bool (ids.contains id)]) w := by
  obtain ⟨es, clock, hb, hk, hv⟩ := h
  obtain ⟨r, h1, h2, h3⟩ := findNow_ids id es.toList ids 0 hk
  cases r with
  | none =>
    refine ⟨0, none, 0, 0, ?_⟩
    simp at h2
    simp [Instr.lookup, run_underlying under_seen, MapKept.run_getObj_map hb, checkKey_int, Instr.findKey, run_underlying under_int, h1, h2]
  | some x =>
    obtain ⟨e, he, hx⟩ := h3 x rfl
    obtain ⟨i, a, n, c, hv'⟩ := hv e he
    refine ⟨i, a, n, c, ?_⟩
    simp at h2
    simp [Instr.lookup, run_underlying under_seen, MapKept.run_getObj_map hb, checkKey_int, Instr.findKey, run_underlying under_int, h1, hx, hv', h2]

theorem run_update_ids {w : World} {b : Nat} {ids : List Int} (h : MapIds w b ids) {id : Int} (hid : ids.contains id = false) (i : Int) (a : Option Addr) (n c : Nat) :
    ∃ w', (Instr.mapUpdate 64 (.map (some b)) (.int .i64 id) (.agg #[.int .i64 i, .slice a n c])).run Tryd.prog w = .ok () w' ∧ MapIds w' b (ids ++ [id]) ∧ w.grownBy w' (some b) := by
  obtain ⟨es, clock, hb, hk, hv⟩ := h
  obtain ⟨r, h1, h2, h3⟩ := findNow_ids id es.toList ids 0 hk
  rw [hid] at h2
  have hr : r = none := by cases r <;> simp_all
  subst hr
  refine ⟨{ w with heap := w.heap.setIfInBounds b (.map (es.push { key := .int .i64 id, val := .agg #[.int .i64 i, .slice a n c], born := clock }) (clock + 1)) }, ?_, ?_, ?_⟩
  · simp [Instr.mapUpdate, run_underlying under_seen, MapKept.run_getObj_map hb, checkKey_int, Instr.findKey, run_underlying under_int, h1, Sem.run, setObj, hb]
  · have hlt := lt_of_heap hb
    refine ⟨es.push { key := .int .i64 id, val := .agg #[.int .i64 i, .slice a n c], born := clock }, clock + 1, ?_, ?_, ?_⟩
    · simp [hlt]
    · simp [hk]
    · intro e he
      simp at he
      rcases he with he | he
      · exact hv e (by simpa using he)
      · subst he; exact ⟨i, a, n, c, rfl⟩
  · refine ⟨rfl, rfl, rfl, by simp, fun k hk' hne => ?_⟩
    have : b ≠ k := fun e => hne (by rw [e])
    simp [this]

section
variable {w : World} {ops : Array Oper} {rest : List Oper} {o : Oper} {a : Act} {Q : Exit → Act → World → Prop}
theorem lookup_ids (hg : o.guard = none) (m x : Operand) (hop : o.op = Op.lookup 64 m x true) (b : Nat) (ids : List Int) (hm : a.eval m = .map (some b)) (hown : MapIds w b ids) (id : Int) (hx : a.eval x = .int .i64 id) (bb : Bool) (hbb : ids.contains id = bb)
    (hK : ∀ i ad n c, wpList Tryd.prog ops Q rest (a.put o.dst (.tuple #[.agg #[.int .i64 i, .slice ad n c], .bool bb])) w) : wpList Tryd.prog ops Q (o :: rest) a w := by
  refine wpList_plain hg fun K' hK' => ?_
  obtain ⟨i, ad, n, c, hrun⟩ := run_lookup_ids hown id
  rw [hbb] at hrun
  unfold Oper.wp
  simp [execOp, hop, hm, hx, hrun, Result.andThen]
  exact hK' _ _ (hK i ad n c)
theorem update_ids (hg : o.guard = none) (m x v : Operand) (hop : o.op = Op.mapUpdate 64 m x v) (b : Nat) (ids : List Int) (hm : a.eval m = .map (some b)) (hown : MapIds w b ids) (id : Int) (hx : a.eval x = .int .i64 id) (hid : ids.contains id = false)
    (i : Int) (ad : Option Addr) (n c : Nat) (hv : a.eval v = .agg #[.int .i64 i, .slice ad n c])
    (hK : ∀ w', MapIds w' b (ids ++ [id]) → w.grownBy w' (some b) → wpList Tryd.prog ops Q rest (a.put o.dst undef) w') : wpList Tryd.prog ops Q (o :: rest) a w := by
  refine wpList_plain hg fun K' hK' => ?_
  obtain ⟨w', hrun, r1, r2⟩ := run_update_ids hown hid i ad n c
  unfold Oper.wp
  simp [execOp, hop, hm, hx, hv, hrun, Result.andThen]
  exact hK' _ _ (hK w' r1 r2)
end

set_option maxRecDepth 100000 in
theorem run_grow0 (n : Nat) (h0 : 0 < n) (hn : n ≤ 4194304) (w : World) (ty : TypeId) :
    ∃ cap w', (Builtin.append_ #[24, 3] ty #[.slice none 0 0, .int .i64 n]).run Tryd.prog w = .ok (.slice (some ⟨w.heap.size, 0, none⟩) n cap) w' ∧ Ext w w' ∧ w'.ownsRow w.heap.size 31 2 (.slice (some ⟨w.heap.size, 0, none⟩) 0 cap) 0 [] := by
  obtain ⟨i, z, ht, hi, hz, hs, hby, hzs, hp⟩ := elt_task.got
  have hr := Lib.run_append_nil_zeros w _ _ ty _ i z .i64 .i64 ht under_int hi hz n h0 (by omega) (by omega) (by rw [hby]; omega)
  refine ⟨_, _, hr, ((Ext.refl w).drew).alloc _, ?_⟩
  have h1 := grownCap_ge w n 0 31
  refine World.ownsRow_made w.drew _ _ (Nat.le_refl _) (grownCap_le_maxLen w n 0 _ (by simp [maxLen]; omega)) ?_
  rw [Array.size_append, size_zeroCells, size_zeroCells, hzs, ← Nat.add_mul]
  congr 1
  omega
end

end Go.Proofs.YtfidamjepjgknaaDoor
