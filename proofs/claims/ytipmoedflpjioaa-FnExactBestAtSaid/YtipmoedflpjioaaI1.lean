/- The program's vectors: what its functions return. -/
import Derived.Test.YtipmoedflpjioaaS2
namespace Go.Proofs.Ytipmoedflpjioaa
set_option maxRecDepth 100000
open Go.RowKit

set_option maxHeartbeats 400000 in
theorem within_any (n lo hi : Int) (w : World) :
    Calls Try.prog 111 #[.int .i64 n, .int .i64 lo, .int .i64 hi] w fun e w' => e = .returned (.bool (inB n lo hi)) ∧ w = w' := by
  by_cases h : lo ≤ n ∧ n ≤ hi
  · rw [inB_true h.1 h.2]
    obtain ⟨h1, h2⟩ := h
    go_enter Try.func111, Try.ntmps111
    go_wp2
    go_ret
    exact ⟨rfl, rfl⟩
  · rw [inB_false h]
    by_cases h1 : lo ≤ n
    · have h2 : ¬ n ≤ hi := fun x => h ⟨h1, x⟩
      clear h
      go_enter Try.func111, Try.ntmps111
      go_wp2
      go_ret
      exact ⟨rfl, rfl⟩
    · clear h
      go_enter Try.func111, Try.ntmps111
      go_wp2
      go_ret
      exact ⟨rfl, rfl⟩

def outB (n : Int) : Bool := !inB n 0 20
set_option maxHeartbeats 400000 in
theorem validF_any (n : Int) (w : World) :
    Calls Try.prog 131 #[.int .i64 n] w fun e w' => e = .returned (.bool (outB n)) ∧ w = w' := by
  go_enter Try.func131, Try.ntmps131
  go_wp2_with (go_at_call 111; refine (within_any _ _ _ _).mono ?_; rintro e w' ⟨rfl, rfl⟩)
  go_ret
  exact ⟨rfl, rfl⟩

/-- The place of the first number out of range, or -1. -/
def outAt (xs : List Int) : Int := if xs.any outB then 0 else -1
theorem any_get {α : Type} {p : α → Bool} {xs : List α} {k : Nat} (hk : k < xs.length) (h : p xs[k] = true) : xs.any p = true := List.any_eq_true.2 ⟨_, List.getElem_mem hk, h⟩
theorem any_none {α : Type} {p : α → Bool} {xs : List α} (h : ∀ k (hk : k < xs.length), p xs[k] = false) : xs.any p = false := by
  rw [List.any_eq_false]
  intro x hx
  obtain ⟨k, hk, rfl⟩ := List.getElem_of_mem hx
  simp [h k hk]

set_option maxHeartbeats 400000 in
theorem indexFuncV_any (v : Value) (xs : List Int) (w : World) (h : Ints w v xs) :
    Calls Try.prog 132 #[v, .func (.func 131) #[] #[]] w fun e w' => (∃ n : Int, e = .returned (.int .i64 n) ∧ decide (0 ≤ n) = xs.any outB) ∧ w = w' := by
  obtain ⟨a, cap, rfl, h⟩ := h.open
  have hl : xs.length ≤ 4194304 := h.1
  go_enter Try.func132, Try.ntmps132
  go_wp2
  go_loop [8] (fun i => ∃ k : Nat, k ≤ xs.length ∧ i = .int .i64 k ∧ ∀ j (hj : j < xs.length), j < k → outB xs[j] = false) (fun i => xs.length - (intOf i).toNat)
  case atStart => exact ⟨0, by omega, rfl, fun _ _ h => by omega⟩
  case round =>
    obtain ⟨k, hk, rfl, hg⟩ := hrel
    have Hg := Lib.hid hg
    clear hg
    by_cases hlt : k < xs.length
    · obtain ⟨b, off, rfl, hc⟩ := h.at (by omega)
      have hck := hc k hlt
      clear hc
      cases hb : outB xs[k] with
      | true =>
        have Hd := Lib.hid (any_get hlt hb)
        go_wp2_with (go_at_call 131; refine (validF_any _ _).mono ?_; rintro e w' ⟨rfl, rfl⟩)
        go_ret
        exact ⟨⟨k, rfl, by rw [Hd.out]; simp⟩, rfl⟩
      | false =>
        have Hd : Hid (∀ j (hj : j < xs.length), j < k + 1 → outB xs[j] = false) := by
          intro j hj hjk
          by_cases e : j = k
          · subst e; exact hb
          · exact Hg.out j hj (by omega)
        go_wp2_with (go_at_call 131; refine (validF_any _ _).mono ?_; rintro e w' ⟨rfl, rfl⟩)
        go_round
        case rel => exact ⟨k + 1, by omega, by go_num, Hd.out⟩
        case measure => simp [intOf]; omega
    · have e : k = xs.length := by omega
      subst e
      have Hd := Lib.hid (any_none (fun j hj => Hg.out j hj hj))
      go_wp2
      go_ret
      exact ⟨⟨-1, rfl, by rw [Hd.out]; simp⟩, rfl⟩

set_option maxHeartbeats 400000 in
theorem containsFuncV_any (v : Value) (xs : List Int) (w : World) (h : Ints w v xs) :
    Calls Try.prog 130 #[v, .func (.func 131) #[] #[]] w fun e w' => e = .returned (.bool (xs.any outB)) ∧ w = w' := by
  go_enter Try.func130, Try.ntmps130
  go_wp2_with fail
  refine (indexFuncV_any _ _ _ h).mono ?_
  rintro e w' ⟨⟨n, rfl, hn⟩, rfl⟩
  have Hn := Lib.hid hn
  clear hn
  go_wp2
  go_ret
  exact ⟨ret_bool Hn.out, rfl⟩

theorem vecB_eq (xs : List Int) : vecB xs = (decide ((xs.length : Int) = 3) && !xs.any outB) := by
  rw [Bool.eq_iff_iff, vecB_iff]
  simp only [VecOk, Bool.and_eq_true, decide_eq_true_eq, Bool.not_eq_true', List.any_eq_false, outB, inB, decide_eq_false_iff_not]
  constructor
  · rintro ⟨h1, h2⟩; exact ⟨by omega, fun n hn => by simpa using h2 n hn⟩
  · rintro ⟨h1, h2⟩; exact ⟨by omega, fun n hn => by simpa using h2 n hn⟩

set_option maxHeartbeats 400000 in
theorem valid_any (v : Value) (xs : List Int) (w : World) (h : Ints w v xs) :
    Calls Try.prog 127 #[v] w fun e w' => e = .returned (.bool (vecB xs)) ∧ w = w' := by
  obtain ⟨a, cap, rfl, h⟩ := h.open
  by_cases h3 : xs.length = 3
  · have Hd : Hid (vecB xs = !xs.any outB) := by show vecB xs = _; rw [vecB_eq]; simp [h3]
    have hb : (((xs.length : Nat) : Int) == 3) = true := by simp [h3]
    clear h3
    go_enter Try.func127, Try.ntmps127
    go_wp2_with (go_at_call 130; refine (containsFuncV_any _ _ _ h).mono ?_; rintro e w' ⟨rfl, rfl⟩)
    go_ret
    exact ⟨ret_bool Hd.out.symm, rfl⟩
  · have Hd : Hid (vecB xs = false) := by
      show vecB xs = _
      rw [vecB_eq, decide_eq_false (by omega)]; rfl
    have hb : (((xs.length : Nat) : Int) == 3) = false := by simp; omega
    clear h3
    go_enter Try.func127, Try.ntmps127
    go_wp2
    go_ret
    exact ⟨ret_bool Hd.out.symm, rfl⟩

set_option maxHeartbeats 400000 in
theorem VecValid_any (v : Value) (xs : List Int) (w : World) (h : Ints w v xs) :
    Calls Try.prog 109 #[v] w fun e w' => e = .returned (.bool (vecB xs)) ∧ w = w' := by
  go_enter Try.func109, Try.ntmps109
  go_wp2_with (go_at_call 127; refine (valid_any _ _ _ h).mono ?_; rintro e w' ⟨rfl, rfl⟩)
  go_ret
  exact ⟨rfl, rfl⟩

set_option maxHeartbeats 400000 in
theorem bothValid_any (v u : Value) (xs ys : List Int) (w : World) (h : Ints w v xs) (h' : Ints w u ys) :
    Calls Try.prog 98 #[v, u] w fun e w' => e = .returned (.bool (vecB xs && vecB ys)) ∧ w = w' := by
  cases h1 : vecB xs with
  | true =>
    go_enter Try.func98, Try.ntmps98
    go_wp2_with fail
    refine (VecValid_any _ _ _ h).mono ?_; rintro e w' ⟨rfl, rfl⟩
    go_wp2_with fail
    refine (VecValid_any _ _ _ h').mono ?_; rintro e w' ⟨rfl, rfl⟩
    go_wp2
    go_ret
    exact ⟨ret_bool (by simp), rfl⟩
  | false =>
    go_enter Try.func98, Try.ntmps98
    go_wp2_with fail
    refine (VecValid_any _ _ _ h).mono ?_; rintro e w' ⟨rfl, rfl⟩
    go_wp2
    go_ret
    exact ⟨ret_bool (by simp), rfl⟩

set_option maxHeartbeats 400000 in
theorem fits_any (v u : Value) (xs ys : List Int) (w : World) (h : Ints w v xs) (h' : Ints w u ys) (hx : xs.length = 3) (hy : ys.length = 3) :
    Calls Try.prog 100 #[v, u] w fun e w' => e = .returned (.bool (fitsB xs ys)) ∧ w = w' := by
  obtain ⟨a, cap, rfl, h⟩ := h.open
  obtain ⟨a', cap', rfl, h'⟩ := h'.open
  obtain ⟨b, off, rfl, hc⟩ := h.at (by omega)
  obtain ⟨b', off', rfl, hc'⟩ := h'.at (by omega)
  rw [hx, hy]
  have Hc := Lib.hid hc
  have Hc' := Lib.hid hc'
  have Hx := Lib.hid hx
  have Hy := Lib.hid hy
  clear hc hc' h h' hx hy
  go_enter Try.func100, Try.ntmps100
  go_wp2
  go_loop [9] (fun i => ∃ k : Nat, k ≤ 3 ∧ i = .int .i64 k ∧ ∀ j (h1 : j < xs.length) (h2 : j < ys.length), j < k → xs[j] ≤ ys[j]) (fun i => 3 - (intOf i).toNat)
  case atStart => exact ⟨0, by omega, rfl, fun _ _ _ h => by omega⟩
  case round =>
    obtain ⟨k, hk, rfl, hg⟩ := hrel
    have Hg := Lib.hid hg
    clear hg
    by_cases hlt : k < 3
    · have l1 : k < xs.length := by have := Hx.out; omega
      have l2 : k < ys.length := by have := Hy.out; omega
      have c1 := Hc.out k l1
      have c2 := Hc'.out k l2
      by_cases hgt : ys[k] < xs[k]
      · have Hr : Hid (fitsB xs ys = false) := by
          rw [Bool.eq_false_iff]
          intro e
          have := (fitsB_iff Hx.out Hy.out).1 e k l1 l2
          omega
        go_wp2
        go_ret
        exact ⟨ret_bool Hr.out.symm, rfl⟩
      · have hle : xs[k] ≤ ys[k] := by omega
        have Hle := Lib.hid hle
        clear hle
        go_wp2
        go_round
        case rel => exact ⟨k + 1, by omega, by go_num, fun j h1 h2 hj => by
          by_cases e : j = k
          · subst e; exact Hle.out
          · exact Hg.out j h1 h2 (by omega)⟩
        case measure => simp [intOf]; omega
    · have e : k = 3 := by omega
      subst e
      have Hr : Hid (fitsB xs ys = true) := (fitsB_iff Hx.out Hy.out).2 fun j h1 h2 => Hg.out j h1 h2 (by have := Hx.out; omega)
      go_wp2
      go_ret
      exact ⟨ret_bool Hr.out.symm, rfl⟩

set_option maxHeartbeats 400000 in
theorem VecFits_any (v u : Value) (xs ys : List Int) (w : World) (h : Ints w v xs) (h' : Ints w u ys) :
    Calls Try.prog 73 #[v, u] w fun e w' => e = .returned (.bool (vfitsB xs ys)) ∧ w = w' := by
  cases h1 : vecB xs && vecB ys with
  | true =>
    have h2 : vecB xs = true ∧ vecB ys = true := by simpa using h1
    have l1 := Lib.hid (vecB_iff.1 h2.1).1
    have l2 := Lib.hid (vecB_iff.1 h2.2).1
    have Hr : Hid (vfitsB xs ys = fitsB xs ys) := by show vfitsB xs ys = _; simp [vfitsB, h1]
    clear h2
    go_enter Try.func73, Try.ntmps73
    go_wp2_with fail
    refine (bothValid_any _ _ _ _ _ h h').mono ?_; rintro e w' ⟨rfl, rfl⟩
    go_wp2_with fail
    refine (fits_any _ _ _ _ _ h h' l1.out l2.out).mono ?_; rintro e w' ⟨rfl, rfl⟩
    go_wp2
    go_ret
    exact ⟨ret_bool Hr.out.symm, rfl⟩
  | false =>
    have Hr : Hid (vfitsB xs ys = false) := by show vfitsB xs ys = _; simp [vfitsB, h1]
    go_enter Try.func73, Try.ntmps73
    go_wp2_with fail
    refine (bothValid_any _ _ _ _ _ h h').mono ?_; rintro e w' ⟨rfl, rfl⟩
    go_wp2
    go_ret
    exact ⟨ret_bool Hr.out.symm, rfl⟩

end Go.Proofs.Ytipmoedflpjioaa
