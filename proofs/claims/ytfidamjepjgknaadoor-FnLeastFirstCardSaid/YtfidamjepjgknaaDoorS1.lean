/- The reference's vectors and tasks: what its functions return. The reference's vectors: fitting. The reference's loads and validity of tasks. The reference's validity of nodes, and what fits. No condition. -/
import Derived.Test.YtfidamjepjgknaaDoorRep
import Derived.Test.YtfidamjepjgknaaDoorOwn
import Derived.StillTailTactics
import Derived.Deep.RegionWith
namespace Go.Proofs.YtfidamjepjgknaaDoor
section
set_option maxRecDepth 100000
open Go.RowKit

set_option maxHeartbeats 400000 in
theorem l6In_any (n lo hi : Int) (w : World) :
    Calls Tryd.prog 41 #[.int .i64 n, .int .i64 lo, .int .i64 hi] w fun e w' => e = .returned (.bool (inB n lo hi)) ∧ w = w' := by
  by_cases h : lo ≤ n ∧ n ≤ hi
  · rw [inB_true h.1 h.2]
    obtain ⟨h1, h2⟩ := h
    go_enter Tryd.func41, Tryd.ntmps41
    go_wp2
    go_ret
    exact ⟨rfl, rfl⟩
  · rw [inB_false h]
    by_cases h1 : lo ≤ n
    · have h2 : ¬ n ≤ hi := fun x => h ⟨h1, x⟩
      clear h
      go_enter Tryd.func41, Tryd.ntmps41
      go_wp2
      go_ret
      exact ⟨rfl, rfl⟩
    · clear h
      go_enter Tryd.func41, Tryd.ntmps41
      go_wp2
      go_ret
      exact ⟨rfl, rfl⟩

theorem vecB_all {xs : List Int} (h : ∀ j (hj : j < xs.length), 0 ≤ xs[j] ∧ xs[j] ≤ 20) : vecB xs = decide ((xs.length : Int) = 3) := by
  have : ∀ n ∈ xs, 0 ≤ n ∧ n ≤ 20 := fun n hn => by
    obtain ⟨j, hj, rfl⟩ := List.getElem_of_mem hn
    exact h j hj
  rw [Bool.eq_iff_iff, vecB_iff]
  simp only [VecOk, decide_eq_true_eq]
  exact ⟨fun h => by omega, fun h => ⟨by omega, this⟩⟩
theorem vecB_bad {xs : List Int} {k : Nat} (hk : k < xs.length) (h : ¬ (0 ≤ xs[k] ∧ xs[k] ≤ 20)) : vecB xs = false := by
  rw [Bool.eq_false_iff]
  exact fun x => h ((vecB_iff.1 x).2 _ (List.getElem_mem hk))

set_option maxHeartbeats 400000 in
theorem sVecValid_any (v : Value) (xs : List Int) (w : World) (h : Ints w v xs) :
    Calls Tryd.prog 55 #[v] w fun e w' => e = .returned (.bool (vecB xs)) ∧ w = w' := by
  obtain ⟨a, cap, rfl, h⟩ := h.open
  have hl : xs.length ≤ 4194304 := h.1
  go_enter Tryd.func55, Tryd.ntmps55
  go_wp2
  go_loop [3] (fun i => ∃ k : Nat, k ≤ xs.length ∧ i = .int .i64 k ∧ ∀ j (hj : j < xs.length), j < k → 0 ≤ xs[j] ∧ xs[j] ≤ 20) (fun i => xs.length - (intOf i).toNat)
  case atStart => exact ⟨0, by omega, rfl, fun _ _ h => by omega⟩
  case round =>
    obtain ⟨k, hk, rfl, hg⟩ := hrel
    by_cases hlt : k < xs.length
    · obtain ⟨b, off, rfl, hc⟩ := h.at (by omega)
      have hck := hc k hlt
      have Hg := Lib.hid hg
      clear hg hc
      by_cases h0 : 0 ≤ xs[k] ∧ xs[k] ≤ 20
      · have hb := inB_true h0.1 h0.2
        have H0 := Lib.hid h0
        clear h0
        go_wp2_with (go_at_call 41; refine (l6In_any _ _ _ _).mono ?_; rintro e w' ⟨rfl, rfl⟩)
        go_round
        case rel => exact ⟨k + 1, by omega, by go_num, fun j hj hjk => by
          by_cases e : j = k
          · subst e; exact H0.out
          · exact Hg.out j hj (by omega)⟩
        case measure => simp [intOf]; omega
      · have hb := inB_false h0
        have H0 := Lib.hid (vecB_bad hlt h0)
        clear h0
        go_wp2_with (go_at_call 41; refine (l6In_any _ _ _ _).mono ?_; rintro e w' ⟨rfl, rfl⟩)
        go_ret
        exact ⟨ret_bool H0.out.symm, rfl⟩
    · have e : k = xs.length := by omega
      subst e
      have H0 := Lib.hid (vecB_all (fun j hj => hg j hj hj))
      clear hg
      go_wp2
      go_ret
      exact ⟨ret_bool H0.out.symm, rfl⟩

theorem hasB_yes {ts : List T} {many k : Nat} {id : Int} (hk : k < ts.length) (hm : k < many) (h : ts[k].id = id) : hasB ts many id = true := by
  unfold hasB
  simp only [List.any_eq_true, beq_iff_eq]
  exact ⟨ts[k], List.mem_take_iff_getElem.2 ⟨k, by omega, rfl⟩, h⟩
theorem hasB_step {ts : List T} {k : Nat} {id : Int} (hk : k < ts.length) (h : hasB ts k id = false) (h2 : ¬ ts[k].id = id) : hasB ts (k + 1) id = false := by
  unfold hasB at *
  rw [List.take_succ_eq_append_getElem hk, List.any_append, h]
  simpa using h2

set_option maxHeartbeats 400000 in
theorem l2Has_any (v : Value) (ts : List T) (many : Nat) (id : Int) (w : World) (h : Tasks w v ts) (hm : many ≤ ts.length) :
    Calls Tryd.prog 42 #[v, .int .i64 many, .int .i64 id] w fun e w' => e = .returned (.bool (hasB ts many id)) ∧ w = w' := by
  obtain ⟨a, cap, rfl, h⟩ := h.open
  have hl : ts.length ≤ 4194304 := h.1
  go_enter Tryd.func42, Tryd.ntmps42
  go_wp2
  go_loop [7] (fun i => ∃ k : Nat, k ≤ many ∧ i = .int .i64 k ∧ hasB ts k id = false) (fun i => many - (intOf i).toNat)
  case atStart => exact ⟨0, by omega, rfl, by simp [hasB]⟩
  case round =>
    obtain ⟨k, hk, rfl, hg⟩ := hrel
    by_cases hlt : k < many
    · obtain ⟨b, off, nd, rfl, c0, c1, hn⟩ := h.at (k := k) (by omega)
      have Hg := Lib.hid hg
      clear hg
      have Hn := Lib.hid hn
      clear hn c1
      by_cases he : ts[k].id = id
      · have hb : (ts[k].id == id) = true := by simpa using he
        have Hr := Lib.hid (hasB_yes (many := many) (by omega) hlt he)
        clear he
        go_wp2
        go_ret
        exact ⟨ret_bool Hr.out.symm, rfl⟩
      · have hb : (ts[k].id == id) = false := by simpa using he
        have Hr := Lib.hid (hasB_step (by omega) Hg.out he)
        clear he Hg
        go_wp2
        go_round
        case rel => exact ⟨k + 1, by omega, by go_num, Hr.out⟩
        case measure => simp [intOf]; omega
    · have e : k = many := by omega
      subst e
      have H0 := Lib.hid hg
      clear hg
      go_wp2
      go_ret
      exact ⟨ret_bool H0.out.symm, rfl⟩
end

section
set_option maxRecDepth 100000
open Go.RowKit

theorem fitsB_iff {xs ys : List Int} (hx : xs.length = 3) (hy : ys.length = 3) : fitsB xs ys = true ↔ ∀ j (h1 : j < xs.length) (h2 : j < ys.length), xs[j] ≤ ys[j] := by
  match xs, hx, ys, hy with
  | [a, b, c], _, [x, y, z], _ =>
    rw [fitsB_three]
    simp only [decide_eq_true_eq]
    constructor
    · rintro ⟨h1, h2, h3⟩ j hj hj2
      match j, hj with
      | 0, _ => exact h1
      | 1, _ => exact h2
      | 2, _ => exact h3
    · intro h
      exact ⟨h 0 (by simp) (by simp), h 1 (by simp) (by simp), h 2 (by simp) (by simp)⟩

set_option maxHeartbeats 400000 in
theorem l1Fits_any (v u : Value) (xs ys : List Int) (w : World) (h : Ints w v xs) (h' : Ints w u ys) (hx : xs.length = 3) (hy : ys.length = 3) :
    Calls Tryd.prog 44 #[v, u] w fun e w' => e = .returned (.bool (fitsB xs ys)) ∧ ∃ n, w' = w.drewN n := by
  obtain ⟨a, cap, rfl, h⟩ := h.open
  obtain ⟨a', cap', rfl, h'⟩ := h'.open
  obtain ⟨b, off, rfl, hc⟩ := h.at (by omega)
  obtain ⟨b', off', rfl, hc'⟩ := h'.at (by omega)
  rw [hx, hy]
  have Hc := Lib.hid hc
  have Hc' := Lib.hid hc'
  have Hx := Lib.hid hx
  have Hy := Lib.hid hy
  clear hc hc' h h' hx hy
  go_enter Tryd.func44, Tryd.ntmps44
  go_wp2
  go_loopw [5] (fun i wr => ∃ k n : Nat, k ≤ 3 ∧ i = .int .i64 k ∧ wr = w.drewN n ∧ ∀ j (h1 : j < xs.length) (h2 : j < ys.length), j < k → xs[j] ≤ ys[j]) (fun i _ => 3 - (intOf i).toNat)
  case atStart => exact ⟨0, 0, by omega, rfl, rfl, fun _ _ _ h => by omega⟩
  case round =>
    obtain ⟨k, n, hk, rfl, rfl, hg⟩ := hrel
    have Hg := Lib.hid hg
    clear hg
    by_cases hlt : k < 3
    · have l1 : k < xs.length := by have := Hx.out; omega
      have l2 : k < ys.length := by have := Hy.out; omega
      have c1 := Hc.out k l1
      have c2 := Hc'.out k l2
      have b1 : (k : Int) < 3 := by omega
      have b0 : (0 : Int) ≤ (k : Int) := by omega
      by_cases hgt : ys[k] < xs[k]
      · have Hr : Hid (fitsB xs ys = false) := by
          rw [Bool.eq_false_iff]
          intro e
          have := (fitsB_iff Hx.out Hy.out).1 e k l1 l2
          omega
        go_wp2
        go_quiet (fail)
        go_wp2
        go_ret
        exact ⟨ret_bool Hr.out.symm, n + nq, (by first | rfl | exact World.drewN_drewN _ _ _)⟩
      · have hle : xs[k] ≤ ys[k] := by omega
        have Hle := Lib.hid hle
        clear hle
        go_wp2
        go_quiet (fail)
        go_wp2
        go_roundw
        case rel => exact ⟨k + 1, n + nq, by omega, by go_num, rfl, fun j h1 h2 hj => by
          by_cases e : j = k
          · subst e; exact Hle.out
          · exact Hg.out j h1 h2 (by omega)⟩
        case measure => simp [intOf]; omega
    · have e : k = 3 := by omega
      subst e
      have Hr : Hid (fitsB xs ys = true) := (fitsB_iff Hx.out Hy.out).2 fun j h1 h2 => Hg.out j h1 h2 (by have := Hx.out; omega)
      go_wp2
      go_ret
      exact ⟨ret_bool Hr.out.symm, n, rfl⟩

set_option maxHeartbeats 400000 in
theorem sVecFits_any (v u : Value) (xs ys : List Int) (w : World) (h : Ints w v xs) (h' : Ints w u ys) :
    Calls Tryd.prog 43 #[v, u] w fun e w' => e = .returned (.bool (vfitsB xs ys)) ∧ ∃ n, w' = w.drewN n := by
  by_cases h1 : vecB xs = true
  · by_cases h2 : vecB ys = true
    · have l1 := Lib.hid (vecB_iff.1 h1).1
      have l2 := Lib.hid (vecB_iff.1 h2).1
      have Hr : Hid (vfitsB xs ys = fitsB xs ys) := by show vfitsB xs ys = _; simp [vfitsB, h1, h2]
      go_enter Tryd.func43, Tryd.ntmps43
      go_wp2_with fail
      refine (sVecValid_any _ _ _ h).mono ?_; rintro e w' ⟨rfl, rfl⟩
      go_wp2_with fail
      refine (sVecValid_any _ _ _ h').mono ?_; rintro e w' ⟨rfl, rfl⟩
      go_wp2_with fail
      refine (l1Fits_any _ _ _ _ _ h h' l1.out l2.out).mono ?_; rintro e w' ⟨rfl, n, rfl⟩
      go_wp2
      go_ret
      exact ⟨ret_bool Hr.out.symm, n, rfl⟩
    · have h3 : vecB ys = false := by simpa using h2
      have Hr : Hid (vfitsB xs ys = false) := by show vfitsB xs ys = _; simp [vfitsB, h1, h3]
      clear h2
      go_enter Tryd.func43, Tryd.ntmps43
      go_wp2_with fail
      refine (sVecValid_any _ _ _ h).mono ?_; rintro e w' ⟨rfl, rfl⟩
      go_wp2_with fail
      refine (sVecValid_any _ _ _ h').mono ?_; rintro e w' ⟨rfl, rfl⟩
      go_wp2
      go_ret
      exact ⟨ret_bool Hr.out.symm, 0, rfl⟩
  · have h3 : vecB xs = false := by simpa using h1
    have Hr : Hid (vfitsB xs ys = false) := by show vfitsB xs ys = _; simp [vfitsB, h3]
    clear h1
    go_enter Tryd.func43, Tryd.ntmps43
    go_wp2_with fail
    refine (sVecValid_any _ _ _ h).mono ?_; rintro e w' ⟨rfl, rfl⟩
    go_wp2
    go_ret
    exact ⟨ret_bool Hr.out.symm, 0, rfl⟩

theorem roomB_bad {xs : List Int} {k : Nat} (hk : k < xs.length) (h : xs[k] < 1) : roomB xs = false := by
  rw [Bool.eq_false_iff]
  intro x
  have := (roomB_iff.1 x).2 _ (List.getElem_mem hk)
  omega
theorem roomB_good {xs : List Int} (h : ∀ j (hj : j < xs.length), 1 ≤ xs[j]) : roomB xs = vecB xs := by
  rw [Bool.eq_iff_iff, roomB_iff, vecB_iff]
  refine ⟨fun x => x.1, fun x => ⟨x, fun n hn => ?_⟩⟩
  obtain ⟨j, hj, rfl⟩ := List.getElem_of_mem hn
  exact h j hj

set_option maxHeartbeats 400000 in
theorem l2Room_any (v : Value) (xs : List Int) (w : World) (h : Ints w v xs) :
    Calls Tryd.prog 40 #[v] w fun e w' => e = .returned (.bool (roomB xs)) ∧ w = w' := by
  obtain ⟨a, cap, rfl, h⟩ := h.open
  have hl : xs.length ≤ 4194304 := h.1
  go_enter Tryd.func40, Tryd.ntmps40
  go_wp2
  go_loop [3] (fun i => ∃ k : Nat, k ≤ xs.length ∧ i = .int .i64 k ∧ ∀ j (hj : j < xs.length), j < k → 1 ≤ xs[j]) (fun i => xs.length - (intOf i).toNat)
  case atStart => exact ⟨0, by omega, rfl, fun _ _ h => by omega⟩
  case round =>
    obtain ⟨k, hk, rfl, hg⟩ := hrel
    by_cases hlt : k < xs.length
    · obtain ⟨b, off, rfl, hc⟩ := h.at (by omega)
      have hck := hc k hlt
      have Hg := Lib.hid hg
      clear hg hc
      by_cases h0 : xs[k] < 1
      · have Hr := Lib.hid (roomB_bad hlt h0)
        go_wp2
        go_ret
        exact ⟨ret_bool Hr.out.symm, rfl⟩
      · have h1 : 1 ≤ xs[k] := by omega
        go_wp2
        go_round
        case rel => exact ⟨k + 1, by omega, by go_num, fun j hj hjk => by
          by_cases e : j = k
          · subst e; exact h1
          · exact Hg.out j hj (by omega)⟩
        case measure => simp [intOf]; omega
    · have e : k = xs.length := by omega
      subst e
      have H0 := Lib.hid (roomB_good (fun j hj => hg j hj hj))
      clear hg
      go_wp2_with (go_at_call 55; refine (sVecValid_any _ _ _ h).mono ?_; rintro e w' ⟨rfl, rfl⟩)
      go_ret
      exact ⟨ret_bool H0.out.symm, rfl⟩

def Bd (M : Int) (xs : List Int) : Prop := ∀ n ∈ xs, -M ≤ n ∧ n ≤ M

theorem addL_get {xs ys : List Int} {t : Int} (hx : xs.length = 3) (hy : ys.length = 3) : (addL xs ys t).length = 3 ∧ ∀ k (h : k < 3), (addL xs ys t)[k]? = some (xs[k] + t * ys[k]) := by
  match xs, hx, ys, hy with
  | [a, b, c], _, [x, y, z], _ =>
    refine ⟨rfl, fun k hk => ?_⟩
    match k, hk with
    | 0, _ => rfl
    | 1, _ => rfl
    | 2, _ => rfl

theorem addL_take {xs ys : List Int} {t : Int} {k : Nat} (hx : xs.length = 3) (hy : ys.length = 3) (h : k < 3) : (addL xs ys t).take (k + 1) = (addL xs ys t).take k ++ [xs[k] + t * ys[k]] := by
  obtain ⟨h1, h2⟩ := addL_get (t := t) hx hy
  have h3 := h2 k h
  rw [List.getElem?_eq_getElem (by omega)] at h3
  rw [List.take_succ_eq_append_getElem (by omega)]
  simp only [Option.some.injEq] at h3
  rw [h3]

set_option maxHeartbeats 1000000 in
theorem l1Add_any (v u : Value) (xs ys : List Int) (t : Int) (w : World) (h : Ints w v xs) (h' : Ints w u ys) (hx : xs.length = 3) (hy : ys.length = 3) (ht : t = 1 ∨ t = -1)
    (bx : Bd 1000000000000000 xs) (bY : Bd 1000000000000000 ys) :
    Calls Tryd.prog 45 #[v, u, .int .i64 t] w fun e w' => ∃ r, e = .returned r ∧ Ext w w' ∧ Ints w' r (addL xs ys t) := by
  obtain ⟨a, cap, rfl, h⟩ := h.open
  obtain ⟨a', cap', rfl, h'⟩ := h'.open
  obtain ⟨b, off, rfl, hc⟩ := h.at (by omega)
  obtain ⟨b', off', rfl, hc'⟩ := h'.at (by omega)
  rw [hx, hy]
  have Hc := Lib.hid hc
  have Hc' := Lib.hid hc'
  have Hx := Lib.hid hx
  have Hy := Lib.hid hy
  have Bx := Lib.hid bx
  have By := Lib.hid bY
  clear hc hc' h h' hx hy bx bY
  have Ht := Lib.hid ht
  clear ht
  go_enter Tryd.func45, Tryd.ntmps45
  go_wp2
  go_loopw [7, 8] (fun s i wr => ∃ k : Nat, k ≤ 3 ∧ i = .int .i64 k ∧ Ext w wr ∧ OwnInts wr w.heap.size s ((addL xs ys t).take k)) (fun _ i _ => 3 - (intOf i).toNat)
  case atStart => exact ⟨0, by omega, rfl, (Ext.refl w).alloc _, by simpa using OwnInts.lit0 w w.heap.size (Nat.le_refl _)⟩
  case round =>
    obtain ⟨k, hk, rfl, hE, hown⟩ := hrel
    by_cases hlt : k < 3
    · have l1 : k < xs.length := by have := Hx.out; omega
      have l2 : k < ys.length := by have := Hy.out; omega
      have c1 := hE.cell (Hc.out k l1)
      have c2 := hE.cell (Hc'.out k l2)
      have b1 : (k : Int) < 3 := by omega
      have b0 : (0 : Int) ≤ (k : Int) := by omega
      have m1 := Bx.out _ (List.getElem_mem l1)
      have m2 := By.out _ (List.getElem_mem l2)
      have Hn := Lib.hid (addL_take (t := t) Hx.out Hy.out hlt)
      rcases Ht.out with rfl | rfl
      · go_wp2
        go_region_law ((refine step_app_ints rfl _ _ rfl w.heap.size _ _ rfl (hown.alloc _).drew (by have := hE.le; simp; omega) _ _ _ _ rfl (Ints.lit1 wr _ 1).drew (by simp [lim]; omega) ?_; intro v' w1 hown1 hkt hbl))
        all_goals
         have hE1 := ((hE.alloc _).drew).below hbl
         have Ho := Lib.hid (show OwnInts w1 w.heap.size v' (List.take (k + 1) (addL xs ys 1)) from by
          rw [Hn.out]
          rw [IntWalk.i64_in ys[k] (by omega), IntWalk.i64_in (xs[k] + ys[k]) (by omega)] at hown1
          simpa using hown1)
         clear hown1 hown hkt hbl hE
         go_wp2
         go_roundw
         case rel => exact ⟨k + 1, by omega, by go_num, hE1, Ho.out⟩
         case measure => simp [intOf]; omega
      · go_wp2
        go_region_law ((refine step_app_ints rfl _ _ rfl w.heap.size _ _ rfl (hown.alloc _).drew (by have := hE.le; simp; omega) _ _ _ _ rfl (Ints.lit1 wr _ 1).drew (by simp [lim]; omega) ?_; intro v' w1 hown1 hkt hbl))
        all_goals
         have hE1 := ((hE.alloc _).drew).below hbl
         have Ho := Lib.hid (show OwnInts w1 w.heap.size v' (List.take (k + 1) (addL xs ys (-1))) from by
          rw [Hn.out]
          rw [IntWalk.i64_in (-ys[k]) (by omega), IntWalk.i64_in (xs[k] + -ys[k]) (by omega)] at hown1
          simpa using hown1)
         clear hown1 hown hkt hbl hE
         go_wp2
         go_roundw
         case rel => exact ⟨k + 1, by omega, by go_num, hE1, Ho.out⟩
         case measure => simp [intOf]; omega
    · have e : k = 3 := by omega
      subst e
      go_wp2
      go_ret
      refine ⟨_, rfl, hE, ?_⟩
      have h3 := (addL_get (t := t) Hx.out Hy.out).1
      rw [List.take_of_length_le (by omega)] at hown
      exact hown.done (by simp [lim]; omega)
end

section
set_option maxRecDepth 100000
open Go.RowKit

/-- Needs that can be added: three numbers, not too great. -/
def Good (ts : List T) : Prop := ∀ t ∈ ts, t.need.length = 3 ∧ Bd 1000000 t.need

theorem addL_bd {M N : Int} {xs ys : List Int} (hx : xs.length = 3) (hy : ys.length = 3) (bx : Bd M xs) (bY : Bd N ys) : Bd (M + N) (addL xs ys 1) := by
  match xs, hx, ys, hy with
  | [a, b, c], _, [x, y, z], _ =>
    intro n hn
    simp [addL] at hn
    have a1 := bx a (by simp); have a2 := bx b (by simp); have a3 := bx c (by simp)
    have b1 := bY x (by simp); have b2 := bY y (by simp); have b3 := bY z (by simp)
    rcases hn with h | h | h <;> subst h <;> constructor <;> omega
theorem loadL_snoc (ts : List T) (t : T) : loadL (ts ++ [t]) = addL (loadL ts) t.need 1 := by simp [loadL]
theorem loadL_step {ts : List T} {k : Nat} (h : k < ts.length) : loadL (ts.take (k + 1)) = addL (loadL (ts.take k)) ts[k].need 1 := by
  rw [List.take_succ_eq_append_getElem h, loadL_snoc]
theorem loadL_good (ts : List T) (h : Good ts) : (loadL ts).length = 3 ∧ Bd (1000000 * ts.length) (loadL ts) := by
  suffices H : ∀ k, k ≤ ts.length → (loadL (ts.take k)).length = 3 ∧ Bd (1000000 * k) (loadL (ts.take k)) by
    have := H ts.length (Nat.le_refl _)
    rwa [List.take_length] at this
  intro k
  induction k with
  | zero => intro _; refine ⟨rfl, fun n hn => ?_⟩; simp [loadL] at hn; subst hn; simp
  | succ k ih =>
    intro hk
    obtain ⟨h1, h2⟩ := ih (by omega)
    obtain ⟨g1, g2⟩ := h ts[k] (List.getElem_mem _)
    rw [loadL_step (by omega)]
    refine ⟨(addL_get h1 g1).1, ?_⟩
    have := addL_bd h1 g1 h2 g2
    intro n hn
    have := this n hn
    omega
theorem Good.take {ts : List T} (h : Good ts) (k : Nat) : Good (ts.take k) := fun t ht => h t (List.mem_of_mem_take ht)
theorem Bd.mono {M N : Int} {xs : List Int} (h : Bd M xs) (hm : M ≤ N) : Bd N xs := fun n hn => by have := h n hn; omega

set_option maxHeartbeats 400000 in
theorem l2Load_any (v : Value) (ts : List T) (w : World) (h : Tasks w v ts) (hg : Good ts) :
    Calls Tryd.prog 46 #[v] w fun e w' => ∃ r, e = .returned r ∧ Ext w w' ∧ Ints w' r (loadL ts) := by
  obtain ⟨a, cap, rfl, h⟩ := h.open
  have hl : ts.length ≤ 4194304 := h.1
  have Hg := Lib.hid hg
  clear hg
  go_enter Tryd.func46, Tryd.ntmps46
  go_wp2
  go_loopw [3, 4] (fun s i wr => ∃ k : Nat, k ≤ ts.length ∧ i = .int .i64 k ∧ Ext w wr ∧ Ints wr s (loadL (ts.take k))) (fun _ i _ => ts.length - (intOf i).toNat)
  case atStart => exact ⟨0, by omega, rfl, (Ext.refl w).alloc _, Ints.lit w _ [0, 0, 0] 3 3 rfl rfl (by simp [lim])⟩
  case round =>
    obtain ⟨k, hk, rfl, hE, hs⟩ := hrel
    by_cases hlt : k < ts.length
    · obtain ⟨b, off, nd, rfl, c0, c1, hn⟩ := h.at hlt
      have c1' := hE.cell c1
      have Hn := Lib.hid (hn.ext hE)
      have Hs := Lib.hid hs
      have H1 := Lib.hid (loadL_good _ (Hg.out.take k))
      have H2 := Lib.hid (Hg.out _ (List.getElem_mem hlt))
      have Hst := Lib.hid (loadL_step hlt)
      have hkl : (ts.take k).length ≤ 4194304 := by simp; omega
      clear hn hs c0 c1
      go_wp2_with (go_at_call 45; refine (l1Add_any _ _ _ _ 1 _ Hs.out Hn.out H1.out.1 H2.out.1 (.inl rfl) (H1.out.2.mono (by omega)) (H2.out.2.mono (by omega))).mono ?_; rintro e w' ⟨r, rfl, hE2, hr⟩)
      have hE3 := hE.trans hE2
      have Hr := Lib.hid hr
      clear hr hE2
      go_roundw
      case rel => exact ⟨k + 1, by omega, by go_num, hE3, by rw [Hst.out]; exact Hr.out⟩
      case measure => simp [intOf]; omega
    · have e : k = ts.length := by omega
      subst e
      rw [List.take_length] at hs
      go_wp2
      go_ret
      exact ⟨_, rfl, hE, hs⟩

theorem Tasks.at' {w : World} {a : Option Addr} {n cap : Nat} {ts : List T} (h : Tasks w (.slice a n cap) ts) {k : Nat} (hk : k < ts.length) :
    ∃ b off nd, a = some ⟨b, off, none⟩ ∧ (∀ m, (w.drewN m).cell? ⟨b, off + k * 2, none⟩ = some (.int .i64 ts[k].id)) ∧ (∀ m, (w.drewN m).cell? ⟨b, off + k * 2 + 1, none⟩ = some nd) ∧ Ints w nd ts[k].need := by
  obtain ⟨b, off, nd, ha, c0, c1, hn⟩ := h.at hk
  exact ⟨b, off, nd, ha, fun _ => c0, fun _ => c1, hn⟩
theorem Ints.drewN {w : World} {v : Value} {xs : List Int} (h : Ints w v xs) (n : Nat) : Ints (w.drewN n) v xs := h.ext ((Ext.refl w).drewN n)
theorem Tasks.drewN {w : World} {v : Value} {xs : List T} (h : Tasks w v xs) (n : Nat) : Tasks (w.drewN n) v xs := h.ext ((Ext.refl w).drewN n)

theorem tasksB_room {room : List Int} {ts : List T} (h : roomB room = false) : tasksB room ts = false := by
  rw [Bool.eq_false_iff]
  intro x
  rw [roomB_iff.2 (tasksB_iff.1 x).1] at h
  cases h
theorem tasksB_bad {room : List Int} {ts : List T} {k : Nat} (hk : k < ts.length) (h : ¬ ((1 ≤ ts[k].id ∧ ts[k].id ≤ 40) ∧ hasB ts k ts[k].id = false ∧ vfitsB ts[k].need room = true)) : tasksB room ts = false := by
  rw [Bool.eq_false_iff]
  exact fun x => h ((tasksB_iff.1 x).2.2 k hk)
theorem tasksB_good {room : List Int} {ts : List T} (hr : roomB room = true) (h : ∀ k (h : k < ts.length), (1 ≤ ts[k].id ∧ ts[k].id ≤ 40) ∧ hasB ts k ts[k].id = false ∧ vfitsB ts[k].need room = true) : tasksB room ts = decide ((ts.length : Int) ≤ 14) := by
  rw [Bool.eq_iff_iff, tasksB_iff, decide_eq_true_eq]
  exact ⟨fun x => by have := x.2.1; omega, fun x => ⟨roomB_iff.1 hr, by omega, h⟩⟩

set_option maxHeartbeats 1000000 in
theorem sTasksValid_any (v u : Value) (room : List Int) (ts : List T) (w : World) (hr : Ints w v room) (h : Tasks w u ts) :
    Calls Tryd.prog 28 #[v, u] w fun e w' => e = .returned (.bool (tasksB room ts)) ∧ ∃ n, w' = w.drewN n := by
  obtain ⟨a, cap, rfl, h⟩ := h.open
  have hl : ts.length ≤ 4194304 := h.1
  by_cases h1 : roomB room = true
  · have Hrm := Lib.hid h1
    go_enter Tryd.func28, Tryd.ntmps28
    go_wp2_with (go_at_call 40; refine (l2Room_any _ _ _ hr).mono ?_; rintro e w' ⟨rfl, rfl⟩)
    clear h1
    go_loopw [5] (fun i wr => ∃ k n : Nat, k ≤ ts.length ∧ i = .int .i64 k ∧ wr = w.drewN n ∧ ∀ j (h : j < ts.length), j < k → (1 ≤ ts[j].id ∧ ts[j].id ≤ 40) ∧ hasB ts j ts[j].id = false ∧ vfitsB ts[j].need room = true) (fun i _ => ts.length - (intOf i).toNat)
    case atStart => exact ⟨0, 0, by omega, rfl, rfl, fun _ _ h => by omega⟩
    case round =>
      obtain ⟨k, n, hk, rfl, rfl, hg⟩ := hrel
      have Hg := Lib.hid hg
      clear hg
      by_cases hlt : k < ts.length
      · obtain ⟨b, off, nd, rfl, c0, c1, hn⟩ := h.at hlt
        have Hn := Lib.hid (hn.drewN n)
        have Ht := Lib.hid (h.drewN n)
        clear hn
        by_cases q1 : 1 ≤ ts[k].id ∧ ts[k].id ≤ 40
        · have b1 := inB_true q1.1 q1.2
          cases b2 : hasB ts k ts[k].id with
          | false =>
            cases b3 : vfitsB ts[k].need room with
            | true =>
              have Hd : Hid (∀ j (h : j < ts.length), j < k + 1 → (1 ≤ ts[j].id ∧ ts[j].id ≤ 40) ∧ hasB ts j ts[j].id = false ∧ vfitsB ts[j].need room = true) := by
                intro j hj hjk
                by_cases e : j = k
                · subst e; exact ⟨q1, b2, b3⟩
                · exact Hg.out j hj (by omega)
              clear q1
              go_wp2_with (first | (go_at_call 41; refine (l6In_any _ _ _ _).mono ?_; rintro e w' ⟨rfl, rfl⟩) | (go_at_call 42; refine (l2Has_any _ _ _ _ _ Ht.out (by omega)).mono ?_; rintro e w' ⟨rfl, rfl⟩) | (go_at_call 43; refine (sVecFits_any _ _ _ _ _ Hn.out (hr.drewN n)).mono ?_; rintro e w' ⟨rfl, m, rfl⟩))
              go_roundw
              case rel => exact ⟨k + 1, n + m, by omega, by go_num, (by first | rfl | exact World.drewN_drewN _ _ _), Hd.out⟩
              case measure => simp [intOf]; omega
            | false =>
              have Hd := Lib.hid (tasksB_bad (room := room) hlt (fun x => by rw [b3] at x; exact absurd x.2.2 (by simp)))
              clear q1
              go_wp2_with (first | (go_at_call 41; refine (l6In_any _ _ _ _).mono ?_; rintro e w' ⟨rfl, rfl⟩) | (go_at_call 42; refine (l2Has_any _ _ _ _ _ Ht.out (by omega)).mono ?_; rintro e w' ⟨rfl, rfl⟩) | (go_at_call 43; refine (sVecFits_any _ _ _ _ _ Hn.out (hr.drewN n)).mono ?_; rintro e w' ⟨rfl, m, rfl⟩))
              go_ret
              exact ⟨ret_bool Hd.out.symm, n + m, (by first | rfl | exact World.drewN_drewN _ _ _)⟩
          | true =>
            have Hd := Lib.hid (tasksB_bad (room := room) hlt (fun x => by rw [b2] at x; exact absurd x.2.1 (by simp)))
            clear q1
            go_wp2_with (first | (go_at_call 41; refine (l6In_any _ _ _ _).mono ?_; rintro e w' ⟨rfl, rfl⟩) | (go_at_call 42; refine (l2Has_any _ _ _ _ _ Ht.out (by omega)).mono ?_; rintro e w' ⟨rfl, rfl⟩))
            go_ret
            exact ⟨ret_bool Hd.out.symm, n, rfl⟩
        · have b1 := inB_false q1
          have Hd := Lib.hid (tasksB_bad (room := room) hlt (fun x => q1 x.1))
          clear q1
          go_wp2_with (first | (go_at_call 41; refine (l6In_any _ _ _ _).mono ?_; rintro e w' ⟨rfl, rfl⟩))
          go_ret
          exact ⟨ret_bool Hd.out.symm, n, rfl⟩
      · have e : k = ts.length := by omega
        subst e
        have Hd := Lib.hid (tasksB_good Hrm.out (fun j hj => Hg.out j hj hj))
        go_wp2
        go_ret
        exact ⟨ret_bool Hd.out.symm, n, rfl⟩
  · have h2 : roomB room = false := by simpa using h1
    have Hd := Lib.hid (tasksB_room (ts := ts) h2)
    clear h1
    go_enter Tryd.func28, Tryd.ntmps28
    go_wp2_with (go_at_call 40; refine (l2Room_any _ _ _ hr).mono ?_; rintro e w' ⟨rfl, rfl⟩)
    go_ret
    exact ⟨ret_bool Hd.out.symm, 0, rfl⟩
end

section
set_option maxRecDepth 100000
open Go.RowKit

theorem flatten_take_succ {α : Type} (bs : List (List α)) {k : Nat} (h : k < bs.length) : (bs.take (k + 1)).flatten = (bs.take k).flatten ++ bs[k] := by
  rw [List.take_succ_eq_append_getElem h, List.flatten_append]; simp
theorem flatten_take_le {α : Type} (bs : List (List α)) (k : Nat) : (bs.take k).flatten.length ≤ bs.flatten.length := by
  have h : bs.flatten = (bs.take k).flatten ++ (bs.drop k).flatten := by rw [← List.flatten_append, List.take_append_drop]
  rw [h]; simp
theorem mem_flat_take {α : Type} (bs : List (List α)) {k : Nat} (h : k < bs.length) : (bs.take k).flatten.length + bs[k].length ≤ bs.flatten.length := by
  have h1 := flatten_take_le bs (k + 1)
  rw [flatten_take_succ bs h] at h1
  simpa using h1

/-- Nodes are valid. -/
def BinsOk (room : List Int) (bs : List (List T)) : Prop := TasksOk room bs.flatten ∧ bs.length ≤ 14 ∧ ∀ k (h : k < bs.length), fitsB (loadL bs[k]) room = true
instance (room : List Int) (bs : List (List T)) : Decidable (BinsOk room bs) := by unfold BinsOk; infer_instance
def binsB (room : List Int) (bs : List (List T)) : Bool := decide (BinsOk room bs)
theorem binsB_iff {room : List Int} {bs : List (List T)} : binsB room bs = true ↔ BinsOk room bs := by simp [binsB]

theorem VecOk.bd {xs : List Int} (h : VecOk xs) : xs.length = 3 ∧ Bd 1000000 xs := ⟨h.1, fun n hn => by have := h.2 n hn; omega⟩
theorem vfitsB_iff {xs ys : List Int} : vfitsB xs ys = true ↔ VecOk xs ∧ VecOk ys ∧ fitsB xs ys = true := by
  unfold vfitsB; simp [vecB_iff, and_assoc]
theorem TasksOk.good {room : List Int} {ts : List T} (h : TasksOk room ts) : Good ts := fun t ht => by
  obtain ⟨k, hk, rfl⟩ := List.getElem_of_mem ht
  exact (vfitsB_iff.1 (h.2.2 k hk).2.2).1.bd
theorem Good.flat {bs : List (List T)} (h : Good bs.flatten) {b : List T} (hb : b ∈ bs) : Good b := fun t ht => h t (List.mem_flatten.2 ⟨b, hb, ht⟩)
theorem RoomOk.bd {xs : List Int} (h : RoomOk xs) : xs.length = 3 ∧ Bd 1000000 xs := h.1.bd
theorem binsB_bad {room : List Int} {bs : List (List T)} {k : Nat} (hk : k < bs.length) (h : fitsB (loadL bs[k]) room = false) : binsB room bs = false := by
  rw [Bool.eq_false_iff]
  intro x
  rw [(binsB_iff.1 x).2.2 k hk] at h
  cases h

end

end Go.Proofs.YtfidamjepjgknaaDoor
