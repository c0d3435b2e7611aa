/- The program's sums of vectors, rooms and loads. -/
import Derived.Test.YtipmoedflpjioaaI1
import Derived.Test.YtipmoedflpjioaaS3
namespace Go.Proofs.Ytipmoedflpjioaa
set_option maxRecDepth 100000
open Go.RowKit

set_option maxHeartbeats 400000 in
theorem min_any (v : Value) (xs : List Int) (w : World) (h : Ints w v xs) (hx : 0 < xs.length) :
    Calls Try.prog 110 #[v] w fun e w' => (∃ m : Int, e = .returned (.int .i64 m) ∧ (∀ n ∈ xs, m ≤ n) ∧ m ∈ xs) ∧ w = w' := by
  obtain ⟨a, cap, rfl, h⟩ := h.open
  obtain ⟨b, off, rfl, hc⟩ := h.at (by omega)
  have hl : xs.length ≤ 4194304 := h.1
  have Hc := Lib.hid hc
  have c0 := hc 0 hx
  simp only [Nat.add_zero] at c0
  have hx1 : ¬ (xs.length : Int) < 1 := by omega
  have H0 : Hid (∀ j (hj : j < xs.length), j < 1 → xs[0] ≤ xs[j]) := by
    intro j hj h
    have e : j = 0 := by omega
    subst e
    exact Int.le_refl _
  clear hc h
  go_enter Try.func110, Try.ntmps110
  go_wp2
  go_loop [3, 4] (fun s i => ∃ (k : Nat) (m : Int), 1 ≤ k ∧ k ≤ xs.length ∧ i = .int .i64 k ∧ s = .int .i64 m ∧ (∀ j (hj : j < xs.length), j < k → m ≤ xs[j]) ∧ m ∈ xs) (fun _ i => xs.length - (intOf i).toNat)
  case atStart => exact ⟨1, xs[0], by omega, by omega, rfl, rfl, H0.out, List.getElem_mem _⟩
  case round =>
    obtain ⟨k, m, hk1, hk, rfl, rfl, hg, hm⟩ := hrel
    have Hg := Lib.hid hg
    have Hm := Lib.hid hm
    clear hg hm
    by_cases hlt : k < xs.length
    · have ck := Hc.out k hlt
      by_cases hle : xs[k] < m
      · go_wp2
        go_round
        case rel => exact ⟨k + 1, xs[k], by omega, by omega, by go_num, rfl, fun j hj hjk => by
          by_cases e : j = k
          · subst e; omega
          · have := Hg.out j hj (by omega); omega, List.getElem_mem _⟩
        case measure => simp [intOf]; omega
      · go_wp2
        go_round
        case rel => exact ⟨k + 1, m, by omega, by omega, by go_num, rfl, fun j hj hjk => by
          by_cases e : j = k
          · subst e; omega
          · exact Hg.out j hj (by omega), Hm.out⟩
        case measure => simp [intOf]; omega
    · have e : k = xs.length := by omega
      subst e
      go_wp2
      go_ret
      exact ⟨⟨m, rfl, fun n hn => by
        obtain ⟨j, hj, rfl⟩ := List.getElem_of_mem hn
        exact Hg.out j hj hj, Hm.out⟩, rfl⟩

set_option maxHeartbeats 400000 in
theorem roomValid_any (v : Value) (xs : List Int) (w : World) (h : Ints w v xs) :
    Calls Try.prog 71 #[v] w fun e w' => e = .returned (.bool (roomB xs)) ∧ w = w' := by
  cases h1 : vecB xs with
  | true =>
    have l1 := Lib.hid (vecB_iff.1 h1)
    go_enter Try.func71, Try.ntmps71
    go_wp2_with fail
    refine (VecValid_any _ _ _ h).mono ?_; rintro e w' ⟨rfl, rfl⟩
    go_wp2_with fail
    refine (min_any _ _ _ h (by have := l1.out.1; omega)).mono ?_
    rintro e w' ⟨⟨m, rfl, h1, h2⟩, rfl⟩
    have Hd : Hid (roomB xs = decide (1 ≤ m)) := by
      show roomB xs = _
      rw [Bool.eq_iff_iff, roomB_iff, decide_eq_true_eq]
      exact ⟨fun x => x.2 m h2, fun x => ⟨l1.out, fun n hn => by have := h1 n hn; omega⟩⟩
    clear h1 h2
    go_wp2
    go_ret
    exact ⟨ret_bool Hd.out.symm, rfl⟩
  | false =>
    have Hd : Hid (roomB xs = false) := by
      show roomB xs = _
      rw [Bool.eq_false_iff]
      intro x
      rw [vecB_iff.2 (roomB_iff.1 x).1] at h1
      cases h1
    go_enter Try.func71, Try.ntmps71
    go_wp2_with fail
    refine (VecValid_any _ _ _ h).mono ?_; rintro e w' ⟨rfl, rfl⟩
    go_wp2
    go_ret
    exact ⟨ret_bool Hd.out.symm, rfl⟩

set_option maxHeartbeats 400000 in
theorem idValid_any (n : Int) (w : World) :
    Calls Try.prog 72 #[.int .i64 n] w fun e w' => e = .returned (.bool (inB n 1 40)) ∧ w = w' := by
  go_enter Try.func72, Try.ntmps72
  go_wp2_with (go_at_call 111; refine (within_any _ _ _ _).mono ?_; rintro e w' ⟨rfl, rfl⟩)
  go_ret
  exact ⟨rfl, rfl⟩

theorem make3 (w : World) : (Instr.makeSlice 93 (.int .i64 3) (.int .i64 3)).run Try.prog w = .ok (.slice (some ⟨w.heap.size, 0, none⟩) 3 3) (w.alloc (.cells #[.int .i64 0, .int .i64 0, .int .i64 0] 3)) := by kernel_rfl

set_option maxHeartbeats 400000 in
theorem zeros_any (w : World) :
    Calls Try.prog 124 #[] w fun e w' => ∃ r, e = .returned r ∧ Ext w w' ∧ Ints w' r [0, 0, 0] := by
  have hmk := make3
  go_enter Try.func124, Try.ntmps124
  go_wp2
  go_ret
  exact ⟨_, rfl, (Ext.refl w).alloc _, Ints.lit w _ [0, 0, 0] 3 3 rfl rfl (by simp [lim])⟩

/-- The first numbers are sums, the others are zeros. -/
def mixL (xs ys : List Int) (t : Int) (k : Nat) : List Int := (addL xs ys t).take k ++ List.replicate (3 - k) 0
theorem mixL_step {xs ys : List Int} {t : Int} {k : Nat} (hx : xs.length = 3) (hy : ys.length = 3) (h : k < 3) : (mixL xs ys t k).set k (xs[k] + t * ys[k]) = mixL xs ys t (k + 1) := by
  match xs, hx, ys, hy, k, h with
  | [a, b, c], _, [x, y, z], _, 0, _ => rfl
  | [a, b, c], _, [x, y, z], _, 1, _ => rfl
  | [a, b, c], _, [x, y, z], _, 2, _ => rfl
theorem mixL_len {xs ys : List Int} {t : Int} {k : Nat} (hx : xs.length = 3) (hy : ys.length = 3) (h : k ≤ 3) : (mixL xs ys t k).length = 3 := by
  have := (addL_get (t := t) hx hy).1
  simp [mixL, this]; omega

set_option maxHeartbeats 1000000 in
theorem plus_any (v u : Value) (xs ys : List Int) (w : World) (h : Ints w v xs) (h' : Ints w u ys) (hx : xs.length = 3) (hy : ys.length = 3)
    (bx : Bd 1000000000000000 xs) (bY : Bd 1000000000000000 ys) :
    Calls Try.prog 125 #[v, u] w fun e w' => ∃ r, e = .returned r ∧ Ext w w' ∧ Ints w' r (addL xs ys 1) := by
  obtain ⟨a, cap, rfl, h⟩ := h.open
  obtain ⟨a', cap', rfl, h'⟩ := h'.open
  obtain ⟨b, off, rfl, hc⟩ := h.at (by omega)
  obtain ⟨b', off', rfl, hc'⟩ := h'.at (by omega)
  rw [hx, hy]
  have Hc := Lib.hid hc
  have Hc' := Lib.hid hc'
  have Hx := Lib.hid hx
  have Hy := Lib.hid hy
  have Bx := Lib.hid bx
  have By := Lib.hid bY
  clear hc hc' h h' hx hy bx bY
  have hmk := make3
  go_enter Try.func125, Try.ntmps125
  go_wp2
  clear hmk
  go_loopw [10] (fun i wr => ∃ k : Nat, k ≤ 3 ∧ i = .int .i64 k ∧ Ext w wr ∧ wr.ownsRow w.heap.size 3 1 (.slice (some ⟨w.heap.size, 0, none⟩) 3 3) 3 ((mixL xs ys 1 k).map (Value.int .i64))) (fun i _ => 3 - (intOf i).toNat)
  case atStart => exact ⟨0, by omega, rfl, (Ext.refl w).alloc _, World.ownsRow_lit w #[.int .i64 0, .int .i64 0, .int .i64 0] 3 (Nat.le_refl _) (by simp [maxLen]) rfl⟩
  case round =>
    obtain ⟨k, hk, rfl, hE, hown⟩ := hrel
    by_cases hlt : k < 3
    · have l1 : k < xs.length := by have := Hx.out; omega
      have l2 : k < ys.length := by have := Hy.out; omega
      have c1 := hE.cell (Hc.out k l1)
      have c2 := hE.cell (Hc'.out k l2)
      have l3 : k < (mixL xs ys 1 k).length := by rw [mixL_len Hx.out Hy.out hk]; exact hlt
      have c3 := hown.cellAt k (by omega)
      rw [List.getElem?_map, List.getElem?_eq_getElem l3, Option.map_some] at c3
      have f3 := hown.frozenAt k
      have b1 : (k : Int) < 3 := by omega
      have b0 : (0 : Int) ≤ (k : Int) := by omega
      have m1 := Bx.out _ (List.getElem_mem l1)
      have m2 := By.out _ (List.getElem_mem l2)
      have Hn := Lib.hid (mixL_step (t := 1) Hx.out Hy.out hlt)
      have Ho := Lib.hid hown
      clear hown
      go_wp2
      go_region
      have hE1 := (hE.setCell (p := ⟨w.heap.size, k, none⟩) (Nat.le_refl _) (.int .i64 (xs[k] + ys[k]))).drew
      have Ho1 := Lib.hid (show (wr.setCell ⟨w.heap.size, k, none⟩ (.int .i64 (xs[k] + ys[k]))).drew.ownsRow w.heap.size 3 1 (.slice (some ⟨w.heap.size, 0, none⟩) 3 3) 3 ((mixL xs ys 1 (k + 1)).map (Value.int .i64)) from by
        have h1 := (World.ownsRow.stored Ho.out k (.int .i64 (xs[k] + ys[k]))).1.drew
        rw [← Hn.out, List.map_set]
        simpa using h1)
      clear hE
      go_wp2
      go_roundw
      case rel => exact ⟨k + 1, by omega, by go_num, hE1, Ho1.out⟩
      case measure => simp [intOf]; omega
    · have e : k = 3 := by omega
      subst e
      have Ho1 := Lib.hid (show Ints wr (.slice (some ⟨w.heap.size, 0, none⟩) 3 3) (addL xs ys 1) from by
        have h3 := (addL_get (t := 1) Hx.out Hy.out).1
        have e : mixL xs ys 1 3 = addL xs ys 1 := by
          unfold mixL
          rw [List.take_of_length_le (by omega)]
          simp
        rw [e] at hown
        exact Ints.of_own hown (by simp [lim]; omega))
      clear hown
      go_wp2
      go_ret
      exact ⟨_, rfl, hE, Ho1.out⟩

set_option maxHeartbeats 1000000 in
theorem loadOf_any (v : Value) (ts : List T) (w : World) (h : Tasks w v ts) (hg : Good ts) :
    Calls Try.prog 97 #[v] w fun e w' => ∃ r, e = .returned r ∧ Ext w w' ∧ Ints w' r (loadL ts) := by
  obtain ⟨a, cap, rfl, h⟩ := h.open
  have hl : ts.length ≤ 4194304 := h.1
  have Hg := Lib.hid hg
  clear hg
  go_enter Try.func97, Try.ntmps97
  go_wp2_with fail
  refine (zeros_any _).mono ?_
  rintro e w1 ⟨r, rfl, hE, hz⟩
  have Hz := Lib.hid hz
  clear hz
  go_wp2_with fail
  go_loopw [3, 9] (fun s i wr => ∃ k : Nat, k ≤ ts.length ∧ i = .int .i64 k ∧ Ext w wr ∧ Ints wr s (loadL (ts.take k))) (fun _ i _ => ts.length - (intOf i).toNat)
  case atStart => exact ⟨0, by omega, rfl, hE, Hz.out⟩
  case round =>
    clear hE Hz
    obtain ⟨k, hk, rfl, hE, hs⟩ := hrel
    by_cases hlt : k < ts.length
    · obtain ⟨b, off, nd, rfl, c0, c1, hn⟩ := h.at hlt
      have c0' := hE.cell c0
      have c1' := hE.cell c1
      obtain ⟨an, cn, rfl, hn'⟩ := (hn.ext hE).open
      have Hn := Lib.hid hn'
      have Hs := Lib.hid hs
      have H1 := Lib.hid (loadL_good _ (Hg.out.take k))
      have H2 := Lib.hid (Hg.out _ (List.getElem_mem hlt))
      have Hst := Lib.hid (loadL_step hlt)
      have hkl : (ts.take k).length ≤ 4194304 := by simp; omega
      clear hn hn' hs c0 c1
      go_wp2_with fail
      have hEx : Ext wr _ := (Ext.refl wr).alloc (Obj.cells #[.int .i64 ts[k].id, .slice an ts[k].need.length cn] 38)
      refine (plus_any _ _ _ _ _ (Hs.out.ext hEx) (Hn.out.ext hEx) H1.out.1 H2.out.1 (H1.out.2.mono (by omega)) (H2.out.2.mono (by omega))).mono ?_
      rintro e w3 ⟨r3, rfl, hE3, hr⟩
      have hE4 := hE.trans (hEx.trans hE3)
      have Hr := Lib.hid hr
      clear hr hEx hE3
      go_wp2_with fail
      go_roundw
      case rel => exact ⟨k + 1, by omega, by go_num, hE4, by rw [Hst.out]; exact Hr.out⟩
      case measure => simp [intOf]; omega
    · have e : k = ts.length := by omega
      subst e
      rw [List.take_length] at hs
      have Hs := Lib.hid hs
      clear hs
      go_wp2
      go_ret
      exact ⟨_, rfl, hE, Hs.out⟩

end Go.Proofs.Ytipmoedflpjioaa
