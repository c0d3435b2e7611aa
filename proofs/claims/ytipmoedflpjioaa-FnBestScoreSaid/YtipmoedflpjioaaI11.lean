/- The program: the first node for a task; scores. -/
import Derived.Test.YtipmoedflpjioaaI10
namespace Go.Proofs.Ytipmoedflpjioaa
set_option maxRecDepth 100000
open Go.RowKit

set_option maxHeartbeats 1000000 in
theorem FirstAt_any (v u n : Value) (room : List Int) (bs : List (List T)) (x : T) (w : World) (hr : Ints w v room) (h : Bins w u bs) (hn : Ints w n x.need) (hf : bs.flatten.length ≤ 2097152) :
    Calls Try.prog 59 #[v, u, .agg #[.int .i64 x.id, n]] w fun e w' => e = .returned (.int .i64 (firstAtI room bs x)) ∧ Ext w w' := by
  obtain ⟨an, cn, rfl, hn⟩ := hn.open
  have E0 := Lib.hid ((Ext.refl w).alloc (Obj.cells #[.int .i64 x.id, .slice an x.need.length cn] 38))
  have C0 := Lib.hid (show (w.alloc (Obj.cells #[.int .i64 x.id, .slice an x.need.length cn] 38)).cell? ⟨w.heap.size, 0, none⟩ = some (.int .i64 x.id) by rw [box_cell]; rfl)
  have C1 := Lib.hid (show (w.alloc (Obj.cells #[.int .i64 x.id, .slice an x.need.length cn] 38)).cell? ⟨w.heap.size, 1, none⟩ = some (.slice an x.need.length cn) by rw [box_cell]; rfl)
  cases hb : ok11 room bs x with
  | false =>
    have Hd : Hid (firstAtI room bs x = -1) := by show firstAtI room bs x = -1; simp [firstAtI, hb]
    go_enter Try.func59, Try.ntmps59
    go_wp2_with fail
    have cc := canCome_any _ _ _ _ _ x _ (hr.ext E0.out) (h.ext E0.out) (hn.ext E0.out) hf
    rw [hb] at cc
    refine cc.mono ?_
    clear cc
    rintro e w2 ⟨rfl, hE2⟩
    go_wp2
    go_ret
    exact ⟨ret_int Hd.out.symm, E0.out.trans hE2⟩
  | true =>
    have Hd : Hid (firstAtI room bs x = nodeI (at11 room bs x)) := by show firstAtI room bs x = _; simp [firstAtI, hb]
    have HT := Lib.hid (show TasksOk room (bs.flatten ++ [x]) by unfold ok11 at hb; rw [Bool.and_eq_true] at hb; exact tasksB_iff.1 hb.2)
    have HO := Lib.hid (show BinsOk room bs by unfold ok11 at hb; rw [Bool.and_eq_true] at hb; exact binsB_iff.1 hb.1)
    go_enter Try.func59, Try.ntmps59
    go_wp2_with fail
    have cc := canCome_any _ _ _ _ _ x _ (hr.ext E0.out) (h.ext E0.out) (hn.ext E0.out) hf
    rw [hb] at cc
    clear hb
    refine cc.mono ?_
    clear cc
    rintro e w2 ⟨rfl, hE2⟩
    have E2 := Lib.hid (E0.out.trans hE2)
    have c0 := hE2.cell C0.out
    have c1 := hE2.cell C1.out
    clear hE2
    go_wp2_with fail
    refine (firstOf_any _ _ _ _ _ x _ (hr.ext E2.out) (h.ext E2.out) (hn.ext E2.out) HO.out.1.1.1.1 HO.out.goodB (HT.out.good x (by simp))).mono ?_
    rintro e w3 ⟨rfl, hE3⟩
    go_wp2
    go_ret
    exact ⟨ret_int Hd.out.symm, E2.out.trans hE3⟩

set_option maxHeartbeats 1000000 in
theorem minus_any (v u : Value) (xs ys : List Int) (w : World) (h : Ints w v xs) (h' : Ints w u ys) (hx : xs.length = 3) (hy : ys.length = 3)
    (bx : Bd 1000000000000000 xs) (bY : Bd 1000000000000000 ys) :
    Calls Try.prog 96 #[v, u] w fun e w' => ∃ r, e = .returned r ∧ Ext w w' ∧ Ints w' r (addL xs ys (-1)) := by
  obtain ⟨a, cap, rfl, h⟩ := h.open
  obtain ⟨a', cap', rfl, h'⟩ := h'.open
  obtain ⟨b, off, rfl, hc⟩ := h.at (by omega)
  obtain ⟨b', off', rfl, hc'⟩ := h'.at (by omega)
  rw [hx, hy]
  have Hc := Lib.hid hc
  have Hc' := Lib.hid hc'
  have Hx := Lib.hid hx
  have Hy := Lib.hid hy
  have Bx := Lib.hid bx
  have By := Lib.hid bY
  clear hc hc' h h' hx hy bx bY
  have hmk := make3
  go_enter Try.func96, Try.ntmps96
  go_wp2
  clear hmk
  go_loopw [10] (fun i wr => ∃ k : Nat, k ≤ 3 ∧ i = .int .i64 k ∧ Ext w wr ∧ wr.ownsRow w.heap.size 3 1 (.slice (some ⟨w.heap.size, 0, none⟩) 3 3) 3 ((mixL xs ys (-1) k).map (Value.int .i64))) (fun i _ => 3 - (intOf i).toNat)
  case atStart => exact ⟨0, by omega, rfl, (Ext.refl w).alloc _, World.ownsRow_lit w #[.int .i64 0, .int .i64 0, .int .i64 0] 3 (Nat.le_refl _) (by simp [maxLen]) rfl⟩
  case round =>
    obtain ⟨k, hk, rfl, hE, hown⟩ := hrel
    by_cases hlt : k < 3
    · have l1 : k < xs.length := by have := Hx.out; omega
      have l2 : k < ys.length := by have := Hy.out; omega
      have c1 := hE.cell (Hc.out k l1)
      have c2 := hE.cell (Hc'.out k l2)
      have l3 : k < (mixL xs ys (-1) k).length := by rw [mixL_len Hx.out Hy.out hk]; exact hlt
      have c3 := hown.cellAt k (by omega)
      rw [List.getElem?_map, List.getElem?_eq_getElem l3, Option.map_some] at c3
      have f3 := hown.frozenAt k
      have b1 : (k : Int) < 3 := by omega
      have b0 : (0 : Int) ≤ (k : Int) := by omega
      have m1 := Bx.out _ (List.getElem_mem l1)
      have m2 := By.out _ (List.getElem_mem l2)
      have Hn := Lib.hid (mixL_step (t := -1) Hx.out Hy.out hlt)
      have Ho := Lib.hid hown
      clear hown
      go_wp2
      go_region
      have hE1 := (hE.setCell (p := ⟨w.heap.size, k, none⟩) (Nat.le_refl _) (.int .i64 (xs[k] - ys[k]))).drew
      have Ho1 := Lib.hid (show (wr.setCell ⟨w.heap.size, k, none⟩ (.int .i64 (xs[k] - ys[k]))).drew.ownsRow w.heap.size 3 1 (.slice (some ⟨w.heap.size, 0, none⟩) 3 3) 3 ((mixL xs ys (-1) (k + 1)).map (Value.int .i64)) from by
        have h1 := (World.ownsRow.stored Ho.out k (.int .i64 (xs[k] - ys[k]))).1.drew
        rw [← Hn.out, List.map_set, show xs[k] + -1 * ys[k] = xs[k] - ys[k] by omega]
        simpa using h1)
      clear hE
      go_wp2
      go_roundw
      case rel => exact ⟨k + 1, by omega, by go_num, hE1, Ho1.out⟩
      case measure => simp [intOf]; omega
    · have e : k = 3 := by omega
      subst e
      have Ho1 := Lib.hid (show Ints wr (.slice (some ⟨w.heap.size, 0, none⟩) 3 3) (addL xs ys (-1)) from by
        have h3 := (addL_get (t := -1) Hx.out Hy.out).1
        have e : mixL xs ys (-1) 3 = addL xs ys (-1) := by
          unfold mixL
          rw [List.take_of_length_le (by omega)]
          simp
        rw [e] at hown
        exact Ints.of_own hown (by simp [lim]; omega))
      clear hown
      go_wp2
      go_ret
      exact ⟨_, rfl, hE, Ho1.out⟩

/-- The product of two vectors. -/
def dotI (xs ys : List Int) : Int := (List.zipWith (fun x y => x * y) xs ys).foldl (fun s z => s + z) 0
theorem dotI_step {xs ys : List Int} {k : Nat} (h1 : k < xs.length) (h2 : k < ys.length) : ((List.zipWith (fun x y => x * y) xs ys).take (k + 1)).foldl (fun s z => s + z) 0 = ((List.zipWith (fun x y => x * y) xs ys).take k).foldl (fun s z => s + z) 0 + xs[k] * ys[k] := by
  rw [List.take_succ_eq_append_getElem (by simp; omega), List.foldl_append, List.getElem_zipWith]
  rfl
theorem mul_bd {a b : Int} (ha : -1000000 ≤ a ∧ a ≤ 1000000) (hb : -100000000 ≤ b ∧ b ≤ 100000000) : -100000000000000 ≤ a * b ∧ a * b ≤ 100000000000000 := by
  have h1 : (a * b).natAbs ≤ 1000000 * 100000000 := by
    rw [Int.natAbs_mul]
    exact Nat.mul_le_mul (by omega) (by omega)
  omega

set_option maxHeartbeats 600000 in
theorem dot_any (v u : Value) (xs ys : List Int) (w : World) (h : Ints w v xs) (h' : Ints w u ys) (hx : xs.length = 3) (hy : ys.length = 3) (bx : Bd 1000000 xs) (bY : Bd 100000000 ys) :
    Calls Try.prog 99 #[v, u] w fun e w' => e = .returned (.int .i64 (dotI xs ys)) ∧ w = w' := by
  obtain ⟨a, cap, rfl, h⟩ := h.open
  obtain ⟨a', cap', rfl, h'⟩ := h'.open
  obtain ⟨b, off, rfl, hc⟩ := h.at (by omega)
  obtain ⟨b', off', rfl, hc'⟩ := h'.at (by omega)
  rw [hx, hy]
  have Hc := Lib.hid hc
  have Hc' := Lib.hid hc'
  have Hx := Lib.hid hx
  have Hy := Lib.hid hy
  have Bx := Lib.hid bx
  have By := Lib.hid bY
  clear hc hc' h h' hx hy bx bY
  go_enter Try.func99, Try.ntmps99
  go_wp2
  go_loop [5, 10] (fun s i => ∃ (k : Nat) (m : Int), k ≤ 3 ∧ i = .int .i64 k ∧ s = .int .i64 m ∧ -100000000000000 * (k : Int) ≤ m ∧ m ≤ 100000000000000 * (k : Int) ∧ m = ((List.zipWith (fun x y => x * y) xs ys).take k).foldl (fun s z => s + z) 0) (fun _ i => 3 - (intOf i).toNat)
  case atStart => exact ⟨0, 0, by omega, rfl, rfl, by omega, by omega, by simp⟩
  case round =>
    obtain ⟨k, m, hk, rfl, rfl, m0, m1, hm⟩ := hrel
    have Hm := Lib.hid hm
    clear hm
    by_cases hlt : k < 3
    · have l1 : k < xs.length := by have := Hx.out; omega
      have l2 : k < ys.length := by have := Hy.out; omega
      have c1 := Hc.out k l1
      have c2 := Hc'.out k l2
      have b1 : (k : Int) < 3 := by omega
      have b0 : (0 : Int) ≤ (k : Int) := by omega
      obtain ⟨p0, p1⟩ := mul_bd (Bx.out _ (List.getElem_mem l1)) (By.out _ (List.getElem_mem l2))
      have Hst := Lib.hid (dotI_step l1 l2)
      go_wp2
      go_round
      case rel => exact ⟨k + 1, m + xs[k] * ys[k], by omega, by go_num, rfl, by push_cast; omega, by push_cast; omega, by rw [Hst.out, ← Hm.out]⟩
      case measure => simp [intOf]; omega
    · have e : k = 3 := by omega
      subst e
      have Hd : Hid (dotI xs ys = m) := by
        show dotI xs ys = m
        rw [Hm.out]
        unfold dotI
        rw [List.take_of_length_le (by simp; have := Hx.out; have := Hy.out; omega)]
      go_wp2
      go_ret
      exact ⟨ret_int Hd.out.symm, rfl⟩

/-- What is left of a room. -/
def leftL (room : List Int) (b : List T) : List Int := addL room (loadL b) (-1)
theorem fits_left {room n l : List Int} (h1 : room.length = 3) (h2 : n.length = 3) (h3 : l.length = 3) : fitsB n (addL room l (-1)) = fitsB (addL l n 1) room := by
  match room, h1, n, h2, l, h3 with
  | [a, b, c], _, [x, y, z], _, [p, q, r], _ =>
    simp only [addL, List.zipWith_cons_cons, List.zipWith_nil_right, fitsB_three]
    rw [Bool.eq_iff_iff, decide_eq_true_eq, decide_eq_true_eq]
    omega
/-- A score, or -1 where there is no room. -/
def scoreI (room : List Int) (b : List T) (x : T) : Int := if fits11 room b x = true then dotI x.need (leftL room b) else -1
theorem left_bd {room : List Int} {b : List T} (hr : RoomOk room) (hg : Good b) (hl : b.length ≤ 50) : (leftL room b).length = 3 ∧ Bd 100000000 (leftL room b) := by
  have hg' := loadL_good b hg
  refine ⟨(addL_get hr.1.1 hg'.1).1, fun n hn => ?_⟩
  unfold leftL addL at hn
  obtain ⟨i, hi, rfl⟩ := List.getElem_of_mem hn
  rw [List.getElem_zipWith]
  have h1 := hr.1.2 _ (List.getElem_mem (by simp at hi; omega : i < room.length))
  have h2 := hg'.2 _ (List.getElem_mem (by simp at hi; omega : i < (loadL b).length))
  omega

/-- The score as the program hands it on. -/
def scoreV (room : List Int) (b : List T) (x : T) : Value := if fits11 room b x = true then .iface 116 (.int .i64 (dotI x.need (leftL room b))) else .iface 118 (.agg #[])

set_option maxHeartbeats 1000000 in
theorem scoreOf_any (v u n : Value) (room : List Int) (b : List T) (x : T) (w : World) (hr : Ints w v room) (h : Tasks w u b) (hn : Ints w n x.need) (hR : RoomOk room) (gb : Good b) (hl : b.length ≤ 50) (gx : Good1 x) :
    Calls Try.prog 92 #[v, u, .agg #[.int .i64 x.id, n]] w fun e w' => e = .returned (scoreV room b x) ∧ Ext w w' := by
  obtain ⟨an, cn, rfl, hn⟩ := hn.open
  have HL := Lib.hid (left_bd hR gb hl)
  have HR := Lib.hid hR
  have HG := Lib.hid gb
  have GX := Lib.hid gx
  have LG := Lib.hid (loadL_good b gb)
  have Hf : Hid (fitsB x.need (leftL room b) = fits11 room b x) := fits_left hR.1.1 gx.1 (loadL_good b gb).1
  clear hR gb gx
  go_enter Try.func92, Try.ntmps92
  go_wp2_with fail
  have hEx : Ext w _ := (Ext.refl w).alloc (Obj.cells #[.int .i64 x.id, .slice an x.need.length cn] 38)
  have cx : (w.alloc (Obj.cells #[.int .i64 x.id, .slice an x.need.length cn] 38)).cell? ⟨w.heap.size, 1, none⟩ = some (.slice an x.need.length cn) := by rw [box_cell]; rfl
  generalize w.alloc (Obj.cells #[.int .i64 x.id, .slice an x.need.length cn] 38) = W at *
  have Hr := Lib.hid (hr.ext hEx)
  have Hn := Lib.hid (hn.ext hEx)
  have Ht := Lib.hid (h.ext hEx)
  clear hr hn h
  refine (loadOf_any _ _ _ Ht.out HG.out).mono ?_
  rintro e w1 ⟨r1, rfl, hE1, hi1⟩
  have I1 := Lib.hid hi1
  clear hi1
  go_wp2_with fail
  refine (minus_any _ _ _ _ _ (Hr.out.ext hE1) I1.out HR.out.1.1 LG.out.1 (fun n hn => by have := HR.out.1.2 n hn; omega) (fun n hn => by have := LG.out.2 n hn; omega)).mono ?_
  rintro e w2 ⟨r2, rfl, hE2, hi2⟩
  have I2 := Lib.hid (show Ints w2 r2 (leftL room b) from hi2)
  have E2 := Lib.hid (hE1.trans hE2)
  have cx2 := E2.out.cell cx
  clear hi2 hE1 hE2
  go_wp2_with fail
  have cc := fits_any _ _ _ _ _ (Hn.out.ext E2.out) I2.out GX.out.1 HL.out.1
  rw [Hf.out] at cc
  cases hf : fits11 room b x with
  | false =>
    rw [hf] at cc
    refine cc.mono ?_
    clear cc
    rintro e w3 ⟨rfl, rfl⟩
    have F := hEx.trans E2.out
    have Hv : Hid (scoreV room b x = .iface 118 (.agg #[])) := by show scoreV room b x = _; simp [scoreV, hf]
    clear hf
    go_wp2
    go_ret
    exact ⟨congrArg Ending.returned Hv.out.symm, F⟩
  | true =>
    rw [hf] at cc
    refine cc.mono ?_
    clear cc
    rintro e w3 ⟨rfl, rfl⟩
    go_wp2_with fail
    refine (dot_any _ _ _ _ _ (Hn.out.ext E2.out) I2.out GX.out.1 HL.out.1 GX.out.2 HL.out.2).mono ?_
    rintro e w3 ⟨rfl, rfl⟩
    have F := hEx.trans E2.out
    have Hv : Hid (scoreV room b x = .iface 116 (.int .i64 (dotI x.need (leftL room b)))) := by show scoreV room b x = _; simp [scoreV, hf]
    clear hf
    go_wp2
    go_ret
    exact ⟨congrArg Ending.returned Hv.out.symm, F⟩

theorem asks_score (n : Int) (w : World) : (Instr.typeAssert (.iface 116 (.int .i64 n)) 90 116 true).run Try.prog w = .ok (.tuple #[.int .i64 n, .bool true]) w := by kernel_rfl
theorem asks_score_not (w : World) : (Instr.typeAssert (.iface 118 (.agg #[])) 90 116 true).run Try.prog w = .ok (.tuple #[.int .i64 0, .bool false]) w := by kernel_rfl
theorem asks_full (w : World) : (Instr.typeAssert (.iface 118 (.agg #[])) 90 118 true).run Try.prog w = .ok (.tuple #[.agg #[], .bool true]) w := by kernel_rfl

set_option maxHeartbeats 400000 in
theorem scoreNumber_yes (n : Int) (w : World) :
    Calls Try.prog 91 #[.iface 116 (.int .i64 n)] w fun e w' => e = .returned (.int .i64 n) ∧ Ext w w' := by
  have q1 := asks_score n
  go_enter Try.func91, Try.ntmps91
  go_wp2
  go_ret
  exact ⟨rfl, Ext.refl _⟩
set_option maxHeartbeats 400000 in
theorem scoreNumber_no (w : World) :
    Calls Try.prog 91 #[.iface 118 (.agg #[])] w fun e w' => e = .returned (.int .i64 (-1)) ∧ Ext w w' := by
  have q1 := asks_score_not
  have q2 := asks_full
  go_enter Try.func91, Try.ntmps91
  go_wp2
  go_ret
  exact ⟨rfl, (Ext.refl _).alloc _⟩

/-- The best score, or -1. -/
theorem scoreNumber_any (room : List Int) (b : List T) (x : T) (w : World) :
    Calls Try.prog 91 #[scoreV room b x] w fun e w' => e = .returned (.int .i64 (scoreI room b x)) ∧ Ext w w' := by
  unfold scoreV scoreI
  split
  · exact scoreNumber_yes _ w
  · exact scoreNumber_no w

end Go.Proofs.Ytipmoedflpjioaa
