/- The reference: the score of a task in a node. -/
import Derived.Test.YtipmoedflpjioaaI12
import Derived.Test.YtipmoedflpjioaaS10
namespace Go.Proofs.Ytipmoedflpjioaa
set_option maxRecDepth 100000
open Go.RowKit

set_option maxHeartbeats 600000 in
theorem l1Dot_any (v u : Value) (xs ys : List Int) (w : World) (h : Ints w v xs) (h' : Ints w u ys) (hx : xs.length = 3) (hy : ys.length = 3) (bx : Bd 1000000 xs) (bY : Bd 100000000 ys) :
    Calls Try.prog 123 #[v, u] w fun e w' => e = .returned (.int .i64 (dotI xs ys)) ∧ ∃ n, w' = w.drewN n := by
  obtain ⟨a, cap, rfl, h⟩ := h.open
  obtain ⟨a', cap', rfl, h'⟩ := h'.open
  obtain ⟨b, off, rfl, hc⟩ := h.at (by omega)
  obtain ⟨b', off', rfl, hc'⟩ := h'.at (by omega)
  rw [hx, hy]
  have Hc := Lib.hid hc
  have Hc' := Lib.hid hc'
  have Hx := Lib.hid hx
  have Hy := Lib.hid hy
  have Bx := Lib.hid bx
  have By := Lib.hid bY
  clear hc hc' h h' hx hy bx bY
  go_enter Try.func123, Try.ntmps123
  go_wp2
  go_loopw [5, 6] (fun s i wr => ∃ (k : Nat) (m : Int) (q : Nat), k ≤ 3 ∧ i = .int .i64 k ∧ s = .int .i64 m ∧ wr = w.drewN q ∧ -100000000000000 * (k : Int) ≤ m ∧ m ≤ 100000000000000 * (k : Int) ∧ m = ((List.zipWith (fun x y => x * y) xs ys).take k).foldl (fun s z => s + z) 0) (fun _ i _ => 3 - (intOf i).toNat)
  case atStart => exact ⟨0, 0, 0, by omega, rfl, rfl, rfl, by omega, by omega, by simp⟩
  case round =>
    obtain ⟨k, m, q, hk, rfl, rfl, rfl, m0, m1, hm⟩ := hrel
    have Hm := Lib.hid hm
    clear hm
    by_cases hlt : k < 3
    · have l1 : k < xs.length := by have := Hx.out; omega
      have l2 : k < ys.length := by have := Hy.out; omega
      have c1 := Hc.out k l1
      have c2 := Hc'.out k l2
      have b1 : (k : Int) < 3 := by omega
      have b0 : (0 : Int) ≤ (k : Int) := by omega
      obtain ⟨p0, p1⟩ := mul_bd (Bx.out _ (List.getElem_mem l1)) (By.out _ (List.getElem_mem l2))
      have Hst := Lib.hid (dotI_step l1 l2)
      have r1 : IntKind.i64.wrap (xs[k] * ys[k]) = xs[k] * ys[k] := IntWalk.i64_in _ (by omega)
      have r2 : IntKind.i64.wrap (m + xs[k] * ys[k]) = m + xs[k] * ys[k] := IntWalk.i64_in _ (by omega)
      go_wp2
      go_quiet (fail)
      clear r1 r2
      go_wp2
      go_roundw
      case rel => exact ⟨k + 1, m + xs[k] * ys[k], q + nq, by omega, by go_num, rfl, by first | rfl | exact World.drewN_drewN _ _ _, by push_cast; omega, by push_cast; omega, by rw [Hst.out, ← Hm.out]⟩
      case measure => simp [intOf]; omega
    · have e : k = 3 := by omega
      subst e
      have Hd : Hid (dotI xs ys = m) := by
        show dotI xs ys = m
        rw [Hm.out]
        unfold dotI
        rw [List.take_of_length_le (by simp; have := Hx.out; have := Hy.out; omega)]
      go_wp2
      go_ret
      exact ⟨ret_int Hd.out.symm, q, rfl⟩

set_option maxHeartbeats 1000000 in
theorem l12Score_any (v u n : Value) (room : List Int) (b : List T) (x : T) (w : World) (hr : Ints w v room) (h : Tasks w u b) (hn : Ints w n x.need) (hR : RoomOk room) (gb : Good b) (hl : b.length ≤ 50) (gx : Good1 x) :
    Calls Try.prog 95 #[v, u, .agg #[.int .i64 x.id, n]] w fun e w' => e = .returned (.int .i64 (dotI x.need (leftL room b))) ∧ Ext w w' := by
  obtain ⟨an, cn, rfl, hn⟩ := hn.open
  have HL := Lib.hid (left_bd hR gb hl)
  have HR := Lib.hid hR
  have HG := Lib.hid gb
  have GX := Lib.hid gx
  have LG := Lib.hid (loadL_good b gb)
  clear hR gb gx
  go_enter Try.func95, Try.ntmps95
  go_wp2_with fail
  have hEx : Ext w _ := (Ext.refl w).alloc (Obj.cells #[.int .i64 x.id, .slice an x.need.length cn] 38)
  have cx : (w.alloc (Obj.cells #[.int .i64 x.id, .slice an x.need.length cn] 38)).cell? ⟨w.heap.size, 1, none⟩ = some (.slice an x.need.length cn) := by rw [box_cell]; rfl
  generalize w.alloc (Obj.cells #[.int .i64 x.id, .slice an x.need.length cn] 38) = W at *
  have Hr := Lib.hid (hr.ext hEx)
  have Hn := Lib.hid (hn.ext hEx)
  have Ht := Lib.hid (h.ext hEx)
  clear hr hn h
  go_region_held3 (fun w' => w'.cell? ⟨w.heap.size, 1, none⟩ = some (.slice an x.need.length cn))
    (first | exact (Ext.refl W).drew.cell cx | exact hE1.cell cx | exact hE3.cell cx | exact hE4.cell cx)
    (first
      | (go_at_call 70; refine (l2Load_any _ _ _ (Ht.out.ext (Ext.refl W).drew) HG.out).mono ?_; rintro e w1 ⟨r, rfl, hE, hi⟩; have hE1 := (Ext.refl W).drew.trans hE; have Hi := Lib.hid hi; clear hi hE)
      | (go_at_call 108; refine (l1Add_any _ _ _ _ (-1) _ (Hr.out.ext hE1) Hi.out HR.out.1.1 LG.out.1 (.inr rfl) (fun n hn => by have := HR.out.1.2 n hn; omega) (fun n hn => by have := LG.out.2 n hn; omega)).mono ?_; rintro e w2 ⟨r2, rfl, hE2, hi2⟩; have hE3 := hE1.trans hE2; have Hi2 := Lib.hid (show Ints w2 r2 (leftL room b) from hi2); clear hi2 hE2)
      | (go_at_call 123; refine (l1Dot_any _ _ _ _ _ (Hn.out.ext hE3) Hi2.out GX.out.1 HL.out.1 GX.out.2 HL.out.2).mono ?_; rintro e w3 ⟨rfl, m, rfl⟩; have hE4 := hE3.drewN m))
  have F := hEx.trans hE4
  go_wp2
  go_ret
  exact ⟨rfl, F⟩

set_option maxHeartbeats 1000000 in
theorem sBestScore_any (v u n : Value) (room : List Int) (b : List T) (x : T) (w : World) (hr : Ints w v room) (h : Tasks w u b) (hn : Ints w n x.need) (hf : b.length ≤ 2097152) :
    Calls Try.prog 46 #[v, u, .agg #[.int .i64 x.id, n]] w fun e w' => e = .returned (.int .i64 (bestScoreI room b x)) ∧ Ext w w' := by
  obtain ⟨an, cn, rfl, hn⟩ := hn.open
  obtain ⟨ab, cb, rfl, h⟩ := h.open
  have E0 := Lib.hid (((Ext.refl w).alloc (Obj.cells #[.int .i64 x.id, .slice an x.need.length cn] 38)).alloc (Obj.cells #[.slice ab b.length cb] 27))
  have C0 := Lib.hid (((Ext.refl (w.alloc (Obj.cells #[.int .i64 x.id, .slice an x.need.length cn] 38))).alloc (Obj.cells #[.slice ab b.length cb] 27)).cell (box_cell w #[.int .i64 x.id, .slice an x.need.length cn] 38 0))
  have C1 := Lib.hid (((Ext.refl (w.alloc (Obj.cells #[.int .i64 x.id, .slice an x.need.length cn] 38))).alloc (Obj.cells #[.slice ab b.length cb] 27)).cell (box_cell w #[.int .i64 x.id, .slice an x.need.length cn] 38 1))
  have B0 := Lib.hid (Bins.lit1 (h.ext ((Ext.refl w).alloc (Obj.cells #[.int .i64 x.id, .slice an x.need.length cn] 38))) 1)
  rw [World.size_alloc] at B0
  have Hf := Lib.hid (show [b].flatten.length ≤ 2097152 by simpa using hf)
  clear hf
  cases hb : ok11 room [b] x with
  | false =>
    have Hd : Hid (bestScoreI room b x = -1) := by show bestScoreI room b x = -1; simp [bestScoreI, hb]
    have HB := Lib.hid hb
    clear hb
    go_enter Try.func46, Try.ntmps46
    go_wp2_with fail
    have cc := l11Ok_any _ _ _ room [b] x _ (hr.ext E0.out) B0.out (hn.ext E0.out) Hf.out
    rw [HB.out] at cc
    refine cc.mono ?_
    clear cc
    rintro e w2 ⟨rfl, hE2⟩
    go_wp2
    go_ret
    exact ⟨ret_int Hd.out.symm, E0.out.trans hE2⟩
  | true =>
    have H1 := Lib.hid (ok11_one hb)
    have H2 := Lib.hid (ok11_len hb)
    have H3 := Lib.hid (ok11_good hb)
    have HB := Lib.hid hb
    cases hft : fits11 room b x with
    | false =>
      have Hd : Hid (bestScoreI room b x = -1) := by show bestScoreI room b x = -1; simp [bestScoreI, scoreI, hft]
      have HF := Lib.hid hft
      clear hb hft
      go_enter Try.func46, Try.ntmps46
      go_wp2_with fail
      have cc := l11Ok_any _ _ _ room [b] x _ (hr.ext E0.out) B0.out (hn.ext E0.out) Hf.out
      rw [HB.out] at cc
      refine cc.mono ?_
      clear cc
      rintro e w2 ⟨rfl, hE2⟩
      have E2 := Lib.hid (E0.out.trans hE2)
      have c0 : w2.cell? ⟨w.heap.size, 0, none⟩ = some (.int .i64 x.id) := hE2.cell C0.out
      have c1 : w2.cell? ⟨w.heap.size, 1, none⟩ = some (.slice an x.need.length cn) := hE2.cell C1.out
      clear hE2
      go_wp2_with fail
      have cc := l11Fits_any _ _ _ room b x _ (hr.ext E2.out) (h.ext E2.out) (hn.ext E2.out) H1.out.2.1.1.1 H3.out.1 H3.out.2
      rw [HF.out] at cc
      refine cc.mono ?_
      clear cc
      rintro e w3 ⟨rfl, hE3⟩
      have F := E2.out.trans hE3
      go_wp2
      go_ret
      exact ⟨ret_int Hd.out.symm, F⟩
    | true =>
      have Hd : Hid (bestScoreI room b x = dotI x.need (leftL room b)) := by show bestScoreI room b x = _; simp [bestScoreI, scoreI, hft, hb]
      have HF := Lib.hid hft
      clear hb hft
      go_enter Try.func46, Try.ntmps46
      go_wp2_with fail
      have cc := l11Ok_any _ _ _ room [b] x _ (hr.ext E0.out) B0.out (hn.ext E0.out) Hf.out
      rw [HB.out] at cc
      refine cc.mono ?_
      clear cc
      rintro e w2 ⟨rfl, hE2⟩
      have E2 := Lib.hid (E0.out.trans hE2)
      have c0 : w2.cell? ⟨w.heap.size, 0, none⟩ = some (.int .i64 x.id) := hE2.cell C0.out
      have c1 : w2.cell? ⟨w.heap.size, 1, none⟩ = some (.slice an x.need.length cn) := hE2.cell C1.out
      clear hE2
      go_wp2_with fail
      have cc := l11Fits_any _ _ _ room b x _ (hr.ext E2.out) (h.ext E2.out) (hn.ext E2.out) H1.out.2.1.1.1 H3.out.1 H3.out.2
      rw [HF.out] at cc
      refine cc.mono ?_
      clear cc
      rintro e w3 ⟨rfl, hE3⟩
      have E3 := Lib.hid (E2.out.trans hE3)
      have d0 := hE3.cell c0
      have d1 := hE3.cell c1
      clear hE3 c0 c1
      go_wp2_with fail
      refine (l12Score_any _ _ _ room b x _ (hr.ext E3.out) (h.ext E3.out) (hn.ext E3.out) H1.out.2.1 H3.out.1 H2.out H3.out.2).mono ?_
      rintro e w4 ⟨rfl, hE4⟩
      have F := E3.out.trans hE4
      go_wp2
      go_ret
      exact ⟨ret_int Hd.out.symm, F⟩

end Go.Proofs.Ytipmoedflpjioaa
