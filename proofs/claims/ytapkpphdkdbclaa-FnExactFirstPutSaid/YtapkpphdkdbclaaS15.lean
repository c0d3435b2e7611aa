/- The reference: a task is put into nodes by first fit. -/
import Derived.Test.YtapkpphdkdbclaaS14
import Derived.Test.YtapkpphdkdbclaaI16
namespace Go.Proofs.Ytapkpphdkdbclaa
set_option maxRecDepth 100000
open Go.RowKit

theorem put_ok {room : List Int} {bs : List (List T)} {x : T} (h : ok11 room bs x = true) : BinsOk room (putL bs (at11 room bs x) x) := by
  obtain ⟨h1, h2, _⟩ := ok11_facts h
  rw [binsOk_all] at h1 ⊢
  exact ⟨tasksOk_perm (putL_perm (at11_chooses room) bs x).symm h2, put_len14 h, putL_fits (at11_chooses room) h1.2.2 (fits_empty h2)⟩
theorem firstPutL_yes {room : List Int} {bs : List (List T)} {x : T} (h : ok11 room bs x = true) : firstPutL room bs x = putL bs (at11 room bs x) x := by simp [firstPutL, h]

set_option maxHeartbeats 2000000 in
theorem sFirstPut_any (v u n : Value) (room : List Int) (bs : List (List T)) (x : T) (w : World) (hr : Ints w v room) (h : Bins w u bs) (hn : Ints w n x.need) (hf : bs.flatten.length ≤ 2097152) :
    Calls Try.prog 45 #[v, u, .agg #[.int .i64 x.id, n]] w fun e w' => ∃ a c, e = .returned (.tuple #[.slice a (firstPutL room bs x).length c, .bool (ok11 room bs x)]) ∧ Ext w w' ∧ Bins w' (.slice a (firstPutL room bs x).length c) (firstPutL room bs x) := by
  obtain ⟨an, cn, rfl, hn⟩ := hn.open
  have Hf := Lib.hid hf
  clear hf
  cases hb : ok11 room bs x with
  | false =>
    have Hd : Hid (firstPutL room bs x = []) := by show firstPutL room bs x = []; simp [firstPutL, hb]
    rw [Hd.out]
    have HB := Lib.hid hb
    clear hb
    have E0 := Lib.hid ((Ext.refl w).alloc (Obj.cells #[.int .i64 x.id, .slice an x.need.length cn] 42))
    have C0 := Lib.hid (show (w.alloc (Obj.cells #[.int .i64 x.id, .slice an x.need.length cn] 42)).cell? ⟨w.heap.size, 0, none⟩ = some (.int .i64 x.id) by rw [box_cell]; rfl)
    go_enter Try.func45, Try.ntmps45
    go_wp2_with fail
    have cc := l11Ok_any _ _ _ _ _ x _ (hr.ext E0.out) (h.ext E0.out) (hn.ext E0.out) Hf.out
    rw [HB.out] at cc
    refine cc.mono ?_
    clear cc
    rintro e w2 ⟨rfl, hE2⟩
    have F := Lib.hid ((E0.out.trans hE2).alloc (.cells #[] 47))
    have N := Lib.hid ((OwnBins.lit0 w2 w2.heap.size (Nat.le_refl _)).done (by simp [lim]))
    go_wp2
    go_ret2
    exact ⟨_, _, rfl, F.out, N.out⟩
  | true =>
    have HO := Lib.hid (ok11_facts hb)
    have HP := Lib.hid (put_ok hb)
    have Hd : Hid (firstPutL room bs x = putL bs (at11 room bs x) x) := Lib.hid (firstPutL_yes hb)
    rw [Hd.out]
    have HB := Lib.hid hb
    clear hb
    go_enter Try.func45, Try.ntmps45
    go_wp2_with fail
    have hEx : Ext w _ := (Ext.refl w).alloc (Obj.cells #[.int .i64 x.id, .slice an x.need.length cn] 42)
    have q0 : (w.alloc (Obj.cells #[.int .i64 x.id, .slice an x.need.length cn] 42)).cell? ⟨w.heap.size, 0, none⟩ = some (.int .i64 x.id) := by rw [box_cell]; rfl
    have q1 : (w.alloc (Obj.cells #[.int .i64 x.id, .slice an x.need.length cn] 42)).cell? ⟨w.heap.size, 1, none⟩ = some (.slice an x.need.length cn) := by rw [box_cell]; rfl
    generalize w.alloc (Obj.cells #[.int .i64 x.id, .slice an x.need.length cn] 42) = W0 at *
    have KS := Lib.hid (show ∀ w', Ext W0 w' → w'.cell? ⟨w.heap.size, 0, none⟩ = some (.int .i64 x.id) ∧ w'.cell? ⟨w.heap.size, 1, none⟩ = some (.slice an x.need.length cn) from fun w' h => ⟨h.cell q0, h.cell q1⟩)
    have E0 := Lib.hid hEx
    have Hr := Lib.hid (hr.ext hEx)
    have Hn := Lib.hid (hn.ext hEx)
    have Hb := Lib.hid (h.ext hEx)
    clear hr hn h q0 q1 hEx
    have cc := l11Ok_any _ _ _ _ _ x _ Hr.out Hb.out Hn.out Hf.out
    rw [HB.out] at cc
    refine cc.mono ?_
    clear cc
    rintro e W ⟨rfl, hE2⟩
    have E2 := Lib.hid hE2
    obtain ⟨c0, c1⟩ := KS.out W hE2
    clear hE2
    go_wp2_with fail
    go_region_held3 (fun w' => w'.cell? ⟨w.heap.size, 0, none⟩ = some (.int .i64 x.id) ∧ w'.cell? ⟨w.heap.size, 1, none⟩ = some (.slice an x.need.length cn))
      (first | exact KS.out _ (E2.out.trans (Ext.refl W).drew) | exact KS.out _ E3.out | exact KS.out _ E4.out | fail)
      ((first
        | (go_at_call 72; refine (l11At_any _ _ _ room bs x _ (Hr.out.ext (E2.out.trans (Ext.refl W).drew)) (Hb.out.ext (E2.out.trans (Ext.refl W).drew)) (Hn.out.ext (E2.out.trans (Ext.refl W).drew)) HO.out.1.1.1.1.1 HO.out.1.goodB HO.out.2.2.2.1).mono ?_; rintro e w3 ⟨rfl, hE3⟩; have E3 := Lib.hid ((E2.out.trans (Ext.refl W).drew).trans hE3); clear hE3)
        | (go_at_call 90; refine (l11Put_any _ _ bs (at11 room bs x) x _ (Hb.out.ext E3.out) (Hn.out.ext E3.out) (by have := HO.out.2.2.2.1.1; omega) (fun j hj => by rcases at11_chooses room bs x with ⟨e, _⟩ | ⟨i, hi, e, _⟩; rw [e] at hj; cases hj; rw [e] at hj; cases hj; exact hi) (by have := HO.out.1.2.1; omega) (fun b hb => ⟨by have := HO.out.2.2.1 b hb; omega, fun t ht => by have := (HO.out.1.goodB b hb t ht).1; omega⟩)).mono ?_; rintro e w4 ⟨pa, pc, rfl, hE4, hB4⟩; have E4 := Lib.hid (E3.out.trans hE4); have P4 := Lib.hid hB4; clear hE4 hB4)))
    all_goals
      clear c0 c1
      have hv := binsB_iff.2 HP.out
      have HV := Lib.hid hv
      clear hv
      go_wp2_with fail
      refine (sBinsValid_any _ _ _ _ _ (Hr.out.ext E4.out) P4.out (by have := HP.out.1.2.1; omega)).mono ?_
      rintro e w5 ⟨rfl, hE5⟩
      have HR := Lib.hid (show Ext w w5 ∧ Bins w5 _ (putL bs (at11 room bs x) x) from ⟨E0.out.trans (E4.out.trans hE5), P4.out.ext hE5⟩)
      rw [HV.out]
      clear hE5
      go_wp2
      go_ret2
      exact ⟨_, _, rfl, HR.out.1, HR.out.2⟩

end Go.Proofs.Ytapkpphdkdbclaa
