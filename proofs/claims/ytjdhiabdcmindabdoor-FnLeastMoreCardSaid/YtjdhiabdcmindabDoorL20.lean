/- The law FnLeastMore (a tied card): whatever the codes, a task needs at most one node more. No condition beyond the card's own: math/bits' tables lie as the program's text lays them. -/
import Derived.Test.YtjdhiabdcmindabDoorDr13
import Derived.Test.YtjdhiabdcmindabDoorLe1
import Derived.Test.YtjdhiabdcmindabDoorLe2
import Derived.Test.YtjdhiabdcmindabDoorLd
import Derived.Test.YtjdhiabdcmindabDoorOwn
import Derived.Test.YtjdhiabdcmindabDoorReg
import Derived.Test.YtjdhiabdcmindabDoorHead
import Derived.OpenShut
import Derived.ChangeOld
namespace Go.Proofs.YtjdhiabdcmindabDoor.l20
set_option maxRecDepth 100000
open Go.RowKit Go.ChangeShapes Go.WideShapes Go.ChangeAt

theorem cut_perm {α : Type} {ts : List α} {k : Nat} (h : k < ts.length) : ts.Perm (ts[k] :: (ts.take k ++ ts.drop (k + 1))) := by
  conv => lhs; rw [← List.take_append_drop k ts, List.drop_eq_getElem_cons h]
  exact List.perm_middle

set_option maxHeartbeats 4000000 in
theorem walk (v u : Value) (n m : Nat) (w : World) (h : ArgCode w v n) (k : ArgCode w u m) (ht : TabW w) :
    Calls Tryd.prog 3 #[v, u] w fun e w' => e = .returned (.bool true) ∧ Ext w w' := by
  have HTW := Lib.hid ht
  clear ht
  have h2 := h
  obtain ⟨_, ac, cc, rfl, -⟩ := h2
  have k2 := k
  obtain ⟨_, am, cm, rfl, -⟩ := k2
  clear k
  by_cases hbig : 1048576 < n
  · go_enter Tryd.func3, Tryd.ntmps3
    go_wp2
    go_ret
    exact ⟨rfl, Ext.refl _⟩
  have hsm : n ≤ 1048576 := by omega
  clear hbig
  by_cases hbig : 1048576 < m
  · go_enter Tryd.func3, Tryd.ntmps3
    go_wp2
    go_ret
    exact ⟨rfl, Ext.refl _⟩
  have hsm2 : m ≤ 1048576 := by omega
  clear hbig
  go_enter Tryd.func3, Tryd.ntmps3
  go_wp2_with fail
  refine (DrawLeastCount_any _ _ _ h).mono ?_
  rintro e w1 ⟨vr, vt, room, ts, rfl, hd, E1⟩
  have Hd1 := Lib.hid hd
  obtain ⟨ra, rc, hvr, -⟩ := hd.1.open
  obtain ⟨ta, tc, hvt, htc⟩ := hd.2.2.2.2
  subst hvr hvt
  have F1 := Lib.hid E1
  clear hd E1 h
  have hl20 : ts.length ≤ 20 := Hd1.out.2.2.2.1
  have Htc := Lib.hid htc
  clear htc
  go_wp2_with fail
  refine (LeastCount_any _ _ room ts _ Hd1.out.1 Hd1.out.2.1 (HTW.out.ext F1.out)).mono ?_
  rintro e w2 ⟨rfl, hE⟩
  have Hd2 := Lib.hid (Hd1.out.ext hE)
  have F2 := Lib.hid (F1.out.trans hE)
  clear hE Hd1 F1
  go_wp2_with fail
  refine (sLeastCount_any _ _ room ts _ Hd2.out.1 Hd2.out.2.1).mono ?_
  rintro e w3 ⟨rfl, hE⟩
  have Hd3 := Lib.hid (Hd2.out.ext hE)
  have F3 := Lib.hid (F2.out.trans hE)
  have TW := Lib.hid (HTW.out.ext F3.out)
  clear hE Hd2 F2 HTW
  cases hb : fewB room ts with
  | false =>
    rw [leastI_neg hb]
    clear hb
    go_wp2
    go_ret
    exact ⟨rfl, F3.out⟩
  | true =>
    obtain ⟨h7, hT⟩ := fewB_iff.1 hb
    have HT := Lib.hid hT
    rw [leastI_few hT h7]
    have hn0 : (0 : Int) ≤ (leastN room ts : Int) := by omega
    have hnn : ¬ (leastN room ts : Int) < 0 := by omega
    have hN7 : leastN room ts ≤ 7 := Nat.le_trans (leastW_spec hT).2.1 h7
    clear hb hT
    by_cases hz : ts.length = 0
    · have hz1 : ((ts.length : Int) == 0) = true := by simp [hz]
      clear HT TW Htc
      generalize leastN room ts = N at *
      generalize ts.length = L at *
      go_wp2_with fail
      go_ret
      exact ⟨rfl, F3.out⟩
    · have hz1 : ((ts.length : Int) == 0) = false := by simp; intro h; apply hz; simp [h]
      obtain ⟨k, hk⟩ : ∃ k, k = m % ts.length := ⟨_, rfl⟩
      have hkl : k < ts.length := by have := Nat.mod_lt m (show 0 < ts.length by omega); omega
      have e1 : (m : Int) % (ts.length : Int) = (k : Int) := by rw [hk, Int.natCast_emod]
      have htc := Htc.out
      obtain ⟨us, hus⟩ : ∃ us, us = ts.take k ++ ts.drop (k + 1) := ⟨_, rfl⟩
      have hp : ts.Perm (ts[k] :: us) := by rw [hus]; exact cut_perm hkl
      have HM := Lib.hid (least_more HT.out hp)
      have HU := Lib.hid hus.symm
      have HUL := Lib.hid (show us.length = ts.length - 1 by have := hp.length_eq; simp at this; omega)
      have HT2 := Lib.hid (tasksOk_sub (List.sublist_cons_self ts[k] us) (tasksOk_perm hp HT.out))
      have TA := Lib.hid (Hd3.out.2.1.take (Nat.le_of_lt hkl))
      have tb := Tasks.sub Hd3.out.2.1 (show k + 1 ≤ ts.length by omega) (Nat.le_refl _) htc
      rw [List.take_of_length_le (by simp)] at tb
      have E0 := Lib.hid ((Ext.refl w3).alloc (.cells #[] 30))
      have O0 := Lib.hid (OwnTasks.lit0 w3 w3.heap.size (Nat.le_refl _))
      have i0 : (0 : Int) ≤ (k : Int) := by omega
      have i1 : (k : Int) ≤ (tc : Int) := by omega
      have i2 : (k : Int) + 1 ≤ (ts.length : Int) := by omega
      have i3 : (0 : Int) ≤ (k : Int) + 1 := by omega
      have i4 : ((k : Int) + 1).toNat = k + 1 := by omega
      have i5 : (k : Int) < (ts.length : Int) := by omega
      have i6 : (k : Int) ≤ (k : Int) + 1 := by omega
      have r1 : IntKind.i64.wrap ((k : Int) + 1) = (k : Int) + 1 := IntWalk.i64_in _ (by omega)
      clear hk hus hp hz
      by_cases hc1 : tc = k + 1
      · subst hc1
        have TB := Lib.hid (show Tasks w3 (.slice ta (ts.length - (k + 1)) 0) (ts.drop (k + 1)) from by simpa [sliced] using tb)
        clear tb htc
        go_wp2_with fail
        refine wp_region_held_drew (S := fun _ => True) (by kernel_rfl) trivial (fun hHeld => ?_)
        refine takeH (i := 0) (d := some 50) (v := ?_) rfl rfl (by kernel_rfl) (by kernel_rfl) (by kernel_rfl) (fun _ _ _ h => h) (by rfl) ?_ (by assumption) ?_
        rotate_left
        · intro w hSw; (try dsimp only at hSw); (try go_simp); (try with_reducible rfl)
        try simp only [Act.put, List.setIfInBounds_toArray, List.set_cons_zero, List.set_cons_succ]
        refine takeH (i := 2) (d := some 52) (v := ?_) rfl rfl (by kernel_rfl) (by kernel_rfl) (by kernel_rfl) (fun _ _ _ h => h) (by rfl) ?_ (by assumption) ?_
        rotate_left
        · intro w hSw; (try dsimp only at hSw); (try go_simp); (try with_reducible rfl)
        try simp only [Act.put, List.setIfInBounds_toArray, List.set_cons_zero, List.set_cons_succ]
        refine takeH (i := 3) (d := some 53) (v := ?_) rfl rfl (by kernel_rfl) (by kernel_rfl) (by kernel_rfl) (fun _ _ _ h => h) (by rfl) ?_ (by assumption) ?_
        rotate_left
        · intro w hSw; (try dsimp only at hSw); (try go_simp); (try with_reducible rfl)
        try simp only [Act.put, List.setIfInBounds_toArray, List.set_cons_zero, List.set_cons_succ]
        refine takeH (i := 4) (d := some 54) (v := ?_) rfl rfl (by kernel_rfl) (by kernel_rfl) (by kernel_rfl) (fun _ _ _ h => h) (by rfl) ?_ (by assumption) ?_
        rotate_left
        · intro w hSw; (try dsimp only at hSw); (try go_simp); (try with_reducible rfl)
        try simp only [Act.put, List.setIfInBounds_toArray, List.set_cons_zero, List.set_cons_succ]
        refine takeH (i := 6) (d := some 56) (v := ?_) rfl rfl (by kernel_rfl) (by kernel_rfl) (by kernel_rfl) (fun _ _ _ h => h) (by rfl) ?_ (by assumption) ?_
        rotate_left
        · intro w hSw; (try dsimp only at hSw); (try go_simp); (try with_reducible rfl)
        try simp only [Act.put, List.setIfInBounds_toArray, List.set_cons_zero, List.set_cons_succ]
        refine takeH (i := 7) (d := some 57) (v := ?_) rfl rfl (by kernel_rfl) (by kernel_rfl) (by kernel_rfl) (fun _ _ _ h => h) (by rfl) ?_ (by assumption) ?_
        rotate_left
        · intro w hSw; (try dsimp only at hSw); (try go_simp); (try with_reducible rfl)
        try simp only [Act.put, List.setIfInBounds_toArray, List.set_cons_zero, List.set_cons_succ]
        refine takeH (i := 8) (d := some 58) (v := ?_) rfl rfl (by kernel_rfl) (by kernel_rfl) (by kernel_rfl) (fun _ _ _ h => h) (by rfl) ?_ (by assumption) ?_
        rotate_left
        · intro w hSw; (try dsimp only at hSw); (try go_simp); (try with_reducible rfl)
        try simp only [Act.put, List.setIfInBounds_toArray, List.set_cons_zero, List.set_cons_succ]
        refine takeH (i := 9) (d := some 59) (v := ?_) rfl rfl (by kernel_rfl) (by kernel_rfl) (by kernel_rfl) (fun _ _ _ h => h) (by rfl) ?_ (by assumption) ?_
        rotate_left
        · intro w hSw; (try dsimp only at hSw); (try go_simp); (try with_reducible rfl)
        try simp only [Act.put, List.setIfInBounds_toArray, List.set_cons_zero, List.set_cons_succ]
        refine oneH (i := 1) (by kernel_rfl) rfl (by rfl) (fun K hK => ?_)
        go_simp
        try dsimp only
        refine hK.out _ _ (trivial) (fun hHeld => ?_)
        clear hK K
        try simp only [Act.put, List.setIfInBounds_toArray, List.set_cons_zero, List.set_cons_succ]
        refine oneH (i := 5) (by kernel_rfl) rfl (by rfl) (fun K hK => ?_)
        refine wp_app_tasks _ _ rfl w3.heap.size _ [] rfl O0.out.drew (by simp) _ _ _ (ts.take k) rfl (TA.out.ext E0.out.drew) (by unfold lim; simp; omega) ?_; intro v4 w4 hown hkt hbl; rw [List.nil_append] at hown; have O4 := Lib.hid hown; have X4 := Lib.hid (show Ext w3 w4 from Below.trans E0.out.drew hbl); clear hown hkt hbl
        try dsimp only
        refine hK.out _ _ (trivial) (fun hHeld => ?_)
        clear hK K
        try simp only [Act.put, List.setIfInBounds_toArray]
        refine oneH (i := 10) (by kernel_rfl) rfl (by rfl) (fun K hK => ?_)
        refine wp_app_tasks _ _ rfl w3.heap.size _ (ts.take k) rfl O4.out X4.out.le _ _ _ (ts.drop (k + 1)) rfl (TB.out.ext X4.out) (by unfold lim; simp; omega) ?_; intro v5 w5 hown hkt hbl; rw [HU.out] at hown; have O5 := Lib.hid (hown.done (by rw [HUL.out]; unfold lim; omega)); have X5 := Lib.hid (show Ext w3 w5 from Below.trans X4.out hbl); clear hown hkt hbl
        try dsimp only
        refine hK.out _ _ (trivial) (fun hHeld => ?_)
        clear hK K
        try simp only [Act.put]
        refine oneH (i := 11) (by kernel_rfl) rfl (by rfl) (fun K hK => ?_)
        go_simp
        have cc := LeastCount_any _ _ room us _ (Hd3.out.1.ext X5.out) O5.out (TW.out.ext X5.out); rw [leastI_few HT2.out (by rw [HUL.out]; omega)] at cc; refine cc.mono ?_; clear cc; rintro e w6 ⟨rfl, hE⟩; have X6 := Lib.hid (X5.out.trans hE); clear hE
        try dsimp only
        refine hK.out _ _ (trivial) (fun hHeld => ?_)
        clear hK K
        try simp only [Act.put, List.setIfInBounds_toArray, List.set_cons_zero, List.set_cons_succ]
        refine takeH (i := 12) (d := some 10) (v := ?_) rfl rfl (by kernel_rfl) (by kernel_rfl) (by kernel_rfl) (fun _ _ _ h => h) (by rfl) ?_ (by assumption) ?_
        rotate_left
        · intro w hSw; (try dsimp only at hSw); (try go_simp); (try with_reducible rfl)
        try simp only [Act.put, List.setIfInBounds_toArray, List.set_cons_zero, List.set_cons_succ]
        refine wpAnyH_done (by kernel_rfl) ?_ _
        clear hHeld O4 O5 X4 X5 HT2 HU HUL TA TB TW HT Htc Hd3 O0 E0
        have F6 := Lib.hid (F3.out.trans X6.out)
        have hm := HM.out
        generalize leastN room us = q at *
        generalize leastN room ts = N at *
        clear X6 F3 HM
        rcases hm with rfl | hm
        · go_wp2_with fail
          go_ret
          exact ⟨rfl, F6.out⟩
        · have hq1 : ((q : Int) == (N : Int)) = false := by simp; omega
          have hq2 : (N : Int) - 1 = (q : Int) := by omega
          have hq3 : ((q : Int) == (N : Int) - 1) = true := by simp; omega
          clear hm
          go_wp2_with fail
          go_ret
          exact ⟨rfl, F6.out⟩
      · have TB := Lib.hid (show Tasks w3 (.slice (ta.map (·.add ((k + 1) * 2))) (ts.length - (k + 1)) (tc - (k + 1))) (ts.drop (k + 1)) from by simpa [sliced, hc1] using tb)
        clear tb
        go_wp2_with fail
        refine wp_region_held_drew (S := fun _ => True) (by kernel_rfl) trivial (fun hHeld => ?_)
        refine takeH (i := 0) (d := some 50) (v := ?_) rfl rfl (by kernel_rfl) (by kernel_rfl) (by kernel_rfl) (fun _ _ _ h => h) (by rfl) ?_ (by assumption) ?_
        rotate_left
        · intro w hSw; (try dsimp only at hSw); (try go_simp); (try with_reducible rfl)
        try simp only [Act.put, List.setIfInBounds_toArray, List.set_cons_zero, List.set_cons_succ]
        refine takeH (i := 2) (d := some 52) (v := ?_) rfl rfl (by kernel_rfl) (by kernel_rfl) (by kernel_rfl) (fun _ _ _ h => h) (by rfl) ?_ (by assumption) ?_
        rotate_left
        · intro w hSw; (try dsimp only at hSw); (try go_simp); (try with_reducible rfl)
        try simp only [Act.put, List.setIfInBounds_toArray, List.set_cons_zero, List.set_cons_succ]
        refine takeH (i := 3) (d := some 53) (v := ?_) rfl rfl (by kernel_rfl) (by kernel_rfl) (by kernel_rfl) (fun _ _ _ h => h) (by rfl) ?_ (by assumption) ?_
        rotate_left
        · intro w hSw; (try dsimp only at hSw); (try go_simp); (try with_reducible rfl)
        try simp only [Act.put, List.setIfInBounds_toArray, List.set_cons_zero, List.set_cons_succ]
        refine takeH (i := 4) (d := some 54) (v := ?_) rfl rfl (by kernel_rfl) (by kernel_rfl) (by kernel_rfl) (fun _ _ _ h => h) (by rfl) ?_ (by assumption) ?_
        rotate_left
        · intro w hSw; (try dsimp only at hSw); (try go_simp); (try with_reducible rfl)
        try simp only [Act.put, List.setIfInBounds_toArray, List.set_cons_zero, List.set_cons_succ]
        refine takeH (i := 6) (d := some 56) (v := ?_) rfl rfl (by kernel_rfl) (by kernel_rfl) (by kernel_rfl) (fun _ _ _ h => h) (by rfl) ?_ (by assumption) ?_
        rotate_left
        · intro w hSw; (try dsimp only at hSw); (try go_simp); (try with_reducible rfl)
        try simp only [Act.put, List.setIfInBounds_toArray, List.set_cons_zero, List.set_cons_succ]
        refine takeH (i := 7) (d := some 57) (v := ?_) rfl rfl (by kernel_rfl) (by kernel_rfl) (by kernel_rfl) (fun _ _ _ h => h) (by rfl) ?_ (by assumption) ?_
        rotate_left
        · intro w hSw; (try dsimp only at hSw); (try go_simp); (try with_reducible rfl)
        try simp only [Act.put, List.setIfInBounds_toArray, List.set_cons_zero, List.set_cons_succ]
        refine takeH (i := 8) (d := some 58) (v := ?_) rfl rfl (by kernel_rfl) (by kernel_rfl) (by kernel_rfl) (fun _ _ _ h => h) (by rfl) ?_ (by assumption) ?_
        rotate_left
        · intro w hSw; (try dsimp only at hSw); (try go_simp); (try with_reducible rfl)
        try simp only [Act.put, List.setIfInBounds_toArray, List.set_cons_zero, List.set_cons_succ]
        refine takeH (i := 9) (d := some 59) (v := ?_) rfl rfl (by kernel_rfl) (by kernel_rfl) (by kernel_rfl) (fun _ _ _ h => h) (by rfl) ?_ (by assumption) ?_
        rotate_left
        · intro w hSw; (try dsimp only at hSw); (try go_simp); (try with_reducible rfl)
        try simp only [Act.put, List.setIfInBounds_toArray, List.set_cons_zero, List.set_cons_succ]
        refine oneH (i := 1) (by kernel_rfl) rfl (by rfl) (fun K hK => ?_)
        go_simp
        try dsimp only
        refine hK.out _ _ (trivial) (fun hHeld => ?_)
        clear hK K
        try simp only [Act.put, List.setIfInBounds_toArray, List.set_cons_zero, List.set_cons_succ]
        refine oneH (i := 5) (by kernel_rfl) rfl (by rfl) (fun K hK => ?_)
        refine wp_app_tasks _ _ rfl w3.heap.size _ [] rfl O0.out.drew (by simp) _ _ _ (ts.take k) rfl (TA.out.ext E0.out.drew) (by unfold lim; simp; omega) ?_; intro v4 w4 hown hkt hbl; rw [List.nil_append] at hown; have O4 := Lib.hid hown; have X4 := Lib.hid (show Ext w3 w4 from Below.trans E0.out.drew hbl); clear hown hkt hbl
        try dsimp only
        refine hK.out _ _ (trivial) (fun hHeld => ?_)
        clear hK K
        try simp only [Act.put, List.setIfInBounds_toArray]
        refine oneH (i := 10) (by kernel_rfl) rfl (by rfl) (fun K hK => ?_)
        refine wp_app_tasks _ _ rfl w3.heap.size _ (ts.take k) rfl O4.out X4.out.le _ _ _ (ts.drop (k + 1)) rfl (TB.out.ext X4.out) (by unfold lim; simp; omega) ?_; intro v5 w5 hown hkt hbl; rw [HU.out] at hown; have O5 := Lib.hid (hown.done (by rw [HUL.out]; unfold lim; omega)); have X5 := Lib.hid (show Ext w3 w5 from Below.trans X4.out hbl); clear hown hkt hbl
        try dsimp only
        refine hK.out _ _ (trivial) (fun hHeld => ?_)
        clear hK K
        try simp only [Act.put]
        refine oneH (i := 11) (by kernel_rfl) rfl (by rfl) (fun K hK => ?_)
        go_simp
        have cc := LeastCount_any _ _ room us _ (Hd3.out.1.ext X5.out) O5.out (TW.out.ext X5.out); rw [leastI_few HT2.out (by rw [HUL.out]; omega)] at cc; refine cc.mono ?_; clear cc; rintro e w6 ⟨rfl, hE⟩; have X6 := Lib.hid (X5.out.trans hE); clear hE
        try dsimp only
        refine hK.out _ _ (trivial) (fun hHeld => ?_)
        clear hK K
        try simp only [Act.put, List.setIfInBounds_toArray, List.set_cons_zero, List.set_cons_succ]
        refine takeH (i := 12) (d := some 10) (v := ?_) rfl rfl (by kernel_rfl) (by kernel_rfl) (by kernel_rfl) (fun _ _ _ h => h) (by rfl) ?_ (by assumption) ?_
        rotate_left
        · intro w hSw; (try dsimp only at hSw); (try go_simp); (try with_reducible rfl)
        try simp only [Act.put, List.setIfInBounds_toArray, List.set_cons_zero, List.set_cons_succ]
        refine wpAnyH_done (by kernel_rfl) ?_ _
        clear hHeld O4 O5 X4 X5 HT2 HU HUL TA TB TW HT Htc Hd3 O0 E0
        have F6 := Lib.hid (F3.out.trans X6.out)
        have hm := HM.out
        generalize leastN room us = q at *
        generalize leastN room ts = N at *
        clear X6 F3 HM
        rcases hm with rfl | hm
        · go_wp2_with fail
          go_ret
          exact ⟨rfl, F6.out⟩
        · have hq1 : ((q : Int) == (N : Int)) = false := by simp; omega
          have hq2 : (N : Int) - 1 = (q : Int) := by omega
          have hq3 : ((q : Int) == (N : Int) - 1) = true := by simp; omega
          clear hm
          go_wp2_with fail
          go_ret
          exact ⟨rfl, F6.out⟩

theorem own : ownKnob Tryd.prog.godebug = none := by kernel_rfl
theorem laidOut : laidOutB Tryd.prog = true := by kernel_rfl

set_option maxRecDepth 100000 in
theorem lifted (os : Os) (started : os.Started) (H : Type) (enc : TypeId × Value → H) :
    ReturnsInHanded {} Tryd.checked os 3 .any (fun w args => (Rows.fnLeastMoreSpec.pre enc Tryd.prog Tryd.f3 [] false w args ∧ laidMetH Tryd.prog laidL w) ∧ sizedMet enc Tryd.prog Tryd.f3 (OpenSpec.ofChange Rows.fnLeastMoreSpec) false w args) (Rows.fnLeastMoreSpec.post enc Tryd.prog Tryd.f3 false true false false) := by
  refine returnsInHanded_of_change_and (C := Tryd.checked) (X := fun w _ => laidMetH Tryd.prog laidL w) (fun _ _ _ hh h => h.of_heap hh) own started (by kernel_rfl) Tryd.func3
    (ChangeSpec.witness_shaped (enc := enc) (C := Tryd.checked) (os := os) (X := fun w _ => laidMetH Tryd.prog laidL w) false (World.doorLaid Tryd.prog 19 os) #[.slice none 0 0, .slice none 0 0] 8 rfl (World.shaped_of_RefB (by kernel_rfl) (by kernel_rfl)) (by kernel_rfl) (by kernel_rfl) (by kernel_rfl) (door_met os _)) ?_
  intro W base args ds gs before hval0 hW _ _ hL _
  have hval : ∀ (j : Nat) t v, Tryd.f3.params[j]? = some t → args[j]? = some v → Value.okWide Tryd.prog W .any base t v := hval0
  have hW' := hW
  obtain ⟨p, q, hA0, hV, rfl, hfz, hnd⟩ := hW
  have hA : DataW.TrodAll enc Tryd.prog W 0 (fun _ => true) true Tryd.f3.params.toList args.toList ds p := hA0
  rw [Tryd.params3] at hA hval
  obtain ⟨v0, vs0, d0, ds0, p0, q0, hargs, rfl, rfl, h0, r0⟩ := trodAll_cons hA
  obtain ⟨v1, vs1, d1, ds1, p1, q1, rfl, rfl, rfl, h1, r1⟩ := trodAll_cons r0
  obtain ⟨rfl, rfl, rfl⟩ := trodAll_nil r1
  obtain rfl : args = #[v0, v1] := by cases args; simp_all
  obtain ⟨rfl, rfl⟩ := trodVars_none hV
  have lt0 : ∀ x ∈ p0, x.block < W.heap.size := by obtain ⟨m, hm⟩ := h0; exact DataW.trod_lt m _ _ _ hm
  have lt1 : ∀ x ∈ p1, x.block < W.heap.size := by obtain ⟨m, hm⟩ := h1; exact DataW.trod_lt m _ _ _ hm
  obtain ⟨x0, e0⟩ := argCode_of h0 (okWide_slice Tryd.underlying22 (hval 0 22 v0 rfl rfl))
  obtain ⟨x1, e1⟩ := argCode_of h1 (okWide_slice Tryd.underlying22 (hval 1 22 v1 rfl rfl))
  clear hA0 hval0
  refine (walk v0 v1 x0 x1 W e0 e1 (met_tab hL)).mono fun e W' ⟨he, bel⟩ => ?_
  subst he
  exact ⟨_, rfl, _, _, _, [], _, [], hW', trodAll_mk1 (shut_bool Tryd.underlying4 _), (trodAll_cons_mk (Below.trod laidOut (by kernel_rfl) (of_decide_eq_true (by kernel_rfl)) h0 bel lt0) (trodAll_cons_mk (Below.trod laidOut (by kernel_rfl) (of_decide_eq_true (by kernel_rfl)) h1 bel lt1) trodAll_mk0)), rfl, Below.frame bel _, fun h => by cases h⟩

theorem closed : joinedFacts Tryd.prog 3 Tryd.f3 Rows.fnLeastMoreSpec Rows.fnLeastMoreRow = true := by
  unfold joinedFacts
  rw [may_enter, lifts_final, make_cut]
  kernel_rfl

theorem row_holds : Rows.FnLeastMoreSaid :=
  OpenClaim.holds_of_wide 3 Tryd.f3 rfl rfl rfl rfl rfl rfl rfl ⟨rfl, rfl, rfl, rfl, rfl⟩ rfl rfl rfl rfl rfl (by kernel_rfl) Tryd.func3 closed
    (of_decide_eq_true (by kernel_rfl)) (by unfold Func.isWrapper; first | (rw [if_pos (by decide +kernel)]; kernel_rfl) | (rw [if_neg (by decide +kernel)]; exact ⟨rfl, rfl⟩))
    (fun os started H enc _ => lifted os started H enc)

theorem proved : Rows.FnLeastMoreCardSaid :=
  Claim7.holds_tied_plain_at .later [] [.data, .data] true Rows.fnLeastMoreCard.stood.harness Rows.fnLeastMoreCard.stood.looks
    row_holds (fun _ h => by cases h) (by kernel_rfl) (fun _ h => by cases h) fnLeastMore_row_tie rfl ⟨rfl, rfl⟩ (by kernel_rfl) rfl
    (fun f fn hf hfn => by
      obtain rfl : f = 3 := Option.some.inj ((show Tryd.prog.funcNamed "loop.example/vectorpacker/laws.FnLeastMore" = some 3 by kernel_rfl).symm.trans hf) |>.symm
      obtain rfl : fn = Tryd.f3 := (Option.some.inj (Tryd.func3.symm.trans hfn)).symm
      exact ⟨by kernel_rfl, fun j t ht => by
        rw [Tryd.params3] at ht
        have hm : t ∈ [22, 22] := by simpa using Array.mem_of_getElem? ht
        have hall : ([22, 22].all fun u => !Tryd.prog.wantsStandIn u) = true := by kernel_rfl
        exact (show Tryd.prog.wantsStandIn t = false by simpa using List.all_eq_true.1 hall t hm)⟩)
    (by kernel_rfl)

end Go.Proofs.YtjdhiabdcmindabDoor.l20
