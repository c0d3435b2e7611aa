/- The law FnDown: whatever the code, the greatest task comes first. No condition. -/
import Derived.Test.YtcijbpjiioodlaaI22
import Derived.Test.YtcijbpjiioodlaaDr9
import Derived.Test.YtcijbpjiioodlaaSame
import Derived.Test.YtcijbpjiioodlaaSame2
import Derived.Test.YtcijbpjiioodlaaLim
import Derived.Test.YtcijbpjiioodlaaMark4
import Derived.Test.YtcijbpjiioodlaaReg
import Derived.Test.YtcijbpjiioodlaaHead
import Derived.OpenShut
import Derived.ChangeOld
namespace Go.Proofs.Ytcijbpjiioodlaa.l16
set_option maxRecDepth 100000
open Go.RowKit Go.ChangeShapes Go.WideShapes Go.ChangeAt

theorem row_cap {w : World} {B : Nat} {e : TypeId} {size n m c : Nat} {a : Option Addr} {xs : List Value} (h : w.ownsRow B e size (.slice a m c) n xs) : n ≤ c := by
  obtain ⟨_, h1⟩ := h
  rcases h1 with ⟨h1, hn⟩ | ⟨g, cap, cur, h1, _, _, r, _⟩
  · omega
  · cases h1; exact r

set_option maxHeartbeats 4000000 in
theorem walk (v : Value) (n : Nat) (w : World) (h : ArgCode w v n) :
    Calls Try.prog 14 #[v] w fun e w' => e = .returned (.bool true) ∧ Ext w w' := by
  have h2 := h
  obtain ⟨_, ac, cc, rfl, -⟩ := h2
  by_cases hbig : 1048576 < n
  · go_enter Try.func14, Try.ntmps14
    go_wp2
    go_ret
    exact ⟨rfl, Ext.refl _⟩
  have hsm : n ≤ 1048576 := by omega
  clear hbig
  go_enter Try.func14, Try.ntmps14
  go_wp2_with fail
  refine (DrawDownAll_any _ _ _ h).mono ?_
  rintro e w1 ⟨vr, vt, room, ts, rfl, hd, E1⟩
  have Hd1 := Lib.hid hd
  obtain ⟨ra, rc, hvr, -⟩ := hd.1.open
  obtain ⟨ta, tc, hvt, htc⟩ := hd.2.2.2.2
  subst hvr hvt
  have F1 := Lib.hid E1
  clear hd E1 h htc
  have HL := Lib.hid (firstAllL_lim room (sortL room ts))
  go_wp2_with fail
  refine (DownAll_any _ _ room ts _ Hd1.out.1 Hd1.out.2.1).mono ?_
  rintro e w2 ⟨oa, oc, rfl, hE, hN⟩
  have N2 := Lib.hid hN
  have Hd2 := Lib.hid (Hd1.out.ext hE)
  have F2 := Lib.hid (F1.out.trans hE)
  clear hE hN Hd1 F1
  go_wp2_with fail
  refine (sDownAll_any _ _ room ts _ Hd2.out.1 Hd2.out.2.1).mono ?_
  rintro e w3 ⟨wa, wc, rfl, hE, hB⟩
  have W3 := Lib.hid hB
  have N3 := Lib.hid (N2.out.ext hE)
  have Hd3 := Lib.hid (Hd2.out.ext hE)
  have F3 := Lib.hid (F2.out.trans hE)
  clear hE hB Hd2 F2 N2
  go_wp2_with fail
  refine (sameBins_any _ _ _ _ _ (N3.out.upto.bins HL.out) W3.out).mono ?_
  rintro e w4 ⟨rfl, hE⟩
  have N4 := Lib.hid (N3.out.ext hE)
  have Hd4 := Lib.hid (Hd3.out.ext hE)
  have F4 := Lib.hid (F3.out.trans hE)
  clear hE Hd3 F3 N3 W3
  rw [sameBs_iff.2 rfl]
  go_wp2_with fail
  refine (TasksSort_any _ _ room ts _ Hd4.out.1 Hd4.out.2.1).mono ?_
  rintro e w5 ⟨vo, rfl, hE, hT⟩
  have SL := Lib.hid (show Sm (sortL room ts) from sortL_lim room ts)
  have T5 := Lib.hid (hT.tasks SL.out.len SL.out.need)
  obtain ⟨sa, sc, ho, hsc⟩ := hT.formc
  subst ho
  have N5 := Lib.hid (N4.out.ext hE)
  have R5 := Lib.hid (Hd4.out.1.ext hE)
  have F5 := Lib.hid (F4.out.trans hE)
  have HH : Hid (sortL room ts ≠ [] → ∃ b r, firstAllL room (sortL room ts) = b :: r ∧ b.take 1 = (sortL room ts).take 1) := by
    intro hne
    have ht : tasksB room ts = true := by
      cases h : tasksB room ts with
      | true => rfl
      | false => exact absurd (show sortL room ts = [] by simp [sortL, h]) hne
    have hs : sortL room ts = sortS ts := by simp [sortL, ht]
    have ok := sorted_ok (tasksB_iff.1 ht)
    rw [hs] at hne ⊢
    have e : firstAllL room (sortS ts) = allL (at11 room) (sortS ts) := by unfold firstAllL; rw [if_pos (tasksB_iff.2 ok)]
    rw [e]
    exact head_put (at11_chooses room) _ hne
  clear hE hT Hd4 F4 N4
  generalize sortL room ts = ss at *
  have sl1 : ss.length ≤ 1000 := SL.out.1
  by_cases h0 : ss.length = 0
  · have hz : (((ss.length : Nat) : Int) == 0) = true := by simp [h0]
    have H0 := Lib.hid h0
    clear h0
    go_wp2_with fail
    refine wp_region_held_drew (S := fun _ => True) (by kernel_rfl) (trivial) (fun hHeld => ?_)
    refine takeH (i := 0) (d := some 32) (v := ?_) rfl rfl (by kernel_rfl) (by kernel_rfl) (by kernel_rfl) (fun _ _ _ h => h) (by rfl) ?_ (by assumption) ?_
    rotate_left
    · intro w hSw; (try dsimp only at hSw); (try go_simp); (try with_reducible rfl)
    try simp only [Act.put, List.setIfInBounds_toArray, List.set_cons_zero, List.set_cons_succ]
    refine takeH (i := 1) (d := some 33) (v := ?_) rfl rfl (by kernel_rfl) (by kernel_rfl) (by kernel_rfl) (fun _ _ _ h => h) (by rfl) ?_ (by assumption) ?_
    rotate_left
    · intro w hSw; (try dsimp only at hSw); (try go_simp); (try with_reducible rfl)
    try simp only [Act.put, List.setIfInBounds_toArray, List.set_cons_zero, List.set_cons_succ]
    refine takeH (i := 3) (d := some 35) (v := ?_) rfl rfl (by kernel_rfl) (by kernel_rfl) (by kernel_rfl) (fun _ _ _ h => h) (by rfl) ?_ (by assumption) ?_
    rotate_left
    · intro w hSw; (try dsimp only at hSw); (try go_simp); (try with_reducible rfl)
    try simp only [Act.put, List.setIfInBounds_toArray, List.set_cons_zero, List.set_cons_succ]
    refine oneH (i := 2) (by kernel_rfl) rfl (by rfl) (fun K hK => ?_)
    go_simp
    refine (FirstAll_any _ _ room ss _ (R5.out.ext (Ext.refl w5).drew) (T5.out.ext (Ext.refl w5).drew)).mono ?_
    rintro e w6 ⟨pa, pc, rfl, hE, hN⟩
    have X6 := Lib.hid ((Ext.refl w5).drew.trans hE)
    have B6 := Lib.hid (hN.upto.bins HL.out)
    clear hE hN
    try dsimp only
    refine hK.out _ _ (trivial) (fun hHeld => ?_)
    clear hK K
    try simp only [Act.put, List.setIfInBounds_toArray, List.set_cons_zero, List.set_cons_succ]
    refine oneH (i := 4) (by kernel_rfl) rfl (by rfl) (fun K hK => ?_)
    go_simp
    refine (sameBins_any _ _ _ _ _ B6.out ((N5.out.upto.bins HL.out).ext X6.out)).mono ?_
    rintro e w7 ⟨rfl, hE⟩
    rw [sameBs_iff.2 rfl]
    have X7 := Lib.hid (X6.out.trans hE)
    have F7 := Lib.hid (F5.out.trans X7.out)
    clear hE
    try dsimp only
    refine hK.out _ _ (trivial) (fun hHeld => ?_)
    clear hK K
    try simp only [Act.put, List.setIfInBounds_toArray, List.set_cons_zero, List.set_cons_succ]
    refine takeH (i := 5) (d := some 37) (v := ?_) rfl rfl (by kernel_rfl) (by kernel_rfl) (by kernel_rfl) (fun _ _ _ h => h) (by rfl) ?_ (by assumption) ?_
    rotate_left
    · intro w hSw; (try dsimp only at hSw); (try go_simp); (try with_reducible rfl)
    try simp only [Act.put, List.setIfInBounds_toArray, List.set_cons_zero, List.set_cons_succ]
    refine takeH (i := 6) (d := some 38) (v := ?_) rfl rfl (by kernel_rfl) (by kernel_rfl) (by kernel_rfl) (fun _ _ _ h => h) (by rfl) ?_ (by assumption) ?_
    rotate_left
    · intro w hSw; (try dsimp only at hSw); (try go_simp); (try with_reducible rfl)
    try simp only [Act.put, List.setIfInBounds_toArray, List.set_cons_zero, List.set_cons_succ]
    refine takeH (i := 7) (d := some 39) (v := ?_) rfl rfl (by kernel_rfl) (by kernel_rfl) (by kernel_rfl) (fun _ _ _ h => h) (by rfl) ?_ (by assumption) ?_
    rotate_left
    · intro w hSw; (try dsimp only at hSw); (try go_simp); (try with_reducible rfl)
    try simp only [Act.put, List.setIfInBounds_toArray, List.set_cons_zero, List.set_cons_succ]
    refine takeH (i := 8) (d := some 40) (v := ?_) rfl rfl (by kernel_rfl) (by kernel_rfl) (by kernel_rfl) (fun _ _ _ h => h) (by rfl) ?_ (by assumption) ?_
    rotate_left
    · intro w hSw; (try dsimp only at hSw); (try go_simp); (try with_reducible rfl)
    try simp only [Act.put, List.setIfInBounds_toArray, List.set_cons_zero, List.set_cons_succ]
    refine takeH (i := 9) (d := some 41) (v := ?_) rfl rfl (by kernel_rfl) (by kernel_rfl) (by kernel_rfl) (fun _ _ _ h => h) (by rfl) ?_ (by assumption) ?_
    rotate_left
    · intro w hSw; (try dsimp only at hSw); (try go_simp); (try with_reducible rfl)
    try simp only [Act.put, List.setIfInBounds_toArray, List.set_cons_zero, List.set_cons_succ]
    refine skipH (i := 10) (d := some 42) rfl rfl (by kernel_rfl) (by kernel_rfl) (by kernel_rfl) (fun _ _ _ h => h) (by rfl) (by assumption) ?_
    try simp only [Act.put, List.setIfInBounds_toArray, List.set_cons_zero, List.set_cons_succ]
    refine skipH (i := 11) (d := some 43) rfl rfl (by kernel_rfl) (by kernel_rfl) (by kernel_rfl) (fun _ _ _ h => h) (by rfl) (by assumption) ?_
    try simp only [Act.put, List.setIfInBounds_toArray, List.set_cons_zero, List.set_cons_succ]
    refine skipH (i := 12) (d := some 44) rfl rfl (by kernel_rfl) (by kernel_rfl) (by kernel_rfl) (fun _ _ _ h => h) (by rfl) (by assumption) ?_
    try simp only [Act.put, List.setIfInBounds_toArray, List.set_cons_zero, List.set_cons_succ]
    refine skipH (i := 13) (d := some 45) rfl rfl (by kernel_rfl) (by kernel_rfl) (by kernel_rfl) (fun _ _ _ h => h) (by rfl) (by assumption) ?_
    try simp only [Act.put, List.setIfInBounds_toArray, List.set_cons_zero, List.set_cons_succ]
    refine skipH (i := 14) (d := some 46) rfl rfl (by kernel_rfl) (by kernel_rfl) (by kernel_rfl) (fun _ _ _ h => h) (by rfl) (by assumption) ?_
    try simp only [Act.put, List.setIfInBounds_toArray, List.set_cons_zero, List.set_cons_succ]
    refine skipH (i := 15) (d := some 47) rfl rfl (by kernel_rfl) (by kernel_rfl) (by kernel_rfl) (fun _ _ _ h => h) (by rfl) (by assumption) ?_
    try simp only [Act.put, List.setIfInBounds_toArray, List.set_cons_zero, List.set_cons_succ]
    refine skipH (i := 16) (d := some 48) rfl rfl (by kernel_rfl) (by kernel_rfl) (by kernel_rfl) (fun _ _ _ h => h) (by rfl) (by assumption) ?_
    try simp only [Act.put, List.setIfInBounds_toArray, List.set_cons_zero, List.set_cons_succ]
    refine takeH (i := 17) (d := some 49) (v := ?_) rfl rfl (by kernel_rfl) (by kernel_rfl) (by kernel_rfl) (fun _ _ _ h => h) (by rfl) ?_ (by assumption) ?_
    rotate_left
    · intro w hSw; (try dsimp only at hSw); (try go_simp); (try with_reducible rfl)
    try simp only [Act.put, List.setIfInBounds_toArray, List.set_cons_zero, List.set_cons_succ]
    refine takeH (i := 18) (d := some 50) (v := ?_) rfl rfl (by kernel_rfl) (by kernel_rfl) (by kernel_rfl) (fun _ _ _ h => h) (by rfl) ?_ (by assumption) ?_
    rotate_left
    · intro w hSw; (try dsimp only at hSw); (try go_simp); (try with_reducible rfl)
    try simp only [Act.put, List.setIfInBounds_toArray, List.set_cons_zero, List.set_cons_succ]
    refine takeH (i := 19) (d := some 2) (v := ?_) rfl rfl (by kernel_rfl) (by kernel_rfl) (by kernel_rfl) (fun _ _ _ h => h) (by rfl) ?_ (by assumption) ?_
    rotate_left
    · intro w hSw; (try dsimp only at hSw); (try go_simp); (try with_reducible rfl)
    try simp only [Act.put, List.setIfInBounds_toArray, List.set_cons_zero, List.set_cons_succ]
    refine wpAnyH_done (by kernel_rfl) ?_ _
    have F := Lib.hid F7.out
    go_wp2
    go_ret
    exact ⟨rfl, F.out⟩
  · have hz : (((ss.length : Nat) : Int) == 0) = false := beq_eq_false_iff_ne.2 (by omega)
    have HHs := Lib.hid (HH.out (by intro e; rw [e] at h0; exact h0 rfl))
    obtain ⟨b0, r0, hbr, -⟩ := HHs.out
    have hk : 0 < (firstAllL room ss).length := by rw [hbr]; simp
    obtain ⟨g, nd, xs, hoa, -, -, -, c0, hrow, ⟨na, nc, hnd⟩, -⟩ := N5.out.at hk
    subst hoa hnd
    have hb0 : (firstAllL room ss)[0] = b0 := by simp only [hbr, List.getElem_cons_zero]
    have hb1 : b0.take 1 = ss.take 1 := by
      obtain ⟨b, r, e1, e2⟩ := HHs.out
      rw [hbr] at e1
      cases e1
      exact e2
    have cap0 := row_cap hrow
    rw [hb0] at cap0
    have hl0 : 0 < b0.length := by
      cases b0 with
      | nil =>
        cases ss with
        | nil => exact absurd rfl h0
        | cons x q => simp at hb1
      | cons x q => simp
    have Tb5 := Lib.hid (show Tasks w5 (.slice na b0.length nc) b0 from by
      have hB := N5.out.upto.bins HL.out
      obtain ⟨b', off', nd', ha, cc, ht⟩ := hB.at hk
      cases ha
      rw [Nat.zero_add, c0] at cc
      cases cc
      simp only [hb0] at ht
      exact ht)
    rw [hb0] at c0
    have KS := Lib.hid (show ∀ w', Ext w5 w' → w'.cell? ⟨g, 0, none⟩ = some (.slice na b0.length nc) from fun w' h => h.cell c0)
    have i0 : (0 : Int) < ((firstAllL room ss).length : Int) := by omega
    have i1 : (1 : Int) ≤ (nc : Int) := by omega
    have i2 : (1 : Int) ≤ (sc : Int) := by omega
    have Hb1 := Lib.hid hb1
    clear HH HHs hbr hrow hb0 hb1 c0 cap0
    go_wp2_with fail
    refine wp_region_held_drew (S := fun w' => w'.cell? ⟨g, 0, none⟩ = some (.slice na b0.length nc)) (by kernel_rfl) (KS.out _ (Ext.refl w5).drew) (fun hHeld => ?_)
    refine takeH (i := 0) (d := some 32) (v := ?_) rfl rfl (by kernel_rfl) (by kernel_rfl) (by kernel_rfl) (fun _ _ _ h => h) (by rfl) ?_ (by assumption) ?_
    rotate_left
    · intro w hSw; (try dsimp only at hSw); (try go_simp); (try with_reducible rfl)
    try simp only [Act.put, List.setIfInBounds_toArray, List.set_cons_zero, List.set_cons_succ]
    refine takeH (i := 1) (d := some 33) (v := ?_) rfl rfl (by kernel_rfl) (by kernel_rfl) (by kernel_rfl) (fun _ _ _ h => h) (by rfl) ?_ (by assumption) ?_
    rotate_left
    · intro w hSw; (try dsimp only at hSw); (try go_simp); (try with_reducible rfl)
    try simp only [Act.put, List.setIfInBounds_toArray, List.set_cons_zero, List.set_cons_succ]
    refine takeH (i := 3) (d := some 35) (v := ?_) rfl rfl (by kernel_rfl) (by kernel_rfl) (by kernel_rfl) (fun _ _ _ h => h) (by rfl) ?_ (by assumption) ?_
    rotate_left
    · intro w hSw; (try dsimp only at hSw); (try go_simp); (try with_reducible rfl)
    try simp only [Act.put, List.setIfInBounds_toArray, List.set_cons_zero, List.set_cons_succ]
    refine oneH (i := 2) (by kernel_rfl) rfl (by rfl) (fun K hK => ?_)
    go_simp
    refine (FirstAll_any _ _ room ss _ (R5.out.ext (Ext.refl w5).drew) (T5.out.ext (Ext.refl w5).drew)).mono ?_
    rintro e w6 ⟨pa, pc, rfl, hE, hN⟩
    have X6 := Lib.hid ((Ext.refl w5).drew.trans hE)
    have B6 := Lib.hid (hN.upto.bins HL.out)
    clear hE hN
    try dsimp only
    refine hK.out _ _ (KS.out _ X6.out) (fun hHeld => ?_)
    clear hK K
    try simp only [Act.put, List.setIfInBounds_toArray, List.set_cons_zero, List.set_cons_succ]
    refine oneH (i := 4) (by kernel_rfl) rfl (by rfl) (fun K hK => ?_)
    go_simp
    refine (sameBins_any _ _ _ _ _ B6.out ((N5.out.upto.bins HL.out).ext X6.out)).mono ?_
    rintro e w7 ⟨rfl, hE⟩
    rw [sameBs_iff.2 rfl]
    have X7 := Lib.hid (X6.out.trans hE)
    have F7 := Lib.hid (F5.out.trans X7.out)
    clear hE
    try dsimp only
    refine hK.out _ _ (KS.out _ X7.out) (fun hHeld => ?_)
    clear hK K
    try simp only [Act.put, List.setIfInBounds_toArray, List.set_cons_zero, List.set_cons_succ]
    refine takeH (i := 5) (d := some 37) (v := ?_) rfl rfl (by kernel_rfl) (by kernel_rfl) (by kernel_rfl) (fun _ _ _ h => h) (by rfl) ?_ (by assumption) ?_
    rotate_left
    · intro w hSw; (try dsimp only at hSw); (try go_simp); (try with_reducible rfl)
    try simp only [Act.put, List.setIfInBounds_toArray, List.set_cons_zero, List.set_cons_succ]
    refine takeH (i := 6) (d := some 38) (v := ?_) rfl rfl (by kernel_rfl) (by kernel_rfl) (by kernel_rfl) (fun _ _ _ h => h) (by rfl) ?_ (by assumption) ?_
    rotate_left
    · intro w hSw; (try dsimp only at hSw); (try go_simp); (try with_reducible rfl)
    try simp only [Act.put, List.setIfInBounds_toArray, List.set_cons_zero, List.set_cons_succ]
    refine takeH (i := 7) (d := some 39) (v := ?_) rfl rfl (by kernel_rfl) (by kernel_rfl) (by kernel_rfl) (fun _ _ _ h => h) (by rfl) ?_ (by assumption) ?_
    rotate_left
    · intro w hSw; (try dsimp only at hSw); (try go_simp); (try with_reducible rfl)
    try simp only [Act.put, List.setIfInBounds_toArray, List.set_cons_zero, List.set_cons_succ]
    refine takeH (i := 8) (d := some 40) (v := ?_) rfl rfl (by kernel_rfl) (by kernel_rfl) (by kernel_rfl) (fun _ _ _ h => h) (by rfl) ?_ (by assumption) ?_
    rotate_left
    · intro w hSw; (try dsimp only at hSw); (try go_simp); (try with_reducible rfl)
    try simp only [Act.put, List.setIfInBounds_toArray, List.set_cons_zero, List.set_cons_succ]
    refine takeH (i := 9) (d := some 41) (v := ?_) rfl rfl (by kernel_rfl) (by kernel_rfl) (by kernel_rfl) (fun _ _ _ h => h) (by rfl) ?_ (by assumption) ?_
    rotate_left
    · intro w hSw; (try dsimp only at hSw); (try go_simp); (try with_reducible rfl)
    try simp only [Act.put, List.setIfInBounds_toArray, List.set_cons_zero, List.set_cons_succ]
    refine takeH (i := 10) (d := some 42) (v := ?_) rfl rfl (by kernel_rfl) (by kernel_rfl) (by kernel_rfl) (fun _ _ _ h => h) (by rfl) ?_ (by assumption) ?_
    rotate_left
    · intro w hSw; (try dsimp only at hSw); (try go_simp); (try with_reducible rfl)
    try simp only [Act.put, List.setIfInBounds_toArray, List.set_cons_zero, List.set_cons_succ]
    refine takeH (i := 11) (d := some 43) (v := ?_) rfl rfl (by kernel_rfl) (by kernel_rfl) (by kernel_rfl) (fun _ _ _ h => h) (by rfl) ?_ (by assumption) ?_
    rotate_left
    · intro w hSw; (try dsimp only at hSw); (try go_simp); (try with_reducible rfl)
    try simp only [Act.put, List.setIfInBounds_toArray, List.set_cons_zero, List.set_cons_succ]
    refine takeH (i := 12) (d := some 44) (v := ?_) rfl rfl (by kernel_rfl) (by kernel_rfl) (by kernel_rfl) (fun _ _ _ h => h) (by rfl) ?_ (by assumption) ?_
    rotate_left
    · intro w hSw; (try dsimp only at hSw); (try have l0 := hSw; go_simp); (try with_reducible rfl)
    try simp only [Act.put, List.setIfInBounds_toArray, List.set_cons_zero, List.set_cons_succ]
    refine takeH (i := 13) (d := some 45) (v := ?_) rfl rfl (by kernel_rfl) (by kernel_rfl) (by kernel_rfl) (fun _ _ _ h => h) (by rfl) ?_ (by assumption) ?_
    rotate_left
    · intro w hSw; (try dsimp only at hSw); (try go_simp); (try with_reducible rfl)
    try simp only [Act.put, List.setIfInBounds_toArray, List.set_cons_zero, List.set_cons_succ]
    refine takeH (i := 14) (d := some 46) (v := ?_) rfl rfl (by kernel_rfl) (by kernel_rfl) (by kernel_rfl) (fun _ _ _ h => h) (by rfl) ?_ (by assumption) ?_
    rotate_left
    · intro w hSw; (try dsimp only at hSw); (try go_simp); (try with_reducible rfl)
    try simp only [Act.put, List.setIfInBounds_toArray, List.set_cons_zero, List.set_cons_succ]
    refine takeH (i := 15) (d := some 47) (v := ?_) rfl rfl (by kernel_rfl) (by kernel_rfl) (by kernel_rfl) (fun _ _ _ h => h) (by rfl) ?_ (by assumption) ?_
    rotate_left
    · intro w hSw; (try dsimp only at hSw); (try go_simp); (try with_reducible rfl)
    try simp only [Act.put, List.setIfInBounds_toArray, List.set_cons_zero, List.set_cons_succ]
    refine oneH (i := 16) (by kernel_rfl) rfl (by rfl) (fun K hK => ?_)
    go_simp
    refine (sameTasks_any _ _ (b0.take 1) (ss.take 1) _ ((Tb5.out.ext X7.out).take (by omega)) ((T5.out.ext X7.out).take (by omega))).mono ?_
    rintro e w8 ⟨rfl, hE⟩
    rw [sameTs_iff.2 Hb1.out]
    have X8 := Lib.hid (X7.out.trans hE)
    have F8 := Lib.hid (F5.out.trans X8.out)
    clear hE
    try dsimp only
    refine hK.out _ _ (KS.out _ X8.out) (fun hHeld => ?_)
    clear hK K
    try simp only [Act.put, List.setIfInBounds_toArray, List.set_cons_zero, List.set_cons_succ]
    refine takeH (i := 17) (d := some 49) (v := ?_) rfl rfl (by kernel_rfl) (by kernel_rfl) (by kernel_rfl) (fun _ _ _ h => h) (by rfl) ?_ (by assumption) ?_
    rotate_left
    · intro w hSw; (try dsimp only at hSw); (try go_simp); (try with_reducible rfl)
    try simp only [Act.put, List.setIfInBounds_toArray, List.set_cons_zero, List.set_cons_succ]
    refine takeH (i := 18) (d := some 50) (v := ?_) rfl rfl (by kernel_rfl) (by kernel_rfl) (by kernel_rfl) (fun _ _ _ h => h) (by rfl) ?_ (by assumption) ?_
    rotate_left
    · intro w hSw; (try dsimp only at hSw); (try go_simp); (try with_reducible rfl)
    try simp only [Act.put, List.setIfInBounds_toArray, List.set_cons_zero, List.set_cons_succ]
    refine takeH (i := 19) (d := some 2) (v := ?_) rfl rfl (by kernel_rfl) (by kernel_rfl) (by kernel_rfl) (fun _ _ _ h => h) (by rfl) ?_ (by assumption) ?_
    rotate_left
    · intro w hSw; (try dsimp only at hSw); (try go_simp); (try with_reducible rfl)
    try simp only [Act.put, List.setIfInBounds_toArray, List.set_cons_zero, List.set_cons_succ]
    refine wpAnyH_done (by kernel_rfl) ?_ _
    have F := Lib.hid F8.out
    go_wp2
    go_ret
    exact ⟨rfl, F.out⟩

theorem own : ownKnob Try.prog.godebug = none := by kernel_rfl
theorem laidOut : laidOutB Try.prog = true := by kernel_rfl

set_option maxRecDepth 100000 in
theorem lifted (os : Os) (started : os.Started) (H : Type) (enc : TypeId × Value → H) :
    ReturnsInHanded {} Try.checked os 14 .any (Rows.fnDownSpec.pre6 enc Try.prog Try.f14 Rows.fnDownRow.domain false) (Rows.fnDownSpec.post enc Try.prog Try.f14 false true false false) := by
  refine returnsInHanded_of_change (C := Try.checked) own started (by kernel_rfl) Try.func14
    (ChangeSpec.witness6 (enc := enc) (C := Try.checked) false ⟨#[], #[.slice none 0 0], []⟩ 8 (by kernel_rfl) (by kernel_rfl) (by kernel_rfl) (by kernel_rfl)) ?_
  intro W base args ds gs before hval0 hW hcnd _
  have hval : ∀ (j : Nat) t v, Try.f14.params[j]? = some t → args[j]? = some v → Value.okWide Try.prog W .any base t v := hval0
  have hW' := hW
  obtain ⟨p, q, hA0, hV, rfl, hfz, hnd⟩ := hW
  have hA : DataW.TrodAll enc Try.prog W 0 (fun _ => true) true Try.f14.params.toList args.toList ds p := hA0
  rw [Try.params14] at hA hval
  obtain ⟨v0, vs0, d0, ds0, p0, q0, hargs, rfl, rfl, h0, r0⟩ := trodAll_cons hA
  obtain ⟨rfl, rfl, rfl⟩ := trodAll_nil r0
  obtain rfl : args = #[v0] := by cases args; simp_all
  obtain ⟨rfl, rfl⟩ := trodVars_none hV
  have lt0 : ∀ x ∈ p0, x.block < W.heap.size := by obtain ⟨m, hm⟩ := h0; exact DataW.trod_lt m _ _ _ hm
  obtain ⟨x0, e0⟩ := argCode_of h0 (okWide_slice Try.underlying34 (hval 0 34 v0 rfl rfl))
  clear hA0 hval0
  refine (walk v0 x0 W e0).mono fun e W' ⟨he, bel⟩ => ?_
  subst he
  exact ⟨_, rfl, _, _, _, [], _, [], hW', trodAll_mk1 (shut_bool Try.underlying4 _), (trodAll_cons_mk (Below.trod laidOut (by kernel_rfl) (of_decide_eq_true (by kernel_rfl)) h0 bel lt0) trodAll_mk0), rfl, Below.frame bel _, fun h => by cases h⟩

theorem closed : joinedFacts Try.prog 14 Try.f14 Rows.fnDownSpec Rows.fnDownRow = true := by
  unfold joinedFacts
  rw [may_enter, lifts_final, make_cut]
  kernel_rfl

theorem proved : Rows.FnDownSaid :=
  OpenClaim.holds_of_wide 14 Try.f14 rfl rfl rfl rfl rfl rfl rfl ⟨rfl, rfl, rfl, rfl, rfl⟩ rfl rfl rfl rfl rfl (by kernel_rfl) Try.func14 closed
    (of_decide_eq_true (by kernel_rfl)) (by unfold Func.isWrapper; first | (rw [if_pos (by decide +kernel)]; kernel_rfl) | (rw [if_neg (by decide +kernel)]; exact ⟨rfl, rfl⟩))
    (fun os started H enc _ => lifted os started H enc)

end Go.Proofs.Ytcijbpjiioodlaa.l16
