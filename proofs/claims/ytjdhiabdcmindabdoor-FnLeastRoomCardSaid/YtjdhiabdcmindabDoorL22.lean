/- The law FnLeastRoom (a tied card): whatever the codes, a greater room needs no more nodes. No condition beyond the card's own: math/bits' tables lie as the program's text lays them. -/
import Derived.Test.YtjdhiabdcmindabDoorDr13
import Derived.Test.YtjdhiabdcmindabDoorLe1
import Derived.Test.YtjdhiabdcmindabDoorLe2
import Derived.Test.YtjdhiabdcmindabDoorLd
import Derived.Test.YtjdhiabdcmindabDoorOwn
import Derived.Test.YtjdhiabdcmindabDoorHead
import Derived.OpenShut
import Derived.ChangeOld
namespace Go.Proofs.YtjdhiabdcmindabDoor.l22
set_option maxRecDepth 100000
open Go.RowKit Go.ChangeShapes Go.WideShapes Go.ChangeAt

set_option maxHeartbeats 4000000 in
theorem walk (v u : Value) (n m : Nat) (w : World) (h : ArgCode w v n) (k : ArgCode w u m) (ht : TabW w) :
    Calls Tryd.prog 5 #[v, u] w fun e w' => e = .returned (.bool true) ∧ Ext w w' := by
  have HTW := Lib.hid ht
  clear ht
  have h2 := h
  obtain ⟨_, ac, cc, rfl, -⟩ := h2
  have k2 := k
  obtain ⟨_, am, cm, rfl, -⟩ := k2
  clear k
  by_cases hbig : 1048576 < n
  · go_enter Tryd.func5, Tryd.ntmps5
    go_wp2
    go_ret
    exact ⟨rfl, Ext.refl _⟩
  have hsm : n ≤ 1048576 := by omega
  clear hbig
  by_cases hbig : 1048576 < m
  · go_enter Tryd.func5, Tryd.ntmps5
    go_wp2
    go_ret
    exact ⟨rfl, Ext.refl _⟩
  have hsm2 : m ≤ 1048576 := by omega
  clear hbig
  go_enter Tryd.func5, Tryd.ntmps5
  go_wp2_with fail
  refine (DrawLeastCount_any _ _ _ h).mono ?_
  rintro e w1 ⟨vr, vt, room, ts, rfl, hd, E1⟩
  have Hd1 := Lib.hid hd
  obtain ⟨ra, rc, hvr, -⟩ := hd.1.open
  obtain ⟨ta, tc, hvt, htc⟩ := hd.2.2.2.2
  subst hvr hvt
  have F1 := Lib.hid E1
  clear hd E1 h
  have hl20 : ts.length ≤ 20 := Hd1.out.2.2.2.1
  have Htc := Lib.hid htc
  clear htc
  go_wp2_with fail
  refine (LeastCount_any _ _ room ts _ Hd1.out.1 Hd1.out.2.1 (HTW.out.ext F1.out)).mono ?_
  rintro e w2 ⟨rfl, hE⟩
  have Hd2 := Lib.hid (Hd1.out.ext hE)
  have F2 := Lib.hid (F1.out.trans hE)
  clear hE Hd1 F1
  go_wp2_with fail
  refine (sLeastCount_any _ _ room ts _ Hd2.out.1 Hd2.out.2.1).mono ?_
  rintro e w3 ⟨rfl, hE⟩
  have Hd3 := Lib.hid (Hd2.out.ext hE)
  have F3 := Lib.hid (F2.out.trans hE)
  have TW := Lib.hid (HTW.out.ext F3.out)
  clear hE Hd2 F2 HTW
  cases hb : fewB room ts with
  | false =>
    rw [leastI_neg hb]
    clear hb
    go_wp2
    go_ret
    exact ⟨rfl, F3.out⟩
  | true =>
    obtain ⟨h7, hT⟩ := fewB_iff.1 hb
    have HT := Lib.hid hT
    rw [leastI_few hT h7]
    have hn0 : (0 : Int) ≤ (leastN room ts : Int) := by omega
    have hnn : ¬ (leastN room ts : Int) < 0 := by omega
    have hN7 : leastN room ts ≤ 7 := Nat.le_trans (leastW_spec hT).2.1 h7
    clear hb hT
    have r3a : room.length ≤ 3 := Nat.le_of_eq HT.out.1.1.1
    have r3b : 3 ≤ room.length := Nat.le_of_eq HT.out.1.1.1.symm
    obtain ⟨k, hk⟩ : ∃ k, k = m % 3 := ⟨_, rfl⟩
    have hk3 : k < room.length := by omega
    have e1 : (m : Int) % 3 = (k : Int) := by omega
    obtain ⟨b, off, hra, hcell⟩ := Hd3.out.1.at (by omega)
    subst hra
    have c0 := hcell k hk3
    have i0 : (0 : Int) ≤ (k : Int) := by omega
    have i1 : (k : Int) < (room.length : Int) := by omega
    have hr1 : 1 ≤ room[k] := HT.out.1.2 _ (List.getElem_mem hk3)
    have hr2 : room[k] ≤ 20 := (HT.out.1.1.2 _ (List.getElem_mem hk3)).2
    clear hk hcell
    by_cases e20 : room[k] = 20
    · have hb : ((room[k] : Int) == 20) = true := by simp [e20]
      clear e20 hr1 hr2 HT TW Htc
      generalize leastN room ts = N at *
      go_wp2_with fail
      go_ret
      exact ⟨rfl, F3.out⟩
    · have hb : ((room[k] : Int) == 20) = false := by simp [e20]
      obtain ⟨hT2, hle⟩ := room_more HT.out hk3 e20
      have HT2 := Lib.hid hT2
      have HLE := Lib.hid hle
      have E0 := Lib.hid ((Ext.refl w3).alloc (.cells #[] 3))
      have O0 := Lib.hid (OwnInts.lit0 w3 w3.heap.size (Nat.le_refl _))
      clear hT2 hle
      go_wp2_with (at_builtin; refine app_ints rfl _ _ rfl w3.heap.size _ [] rfl ?hown ?hB _ _ _ room rfl ?hsrc ?hlim ?_)
      case hown => exact O0.out
      case hB => simp
      case hsrc => exact Hd3.out.1.ext E0.out
      case hlim => unfold lim; simp; omega
      intro v4 w4 hown hkt hbl
      try rw [List.nil_append] at hown
      have X4 : Ext w3 w4 := Below.trans E0.out hbl
      have hown' : w4.ownsRow w3.heap.size 3 1 v4 room.length (room.map (Value.int .i64)) := hown
      obtain ⟨a4, c4, rfl, -⟩ := (hown.done (by unfold lim; omega)).open
      obtain ⟨g, rfl, -, hg, hgl, hc, ho⟩ := ownsRow_at hown' (by omega)
      obtain ⟨p1, p2, p3, p4⟩ := ownsRow_put ho (k := k) (by simp; omega) (.int .i64 (room[k] + 1))
      have c1 := hc k (by simp; omega)
      rw [List.getElem?_map, List.getElem?_eq_getElem hk3, Option.map_some] at c1
      have HX := Lib.hid (show Ints (w4.setCell ⟨g, k, none⟩ (.int .i64 (room[k] + 1))) (.slice (some ⟨g, 0, none⟩) room.length c4) (room.set k (room[k] + 1)) from by
        have := Ints.of_own (xs := room.set k (room[k] + 1)) (by rw [List.map_set]; exact p1) (by rw [List.length_set]; unfold lim; omega)
        exact this)
      have E5 := Lib.hid (show Ext w3 (w4.setCell ⟨g, k, none⟩ (.int .i64 (room[k] + 1))) from Below.trans X4 p3)
      clear hown hown' hkt hbl X4 hc ho p1 p2 p3 E0 O0 hg hgl
      go_wp2_with fail
      generalize w4.setCell ⟨g, k, none⟩ (.int .i64 (room[k] + 1)) = W5 at *
      have cc := LeastCount_any _ _ (room.set k (room[k] + 1)) ts _ HX.out (Hd3.out.2.1.ext E5.out) (TW.out.ext E5.out)
      rw [leastI_few HT2.out h7] at cc
      refine cc.mono ?_
      clear cc
      rintro e w6 ⟨rfl, hE⟩
      have F6 := Lib.hid (F3.out.trans (E5.out.trans hE))
      have hle := HLE.out
      clear hE HT2 HLE HX E5 TW HT Htc Hd3 F3 p4 c1 c0 hb e20 hr1 hr2
      generalize leastN (room.set k (room[k] + 1)) ts = q at *
      generalize leastN room ts = N at *
      have g0 : (0 : Int) ≤ (q : Int) := by omega
      have g1 : (q : Int) ≤ (N : Int) := by omega
      have g2 : decide ((q : Int) ≤ (N : Int)) = true := decide_eq_true g1
      clear hle
      go_wp2_with fail
      go_ret
      exact ⟨rfl, F6.out⟩

theorem own : ownKnob Tryd.prog.godebug = none := by kernel_rfl
theorem laidOut : laidOutB Tryd.prog = true := by kernel_rfl

set_option maxRecDepth 100000 in
theorem lifted (os : Os) (started : os.Started) (H : Type) (enc : TypeId × Value → H) :
    ReturnsInHanded {} Tryd.checked os 5 .any (fun w args => (Rows.fnLeastRoomSpec.pre enc Tryd.prog Tryd.f5 [] false w args ∧ laidMetH Tryd.prog laidL w) ∧ sizedMet enc Tryd.prog Tryd.f5 (OpenSpec.ofChange Rows.fnLeastRoomSpec) false w args) (Rows.fnLeastRoomSpec.post enc Tryd.prog Tryd.f5 false true false false) := by
  refine returnsInHanded_of_change_and (C := Tryd.checked) (X := fun w _ => laidMetH Tryd.prog laidL w) (fun _ _ _ hh h => h.of_heap hh) own started (by kernel_rfl) Tryd.func5
    (ChangeSpec.witness_shaped (enc := enc) (C := Tryd.checked) (os := os) (X := fun w _ => laidMetH Tryd.prog laidL w) false (World.doorLaid Tryd.prog 19 os) #[.slice none 0 0, .slice none 0 0] 8 rfl (World.shaped_of_RefB (by kernel_rfl) (by kernel_rfl)) (by kernel_rfl) (by kernel_rfl) (by kernel_rfl) (door_met os _)) ?_
  intro W base args ds gs before hval0 hW _ _ hL _
  have hval : ∀ (j : Nat) t v, Tryd.f5.params[j]? = some t → args[j]? = some v → Value.okWide Tryd.prog W .any base t v := hval0
  have hW' := hW
  obtain ⟨p, q, hA0, hV, rfl, hfz, hnd⟩ := hW
  have hA : DataW.TrodAll enc Tryd.prog W 0 (fun _ => true) true Tryd.f5.params.toList args.toList ds p := hA0
  rw [Tryd.params5] at hA hval
  obtain ⟨v0, vs0, d0, ds0, p0, q0, hargs, rfl, rfl, h0, r0⟩ := trodAll_cons hA
  obtain ⟨v1, vs1, d1, ds1, p1, q1, rfl, rfl, rfl, h1, r1⟩ := trodAll_cons r0
  obtain ⟨rfl, rfl, rfl⟩ := trodAll_nil r1
  obtain rfl : args = #[v0, v1] := by cases args; simp_all
  obtain ⟨rfl, rfl⟩ := trodVars_none hV
  have lt0 : ∀ x ∈ p0, x.block < W.heap.size := by obtain ⟨m, hm⟩ := h0; exact DataW.trod_lt m _ _ _ hm
  have lt1 : ∀ x ∈ p1, x.block < W.heap.size := by obtain ⟨m, hm⟩ := h1; exact DataW.trod_lt m _ _ _ hm
  obtain ⟨x0, e0⟩ := argCode_of h0 (okWide_slice Tryd.underlying22 (hval 0 22 v0 rfl rfl))
  obtain ⟨x1, e1⟩ := argCode_of h1 (okWide_slice Tryd.underlying22 (hval 1 22 v1 rfl rfl))
  clear hA0 hval0
  refine (walk v0 v1 x0 x1 W e0 e1 (met_tab hL)).mono fun e W' ⟨he, bel⟩ => ?_
  subst he
  exact ⟨_, rfl, _, _, _, [], _, [], hW', trodAll_mk1 (shut_bool Tryd.underlying4 _), (trodAll_cons_mk (Below.trod laidOut (by kernel_rfl) (of_decide_eq_true (by kernel_rfl)) h0 bel lt0) (trodAll_cons_mk (Below.trod laidOut (by kernel_rfl) (of_decide_eq_true (by kernel_rfl)) h1 bel lt1) trodAll_mk0)), rfl, Below.frame bel _, fun h => by cases h⟩

theorem closed : joinedFacts Tryd.prog 5 Tryd.f5 Rows.fnLeastRoomSpec Rows.fnLeastRoomRow = true := by
  unfold joinedFacts
  rw [may_enter, lifts_final, make_cut]
  kernel_rfl

theorem row_holds : Rows.FnLeastRoomSaid :=
  OpenClaim.holds_of_wide 5 Tryd.f5 rfl rfl rfl rfl rfl rfl rfl ⟨rfl, rfl, rfl, rfl, rfl⟩ rfl rfl rfl rfl rfl (by kernel_rfl) Tryd.func5 closed
    (of_decide_eq_true (by kernel_rfl)) (by unfold Func.isWrapper; first | (rw [if_pos (by decide +kernel)]; kernel_rfl) | (rw [if_neg (by decide +kernel)]; exact ⟨rfl, rfl⟩))
    (fun os started H enc _ => lifted os started H enc)

theorem proved : Rows.FnLeastRoomCardSaid :=
  Claim7.holds_tied_plain_at .later [] [.data, .data] true Rows.fnLeastRoomCard.stood.harness Rows.fnLeastRoomCard.stood.looks
    row_holds (fun _ h => by cases h) (by kernel_rfl) (fun _ h => by cases h) fnLeastRoom_row_tie rfl ⟨rfl, rfl⟩ (by kernel_rfl) rfl
    (fun f fn hf hfn => by
      obtain rfl : f = 5 := Option.some.inj ((show Tryd.prog.funcNamed "loop.example/vectorpacker/laws.FnLeastRoom" = some 5 by kernel_rfl).symm.trans hf) |>.symm
      obtain rfl : fn = Tryd.f5 := (Option.some.inj (Tryd.func5.symm.trans hfn)).symm
      exact ⟨by kernel_rfl, fun j t ht => by
        rw [Tryd.params5] at ht
        have hm : t ∈ [22, 22] := by simpa using Array.mem_of_getElem? ht
        have hall : ([22, 22].all fun u => !Tryd.prog.wantsStandIn u) = true := by kernel_rfl
        exact (show Tryd.prog.wantsStandIn t = false by simpa using List.all_eq_true.1 hall t hm)⟩)
    (by kernel_rfl)

end Go.Proofs.YtjdhiabdcmindabDoor.l22
