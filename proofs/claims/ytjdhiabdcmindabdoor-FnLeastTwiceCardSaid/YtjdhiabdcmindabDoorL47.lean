/- The law FnLeastTwice (a tied card): whatever the code, the first way has at most six times the fewest nodes, and one node where one is enough. No condition beyond the card's own: math/bits' tables lie as the program's text lays them. -/
import Derived.Test.YtjdhiabdcmindabDoorDr13
import Derived.Test.YtjdhiabdcmindabDoorLe1
import Derived.Test.YtjdhiabdcmindabDoorLe2
import Derived.Test.YtjdhiabdcmindabDoorLd
import Derived.Test.YtjdhiabdcmindabDoorI15
import Derived.Test.YtjdhiabdcmindabDoorHead
import Derived.OpenShut
import Derived.ChangeOld
namespace Go.Proofs.YtjdhiabdcmindabDoor.l47
set_option maxRecDepth 100000
open Go.RowKit Go.ChangeShapes Go.WideShapes Go.ChangeAt

set_option maxHeartbeats 4000000 in
theorem walk (v : Value) (n : Nat) (w : World) (h : ArgCode w v n) (ht : TabW w) :
    Calls Tryd.prog 7 #[v] w fun e w' => e = .returned (.bool true) ∧ Ext w w' := by
  have HTW := Lib.hid ht
  clear ht
  have h2 := h
  obtain ⟨_, ac, cc, rfl, -⟩ := h2
  by_cases hbig : 1048576 < n
  · go_enter Tryd.func7, Tryd.ntmps7
    go_wp2
    go_ret
    exact ⟨rfl, Ext.refl _⟩
  have hsm : n ≤ 1048576 := by omega
  clear hbig
  go_enter Tryd.func7, Tryd.ntmps7
  go_wp2_with fail
  refine (DrawLeastCount_any _ _ _ h).mono ?_
  rintro e w1 ⟨vr, vt, room, ts, rfl, hd, E1⟩
  have Hd1 := Lib.hid hd
  obtain ⟨ra, rc, hvr, -⟩ := hd.1.open
  obtain ⟨ta, tc, hvt, htc⟩ := hd.2.2.2.2
  subst hvr hvt
  have F1 := Lib.hid E1
  clear hd E1 h
  have hl20 : ts.length ≤ 20 := Hd1.out.2.2.2.1
  have Htc := Lib.hid htc
  clear htc
  go_wp2_with fail
  refine (LeastCount_any _ _ room ts _ Hd1.out.1 Hd1.out.2.1 (HTW.out.ext F1.out)).mono ?_
  rintro e w2 ⟨rfl, hE⟩
  have Hd2 := Lib.hid (Hd1.out.ext hE)
  have F2 := Lib.hid (F1.out.trans hE)
  clear hE Hd1 F1
  go_wp2_with fail
  refine (sLeastCount_any _ _ room ts _ Hd2.out.1 Hd2.out.2.1).mono ?_
  rintro e w3 ⟨rfl, hE⟩
  have Hd3 := Lib.hid (Hd2.out.ext hE)
  have F3 := Lib.hid (F2.out.trans hE)
  have TW := Lib.hid (HTW.out.ext F3.out)
  clear hE Hd2 F2 HTW
  cases hb : fewB room ts with
  | false =>
    rw [leastI_neg hb]
    clear hb
    go_wp2
    go_ret
    exact ⟨rfl, F3.out⟩
  | true =>
    obtain ⟨h7, hT⟩ := fewB_iff.1 hb
    have HT := Lib.hid hT
    rw [leastI_few hT h7]
    have hn0 : (0 : Int) ≤ (leastN room ts : Int) := by omega
    have hnn : ¬ (leastN room ts : Int) < 0 := by omega
    have hN7 : leastN room ts ≤ 7 := Nat.le_trans (leastW_spec hT).2.1 h7
    clear hb hT
    have HA := Lib.hid (show firstAllL room ts = allL (at11 room) ts by simp [firstAllL, tasksB_iff.2 HT.out])
    have HL := Lib.hid (least_twice HT.out)
    go_wp2_with fail
    refine (FirstAll_any _ _ room ts _ Hd3.out.1 Hd3.out.2.1).mono ?_
    rintro e w4 ⟨oa, oc, rfl, hE, -⟩
    have F4 := Lib.hid (F3.out.trans hE)
    clear hE Hd3 F3 TW
    rw [HA.out]
    have hle := HL.out.1
    have h1 := HL.out.2
    generalize (allL (at11 room) ts).length = n at *
    generalize leastN room ts = m at *
    have hd : decide ((n : Int) ≤ 6 * (m : Int)) = true := decide_eq_true (by omega)
    have hd' : (n : Int) ≤ 6 * (m : Int) := by omega
    by_cases e1 : m = 1
    · have e2 := h1 e1
      subst e1 e2
      clear h1 hle
      go_wp2
      go_ret
      exact ⟨rfl, F4.out⟩
    · have hb1 : (((m : Nat) : Int) != 1) = true := by simp; omega
      have hb2 : (((m : Nat) : Int) == 1) = false := by simp; omega
      clear h1 hle
      go_wp2
      go_ret
      exact ⟨rfl, F4.out⟩

theorem own : ownKnob Tryd.prog.godebug = none := by kernel_rfl
theorem laidOut : laidOutB Tryd.prog = true := by kernel_rfl

set_option maxRecDepth 100000 in
theorem lifted (os : Os) (started : os.Started) (H : Type) (enc : TypeId × Value → H) :
    ReturnsInHanded {} Tryd.checked os 7 .any (fun w args => (Rows.fnLeastTwiceSpec.pre enc Tryd.prog Tryd.f7 [] false w args ∧ laidMetH Tryd.prog laidL w) ∧ sizedMet enc Tryd.prog Tryd.f7 (OpenSpec.ofChange Rows.fnLeastTwiceSpec) false w args) (Rows.fnLeastTwiceSpec.post enc Tryd.prog Tryd.f7 false true false false) := by
  refine returnsInHanded_of_change_and (C := Tryd.checked) (X := fun w _ => laidMetH Tryd.prog laidL w) (fun _ _ _ hh h => h.of_heap hh) own started (by kernel_rfl) Tryd.func7
    (ChangeSpec.witness_shaped (enc := enc) (C := Tryd.checked) (os := os) (X := fun w _ => laidMetH Tryd.prog laidL w) false (World.doorLaid Tryd.prog 19 os) #[.slice none 0 0] 8 rfl (World.shaped_of_RefB (by kernel_rfl) (by kernel_rfl)) (by kernel_rfl) (by kernel_rfl) (by kernel_rfl) (door_met os _)) ?_
  intro W base args ds gs before hval0 hW _ _ hL _
  have hval : ∀ (j : Nat) t v, Tryd.f7.params[j]? = some t → args[j]? = some v → Value.okWide Tryd.prog W .any base t v := hval0
  have hW' := hW
  obtain ⟨p, q, hA0, hV, rfl, hfz, hnd⟩ := hW
  have hA : DataW.TrodAll enc Tryd.prog W 0 (fun _ => true) true Tryd.f7.params.toList args.toList ds p := hA0
  rw [Tryd.params7] at hA hval
  obtain ⟨v0, vs0, d0, ds0, p0, q0, hargs, rfl, rfl, h0, r0⟩ := trodAll_cons hA
  obtain ⟨rfl, rfl, rfl⟩ := trodAll_nil r0
  obtain rfl : args = #[v0] := by cases args; simp_all
  obtain ⟨rfl, rfl⟩ := trodVars_none hV
  have lt0 : ∀ x ∈ p0, x.block < W.heap.size := by obtain ⟨m, hm⟩ := h0; exact DataW.trod_lt m _ _ _ hm
  obtain ⟨x0, e0⟩ := argCode_of h0 (okWide_slice Tryd.underlying22 (hval 0 22 v0 rfl rfl))
  clear hA0 hval0
  refine (walk v0 x0 W e0 (met_tab hL)).mono fun e W' ⟨he, bel⟩ => ?_
  subst he
  exact ⟨_, rfl, _, _, _, [], _, [], hW', trodAll_mk1 (shut_bool Tryd.underlying4 _), (trodAll_cons_mk (Below.trod laidOut (by kernel_rfl) (of_decide_eq_true (by kernel_rfl)) h0 bel lt0) trodAll_mk0), rfl, Below.frame bel _, fun h => by cases h⟩

theorem closed : joinedFacts Tryd.prog 7 Tryd.f7 Rows.fnLeastTwiceSpec Rows.fnLeastTwiceRow = true := by
  unfold joinedFacts
  rw [may_enter, lifts_final, make_cut]
  kernel_rfl

theorem row_holds : Rows.FnLeastTwiceSaid :=
  OpenClaim.holds_of_wide 7 Tryd.f7 rfl rfl rfl rfl rfl rfl rfl ⟨rfl, rfl, rfl, rfl, rfl⟩ rfl rfl rfl rfl rfl (by kernel_rfl) Tryd.func7 closed
    (of_decide_eq_true (by kernel_rfl)) (by unfold Func.isWrapper; first | (rw [if_pos (by decide +kernel)]; kernel_rfl) | (rw [if_neg (by decide +kernel)]; exact ⟨rfl, rfl⟩))
    (fun os started H enc _ => lifted os started H enc)

theorem proved : Rows.FnLeastTwiceCardSaid :=
  Claim7.holds_tied_plain_at .later [] [.data, .data] true Rows.fnLeastTwiceCard.stood.harness Rows.fnLeastTwiceCard.stood.looks
    row_holds (fun _ h => by cases h) (by kernel_rfl) (fun _ h => by cases h) fnLeastTwice_row_tie rfl ⟨rfl, rfl⟩ (by kernel_rfl) rfl
    (fun f fn hf hfn => by
      obtain rfl : f = 7 := Option.some.inj ((show Tryd.prog.funcNamed "loop.example/vectorpacker/laws.FnLeastTwice" = some 7 by kernel_rfl).symm.trans hf) |>.symm
      obtain rfl : fn = Tryd.f7 := (Option.some.inj (Tryd.func7.symm.trans hfn)).symm
      exact ⟨by kernel_rfl, fun j t ht => by
        rw [Tryd.params7] at ht
        have hm : t ∈ [22] := by simpa using Array.mem_of_getElem? ht
        have hall : ([22].all fun u => !Tryd.prog.wantsStandIn u) = true := by kernel_rfl
        exact (show Tryd.prog.wantsStandIn t = false by simpa using List.all_eq_true.1 hall t hm)⟩)
    (by kernel_rfl)

end Go.Proofs.YtjdhiabdcmindabDoor.l47
