/- The law FnLeastOrder (a tied card): whatever the code, the tasks in reverse need as many nodes. No condition beyond the card's own: math/bits' tables lie as the program's text lays them. -/
import Derived.Test.YtjdhiabdcmindabDoorDr13
import Derived.Test.YtjdhiabdcmindabDoorLe1
import Derived.Test.YtjdhiabdcmindabDoorLe2
import Derived.Test.YtjdhiabdcmindabDoorLd
import Derived.Test.YtjdhiabdcmindabDoorOwn
import Derived.Test.YtjdhiabdcmindabDoorHead
import Derived.OpenShut
import Derived.ChangeOld
namespace Go.Proofs.YtjdhiabdcmindabDoor.l21
set_option maxRecDepth 100000
open Go.RowKit Go.ChangeShapes Go.WideShapes Go.ChangeAt

set_option maxHeartbeats 4000000 in
theorem walk (v : Value) (n : Nat) (w : World) (h : ArgCode w v n) (ht : TabW w) :
    Calls Tryd.prog 4 #[v] w fun e w' => e = .returned (.bool true) ∧ Ext w w' := by
  have HTW := Lib.hid ht
  clear ht
  have h2 := h
  obtain ⟨_, ac, cc, rfl, -⟩ := h2
  by_cases hbig : 1048576 < n
  · go_enter Tryd.func4, Tryd.ntmps4
    go_wp2
    go_ret
    exact ⟨rfl, Ext.refl _⟩
  have hsm : n ≤ 1048576 := by omega
  clear hbig
  go_enter Tryd.func4, Tryd.ntmps4
  go_wp2_with fail
  refine (DrawLeastCount_any _ _ _ h).mono ?_
  rintro e w1 ⟨vr, vt, room, ts, rfl, hd, E1⟩
  have Hd1 := Lib.hid hd
  obtain ⟨ra, rc, hvr, -⟩ := hd.1.open
  obtain ⟨ta, tc, hvt, htc⟩ := hd.2.2.2.2
  subst hvr hvt
  have F1 := Lib.hid E1
  clear hd E1 h
  have hl20 : ts.length ≤ 20 := Hd1.out.2.2.2.1
  have Htc := Lib.hid htc
  clear htc
  go_wp2_with fail
  refine (LeastCount_any _ _ room ts _ Hd1.out.1 Hd1.out.2.1 (HTW.out.ext F1.out)).mono ?_
  rintro e w2 ⟨rfl, hE⟩
  have Hd2 := Lib.hid (Hd1.out.ext hE)
  have F2 := Lib.hid (F1.out.trans hE)
  clear hE Hd1 F1
  go_wp2_with fail
  refine (sLeastCount_any _ _ room ts _ Hd2.out.1 Hd2.out.2.1).mono ?_
  rintro e w3 ⟨rfl, hE⟩
  have Hd3 := Lib.hid (Hd2.out.ext hE)
  have F3 := Lib.hid (F2.out.trans hE)
  have TW := Lib.hid (HTW.out.ext F3.out)
  clear hE Hd2 F2 HTW
  cases hb : fewB room ts with
  | false =>
    rw [leastI_neg hb]
    clear hb
    go_wp2
    go_ret
    exact ⟨rfl, F3.out⟩
  | true =>
    obtain ⟨h7, hT⟩ := fewB_iff.1 hb
    have HT := Lib.hid hT
    rw [leastI_few hT h7]
    have hn0 : (0 : Int) ≤ (leastN room ts : Int) := by omega
    have hnn : ¬ (leastN room ts : Int) < 0 := by omega
    have hN7 : leastN room ts ≤ 7 := Nat.le_trans (leastW_spec hT).2.1 h7
    clear hb hT
    have E0 := Lib.hid ((Ext.refl w3).alloc (.cells #[] 30))
    have O0 := Lib.hid (OwnTasks.lit0 w3 w3.heap.size (Nat.le_refl _))
    have Ht := Lib.hid Hd3.out.2.1
    go_wp2_with fail
    generalize w3.alloc (.cells #[] 30) = W at *
    go_loopw [7, 8] (fun o i wr => ∃ k : Nat, k ≤ ts.length ∧ i = .int .i64 ((k : Int) - 1) ∧ OwnTasks wr w3.heap.size o (ts.drop k).reverse ∧ Ext w3 wr) (fun _ i _ => (intOf i + 1).toNat)
    case atStart => exact ⟨ts.length, by omega, by go_num, by rw [List.drop_length]; exact O0.out, E0.out⟩
    case round =>
      obtain ⟨k, hk, rfl, hO, hE⟩ := hrel
      have HO := Lib.hid hO
      have HE := Lib.hid hE
      obtain ⟨oa, oc, rfl⟩ := hO.form
      clear hO hE
      by_cases h1 : 0 < k
      · obtain ⟨j, rfl⟩ : ∃ j, k = j + 1 := ⟨k - 1, by omega⟩
        have hj : j < ts.length := by omega
        have ej : ((j + 1 : Nat) : Int) - 1 = (j : Int) := by omega
        rw [ej]
        have HN := Lib.hid (show (ts.drop (j + 1)).reverse ++ [ts[j]] = (ts.drop j).reverse by rw [List.drop_eq_getElem_cons hj, List.reverse_cons])
        obtain ⟨b, off, nd, he, c0, c1, hn⟩ := (Ht.out.ext HE.out).at hj
        subst he
        obtain ⟨na, nc, rfl, hn⟩ := hn.open
        have Hn := Lib.hid hn
        have i0 : (0 : Int) ≤ (j : Int) := by omega
        have i1 : (j : Int) < (ts.length : Int) := by omega
        have hle := HE.out.le
        have hlr : (ts.drop (j + 1)).reverse.length ≤ 20 := by simp; omega
        clear h1 hn ej
        generalize (ts.drop (j + 1)).reverse = D at *
        go_wp2_with (at_builtin; refine app_tasks rfl _ _ rfl w3.heap.size _ D rfl ?hown ?hB _ _ _ [ts[j]] rfl ?hsrc ?hlim ?_)
        case hown => exact HO.out.ext ((Ext.refl _).alloc _)
        case hB => simp only [World.size_alloc]; omega
        case hsrc => exact Tasks.lit1 Hn.out 1
        case hlim => unfold lim; simp; omega
        intro v9 w9 hown hkt hbl
        rw [HN.out] at hown
        have O9 := Lib.hid hown
        have X9 := Lib.hid (show Ext w3 w9 from Below.trans (HE.out.alloc _) hbl)
        obtain ⟨sa9, sc9, rfl⟩ := hown.form
        clear hown hkt hbl
        go_wp2_with fail
        go_roundw
        case rel => exact ⟨j, by omega, by go_num, O9.out, X9.out⟩
        case measure => simp [intOf] <;> omega
      · obtain rfl : k = 0 := by omega
        have HP := Lib.hid (leastN_perm HT.out (List.reverse_perm ts).symm)
        have HT2 := Lib.hid (tasksOk_perm (List.reverse_perm ts).symm HT.out)
        have F4 := Lib.hid (F3.out.trans HE.out)
        rw [List.drop_zero] at HO ⊢
        have HO2 := Lib.hid (HO.out.done (by rw [List.length_reverse]; unfold lim; omega))
        have hlr : ts.reverse.length ≤ 7 := by simpa using h7
        have h10 : ¬ (0 : Int) ≤ ((0 : Nat) : Int) - 1 := by omega
        clear h1
        generalize ts.reverse = R at *
        go_wp2_with fail
        have cc := LeastCount_any _ _ room R _ (Hd3.out.1.ext HE.out) HO2.out (TW.out.ext HE.out)
        rw [leastI_few HT2.out hlr, ← HP.out] at cc
        refine cc.mono ?_
        clear cc
        rintro e w5 ⟨rfl, hE⟩
        have F5 := Lib.hid (F4.out.trans hE)
        clear hE h10 hlr HT2 HP HO HO2 F4 F3 TW Hd3 HT Htc Ht HE
        generalize leastN room ts = N at *
        go_wp2_with fail
        go_ret
        exact ⟨rfl, F5.out⟩

theorem own : ownKnob Tryd.prog.godebug = none := by kernel_rfl
theorem laidOut : laidOutB Tryd.prog = true := by kernel_rfl

set_option maxRecDepth 100000 in
theorem lifted (os : Os) (started : os.Started) (H : Type) (enc : TypeId × Value → H) :
    ReturnsInHanded {} Tryd.checked os 4 .any (fun w args => (Rows.fnLeastOrderSpec.pre enc Tryd.prog Tryd.f4 [] false w args ∧ laidMetH Tryd.prog laidL w) ∧ sizedMet enc Tryd.prog Tryd.f4 (OpenSpec.ofChange Rows.fnLeastOrderSpec) false w args) (Rows.fnLeastOrderSpec.post enc Tryd.prog Tryd.f4 false true false false) := by
  refine returnsInHanded_of_change_and (C := Tryd.checked) (X := fun w _ => laidMetH Tryd.prog laidL w) (fun _ _ _ hh h => h.of_heap hh) own started (by kernel_rfl) Tryd.func4
    (ChangeSpec.witness_shaped (enc := enc) (C := Tryd.checked) (os := os) (X := fun w _ => laidMetH Tryd.prog laidL w) false (World.doorLaid Tryd.prog 19 os) #[.slice none 0 0] 8 rfl (World.shaped_of_RefB (by kernel_rfl) (by kernel_rfl)) (by kernel_rfl) (by kernel_rfl) (by kernel_rfl) (door_met os _)) ?_
  intro W base args ds gs before hval0 hW _ _ hL _
  have hval : ∀ (j : Nat) t v, Tryd.f4.params[j]? = some t → args[j]? = some v → Value.okWide Tryd.prog W .any base t v := hval0
  have hW' := hW
  obtain ⟨p, q, hA0, hV, rfl, hfz, hnd⟩ := hW
  have hA : DataW.TrodAll enc Tryd.prog W 0 (fun _ => true) true Tryd.f4.params.toList args.toList ds p := hA0
  rw [Tryd.params4] at hA hval
  obtain ⟨v0, vs0, d0, ds0, p0, q0, hargs, rfl, rfl, h0, r0⟩ := trodAll_cons hA
  obtain ⟨rfl, rfl, rfl⟩ := trodAll_nil r0
  obtain rfl : args = #[v0] := by cases args; simp_all
  obtain ⟨rfl, rfl⟩ := trodVars_none hV
  have lt0 : ∀ x ∈ p0, x.block < W.heap.size := by obtain ⟨m, hm⟩ := h0; exact DataW.trod_lt m _ _ _ hm
  obtain ⟨x0, e0⟩ := argCode_of h0 (okWide_slice Tryd.underlying22 (hval 0 22 v0 rfl rfl))
  clear hA0 hval0
  refine (walk v0 x0 W e0 (met_tab hL)).mono fun e W' ⟨he, bel⟩ => ?_
  subst he
  exact ⟨_, rfl, _, _, _, [], _, [], hW', trodAll_mk1 (shut_bool Tryd.underlying4 _), (trodAll_cons_mk (Below.trod laidOut (by kernel_rfl) (of_decide_eq_true (by kernel_rfl)) h0 bel lt0) trodAll_mk0), rfl, Below.frame bel _, fun h => by cases h⟩

theorem closed : joinedFacts Tryd.prog 4 Tryd.f4 Rows.fnLeastOrderSpec Rows.fnLeastOrderRow = true := by
  unfold joinedFacts
  rw [may_enter, lifts_final, make_cut]
  kernel_rfl

theorem row_holds : Rows.FnLeastOrderSaid :=
  OpenClaim.holds_of_wide 4 Tryd.f4 rfl rfl rfl rfl rfl rfl rfl ⟨rfl, rfl, rfl, rfl, rfl⟩ rfl rfl rfl rfl rfl (by kernel_rfl) Tryd.func4 closed
    (of_decide_eq_true (by kernel_rfl)) (by unfold Func.isWrapper; first | (rw [if_pos (by decide +kernel)]; kernel_rfl) | (rw [if_neg (by decide +kernel)]; exact ⟨rfl, rfl⟩))
    (fun os started H enc _ => lifted os started H enc)

theorem proved : Rows.FnLeastOrderCardSaid :=
  Claim7.holds_tied_plain_at .later [] [.data, .data] true Rows.fnLeastOrderCard.stood.harness Rows.fnLeastOrderCard.stood.looks
    row_holds (fun _ h => by cases h) (by kernel_rfl) (fun _ h => by cases h) fnLeastOrder_row_tie rfl ⟨rfl, rfl⟩ (by kernel_rfl) rfl
    (fun f fn hf hfn => by
      obtain rfl : f = 4 := Option.some.inj ((show Tryd.prog.funcNamed "loop.example/vectorpacker/laws.FnLeastOrder" = some 4 by kernel_rfl).symm.trans hf) |>.symm
      obtain rfl : fn = Tryd.f4 := (Option.some.inj (Tryd.func4.symm.trans hfn)).symm
      exact ⟨by kernel_rfl, fun j t ht => by
        rw [Tryd.params4] at ht
        have hm : t ∈ [22] := by simpa using Array.mem_of_getElem? ht
        have hall : ([22].all fun u => !Tryd.prog.wantsStandIn u) = true := by kernel_rfl
        exact (show Tryd.prog.wantsStandIn t = false by simpa using List.all_eq_true.1 hall t hm)⟩)
    (by kernel_rfl)

end Go.Proofs.YtjdhiabdcmindabDoor.l21
