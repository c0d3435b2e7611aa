/- The law FnBestAll: whatever the code, all tasks are put somewhere, no node is empty, and the nodes are valid. No condition. -/
import Derived.Test.YtipmoedflpjioaaS14
import Derived.Test.YtipmoedflpjioaaLim
import Derived.Test.YtipmoedflpjioaaDr9
import Derived.Test.YtipmoedflpjioaaSame2
import Derived.Test.YtipmoedflpjioaaP3
import Derived.Test.YtipmoedflpjioaaHead
import Derived.OpenShut
import Derived.ChangeOld
namespace Go.Proofs.Ytipmoedflpjioaa.l51
set_option maxRecDepth 100000
open Go.RowKit Go.ChangeShapes Go.WideShapes Go.ChangeAt

set_option maxHeartbeats 4000000 in
theorem walk (v : Value) (n : Nat) (w : World) (h : ArgCode w v n) :
    Calls Try.prog 18 #[v] w fun e w' => e = .returned (.bool true) ∧ Ext w w' := by
  have h2 := h
  obtain ⟨_, ac, cc, rfl, -⟩ := h2
  by_cases hbig : 1048576 < n
  · go_enter Try.func18, Try.ntmps18
    go_wp2
    go_ret
    exact ⟨rfl, Ext.refl _⟩
  have hsm : n ≤ 1048576 := by omega
  clear hbig
  go_enter Try.func18, Try.ntmps18
  go_wp2_with fail
  refine (DrawBestAll_any _ _ _ h).mono ?_
  rintro e w1 ⟨vr, vt, room, ts, rfl, hd, E1⟩
  have Hd1 := Lib.hid hd
  obtain ⟨ra, rc, hvr, -⟩ := hd.1.open
  obtain ⟨ta, tc, hvt, -⟩ := hd.2.1.open
  subst hvr hvt
  have F1 := Lib.hid E1
  clear hd E1 h
  have hl20 : ts.length ≤ 20 := Hd1.out.2.2.2
  have HL := Lib.hid (bestAllL_lim room ts)
  go_wp2_with fail
  refine (BestAll_any _ _ room ts _ Hd1.out.1 Hd1.out.2.1).mono ?_
  rintro e w2 ⟨oa, oc, rfl, hE, hN⟩
  have O2 := Lib.hid (hN.upto.bins HL.out)
  have Hd2 := Lib.hid (Hd1.out.ext hE)
  have F2 := Lib.hid (F1.out.trans hE)
  clear hE hN Hd1 F1
  go_wp2_with fail
  refine (sBestAll_any _ _ room ts _ Hd2.out.1 Hd2.out.2.1).mono ?_
  rintro e w3 ⟨wa, wc, rfl, hE, hB⟩
  have W3 := Lib.hid hB
  have O3 := Lib.hid (O2.out.ext hE)
  have Hd3 := Lib.hid (Hd2.out.ext hE)
  have F3 := Lib.hid (F2.out.trans hE)
  clear hE hB Hd2 F2 O2
  go_wp2_with fail
  refine (sameBins_any _ _ _ _ _ O3.out W3.out).mono ?_
  rintro e w4 ⟨rfl, hE⟩
  have W4 := Lib.hid (W3.out.ext hE)
  have O4 := Lib.hid (O3.out.ext hE)
  have Hd4 := Lib.hid (Hd3.out.ext hE)
  have F4 := Lib.hid (F3.out.trans hE)
  clear hE Hd3 F3 O3 W3
  rw [sameBs_iff.2 rfl]
  go_wp2_with fail
  have cc := sTasksValid_ext _ _ room ts _ Hd4.out.1 Hd4.out.2.1
  cases hb : tasksB room ts with
  | false =>
    rw [hb] at cc
    refine cc.mono ?_
    clear cc
    rintro e w5 ⟨rfl, hE⟩
    have W5 := Lib.hid (W4.out.ext hE)
    have O5 := Lib.hid (O4.out.ext hE)
    have F5 := Lib.hid (F4.out.trans hE)
    clear hE
    go_wp2_with fail
    refine (sameBins_any _ _ _ _ _ O5.out W5.out).mono ?_
    rintro e w6 ⟨rfl, hE⟩
    have F := F5.out.trans hE
    rw [sameBs_iff.2 rfl]
    go_wp2
    go_ret
    exact ⟨rfl, F⟩
  | true =>
    rw [hb] at cc
    have HT := Lib.hid (tasksB_iff.1 hb)
    have HB := Lib.hid (show bestAllL room ts = allL (best12 room) ts by simp [bestAllL, hb])
    clear hb
    refine cc.mono ?_
    clear cc
    rintro e w5 ⟨rfl, hE⟩
    have W5 := Lib.hid (W4.out.ext hE)
    have O5 := Lib.hid (O4.out.ext hE)
    have Hd5 := Lib.hid (Hd4.out.ext hE)
    have F5 := Lib.hid (F4.out.trans hE)
    clear hE W4 O4 Hd4 F4
    have HO := Lib.hid (best_ok HT.out)
    have HV := Lib.hid (binsB_iff.2 HO.out)
    have HA := Lib.hid (best_all HT.out)
    clear W5 HB HT HL
    go_wp2_with fail
    refine (BinsTasks_any _ _ room _ _ Hd5.out.1 O5.out (by have := HO.out.1.2.1; omega)).mono ?_
    rintro e w6 ⟨vb, rfl, hE, hs⟩
    have B6 := Lib.hid (show Tasks w6 vb (binsTasksL room (bestAllL room ts)) from hs.tasks (Nat.le_trans (binsTasks_lim _ _).1 (by unfold lim; omega)) (fun t ht => Nat.le_trans ((binsTasks_lim _ _).2 t ht) (by unfold lim; omega)))
    have O6 := Lib.hid (O5.out.ext hE)
    have Hd6 := Lib.hid (Hd5.out.ext hE)
    have F6 := Lib.hid (F5.out.trans hE)
    obtain ⟨ba, bc, rfl⟩ := hs.form
    clear hE hs O5 Hd5 F5
    have hbl : (binsTasksL room (bestAllL room ts)).length = ts.length := HA.out.1
    have Hbl := Lib.hid hbl
    have HM := Lib.hid HA.out.2.1
    have HN := Lib.hid HA.out.2.2
    clear hbl HA
    generalize binsTasksL room (bestAllL room ts) = all at *
    have hl14 : (bestAllL room ts).length ≤ 14 := HO.out.2.1
    generalize bestAllL room ts = bs at *
    go_wp2_with fail
    go_loopw [8] (fun i wr => ∃ k : Nat, k ≤ ts.length ∧ i = .int .i64 k ∧ Ext w6 wr) (fun i _ => ts.length - (intOf i).toNat)
    case atStart => exact ⟨0, by omega, rfl, Ext.refl _⟩
    case round =>
      obtain ⟨k, hk, rfl, hE⟩ := hrel
      have HE := Lib.hid hE
      clear hE
      by_cases hlt : k < ts.length
      · obtain ⟨b, off, nd, he, c0, c1, hn⟩ := (Hd6.out.2.1.ext HE.out).at hlt
        subst he
        obtain ⟨na, nc, rfl, hn'⟩ := hn.open
        have Hn := Lib.hid hn'
        have i0 : (0 : Int) ≤ (k : Int) := by omega
        have i1 : (k : Int) < (ts.length : Int) := by omega
        clear hn hn'
        go_wp2_with fail
        refine (hasTask_any _ _ all ts[k] _ (B6.out.ext HE.out) Hn.out).mono ?_
        rintro e w7 ⟨rfl, hE⟩
        have E7 := Lib.hid (HE.out.trans hE)
        rw [HM.out k hlt]
        clear hE c0 c1
        go_wp2_with fail
        go_roundw
        case rel => exact ⟨k + 1, by omega, by go_num, E7.out⟩
        case measure => simp [intOf]; omega
      · have e : k = ts.length := by omega
        subst e
        go_wp2_with fail
        go_loopw [9] (fun i wx => ∃ j : Nat, j ≤ bs.length ∧ i = .int .i64 j ∧ Ext w6 wx) (fun i _ => bs.length - (intOf i).toNat)
        case atStart => exact ⟨0, by omega, rfl, HE.out⟩
        case round =>
          obtain ⟨j, hj, rfl, hE⟩ := hrel
          have HX := Lib.hid hE
          clear hE
          by_cases hlt : j < bs.length
          · obtain ⟨b, off, nd, he, c0, ht⟩ := (O6.out.ext HX.out).at hlt
            subst he
            obtain ⟨na, nc, rfl, -⟩ := ht.open
            have hne := HN.out j hlt
            have hz : (((bs[j].length : Nat) : Int) == 0) = false := beq_eq_false_iff_ne.2 (by omega)
            have Hne := Lib.hid hne
            have i0 : (0 : Int) ≤ (j : Int) := by omega
            have i1 : (j : Int) < (bs.length : Int) := by omega
            clear ht hne
            go_wp2_with fail
            go_roundw
            case rel => exact ⟨j + 1, by omega, by go_num, HX.out⟩
            case measure => simp [intOf]; omega
          · have e : j = bs.length := by omega
            subst e
            have hll : (((all.length : Nat) : Int) == (ts.length : Int)) = true := by simp [Hbl.out]
            go_wp2_with fail
            refine (BinsValid_any _ _ room bs _ (Hd6.out.1.ext HX.out) (O6.out.ext HX.out) (by have := HO.out.1.2.1; omega)).mono ?_
            rintro e w8 ⟨rfl, hE⟩
            have F := F6.out.trans (HX.out.trans hE)
            rw [HV.out]
            go_wp2
            go_ret
            exact ⟨rfl, F⟩

theorem own : ownKnob Try.prog.godebug = none := by kernel_rfl
theorem laidOut : laidOutB Try.prog = true := by kernel_rfl

set_option maxRecDepth 100000 in
theorem lifted (os : Os) (started : os.Started) (H : Type) (enc : TypeId × Value → H) :
    ReturnsInHanded {} Try.checked os 18 .any (Rows.fnBestAllSpec.pre6 enc Try.prog Try.f18 Rows.fnBestAllRow.domain false) (Rows.fnBestAllSpec.post enc Try.prog Try.f18 false true false false) := by
  refine returnsInHanded_of_change (C := Try.checked) own started (by kernel_rfl) Try.func18
    (ChangeSpec.witness6 (enc := enc) (C := Try.checked) false ⟨#[], #[.slice none 0 0], []⟩ 8 (by kernel_rfl) (by kernel_rfl) (by kernel_rfl) (by kernel_rfl)) ?_
  intro W base args ds gs before hval0 hW hcnd _
  have hval : ∀ (j : Nat) t v, Try.f18.params[j]? = some t → args[j]? = some v → Value.okWide Try.prog W .any base t v := hval0
  have hW' := hW
  obtain ⟨p, q, hA0, hV, rfl, hfz, hnd⟩ := hW
  have hA : DataW.TrodAll enc Try.prog W 0 (fun _ => true) true Try.f18.params.toList args.toList ds p := hA0
  rw [Try.params18] at hA hval
  obtain ⟨v0, vs0, d0, ds0, p0, q0, hargs, rfl, rfl, h0, r0⟩ := trodAll_cons hA
  obtain ⟨rfl, rfl, rfl⟩ := trodAll_nil r0
  obtain rfl : args = #[v0] := by cases args; simp_all
  obtain ⟨rfl, rfl⟩ := trodVars_none hV
  have lt0 : ∀ x ∈ p0, x.block < W.heap.size := by obtain ⟨m, hm⟩ := h0; exact DataW.trod_lt m _ _ _ hm
  obtain ⟨x0, e0⟩ := argCode_of h0 (okWide_slice Try.underlying22 (hval 0 22 v0 rfl rfl))
  clear hA0 hval0
  refine (walk v0 x0 W e0).mono fun e W' ⟨he, bel⟩ => ?_
  subst he
  exact ⟨_, rfl, _, _, _, [], _, [], hW', trodAll_mk1 (shut_bool Try.underlying4 _), (trodAll_cons_mk (Below.trod laidOut (by kernel_rfl) (of_decide_eq_true (by kernel_rfl)) h0 bel lt0) trodAll_mk0), rfl, Below.frame bel _, fun h => by cases h⟩

theorem closed : joinedFacts Try.prog 18 Try.f18 Rows.fnBestAllSpec Rows.fnBestAllRow = true := by
  unfold joinedFacts
  rw [may_enter, lifts_final, make_cut]
  kernel_rfl

theorem proved : Rows.FnBestAllSaid :=
  OpenClaim.holds_of_wide 18 Try.f18 rfl rfl rfl rfl rfl rfl rfl ⟨rfl, rfl, rfl, rfl, rfl⟩ rfl rfl rfl rfl rfl (by kernel_rfl) Try.func18 closed
    (of_decide_eq_true (by kernel_rfl)) (by unfold Func.isWrapper; first | (rw [if_pos (by decide +kernel)]; kernel_rfl) | (rw [if_neg (by decide +kernel)]; exact ⟨rfl, rfl⟩))
    (fun os started H enc _ => lifted os started H enc)

end Go.Proofs.Ytipmoedflpjioaa.l51
