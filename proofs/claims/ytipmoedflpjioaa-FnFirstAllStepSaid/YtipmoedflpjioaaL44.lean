/- The law FnFirstAllStep: whatever the code, first fit puts the last task into what it made of the others. No condition. -/
import Derived.Test.YtipmoedflpjioaaS14
import Derived.Test.YtipmoedflpjioaaLim
import Derived.Test.YtipmoedflpjioaaDr9
import Derived.Test.YtipmoedflpjioaaSame2
import Derived.Test.YtipmoedflpjioaaP3
import Derived.Test.YtipmoedflpjioaaHead
import Derived.OpenShut
import Derived.ChangeOld
namespace Go.Proofs.Ytipmoedflpjioaa.l44
set_option maxRecDepth 100000
open Go.RowKit Go.ChangeShapes Go.WideShapes Go.ChangeAt

set_option maxHeartbeats 4000000 in
theorem walk (v : Value) (n : Nat) (w : World) (h : ArgCode w v n) :
    Calls Try.prog 15 #[v] w fun e w' => e = .returned (.bool true) ∧ Ext w w' := by
  have h2 := h
  obtain ⟨_, ac, cc, rfl, -⟩ := h2
  by_cases hbig : 1048576 < n
  · go_enter Try.func15, Try.ntmps15
    go_wp2
    go_ret
    exact ⟨rfl, Ext.refl _⟩
  have hsm : n ≤ 1048576 := by omega
  clear hbig
  go_enter Try.func15, Try.ntmps15
  go_wp2_with fail
  refine (DrawFirstAll_any _ _ _ h).mono ?_
  rintro e w1 ⟨vr, vt, room, ts, rfl, hd, E1⟩
  have Hd1 := Lib.hid hd
  obtain ⟨ra, rc, hvr, -⟩ := hd.1.open
  obtain ⟨ta, tc, hvt, htc⟩ := hd.2.2.2.2
  subst hvr hvt
  have F1 := Lib.hid E1
  clear hd E1 h
  have hl20 : ts.length ≤ 20 := Hd1.out.2.2.2.1
  have Htc := Lib.hid htc
  clear htc
  have HL := Lib.hid (firstAllL_lim room ts)
  go_wp2_with fail
  refine (FirstAll_any _ _ room ts _ Hd1.out.1 Hd1.out.2.1).mono ?_
  rintro e w2 ⟨oa, oc, rfl, hE, hN⟩
  have O2 := Lib.hid (hN.upto.bins HL.out)
  have Hoc := Lib.hid hN.cap
  have Hd2 := Lib.hid (Hd1.out.ext hE)
  have F2 := Lib.hid (F1.out.trans hE)
  clear hE hN Hd1 F1
  go_wp2_with fail
  refine (sFirstAll_any _ _ room ts _ Hd2.out.1 Hd2.out.2.1).mono ?_
  rintro e w3 ⟨wa, wc, rfl, hE, hB⟩
  have W3 := Lib.hid hB
  have O3 := Lib.hid (O2.out.ext hE)
  have Hd3 := Lib.hid (Hd2.out.ext hE)
  have F3 := Lib.hid (F2.out.trans hE)
  clear hE hB Hd2 F2 O2
  go_wp2_with fail
  refine (sameBins_any _ _ _ _ _ O3.out W3.out).mono ?_
  rintro e w4 ⟨rfl, hE⟩
  have W4 := Lib.hid (W3.out.ext hE)
  have O4 := Lib.hid (O3.out.ext hE)
  have Hd4 := Lib.hid (Hd3.out.ext hE)
  have F4 := Lib.hid (F3.out.trans hE)
  clear hE Hd3 F3 O3 W3
  rw [sameBs_iff.2 rfl]
  go_wp2_with fail
  have cc := sTasksValid_ext _ _ room ts _ Hd4.out.1 Hd4.out.2.1
  cases hb : tasksB room ts with
  | false =>
    rw [hb] at cc
    refine cc.mono ?_
    clear cc
    rintro e w5 ⟨rfl, hE⟩
    have W5 := Lib.hid (W4.out.ext hE)
    have O5 := Lib.hid (O4.out.ext hE)
    have F5 := Lib.hid (F4.out.trans hE)
    clear hE
    go_wp2_with fail
    refine (sameBins_any _ _ _ _ _ O5.out W5.out).mono ?_
    rintro e w6 ⟨rfl, hE⟩
    have F := F5.out.trans hE
    rw [sameBs_iff.2 rfl]
    go_wp2
    go_ret
    exact ⟨rfl, F⟩
  | true =>
    rw [hb] at cc
    have HT := Lib.hid (tasksB_iff.1 hb)
    have HB := Lib.hid (show firstAllL room ts = allL (at11 room) ts by simp [firstAllL, hb])
    clear hb
    refine cc.mono ?_
    clear cc
    rintro e w5 ⟨rfl, hE⟩
    have W5 := Lib.hid (W4.out.ext hE)
    have O5 := Lib.hid (O4.out.ext hE)
    have Hd5 := Lib.hid (Hd4.out.ext hE)
    have F5 := Lib.hid (F4.out.trans hE)
    clear hE W4 O4 Hd4 F4
    clear HB HL Hoc
    by_cases h0 : ts.length = 0
    · have hz : (((ts.length : Nat) : Int) == 0) = true := by simp [h0]
      have H0 := Lib.hid h0
      clear h0
      go_wp2_with fail
      refine (sameBins_any _ _ _ _ _ O5.out W5.out).mono ?_
      rintro e w6 ⟨rfl, hE⟩
      have F := F5.out.trans hE
      rw [sameBs_iff.2 rfl]
      go_wp2
      go_ret
      exact ⟨rfl, F⟩
    · have hz : (((ts.length : Nat) : Int) == 0) = false := beq_eq_false_iff_ne.2 (by omega)
      obtain ⟨q, hq⟩ : ∃ q, q + 1 = ts.length := ⟨ts.length - 1, by omega⟩
      have hql : q < ts.length := by omega
      have HS := Lib.hid (first_step HT.out hq (List.getElem?_eq_getElem hql))
      have hok := Lib.hid (first_ok (show TasksOk room (ts.take q) from tasksOk_sub (List.take_sublist q ts) HT.out))
      have e1 : (ts.length : Int) - 1 = (q : Int) := by omega
      have hcq : q ≤ tc := by have := Htc.out; omega
      have hc0 : ¬ tc = 0 := by have := Htc.out; omega
      obtain ⟨b, off, nd, he, c0, c1, hn⟩ := Hd5.out.2.1.at hql
      subst he
      obtain ⟨na, nc, rfl, hn'⟩ := hn.open
      have Hn := Lib.hid hn'
      have Tq := Lib.hid (Hd5.out.2.1.take (show q ≤ ts.length by omega))
      have KS := Lib.hid (show ∀ w', Ext w5 w' → w'.cell? ⟨b, off + q * 2, none⟩ = some (.int .i64 ts[q].id) ∧ w'.cell? ⟨b, off + q * 2 + 1, none⟩ = some (.slice na ts[q].need.length nc) from fun w' h => ⟨h.cell c0, h.cell c1⟩)
      have HQ := Lib.hid hq
      have i0 : (0 : Int) ≤ (q : Int) := by omega
      have i1 : (q : Int) < (ts.length : Int) := by omega
      have i2 : (q : Int) ≤ (tc : Int) := by omega
      clear h0 hn hn' c0 c1 W5 hq
      go_wp2_with fail
      try rw [e1]
      go_region_held3 (fun w' => w'.cell? ⟨b, off + q * 2, none⟩ = some (.int .i64 ts[q].id) ∧ w'.cell? ⟨b, off + q * 2 + 1, none⟩ = some (.slice na ts[q].need.length nc))
        (first | exact KS.out _ (Ext.refl w5).drew | exact KS.out _ E6.out | exact KS.out _ E7.out | fail)
        ((first
          | (go_at_call 31; refine (FirstAll_any _ _ room (ts.take q) _ (Hd5.out.1.ext (Ext.refl w5).drew) (Tq.out.ext (Ext.refl w5).drew)).mono ?_; rintro e w6 ⟨xa, xc, rfl, hE, hN⟩; have E6 := Lib.hid ((Ext.refl w5).drew.trans hE); have X6 := Lib.hid (hN.upto.bins (firstAllL_lim room (ts.take q))); clear hE hN)
          | (go_at_call 61; refine (FirstPut_any _ _ _ room (firstAllL room (ts.take q)) ts[q] _ (Hd5.out.1.ext E6.out) X6.out (Hn.out.ext E6.out) (by have := hok.out.1.2.1; omega)).mono ?_; rintro e w7 ⟨ya, yc, rfl, hE, hN⟩; have E7 := Lib.hid (E6.out.trans hE); have Y7 := Lib.hid (hN.upto.bins (by rw [HS.out.2]; exact firstAllL_lim room ts)); clear hE hN)))
      all_goals
        rw [HS.out.1]
        have O7 := Lib.hid (O5.out.ext E7.out)
        have F7 := Lib.hid (F5.out.trans E7.out)
        go_wp2_with fail
        refine (sameBins_any _ _ _ _ _ Y7.out O7.out).mono ?_
        rintro e w8 ⟨rfl, hE⟩
        have F := F7.out.trans hE
        rw [HS.out.2, sameBs_iff.2 rfl]
        go_wp2
        go_ret
        exact ⟨rfl, F⟩

theorem own : ownKnob Try.prog.godebug = none := by kernel_rfl
theorem laidOut : laidOutB Try.prog = true := by kernel_rfl

set_option maxRecDepth 100000 in
theorem lifted (os : Os) (started : os.Started) (H : Type) (enc : TypeId × Value → H) :
    ReturnsInHanded {} Try.checked os 15 .any (Rows.fnFirstAllStepSpec.pre6 enc Try.prog Try.f15 Rows.fnFirstAllStepRow.domain false) (Rows.fnFirstAllStepSpec.post enc Try.prog Try.f15 false true false false) := by
  refine returnsInHanded_of_change (C := Try.checked) own started (by kernel_rfl) Try.func15
    (ChangeSpec.witness6 (enc := enc) (C := Try.checked) false ⟨#[], #[.slice none 0 0], []⟩ 8 (by kernel_rfl) (by kernel_rfl) (by kernel_rfl) (by kernel_rfl)) ?_
  intro W base args ds gs before hval0 hW hcnd _
  have hval : ∀ (j : Nat) t v, Try.f15.params[j]? = some t → args[j]? = some v → Value.okWide Try.prog W .any base t v := hval0
  have hW' := hW
  obtain ⟨p, q, hA0, hV, rfl, hfz, hnd⟩ := hW
  have hA : DataW.TrodAll enc Try.prog W 0 (fun _ => true) true Try.f15.params.toList args.toList ds p := hA0
  rw [Try.params15] at hA hval
  obtain ⟨v0, vs0, d0, ds0, p0, q0, hargs, rfl, rfl, h0, r0⟩ := trodAll_cons hA
  obtain ⟨rfl, rfl, rfl⟩ := trodAll_nil r0
  obtain rfl : args = #[v0] := by cases args; simp_all
  obtain ⟨rfl, rfl⟩ := trodVars_none hV
  have lt0 : ∀ x ∈ p0, x.block < W.heap.size := by obtain ⟨m, hm⟩ := h0; exact DataW.trod_lt m _ _ _ hm
  obtain ⟨x0, e0⟩ := argCode_of h0 (okWide_slice Try.underlying22 (hval 0 22 v0 rfl rfl))
  clear hA0 hval0
  refine (walk v0 x0 W e0).mono fun e W' ⟨he, bel⟩ => ?_
  subst he
  exact ⟨_, rfl, _, _, _, [], _, [], hW', trodAll_mk1 (shut_bool Try.underlying4 _), (trodAll_cons_mk (Below.trod laidOut (by kernel_rfl) (of_decide_eq_true (by kernel_rfl)) h0 bel lt0) trodAll_mk0), rfl, Below.frame bel _, fun h => by cases h⟩

theorem closed : joinedFacts Try.prog 15 Try.f15 Rows.fnFirstAllStepSpec Rows.fnFirstAllStepRow = true := by
  unfold joinedFacts
  rw [may_enter, lifts_final, make_cut]
  kernel_rfl

theorem proved : Rows.FnFirstAllStepSaid :=
  OpenClaim.holds_of_wide 15 Try.f15 rfl rfl rfl rfl rfl rfl rfl ⟨rfl, rfl, rfl, rfl, rfl⟩ rfl rfl rfl rfl rfl (by kernel_rfl) Try.func15 closed
    (of_decide_eq_true (by kernel_rfl)) (by unfold Func.isWrapper; first | (rw [if_pos (by decide +kernel)]; kernel_rfl) | (rw [if_neg (by decide +kernel)]; exact ⟨rfl, rfl⟩))
    (fun os started H enc _ => lifted os started H enc)

end Go.Proofs.Ytipmoedflpjioaa.l44
