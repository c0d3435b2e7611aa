/- The law FnPlanBegin (a tied card): whatever the codes, a shorter plan is the beginning of a longer one. No condition beyond the card's own: the variable of the error is laid as the program's text lays it. -/
import Derived.Test.YtjdhiabdcmindaaDoorSgp
import Derived.Test.YtjdhiabdcmindaaDoorDgp
import Derived.Test.YtjdhiabdcmindaaDoorMe
import Derived.Test.YtjdhiabdcmindaaDoorEr
import Derived.Test.YtjdhiabdcmindaaDoorCode
import Derived.Test.YtjdhiabdcmindaaDoorS9
import Derived.Test.YtjdhiabdcmindaaDoorHead
import Derived.OpenShut
import Derived.ChangeOld
namespace Go.Proofs.YtjdhiabdcmindaaDoor.l24
set_option maxRecDepth 100000
open Go.RowKit Go.ChangeShapes Go.WideShapes Go.ChangeAt

theorem Twos.of0 {e : TypeId} {w : World} {v : Value} {ps : List Pr} (h : OwnTwos e w 0 v ps) (hl : ps.length ≤ 20) : Twos e w v ps := h.done (by unfold lim; omega)
theorem gplan_len (room : List Int) (bs : List (List T)) (most : Int) : (gplanL room bs most).length ≤ 20 := by
  unfold gplanL
  split
  · rename_i h
    have := plan_len room most.toNat bs
    have := inB_iff.1 (Bool.and_eq_true_iff.1 h).2
    omega
  · simp

set_option maxHeartbeats 1500000 in
theorem walk (v u : Value) (n m : Nat) (w : World) (h : ArgCode w v n) (k : ArgCode w u m) (ht : ErrW w) :
    Calls Tryd.prog 3 #[v, u] w fun e w' => e = .returned (.bool true) ∧ Ext w w' := by
  have HTW := Lib.hid ht
  clear ht
  have h2 := h
  obtain ⟨_, ac, cc, rfl, -⟩ := h2
  have k2 := k
  obtain ⟨_, am, cm, rfl, -⟩ := k2
  clear k
  by_cases hbig : 1048576 < n
  · go_enter Tryd.func3, Tryd.ntmps3
    go_wp2
    go_ret
    exact ⟨rfl, Ext.refl _⟩
  have hsm : n ≤ 1048576 := by omega
  clear hbig
  by_cases hbig : 1048576 < m
  · go_enter Tryd.func3, Tryd.ntmps3
    go_wp2
    go_ret
    exact ⟨rfl, Ext.refl _⟩
  have hsm2 : m ≤ 1048576 := by omega
  clear hbig
  go_enter Tryd.func3, Tryd.ntmps3
  go_wp2_with fail
  refine (DrawGatherPlan_any _ _ _ h).mono ?_
  rintro e w1 ⟨vr, ab, cb, room, bs, most, rfl, hd, hcap, hmr, E1⟩
  have Hd1 := Lib.hid hd
  obtain ⟨ra, rc, hvr, -⟩ := hd.1.open
  subst hvr
  have F1 := Lib.hid E1
  have hl10 : bs.length ≤ 10 := hd.2.2.2.1
  have hf20 : bs.flatten.length ≤ 20 := hd.2.2.2.2
  have PL := Lib.hid (gplan_len room bs most)
  clear hd E1 h
  go_wp2_with fail
  refine (GatherPlan_any _ room bs most cb ab w1 Hd1.out.1 Hd1.out.2.1 (by omega)).mono ?_
  rintro e w2 ⟨r1, rfl, hO, hE⟩
  obtain ⟨a1, c1, rfl, hc1⟩ := hO.formc'
  have O2 := Lib.hid hO
  have F2 := Lib.hid (F1.out.trans hE)
  have Hd2 := Lib.hid (Hd1.out.ext hE)
  clear hO hE Hd1 F1
  go_wp2_with fail
  refine (sGatherPlan_any _ room bs most cb ab w2 Hd2.out.1 Hd2.out.2.1 hcap (by omega)).mono ?_
  rintro e w3 ⟨r2, rfl, hO, hE⟩
  obtain ⟨a2, c2, rfl, hc2⟩ := hO.formc'
  have O3 := Lib.hid hO
  have O2b := Lib.hid (O2.out.ext hE)
  have F3 := Lib.hid (F2.out.trans hE)
  have Hd3 := Lib.hid (Hd2.out.ext hE)
  clear hO hE Hd2 F2 O2
  go_wp2_with fail
  refine (sameMoves_eq _ _ _ w3 (Twos.of0 O2b.out PL.out) (Twos.of0 O3.out PL.out)).mono ?_
  rintro e w4 ⟨rfl, hE⟩
  have F4 := Lib.hid (F3.out.trans hE)
  have Hd4 := Lib.hid (Hd3.out.ext hE)
  have P4 := Lib.hid (Twos.of0 (O2b.out.ext hE) PL.out)
  have Q4 := Lib.hid (Twos.of0 (O3.out.ext hE) PL.out)
  clear hE Hd3 F3 O2b O3
  go_wp2_with fail
  have cc := sBinsValid_any _ _ room bs w4 Hd4.out.1 Hd4.out.2.1 (by omega)
  cases hb : binsB room bs with
  | false =>
    rw [hb] at cc
    clear hb
    refine cc.mono ?_
    clear cc
    rintro e w5 ⟨rfl, hE⟩
    have F5 := Lib.hid (F4.out.trans hE)
    have P5 := Lib.hid (P4.out.ext hE)
    have Q5 := Lib.hid (Q4.out.ext hE)
    clear hE
    go_wp2_with fail
    refine (sameMoves_eq _ _ _ w5 P5.out Q5.out).mono ?_
    rintro e w6 ⟨rfl, hE⟩
    have F6 := Lib.hid (F5.out.trans hE)
    clear hE
    go_wp2_with fail
    go_ret
    exact ⟨rfl, F6.out⟩
  | true =>
    have HB := Lib.hid hb
    rw [hb] at cc
    clear hb
    refine cc.mono ?_
    clear cc
    rintro e w5 ⟨rfl, hE⟩
    have F5 := Lib.hid (F4.out.trans hE)
    have P5 := Lib.hid (P4.out.ext hE)
    have Q5 := Lib.hid (Q4.out.ext hE)
    have Hd5 := Lib.hid (Hd4.out.ext hE)
    clear hE F4 Hd4 P4 Q4
    by_cases hm : most < 0 ∨ 20 < most
    · rcases hm with hm | hm
      · have d1 : decide (most < 0) = true := decide_eq_true hm
        go_wp2_with fail
        refine (sameMoves_eq _ _ _ w5 P5.out Q5.out).mono ?_
        rintro e w6 ⟨rfl, hE⟩
        have F6 := Lib.hid (F5.out.trans hE)
        clear hE
        go_wp2_with fail
        go_ret
        exact ⟨rfl, F6.out⟩
      · have d1 : decide (most < 0) = false := decide_eq_false (by omega)
        have d1' : ¬ most < 0 := by omega
        have d2 : decide (20 < most) = true := decide_eq_true hm
        go_wp2_with fail
        refine (sameMoves_eq _ _ _ w5 P5.out Q5.out).mono ?_
        rintro e w6 ⟨rfl, hE⟩
        have F6 := Lib.hid (F5.out.trans hE)
        clear hE
        go_wp2_with fail
        go_ret
        exact ⟨rfl, F6.out⟩
    · obtain ⟨n0, rfl⟩ : ∃ n : Nat, most = (n : Int) := ⟨most.toNat, by omega⟩
      have hn20 : n0 ≤ 20 := by omega
      have d1 : decide ((n0 : Int) < 0) = false := decide_eq_false (by omega)
      have d1' : ¬ (n0 : Int) < 0 := by omega
      have d2 : decide (20 < (n0 : Int)) = false := decide_eq_false (by omega)
      have d2' : ¬ 20 < (n0 : Int) := by omega
      obtain ⟨k, hk⟩ : ∃ k, k = m % (n0 + 1) := ⟨_, rfl⟩
      have hk3 : k ≤ n0 := by have := Nat.mod_lt m (show 0 < n0 + 1 by omega); omega
      have e1 : (m : Int) % ((n0 : Int) + 1) = (k : Int) := by rw [hk, Int.natCast_emod]; congr 1
      have HQ := Lib.hid (show gplanL room bs (k : Int) = (gplanL room bs (n0 : Int)).take k from by rw [gplan_yes HB.out (by omega), gplan_yes HB.out hn20, plan_take room k n0 bs hk3])
      have QL := Lib.hid (gplan_len room bs (k : Int))
      clear hm hk hmr
      go_wp2_with fail
      refine (GatherPlan_any _ room bs (k : Int) cb ab w5 Hd5.out.1 Hd5.out.2.1 (by omega)).mono ?_
      rintro e w6 ⟨r3, rfl, hO, hE⟩
      obtain ⟨a3, c3, rfl, hc3⟩ := hO.formc'
      have X6 := Lib.hid (Twos.of0 hO QL.out)
      have F6 := Lib.hid (F5.out.trans hE)
      have P6 := Lib.hid (P5.out.ext hE)
      clear hO hE F5 P5 Q5 Hd5 HB d1 d2 d1' d2'
      have PL' := PL.out
      have QL' := QL.out
      have hlen : (gplanL room bs (k : Int)).length ≤ (gplanL room bs (n0 : Int)).length ∧ ((k : Int) ≤ ((gplanL room bs (n0 : Int)).length : Int) → (gplanL room bs (k : Int)).length = k) ∧ (¬ (k : Int) ≤ ((gplanL room bs (n0 : Int)).length : Int) → (gplanL room bs (k : Int)).length = (gplanL room bs (n0 : Int)).length) := by rw [HQ.out, List.length_take]; omega
      have X7 := Lib.hid (show Twos 35 w6 (.slice a1 (gplanL room bs (k : Int)).length c1) (gplanL room bs (k : Int)) from by
        have h := P6.out.take (gplanL room bs (k : Int)).length hlen.1 c1
        have e : (gplanL room bs (n0 : Int)).take (gplanL room bs (k : Int)).length = gplanL room bs (k : Int) := by rw [HQ.out]; simp
        rw [e] at h
        exact h)
      clear HQ PL QL P6
      generalize gplanL room bs (k : Int) = qs at *
      generalize gplanL room bs (n0 : Int) = ps at *
      have i1 : (qs.length : Int) ≤ (c1 : Int) := by omega
      have HL := Lib.hid hlen
      clear hlen PL' QL' hc1 hc2 hc3 hcap hl10 hf20 hn20 hk3
      by_cases hkl : (k : Int) ≤ (ps.length : Int)
      · have hm : ¬ (ps.length : Int) < (k : Int) := by omega
        have he : ((qs.length : Int) == (k : Int)) = true := by rw [HL.out.2.1 hkl]; exact beq_self_eq_true _
        clear hkl
        go_wp2_with fail
        refine (sameMoves_eq _ _ _ w6 X6.out X7.out).mono ?_
        rintro e w7 ⟨rfl, hE⟩
        have F7 := Lib.hid (F6.out.trans hE)
        clear hE
        go_wp2_with fail
        go_ret
        exact ⟨rfl, F7.out⟩
      · have hm : (ps.length : Int) < (k : Int) := by omega
        have he : ((qs.length : Int) == (ps.length : Int)) = true := by rw [HL.out.2.2 hkl]; exact beq_self_eq_true _
        clear hkl
        go_wp2_with fail
        refine (sameMoves_eq _ _ _ w6 X6.out X7.out).mono ?_
        rintro e w7 ⟨rfl, hE⟩
        have F7 := Lib.hid (F6.out.trans hE)
        clear hE
        go_wp2_with fail
        go_ret
        exact ⟨rfl, F7.out⟩

theorem own : ownKnob Tryd.prog.godebug = none := by kernel_rfl
theorem laidOut : laidOutB Tryd.prog = true := by kernel_rfl

set_option maxRecDepth 100000 in
theorem lifted (os : Os) (started : os.Started) (H : Type) (enc : TypeId × Value → H) :
    ReturnsInHanded {} Tryd.checked os 3 .any (fun w args => (Rows.fnPlanBeginSpec.pre enc Tryd.prog Tryd.f3 [] false w args ∧ laidMetH Tryd.prog laidE w) ∧ sizedMet enc Tryd.prog Tryd.f3 (OpenSpec.ofChange Rows.fnPlanBeginSpec) false w args) (Rows.fnPlanBeginSpec.post enc Tryd.prog Tryd.f3 false true false false) := by
  refine returnsInHanded_of_change_and (C := Tryd.checked) (X := fun w _ => laidMetH Tryd.prog laidE w) (fun _ _ _ hh h => h.of_heap hh) own started (by kernel_rfl) Tryd.func3
    (ChangeSpec.witness_shaped (enc := enc) (C := Tryd.checked) (os := os) (X := fun w _ => laidMetH Tryd.prog laidE w) false (World.doorLaid Tryd.prog 28 os) #[.slice none 0 0, .slice none 0 0] 8 rfl (World.shaped_of_RefB (by kernel_rfl) (by kernel_rfl)) (by kernel_rfl) (by kernel_rfl) (by kernel_rfl) (door_err os _)) ?_
  intro W base args ds gs before hval0 hW _ _ hL _
  have hval : ∀ (j : Nat) t v, Tryd.f3.params[j]? = some t → args[j]? = some v → Value.okWide Tryd.prog W .any base t v := hval0
  have hW' := hW
  obtain ⟨p, q, hA0, hV, rfl, hfz, hnd⟩ := hW
  have hA : DataW.TrodAll enc Tryd.prog W 0 (fun _ => true) true Tryd.f3.params.toList args.toList ds p := hA0
  rw [Tryd.params3] at hA hval
  obtain ⟨v0, vs0, d0, ds0, p0, q0, hargs, rfl, rfl, h0, r0⟩ := trodAll_cons hA
  obtain ⟨v1, vs1, d1, ds1, p1, q1, rfl, rfl, rfl, h1, r1⟩ := trodAll_cons r0
  obtain ⟨rfl, rfl, rfl⟩ := trodAll_nil r1
  obtain rfl : args = #[v0, v1] := by cases args; simp_all
  obtain ⟨xv, hvar, hix⟩ := var_err hL
  obtain ⟨rfl, rfl⟩ := vars_err hV hvar hix
  have lt0 : ∀ x ∈ p0, x.block < W.heap.size := by obtain ⟨m, hm⟩ := h0; exact DataW.trod_lt m _ _ _ hm
  have lt1 : ∀ x ∈ p1, x.block < W.heap.size := by obtain ⟨m, hm⟩ := h1; exact DataW.trod_lt m _ _ _ hm
  obtain ⟨x0, e0⟩ := argCode_of h0 (okWide_slice Tryd.underlying22 (hval 0 22 v0 rfl rfl))
  obtain ⟨x1, e1⟩ := argCode_of h1 (okWide_slice Tryd.underlying22 (hval 1 22 v1 rfl rfl))
  clear hA0 hval0
  refine (walk v0 v1 x0 x1 W e0 e1 (met_err hL)).mono fun e W' ⟨he, bel⟩ => ?_
  subst he
  exact ⟨_, rfl, _, _, _, [], _, [.cell 0 0], hW', trodAll_mk1 (shut_bool Tryd.underlying4 _), (trodAll_cons_mk (Below.trod laidOut (by kernel_rfl) (of_decide_eq_true (by kernel_rfl)) h0 bel lt0) (trodAll_cons_mk (Below.trod laidOut (by kernel_rfl) (of_decide_eq_true (by kernel_rfl)) h1 bel lt1) trodAll_mk0)), vars_mk (var_ext hvar bel) hix, Below.frame bel _, fun h => by cases h⟩

theorem closed : joinedFacts Tryd.prog 3 Tryd.f3 Rows.fnPlanBeginSpec Rows.fnPlanBeginRow = true := by
  unfold joinedFacts
  rw [may_enter, lifts_final, make_cut]
  kernel_rfl

theorem row_holds : Rows.FnPlanBeginSaid :=
  OpenClaim.holds_of_wide 3 Tryd.f3 rfl rfl rfl rfl rfl rfl rfl ⟨rfl, rfl, rfl, rfl, rfl⟩ rfl rfl rfl rfl rfl (by kernel_rfl) Tryd.func3 closed
    (of_decide_eq_true (by kernel_rfl)) (by unfold Func.isWrapper; first | (rw [if_pos (by decide +kernel)]; kernel_rfl) | (rw [if_neg (by decide +kernel)]; exact ⟨rfl, rfl⟩))
    (fun os started H enc _ => lifted os started H enc)

theorem proved : Rows.FnPlanBeginCardSaid :=
  Claim7.holds_tied_plain_at .later [] [.sentinel] true Rows.fnPlanBeginCard.stood.harness Rows.fnPlanBeginCard.stood.looks
    row_holds (fun _ h => by cases h) (by kernel_rfl) (fun _ h => by cases h) fnPlanBegin_row_tie rfl ⟨rfl, rfl⟩ (by kernel_rfl) rfl
    (fun f fn hf hfn => by
      obtain rfl : f = 3 := Option.some.inj ((show Tryd.prog.funcNamed "loop.example/vectorpacker/laws.FnPlanBegin" = some 3 by kernel_rfl).symm.trans hf) |>.symm
      obtain rfl : fn = Tryd.f3 := (Option.some.inj (Tryd.func3.symm.trans hfn)).symm
      exact ⟨by kernel_rfl, fun j t ht => by
        rw [Tryd.params3] at ht
        have hm : t ∈ [22, 22] := by simpa using Array.mem_of_getElem? ht
        have hall : ([22, 22].all fun u => !Tryd.prog.wantsStandIn u) = true := by kernel_rfl
        exact (show Tryd.prog.wantsStandIn t = false by simpa using List.all_eq_true.1 hall t hm)⟩)
    (by kernel_rfl)

end Go.Proofs.YtjdhiabdcmindaaDoor.l24
