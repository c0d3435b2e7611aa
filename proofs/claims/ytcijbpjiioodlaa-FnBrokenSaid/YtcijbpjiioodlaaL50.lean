/- The law FnBroken: whatever the code, broken pairs share a node. No condition. -/
import Derived.Test.YtcijbpjiioodlaaDr12
import Derived.Test.YtcijbpjiioodlaaP7
import Derived.Test.YtcijbpjiioodlaaSame
import Derived.Test.YtcijbpjiioodlaaI8
import Derived.Test.YtcijbpjiioodlaaHead
import Derived.OpenShut
import Derived.ChangeOld
namespace Go.Proofs.Ytcijbpjiioodlaa.l50
set_option maxRecDepth 100000
open Go.RowKit Go.ChangeShapes Go.WideShapes Go.ChangeAt

theorem beq_refl (xs : List Int) : (xs == xs) = true := by simp

set_option maxHeartbeats 4000000 in
theorem walk (v : Value) (n : Nat) (w : World) (h : ArgCode w v n) :
    Calls Try.prog 12 #[v] w fun e w' => e = .returned (.bool true) ∧ Ext w w' := by
  have h2 := h
  obtain ⟨_, ac, cc, rfl, -⟩ := h2
  by_cases hbig : 1048576 < n
  · go_enter Try.func12, Try.ntmps12
    go_wp2
    go_ret
    exact ⟨rfl, Ext.refl _⟩
  have hsm : n ≤ 1048576 := by omega
  clear hbig
  go_enter Try.func12, Try.ntmps12
  go_wp2_with fail
  refine (DrawPairsBroken_any _ _ _ h).mono ?_
  rintro e w1 ⟨vr, vb, vp, room, bs, ps, rfl, hd, E1⟩
  have Hd1 := Lib.hid hd
  obtain ⟨ra, rc, hvr, -⟩ := hd.1.1.open
  obtain ⟨ba, bc, hvb, -⟩ := hd.1.2.1.open
  obtain ⟨pa, pc, hvp, hpc⟩ := hd.2.2.2
  subst hvr hvb hvp
  have F1 := Lib.hid E1
  have hf20 : bs.flatten.length ≤ 20 := hd.1.2.2.2.2
  have hp50 : ps.length ≤ 50 := hd.2.2.1
  have Hpc := Lib.hid hpc
  have HL := Lib.hid (broken_lim room bs ps)
  clear hd E1 h hpc
  go_wp2_with fail
  refine (PairsBroken_any _ _ _ room bs ps _ Hd1.out.1.1 Hd1.out.1.2.1 Hd1.out.2.1 (by omega)).mono ?_
  rintro e w2 ⟨r0, rfl, hE, hN⟩
  have o2 := hN.own.done HL.out
  obtain ⟨oa, oc, rfl, -⟩ := o2.open
  have O2 := Lib.hid o2
  have Hd2 := Lib.hid (Hd1.out.ext hE)
  have F2 := Lib.hid (F1.out.trans hE)
  clear hE hN o2 Hd1 F1
  go_wp2_with fail
  refine (sPairsBroken_any _ _ _ room bs ps _ Hd2.out.1.1 Hd2.out.1.2.1 Hd2.out.2.1 (by omega)).mono ?_
  rintro e w3 ⟨r1, rfl, hE, hN⟩
  have o3 := hN.own.done HL.out
  obtain ⟨wa, wc, rfl, -⟩ := o3.open
  have W3 := Lib.hid o3
  have O3 := Lib.hid (O2.out.ext hE)
  have Hd3 := Lib.hid (Hd2.out.ext hE)
  have F3 := Lib.hid (F2.out.trans hE)
  clear hE hN o3 Hd2 F2 O2
  go_wp2_with fail
  refine (sameInts_any _ _ _ _ _ O3.out W3.out).mono ?_
  rintro e ws ⟨rfl, m, rfl⟩
  have hE := (Ext.refl w3).drewN m
  have W4 := Lib.hid (W3.out.ext hE)
  have O4 := Lib.hid (O3.out.ext hE)
  have Hd4 := Lib.hid (Hd3.out.ext hE)
  have F4 := Lib.hid (F3.out.trans hE)
  clear hE Hd3 F3 O3 W3
  rw [beq_refl]
  go_wp2_with fail
  generalize w3.drewN m = w4 at *
  have cc := sBinsValid_any _ _ room bs _ Hd4.out.1.1 Hd4.out.1.2.1 (by omega)
  cases hb : binsB room bs with
  | false =>
    rw [hb] at cc
    refine cc.mono ?_
    clear cc
    rintro e w5 ⟨rfl, hE⟩
    have W5 := Lib.hid (W4.out.ext hE)
    have O5 := Lib.hid (O4.out.ext hE)
    have F5 := Lib.hid (F4.out.trans hE)
    clear hE
    go_wp2_with fail
    refine (sameInts_any _ _ _ _ _ O5.out W5.out).mono ?_
    rintro e ws ⟨rfl, m, rfl⟩
    have F := F5.out.drewN m
    rw [beq_refl]
    go_wp2
    go_ret
    exact ⟨rfl, F⟩
  | true =>
    have HB := Lib.hid hb
    rw [hb] at cc
    refine cc.mono ?_
    clear cc hb
    rintro e w5 ⟨rfl, hE⟩
    have W5 := Lib.hid (W4.out.ext hE)
    have O5 := Lib.hid (O4.out.ext hE)
    have Hd5 := Lib.hid (Hd4.out.ext hE)
    have F5 := Lib.hid (F4.out.trans hE)
    clear hE W4 O4 Hd4 F4
    go_wp2_with fail
    have cc := sPairsValid_any _ ps _ Hd5.out.2.1
    cases hb : pairsB ps with
    | false =>
      rw [hb] at cc
      refine cc.mono ?_
      clear cc
      rintro e w6 ⟨rfl, hE⟩
      have W6 := Lib.hid (W5.out.ext hE)
      have O6 := Lib.hid (O5.out.ext hE)
      have F6 := Lib.hid (F5.out.trans hE)
      clear hE
      go_wp2_with fail
      refine (sameInts_any _ _ _ _ _ O6.out W6.out).mono ?_
      rintro e ws ⟨rfl, m, rfl⟩
      have F := F6.out.drewN m
      rw [beq_refl]
      go_wp2
      go_ret
      exact ⟨rfl, F⟩
    | true =>
      have HP := Lib.hid hb
      rw [hb] at cc
      refine cc.mono ?_
      clear cc hb
      rintro e w6 ⟨rfl, hE⟩
      have O6 := Lib.hid (O5.out.ext hE)
      have Hd6 := Lib.hid (Hd5.out.ext hE)
      have F6 := Lib.hid (F5.out.trans hE)
      have HV := Lib.hid (brokenI_of HB.out HP.out)
      rw [HV.out] at O6 HL ⊢
      clear hE W5 O5 Hd5 F5
      have nl : (brokenL bs ps).length ≤ 50 := Nat.le_trans (brokenL_len _ _) hp50
      go_wp2_with fail
      go_loopw [8, 9] (fun nv iv wr => ∃ k : Nat, k ≤ ps.length ∧ iv = .int .i64 (k : Int) ∧ nv = .int .i64 ((brokenL bs (ps.take k)).length : Int) ∧ Ext w6 wr) (fun _ iv _ => ps.length - (intOf iv).toNat)
      case atStart => exact ⟨0, by omega, rfl, by simp [brokenL], Ext.refl _⟩
      case round =>
        obtain ⟨k, hk, rfl, rfl, hE⟩ := hrel
        by_cases hlt : k < ps.length
        · have HE := Lib.hid hE
          have Hn := Lib.hid (brokenL_next (bs := bs) hlt)
          have Hbr := Lib.hid (brkB_of (bs := bs) (p := ps[k]) rfl)
          have Hhere := Lib.hid (brokenL_here (bs := bs) hlt)
          have hnl : (brokenL bs (ps.take k)).length ≤ 50 := Nat.le_trans (brokenL_len _ _) (by simp; omega)
          have b0 : (0 : Int) ≤ (k : Int) := by omega
          have b1 : (k : Int) < (ps.length : Int) := by omega
          obtain ⟨pb, po, hpe, c0, c1⟩ := (Hd6.out.2.1.ext hE).at hlt
          subst hpe
          have cc := BinsWhere_any _ _ room bs ps[k].a wr (Hd6.out.1.1.ext hE) (Hd6.out.1.2.1.ext hE) (by omega)
          have hwa : whereI room bs ps[k].a = nodeI (where0 bs ps[k].a) := by unfold whereI; rw [if_pos HB.out]
          rw [hwa] at cc
          have CA := Lib.hid cc
          have C1 := Lib.hid c1
          clear cc hwa hE c1
          go_wp2_with fail
          refine CA.out.mono ?_
          clear CA
          rintro e w7 ⟨rfl, hE7⟩
          have E7 := Lib.hid (HE.out.trans hE7)
          have c1 := hE7.cell C1.out
          clear hE7 HE C1 c0
          have cc := BinsWhere_any _ _ room bs ps[k].b w7 (Hd6.out.1.1.ext E7.out) (Hd6.out.1.2.1.ext E7.out) (by omega)
          have hwb : whereI room bs ps[k].b = nodeI (where0 bs ps[k].b) := by unfold whereI; rw [if_pos HB.out]
          rw [hwb] at cc
          have CB := Lib.hid cc
          clear cc hwb
          generalize nodeI (where0 bs ps[k].a) = za at *
          generalize nodeI (where0 bs ps[k].b) = zb at *
          have O7 := Lib.hid (O6.out.ext E7.out)
          have n0 : (0 : Int) ≤ ((brokenL bs (ps.take k)).length : Int) := by omega
          by_cases hz : 0 ≤ za
          · by_cases hzz : za = zb
            · subst hzz
              have hb : brkB bs ps[k] = true := by rw [Hbr.out]; simp [hz]
              obtain ⟨hlt2, hval⟩ := Hhere.out hb
              have Hn2 := Lib.hid (by have := Hn.out; rwa [if_pos hb] at this : (brokenL bs (ps.take (k + 1))).length = (brokenL bs (ps.take k)).length + 1)
              obtain ⟨gb, go, hoe, hoc⟩ := O7.out.at (by omega)
              subst hoe
              have co := hoc _ hlt2
              rw [hval] at co
              have HO := Lib.hid co
              have n1 : ((brokenL bs (ps.take k)).length : Int) < ((brokenL bs ps).length : Int) := by omega
              clear hb hval hoc Hn Hbr Hhere co
              generalize (brokenL bs (ps.take k)).length = n at *
              go_wp2_with fail
              refine CB.out.mono ?_
              clear CB
              rintro e w8 ⟨rfl, hE8⟩
              have co := hE8.cell HO.out
              have E8 := Lib.hid (E7.out.trans hE8)
              clear hE8 E7 c1
              go_wp2
              go_roundw
              case rel => exact ⟨k + 1, by omega, by go_num, by rw [Hn2.out]; go_num, E8.out⟩
              case measure => simp [intOf]; omega
            · have hb : ¬ brkB bs ps[k] = true := by rw [Hbr.out]; simp [hzz]
              have Hn2 := Lib.hid (by have := Hn.out; rwa [if_neg hb] at this : (brokenL bs (ps.take (k + 1))).length = (brokenL bs (ps.take k)).length + 0)
              have hzb : (za == zb) = false := beq_eq_false_iff_ne.2 hzz
              clear hb Hn Hbr Hhere
              generalize (brokenL bs (ps.take k)).length = n at *
              go_wp2_with fail
              refine CB.out.mono ?_
              clear CB
              rintro e w8 ⟨rfl, hE8⟩
              have E8 := Lib.hid (E7.out.trans hE8)
              clear hE8 E7 c1
              go_wp2
              go_roundw
              case rel => exact ⟨k + 1, by omega, by go_num, by rw [Hn2.out]; go_num, E8.out⟩
              case measure => simp [intOf]; omega
          · have hb : ¬ brkB bs ps[k] = true := by rw [Hbr.out]; simp [hz]
            have Hn2 := Lib.hid (by have := Hn.out; rwa [if_neg hb] at this : (brokenL bs (ps.take (k + 1))).length = (brokenL bs (ps.take k)).length + 0)
            have hz1 : decide (0 ≤ za) = false := decide_eq_false hz
            have hz2 : za < 0 := by omega
            clear hb Hn Hbr Hhere hz
            generalize (brokenL bs (ps.take k)).length = n at *
            go_wp2_with fail
            go_roundw
            case rel => exact ⟨k + 1, by omega, by go_num, by rw [Hn2.out]; go_num, E7.out⟩
            case measure => simp [intOf]; omega
        · have e : k = ps.length := by omega
          subst e
          have HE := Lib.hid (F6.out.trans hE)
          rw [List.take_length]
          go_wp2
          go_ret
          exact ⟨rfl, HE.out⟩

theorem own : ownKnob Try.prog.godebug = none := by kernel_rfl
theorem laidOut : laidOutB Try.prog = true := by kernel_rfl

set_option maxRecDepth 100000 in
theorem lifted (os : Os) (started : os.Started) (H : Type) (enc : TypeId × Value → H) :
    ReturnsInHanded {} Try.checked os 12 .any (Rows.fnBrokenSpec.pre6 enc Try.prog Try.f12 Rows.fnBrokenRow.domain false) (Rows.fnBrokenSpec.post enc Try.prog Try.f12 false true false false) := by
  refine returnsInHanded_of_change (C := Try.checked) own started (by kernel_rfl) Try.func12
    (ChangeSpec.witness6 (enc := enc) (C := Try.checked) false ⟨#[], #[.slice none 0 0], []⟩ 8 (by kernel_rfl) (by kernel_rfl) (by kernel_rfl) (by kernel_rfl)) ?_
  intro W base args ds gs before hval0 hW hcnd _
  have hval : ∀ (j : Nat) t v, Try.f12.params[j]? = some t → args[j]? = some v → Value.okWide Try.prog W .any base t v := hval0
  have hW' := hW
  obtain ⟨p, q, hA0, hV, rfl, hfz, hnd⟩ := hW
  have hA : DataW.TrodAll enc Try.prog W 0 (fun _ => true) true Try.f12.params.toList args.toList ds p := hA0
  rw [Try.params12] at hA hval
  obtain ⟨v0, vs0, d0, ds0, p0, q0, hargs, rfl, rfl, h0, r0⟩ := trodAll_cons hA
  obtain ⟨rfl, rfl, rfl⟩ := trodAll_nil r0
  obtain rfl : args = #[v0] := by cases args; simp_all
  obtain ⟨rfl, rfl⟩ := trodVars_none hV
  have lt0 : ∀ x ∈ p0, x.block < W.heap.size := by obtain ⟨m, hm⟩ := h0; exact DataW.trod_lt m _ _ _ hm
  obtain ⟨x0, e0⟩ := argCode_of h0 (okWide_slice Try.underlying34 (hval 0 34 v0 rfl rfl))
  clear hA0 hval0
  refine (walk v0 x0 W e0).mono fun e W' ⟨he, bel⟩ => ?_
  subst he
  exact ⟨_, rfl, _, _, _, [], _, [], hW', trodAll_mk1 (shut_bool Try.underlying4 _), (trodAll_cons_mk (Below.trod laidOut (by kernel_rfl) (of_decide_eq_true (by kernel_rfl)) h0 bel lt0) trodAll_mk0), rfl, Below.frame bel _, fun h => by cases h⟩

theorem closed : joinedFacts Try.prog 12 Try.f12 Rows.fnBrokenSpec Rows.fnBrokenRow = true := by
  unfold joinedFacts
  rw [may_enter, lifts_final, make_cut]
  kernel_rfl

theorem proved : Rows.FnBrokenSaid :=
  OpenClaim.holds_of_wide 12 Try.f12 rfl rfl rfl rfl rfl rfl rfl ⟨rfl, rfl, rfl, rfl, rfl⟩ rfl rfl rfl rfl rfl (by kernel_rfl) Try.func12 closed
    (of_decide_eq_true (by kernel_rfl)) (by unfold Func.isWrapper; first | (rw [if_pos (by decide +kernel)]; kernel_rfl) | (rw [if_neg (by decide +kernel)]; exact ⟨rfl, rfl⟩))
    (fun os started H enc _ => lifted os started H enc)

end Go.Proofs.Ytcijbpjiioodlaa.l50
