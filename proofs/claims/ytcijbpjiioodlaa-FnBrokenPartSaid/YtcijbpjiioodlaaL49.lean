/- The law FnBrokenPart: whatever the codes, pairs are broken one by one. No condition. -/
import Derived.Test.YtcijbpjiioodlaaDr12
import Derived.Test.YtcijbpjiioodlaaP7
import Derived.Test.YtcijbpjiioodlaaSame
import Derived.Test.YtcijbpjiioodlaaReg
import Derived.Test.YtcijbpjiioodlaaHead
import Derived.OpenShut
import Derived.ChangeOld
namespace Go.Proofs.Ytcijbpjiioodlaa.l49
set_option maxRecDepth 100000
open Go.RowKit Go.ChangeShapes Go.WideShapes Go.ChangeAt

theorem beq_refl (xs : List Int) : (xs == xs) = true := by simp

set_option maxHeartbeats 4000000 in
theorem walk (v u : Value) (n m : Nat) (w : World) (h : ArgCode w v n) (k : ArgCode w u m) :
    Calls Try.prog 11 #[v, u] w fun e w' => e = .returned (.bool true) ∧ Ext w w' := by
  have h2 := h
  obtain ⟨_, ac, cc, rfl, -⟩ := h2
  have k2 := k
  obtain ⟨_, am, cm, rfl, -⟩ := k2
  clear k
  by_cases hbig : 1048576 < n
  · go_enter Try.func11, Try.ntmps11
    go_wp2
    go_ret
    exact ⟨rfl, Ext.refl _⟩
  have hsm : n ≤ 1048576 := by omega
  clear hbig
  by_cases hbig : 1048576 < m
  · go_enter Try.func11, Try.ntmps11
    go_wp2
    go_ret
    exact ⟨rfl, Ext.refl _⟩
  have hsm2 : m ≤ 1048576 := by omega
  clear hbig
  go_enter Try.func11, Try.ntmps11
  go_wp2_with fail
  refine (DrawPairsBroken_any _ _ _ h).mono ?_
  rintro e w1 ⟨vr, vb, vp, room, bs, ps, rfl, hd, E1⟩
  have Hd1 := Lib.hid hd
  obtain ⟨ra, rc, hvr, -⟩ := hd.1.1.open
  obtain ⟨ba, bc, hvb, -⟩ := hd.1.2.1.open
  obtain ⟨pa, pc, hvp, hpc⟩ := hd.2.2.2
  subst hvr hvb hvp
  have F1 := Lib.hid E1
  have hf20 : bs.flatten.length ≤ 20 := hd.1.2.2.2.2
  have hp50 : ps.length ≤ 50 := hd.2.2.1
  have Hpc := Lib.hid hpc
  have HL := Lib.hid (broken_lim room bs ps)
  clear hd E1 h hpc
  go_wp2_with fail
  refine (PairsBroken_any _ _ _ room bs ps _ Hd1.out.1.1 Hd1.out.1.2.1 Hd1.out.2.1 (by omega)).mono ?_
  rintro e w2 ⟨r0, rfl, hE, hN⟩
  have o2 := hN.own.done HL.out
  obtain ⟨oa, oc, rfl, -⟩ := o2.open
  have O2 := Lib.hid o2
  have Hd2 := Lib.hid (Hd1.out.ext hE)
  have F2 := Lib.hid (F1.out.trans hE)
  clear hE hN o2 Hd1 F1
  go_wp2_with fail
  refine (sPairsBroken_any _ _ _ room bs ps _ Hd2.out.1.1 Hd2.out.1.2.1 Hd2.out.2.1 (by omega)).mono ?_
  rintro e w3 ⟨r1, rfl, hE, hN⟩
  have o3 := hN.own.done HL.out
  obtain ⟨wa, wc, rfl, -⟩ := o3.open
  have W3 := Lib.hid o3
  have O3 := Lib.hid (O2.out.ext hE)
  have Hd3 := Lib.hid (Hd2.out.ext hE)
  have F3 := Lib.hid (F2.out.trans hE)
  clear hE hN o3 Hd2 F2 O2
  go_wp2_with fail
  refine (sameInts_any _ _ _ _ _ O3.out W3.out).mono ?_
  rintro e ws ⟨rfl, dm, rfl⟩
  have hE := (Ext.refl w3).drewN dm
  have W4 := Lib.hid (W3.out.ext hE)
  have O4 := Lib.hid (O3.out.ext hE)
  have Hd4 := Lib.hid (Hd3.out.ext hE)
  have F4 := Lib.hid (F3.out.trans hE)
  clear hE Hd3 F3 O3 W3
  rw [beq_refl]
  go_wp2_with fail
  generalize w3.drewN dm = w4 at *
  have cc := sBinsValid_any _ _ room bs _ Hd4.out.1.1 Hd4.out.1.2.1 (by omega)
  cases hb : binsB room bs with
  | false =>
    rw [hb] at cc
    refine cc.mono ?_
    clear cc
    rintro e w5 ⟨rfl, hE⟩
    have W5 := Lib.hid (W4.out.ext hE)
    have O5 := Lib.hid (O4.out.ext hE)
    have F5 := Lib.hid (F4.out.trans hE)
    clear hE
    go_wp2_with fail
    refine (sameInts_any _ _ _ _ _ O5.out W5.out).mono ?_
    rintro e ws ⟨rfl, dm, rfl⟩
    have F := F5.out.drewN dm
    rw [beq_refl]
    go_wp2
    go_ret
    exact ⟨rfl, F⟩
  | true =>
    have HB := Lib.hid hb
    rw [hb] at cc
    refine cc.mono ?_
    clear cc hb
    rintro e w5 ⟨rfl, hE⟩
    have W5 := Lib.hid (W4.out.ext hE)
    have O5 := Lib.hid (O4.out.ext hE)
    have Hd5 := Lib.hid (Hd4.out.ext hE)
    have F5 := Lib.hid (F4.out.trans hE)
    clear hE W4 O4 Hd4 F4
    go_wp2_with fail
    have cc := sPairsValid_any _ ps _ Hd5.out.2.1
    cases hb : pairsB ps with
    | false =>
      rw [hb] at cc
      refine cc.mono ?_
      clear cc
      rintro e w6 ⟨rfl, hE⟩
      have W6 := Lib.hid (W5.out.ext hE)
      have O6 := Lib.hid (O5.out.ext hE)
      have F6 := Lib.hid (F5.out.trans hE)
      clear hE
      go_wp2_with fail
      refine (sameInts_any _ _ _ _ _ O6.out W6.out).mono ?_
      rintro e ws ⟨rfl, dm, rfl⟩
      have F := F6.out.drewN dm
      rw [beq_refl]
      go_wp2
      go_ret
      exact ⟨rfl, F⟩
    | true =>
      have HP := Lib.hid hb
      rw [hb] at cc
      refine cc.mono ?_
      clear cc hb
      rintro e w6 ⟨rfl, hE⟩
      have O6 := Lib.hid (O5.out.ext hE)
      have Hd6 := Lib.hid (Hd5.out.ext hE)
      have F6 := Lib.hid (F5.out.trans hE)
      have HV := Lib.hid (brokenI_of HB.out HP.out)
      rw [HV.out] at O6 HL ⊢
      clear hE W5 O5 Hd5 F5
      obtain ⟨k, hk⟩ : ∃ k, k = m % (ps.length + 1) := ⟨_, rfl⟩
      have hkl : k ≤ ps.length := by have := Nat.mod_lt m (show 0 < ps.length + 1 by omega); omega
      have e1 : (m : Int) % ((ps.length : Int) + 1) = (k : Int) := by rw [hk, Int.natCast_emod]; congr 1
      have EK := Lib.hid e1
      have e0 : ((ps.length : Int) + 1 == 0) = false := beq_eq_false_iff_ne.2 (by omega)
      have i0 : (0 : Int) ≤ (k : Int) := by omega
      have i1 : (k : Int) ≤ (pc : Int) := by have := Hpc.out; omega
      have T6 := Lib.hid (Hd6.out.2.1.take k hkl pc)
      have cc := PairsBroken_any _ _ _ room bs (ps.take k) _ Hd6.out.1.1 Hd6.out.1.2.1 T6.out (by omega)
      rw [brokenI_of HB.out (pairs_take HP.out k)] at cc
      have CC := Lib.hid cc
      obtain ⟨rs, hrs, hge⟩ := brokenL_split (bs := bs) hkl
      have HS := Lib.hid hrs
      have HG := Lib.hid hge
      have nl : (brokenL bs ps).length ≤ 50 := Nat.le_trans (brokenL_len _ _) hp50
      have hsum := congrArg List.length hrs
      rw [List.length_append] at hsum
      have HSum := Lib.hid hsum
      have hxl0 : (brokenL bs (ps.take k)).length ≤ (brokenL bs ps).length := by omega
      clear cc hk hrs hge HV hsum
      go_wp2_with fail
      refine CC.out.mono ?_
      clear CC
      rintro e w7 ⟨vx, rfl, hE, hN⟩
      generalize brokenL bs (ps.take k) = xs at *
      generalize brokenL bs ps = out at *
      have x7 := hN.own.done (by unfold lim; omega)
      obtain ⟨xa, xc, rfl, -⟩ := x7.open
      have X7 := Lib.hid x7
      have O7 := Lib.hid (O6.out.ext hE)
      have F7 := Lib.hid (F6.out.trans hE)
      have hxl : xs.length ≤ out.length := hxl0
      clear hE hN x7 O6 F6 Hd6 T6 e1 e0 i1 hxl0
      go_wp2_with fail
      go_loopw [12] (fun iv wr => ∃ j : Nat, j ≤ xs.length ∧ iv = .int .i64 (j : Int) ∧ Ext w7 wr) (fun iv _ => xs.length - (intOf iv).toNat)
      case atStart => exact ⟨0, by omega, rfl, Ext.refl _⟩
      case round =>
        obtain ⟨j, hj, rfl, hE⟩ := hrel
        have HE := Lib.hid hE
        by_cases hlt : j < xs.length
        · have b0 : (0 : Int) ≤ (j : Int) := by omega
          have b1 : (j : Int) < (xs.length : Int) := by omega
          have b2 : (j : Int) < (out.length : Int) := by omega
          have hlo : j < out.length := by omega
          have hg1 : decide ((out.length : Int) ≤ (j : Int)) = false := decide_eq_false (by omega)
          have hg2 : decide (out.length ≤ j) = false := decide_eq_false (by omega)
          have he : out[j] = xs[j] := by simp only [HS.out]; rw [List.getElem_append_left hlt]
          obtain ⟨gb, go, hoe, ho⟩ := (O7.out.ext hE).at (by omega)
          obtain ⟨xb, xo, hxe, hx⟩ := (X7.out.ext hE).at (by omega)
          subst hoe hxe
          have co := ho j hlo
          have cx := hx j hlt
          rw [he] at co
          generalize xs[j] = z at co cx
          clear ho hx he hE
          go_wp2_with fail
          refine wp_region_held_drew (S := fun w' => w'.cell? ⟨gb, go + j, none⟩ = some (.int .i64 z) ∧ w'.cell? ⟨xb, xo + j, none⟩ = some (.int .i64 z)) (by kernel_rfl) ⟨co, cx⟩ (fun hHeld => ?_)
          refine takeH (i := 0) (d := some 71) (v := ?_) rfl rfl (by kernel_rfl) (by kernel_rfl) (by kernel_rfl) (fun _ _ _ h => h) (by rfl) ?_ (by assumption) ?_
          rotate_left
          · intro w hSw; (try dsimp only at hSw); (try have l0 := hSw.1; have l1 := hSw.2; go_simp); (try with_reducible rfl)
          try simp only [Act.put, List.setIfInBounds_toArray, List.set_cons_zero, List.set_cons_succ]
          refine takeH (i := 1) (d := some 72) (v := ?_) rfl rfl (by kernel_rfl) (by kernel_rfl) (by kernel_rfl) (fun _ _ _ h => h) (by rfl) ?_ (by assumption) ?_
          rotate_left
          · intro w hSw; (try dsimp only at hSw); (try have l0 := hSw.1; have l1 := hSw.2; go_simp); (try with_reducible rfl)
          try simp only [Act.put, List.setIfInBounds_toArray, List.set_cons_zero, List.set_cons_succ]
          refine takeH (i := 2) (d := some 73) (v := ?_) rfl rfl (by kernel_rfl) (by kernel_rfl) (by kernel_rfl) (fun _ _ _ h => h) (by rfl) ?_ (by assumption) ?_
          rotate_left
          · intro w hSw; (try dsimp only at hSw); (try have l0 := hSw.1; have l1 := hSw.2; go_simp); (try with_reducible rfl)
          try simp only [Act.put, List.setIfInBounds_toArray, List.set_cons_zero, List.set_cons_succ]
          refine takeH (i := 3) (d := some 74) (v := ?_) rfl rfl (by kernel_rfl) (by kernel_rfl) (by kernel_rfl) (fun _ _ _ h => h) (by rfl) ?_ (by assumption) ?_
          rotate_left
          · intro w hSw; (try dsimp only at hSw); (try have l0 := hSw.1; have l1 := hSw.2; go_simp; try simp only [hg1, hg2]); (try with_reducible rfl)
          try simp only [Act.put, List.setIfInBounds_toArray, List.set_cons_zero, List.set_cons_succ]
          refine takeH (i := 4) (d := some 75) (v := ?_) rfl rfl (by kernel_rfl) (by kernel_rfl) (by kernel_rfl) (fun _ _ _ h => h) (by rfl) ?_ (by assumption) ?_
          rotate_left
          · intro w hSw; (try dsimp only at hSw); (try have l0 := hSw.1; have l1 := hSw.2; go_simp; try simp only [hg1, hg2]); (try with_reducible rfl)
          try simp only [Act.put, List.setIfInBounds_toArray, List.set_cons_zero, List.set_cons_succ]
          refine takeH (i := 5) (d := some 76) (v := ?_) rfl rfl (by kernel_rfl) (by kernel_rfl) (by kernel_rfl) (fun _ _ _ h => h) (by rfl) ?_ (by assumption) ?_
          rotate_left
          · intro w hSw; (try dsimp only at hSw); (try have l0 := hSw.1; have l1 := hSw.2; go_simp); (try with_reducible rfl)
          try simp only [Act.put, List.setIfInBounds_toArray, List.set_cons_zero, List.set_cons_succ]
          refine takeH (i := 6) (d := some 77) (v := ?_) rfl rfl (by kernel_rfl) (by kernel_rfl) (by kernel_rfl) (fun _ _ _ h => h) (by rfl) ?_ (by assumption) ?_
          rotate_left
          · intro w hSw; (try dsimp only at hSw); (try have l0 := hSw.1; have l1 := hSw.2; go_simp); (try with_reducible rfl)
          try simp only [Act.put, List.setIfInBounds_toArray, List.set_cons_zero, List.set_cons_succ]
          refine takeH (i := 7) (d := some 78) (v := ?_) rfl rfl (by kernel_rfl) (by kernel_rfl) (by kernel_rfl) (fun _ _ _ h => h) (by rfl) ?_ (by assumption) ?_
          rotate_left
          · intro w hSw; (try dsimp only at hSw); (try have l0 := hSw.1; have l1 := hSw.2; go_simp); (try with_reducible rfl)
          try simp only [Act.put, List.setIfInBounds_toArray, List.set_cons_zero, List.set_cons_succ]
          refine takeH (i := 8) (d := some 79) (v := ?_) rfl rfl (by kernel_rfl) (by kernel_rfl) (by kernel_rfl) (fun _ _ _ h => h) (by rfl) ?_ (by assumption) ?_
          rotate_left
          · intro w hSw; (try dsimp only at hSw); (try have l0 := hSw.1; have l1 := hSw.2; go_simp); (try with_reducible rfl)
          try simp only [Act.put, List.setIfInBounds_toArray, List.set_cons_zero, List.set_cons_succ]
          refine takeH (i := 9) (d := some 80) (v := ?_) rfl rfl (by kernel_rfl) (by kernel_rfl) (by kernel_rfl) (fun _ _ _ h => h) (by rfl) ?_ (by assumption) ?_
          rotate_left
          · intro w hSw; (try dsimp only at hSw); (try have l0 := hSw.1; have l1 := hSw.2; go_simp); (try with_reducible rfl)
          try simp only [Act.put, List.setIfInBounds_toArray, List.set_cons_zero, List.set_cons_succ]
          refine takeH (i := 10) (d := some 81) (v := ?_) rfl rfl (by kernel_rfl) (by kernel_rfl) (by kernel_rfl) (fun _ _ _ h => h) (by rfl) ?_ (by assumption) ?_
          rotate_left
          · intro w hSw; (try dsimp only at hSw); (try have l0 := hSw.1; have l1 := hSw.2; go_simp); (try with_reducible rfl)
          try simp only [Act.put, List.setIfInBounds_toArray, List.set_cons_zero, List.set_cons_succ]
          refine takeH (i := 11) (d := some 82) (v := ?_) rfl rfl (by kernel_rfl) (by kernel_rfl) (by kernel_rfl) (fun _ _ _ h => h) (by rfl) ?_ (by assumption) ?_
          rotate_left
          · intro w hSw; (try dsimp only at hSw); (try have l0 := hSw.1; have l1 := hSw.2; go_simp); (try with_reducible rfl)
          try simp only [Act.put, List.setIfInBounds_toArray, List.set_cons_zero, List.set_cons_succ]
          refine takeH (i := 12) (d := some 83) (v := ?_) rfl rfl (by kernel_rfl) (by kernel_rfl) (by kernel_rfl) (fun _ _ _ h => h) (by rfl) ?_ (by assumption) ?_
          rotate_left
          · intro w hSw; (try dsimp only at hSw); (try have l0 := hSw.1; have l1 := hSw.2; go_simp); (try with_reducible rfl)
          try simp only [Act.put, List.setIfInBounds_toArray, List.set_cons_zero, List.set_cons_succ]
          refine takeH (i := 13) (d := some 84) (v := ?_) rfl rfl (by kernel_rfl) (by kernel_rfl) (by kernel_rfl) (fun _ _ _ h => h) (by rfl) ?_ (by assumption) ?_
          rotate_left
          · intro w hSw; (try dsimp only at hSw); (try have l0 := hSw.1; have l1 := hSw.2; go_simp); (try with_reducible rfl)
          try simp only [Act.put, List.setIfInBounds_toArray, List.set_cons_zero, List.set_cons_succ]
          refine takeH (i := 14) (d := some 85) (v := ?_) rfl rfl (by kernel_rfl) (by kernel_rfl) (by kernel_rfl) (fun _ _ _ h => h) (by rfl) ?_ (by assumption) ?_
          rotate_left
          · intro w hSw; (try dsimp only at hSw); (try have l0 := hSw.1; have l1 := hSw.2; go_simp); (try with_reducible rfl)
          try simp only [Act.put, List.setIfInBounds_toArray, List.set_cons_zero, List.set_cons_succ]
          refine wpAnyH_done (by kernel_rfl) ?_ _
          have E2 := Lib.hid (HE.out.trans (Ext.refl wr).drew)
          clear hHeld co cx
          go_wp2_with fail
          go_roundw
          case rel => exact ⟨j + 1, by omega, by go_num, E2.out⟩
          case measure => simp [intOf]; omega
        · have e : j = xs.length := by omega
          subst e
          have F8 := Lib.hid (F7.out.trans hE)
          by_cases hq : xs.length = out.length
          · have HQ := Lib.hid hq
            have hq1 : ((xs.length : Int) == (out.length : Int)) = true := by rw [hq]; simp
            clear hq
            go_wp2
            go_ret
            exact ⟨rfl, F8.out⟩
          · have hq1 : ((xs.length : Int) == (out.length : Int)) = false := beq_eq_false_iff_ne.2 (by omega)
            have hlo : xs.length < out.length := by omega
            have hr0 : 0 < rs.length := by have := HSum.out; omega
            have he : out[xs.length] = rs[0] := by simp only [HS.out]; rw [List.getElem_append_right (Nat.le_refl _)]; simp
            have hz : (k : Int) ≤ rs[0] := HG.out _ (List.getElem_mem hr0)
            obtain ⟨gb, go, hoe, ho⟩ := (O7.out.ext hE).at (by omega)
            subst hoe
            have co := ho xs.length hlo
            rw [he] at co
            generalize rs[0] = z at co hz
            have b0 : (0 : Int) ≤ (xs.length : Int) := by omega
            have b2 : (xs.length : Int) < (out.length : Int) := by omega
            clear ho he hE hq
            go_wp2
            go_ret
            exact ⟨by simp; rw [EK.out]; exact hz, F8.out⟩

theorem own : ownKnob Try.prog.godebug = none := by kernel_rfl
theorem laidOut : laidOutB Try.prog = true := by kernel_rfl

set_option maxRecDepth 100000 in
theorem lifted (os : Os) (started : os.Started) (H : Type) (enc : TypeId × Value → H) :
    ReturnsInHanded {} Try.checked os 11 .any (Rows.fnBrokenPartSpec.pre6 enc Try.prog Try.f11 Rows.fnBrokenPartRow.domain false) (Rows.fnBrokenPartSpec.post enc Try.prog Try.f11 false true false false) := by
  refine returnsInHanded_of_change (C := Try.checked) own started (by kernel_rfl) Try.func11
    (ChangeSpec.witness6 (enc := enc) (C := Try.checked) false ⟨#[], #[.slice none 0 0, .slice none 0 0], []⟩ 8 (by kernel_rfl) (by kernel_rfl) (by kernel_rfl) (by kernel_rfl)) ?_
  intro W base args ds gs before hval0 hW hcnd _
  have hval : ∀ (j : Nat) t v, Try.f11.params[j]? = some t → args[j]? = some v → Value.okWide Try.prog W .any base t v := hval0
  have hW' := hW
  obtain ⟨p, q, hA0, hV, rfl, hfz, hnd⟩ := hW
  have hA : DataW.TrodAll enc Try.prog W 0 (fun _ => true) true Try.f11.params.toList args.toList ds p := hA0
  rw [Try.params11] at hA hval
  obtain ⟨v0, vs0, d0, ds0, p0, q0, hargs, rfl, rfl, h0, r0⟩ := trodAll_cons hA
  obtain ⟨v1, vs1, d1, ds1, p1, q1, rfl, rfl, rfl, h1, r1⟩ := trodAll_cons r0
  obtain ⟨rfl, rfl, rfl⟩ := trodAll_nil r1
  obtain rfl : args = #[v0, v1] := by cases args; simp_all
  obtain ⟨rfl, rfl⟩ := trodVars_none hV
  have lt0 : ∀ x ∈ p0, x.block < W.heap.size := by obtain ⟨m, hm⟩ := h0; exact DataW.trod_lt m _ _ _ hm
  have lt1 : ∀ x ∈ p1, x.block < W.heap.size := by obtain ⟨m, hm⟩ := h1; exact DataW.trod_lt m _ _ _ hm
  obtain ⟨x0, e0⟩ := argCode_of h0 (okWide_slice Try.underlying34 (hval 0 34 v0 rfl rfl))
  obtain ⟨x1, e1⟩ := argCode_of h1 (okWide_slice Try.underlying34 (hval 1 34 v1 rfl rfl))
  clear hA0 hval0
  refine (walk v0 v1 x0 x1 W e0 e1).mono fun e W' ⟨he, bel⟩ => ?_
  subst he
  exact ⟨_, rfl, _, _, _, [], _, [], hW', trodAll_mk1 (shut_bool Try.underlying4 _), (trodAll_cons_mk (Below.trod laidOut (by kernel_rfl) (of_decide_eq_true (by kernel_rfl)) h0 bel lt0) (trodAll_cons_mk (Below.trod laidOut (by kernel_rfl) (of_decide_eq_true (by kernel_rfl)) h1 bel lt1) trodAll_mk0)), rfl, Below.frame bel _, fun h => by cases h⟩

theorem closed : joinedFacts Try.prog 11 Try.f11 Rows.fnBrokenPartSpec Rows.fnBrokenPartRow = true := by
  unfold joinedFacts
  rw [may_enter, lifts_final, make_cut]
  kernel_rfl

theorem proved : Rows.FnBrokenPartSaid :=
  OpenClaim.holds_of_wide 11 Try.f11 rfl rfl rfl rfl rfl rfl rfl ⟨rfl, rfl, rfl, rfl, rfl⟩ rfl rfl rfl rfl rfl (by kernel_rfl) Try.func11 closed
    (of_decide_eq_true (by kernel_rfl)) (by unfold Func.isWrapper; first | (rw [if_pos (by decide +kernel)]; kernel_rfl) | (rw [if_neg (by decide +kernel)]; exact ⟨rfl, rfl⟩))
    (fun os started H enc _ => lifted os started H enc)

end Go.Proofs.Ytcijbpjiioodlaa.l49
