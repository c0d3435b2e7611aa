/- The law FnBrokenAlone: whatever the code, a task alone breaks no pair. No condition. -/
import Derived.Test.YtcijbpjiioodlaaDr12
import Derived.Test.YtcijbpjiioodlaaP7
import Derived.Test.YtcijbpjiioodlaaSame
import Derived.Test.YtcijbpjiioodlaaI7
import Derived.Test.YtcijbpjiioodlaaS10
import Derived.Test.YtcijbpjiioodlaaHead
import Derived.OpenShut
import Derived.ChangeOld
namespace Go.Proofs.Ytcijbpjiioodlaa.l55
set_option maxRecDepth 100000
open Go.RowKit Go.ChangeShapes Go.WideShapes Go.ChangeAt

theorem beq_refl (xs : List Int) : (xs == xs) = true := by simp
theorem alone_step {ts : List T} {k : Nat} (h : k < ts.length) : ((ts.take (k + 1)).map fun t => [t]) = ((ts.take k).map fun t => [t]) ++ [[ts[k]]] := by
  rw [List.take_succ_eq_append_getElem h, List.map_append]; rfl
theorem alone_flat (ts : List T) : (ts.map fun t => [t]).flatten = ts := by
  induction ts with
  | nil => rfl
  | cons t ts ih => simp [ih]
theorem alone_len (ts : List T) (k : Nat) : ((ts.take k).map fun t => [t]).length ≤ ts.length := by simp; omega

set_option maxHeartbeats 4000000 in
theorem walk (v : Value) (n : Nat) (w : World) (h : ArgCode w v n) :
    Calls Try.prog 13 #[v] w fun e w' => e = .returned (.bool true) ∧ Ext w w' := by
  have h2 := h
  obtain ⟨_, ac, cc, rfl, -⟩ := h2
  by_cases hbig : 1048576 < n
  · go_enter Try.func13, Try.ntmps13
    go_wp2
    go_ret
    exact ⟨rfl, Ext.refl _⟩
  have hsm : n ≤ 1048576 := by omega
  clear hbig
  go_enter Try.func13, Try.ntmps13
  go_wp2_with fail
  refine (DrawPairsBroken_any _ _ _ h).mono ?_
  rintro e w1 ⟨vr, vb, vp, room, bs, ps, rfl, hd, E1⟩
  have Hd1 := Lib.hid hd
  obtain ⟨ra, rc, hvr, -⟩ := hd.1.1.open
  obtain ⟨ba, bc, hvb, -⟩ := hd.1.2.1.open
  obtain ⟨pa, pc, hvp, hpc⟩ := hd.2.2.2
  subst hvr hvb hvp
  have F1 := Lib.hid E1
  have hf20 : bs.flatten.length ≤ 20 := hd.1.2.2.2.2
  have hp50 : ps.length ≤ 50 := hd.2.2.1
  have Hpc := Lib.hid hpc
  have HL := Lib.hid (broken_lim room bs ps)
  clear hd E1 h hpc
  go_wp2_with fail
  refine (PairsBroken_any _ _ _ room bs ps _ Hd1.out.1.1 Hd1.out.1.2.1 Hd1.out.2.1 (by omega)).mono ?_
  rintro e w2 ⟨r0, rfl, hE, hN⟩
  have o2 := hN.own.done HL.out
  obtain ⟨oa, oc, rfl, -⟩ := o2.open
  have O2 := Lib.hid o2
  have Hd2 := Lib.hid (Hd1.out.ext hE)
  have F2 := Lib.hid (F1.out.trans hE)
  clear hE hN o2 Hd1 F1
  go_wp2_with fail
  refine (sPairsBroken_any _ _ _ room bs ps _ Hd2.out.1.1 Hd2.out.1.2.1 Hd2.out.2.1 (by omega)).mono ?_
  rintro e w3 ⟨r1, rfl, hE, hN⟩
  have o3 := hN.own.done HL.out
  obtain ⟨wa, wc, rfl, -⟩ := o3.open
  have W3 := Lib.hid o3
  have O3 := Lib.hid (O2.out.ext hE)
  have Hd3 := Lib.hid (Hd2.out.ext hE)
  have F3 := Lib.hid (F2.out.trans hE)
  clear hE hN o3 Hd2 F2 O2
  go_wp2_with fail
  refine (sameInts_any _ _ _ _ _ O3.out W3.out).mono ?_
  rintro e ws ⟨rfl, dm, rfl⟩
  have hE := (Ext.refl w3).drewN dm
  have W4 := Lib.hid (W3.out.ext hE)
  have O4 := Lib.hid (O3.out.ext hE)
  have Hd4 := Lib.hid (Hd3.out.ext hE)
  have F4 := Lib.hid (F3.out.trans hE)
  clear hE Hd3 F3 O3 W3
  rw [beq_refl]
  go_wp2_with fail
  generalize w3.drewN dm = w4 at *
  have cc := sBinsValid_any _ _ room bs _ Hd4.out.1.1 Hd4.out.1.2.1 (by omega)
  cases hb : binsB room bs with
  | false =>
    rw [hb] at cc
    refine cc.mono ?_
    clear cc
    rintro e w5 ⟨rfl, hE⟩
    have W5 := Lib.hid (W4.out.ext hE)
    have O5 := Lib.hid (O4.out.ext hE)
    have F5 := Lib.hid (F4.out.trans hE)
    clear hE
    go_wp2_with fail
    refine (sameInts_any _ _ _ _ _ O5.out W5.out).mono ?_
    rintro e ws ⟨rfl, dm, rfl⟩
    have F := F5.out.drewN dm
    rw [beq_refl]
    go_wp2
    go_ret
    exact ⟨rfl, F⟩
  | true =>
    have HB := Lib.hid hb
    rw [hb] at cc
    refine cc.mono ?_
    clear cc hb
    rintro e w5 ⟨rfl, hE⟩
    have W5 := Lib.hid (W4.out.ext hE)
    have O5 := Lib.hid (O4.out.ext hE)
    have Hd5 := Lib.hid (Hd4.out.ext hE)
    have F5 := Lib.hid (F4.out.trans hE)
    clear hE W4 O4 Hd4 F4
    go_wp2_with fail
    have cc := sPairsValid_any _ ps _ Hd5.out.2.1
    cases hb : pairsB ps with
    | false =>
      rw [hb] at cc
      refine cc.mono ?_
      clear cc
      rintro e w6 ⟨rfl, hE⟩
      have W6 := Lib.hid (W5.out.ext hE)
      have O6 := Lib.hid (O5.out.ext hE)
      have F6 := Lib.hid (F5.out.trans hE)
      clear hE
      go_wp2_with fail
      refine (sameInts_any _ _ _ _ _ O6.out W6.out).mono ?_
      rintro e ws ⟨rfl, dm, rfl⟩
      have F := F6.out.drewN dm
      rw [beq_refl]
      go_wp2
      go_ret
      exact ⟨rfl, F⟩
    | true =>
      have HP := Lib.hid hb
      rw [hb] at cc
      refine cc.mono ?_
      clear cc hb
      rintro e w6 ⟨rfl, hE⟩
      have O6 := Lib.hid (O5.out.ext hE)
      have Hd6 := Lib.hid (Hd5.out.ext hE)
      have F6 := Lib.hid (F5.out.trans hE)
      have HV := Lib.hid (brokenI_of HB.out HP.out)
      rw [HV.out] at O6 HL ⊢
      clear hE W5 O5 Hd5 F5
      clear O6 HL
      go_wp2_with fail
      have HT := Lib.hid (binsTasks_lim room bs)
      have hbt : binsTasksL room bs = bs.flatten := by unfold binsTasksL; rw [if_pos HB.out]
      have cc := BinsTasks_any _ _ room bs _ Hd6.out.1.1 Hd6.out.1.2.1 (by omega)
      rw [hbt] at cc HT
      refine cc.mono ?_
      clear cc hbt
      rintro e w7 ⟨vo, rfl, hE, ho⟩
      have t7 := ho.tasks (Nat.le_trans HT.out.1 (by unfold lim; omega)) (fun t ht => Nat.le_trans (HT.out.2 t ht) (by unfold lim; omega))
      obtain ⟨ta, tc, rfl, -⟩ := t7.open
      have T7 := Lib.hid t7
      have Hd7 := Lib.hid (Hd6.out.ext hE)
      have F7 := Lib.hid (F6.out.trans hE)
      clear hE ho t7 Hd6 F6 HT
      generalize bs.flatten = ts at *
      go_wp2_with fail
      have O8 := Lib.hid (OwnBins.lit0 w7 w7.heap.size (Nat.le_refl _))
      have X8 := Lib.hid ((Ext.refl w7).alloc (.cells #[] 36))
      go_loopw [9, 10] (fun xv iv wr => ∃ k : Nat, k ≤ ts.length ∧ iv = .int .i64 (k : Int) ∧ OwnBins wr w7.heap.size xv ((ts.take k).map fun t => [t]) ∧ Ext w7 wr) (fun _ iv _ => ts.length - (intOf iv).toNat)
      case atStart => exact ⟨0, by omega, rfl, O8.out, X8.out⟩
      case round =>
        clear O8 X8
        obtain ⟨k, hk, rfl, ho, hE⟩ := hrel
        have HE := Lib.hid hE
        have HO := Lib.hid ho
        have hle := hE.le
        have hal := alone_len ts k
        obtain ⟨xa, xc, rfl, -⟩ := (ho.done (by unfold lim; omega)).open
        clear ho
        by_cases hlt : k < ts.length
        · have b0 : (0 : Int) ≤ (k : Int) := by omega
          have b1 : (k : Int) < (ts.length : Int) := by omega
          obtain ⟨tb, tq, nd, hte, c0, c1, hn⟩ := (T7.out.ext hE).at hlt
          subst hte
          obtain ⟨na, nc, rfl, hn⟩ := hn.open
          have Hn := Lib.hid hn
          have St := Lib.hid (alone_step hlt)
          clear hn hE
          go_wp2_with (at_builtin; refine app_bins rfl _ _ rfl w7.heap.size _ ((ts.take k).map fun t => [t]) rfl ((HO.out.alloc _).alloc _) (by simp; omega) _ _ _ [[ts[k]]] rfl (Bins.lit1' (Tasks.lit1 (t := ts[k]) Hn.out 1) 1 _ (by simp)) (by unfold lim; simp <;> omega) ?_; intro v9 w9 hown hkt hbl; rw [← St.out] at hown; have O9 := Lib.hid hown; have X9 := Lib.hid ((((HE.out.alloc _).alloc _)).below hbl); clear hown hkt hbl)
          go_roundw
          case rel => exact ⟨k + 1, by omega, by go_num, O9.out, X9.out⟩
          case measure => simp [intOf]; omega
        · have e : k = ts.length := by omega
          subst e
          rw [List.take_length] at HO hal ⊢
          have Hd8 := Lib.hid (Hd7.out.ext hE)
          have F8 := Lib.hid (F7.out.trans hE)
          have fl := alone_flat ts
          have b8 := HO.out.done (by unfold lim; omega)
          rw [List.length_map] at b8 ⊢
          have B8 := Lib.hid b8
          have cc := PairsBroken_any _ _ _ room (ts.map fun t => [t]) ps _ Hd8.out.1.1 B8.out Hd8.out.2.1 (by rw [fl]; omega)
          rw [alone_none HP.out] at cc
          have CC := Lib.hid cc
          clear cc fl HO HE hE b8
          go_wp2_with fail
          refine CC.out.mono ?_
          clear CC
          rintro e w9 ⟨vr, rfl, hE, hN⟩
          obtain ⟨ga, gc, rfl, -⟩ := (hN.own.done (by simp [lim])).open
          have F9 := F8.out.trans hE
          simp only [List.length_nil]
          go_wp2
          go_ret
          exact ⟨rfl, F9⟩

theorem own : ownKnob Try.prog.godebug = none := by kernel_rfl
theorem laidOut : laidOutB Try.prog = true := by kernel_rfl

set_option maxRecDepth 100000 in
theorem lifted (os : Os) (started : os.Started) (H : Type) (enc : TypeId × Value → H) :
    ReturnsInHanded {} Try.checked os 13 .any (Rows.fnBrokenAloneSpec.pre6 enc Try.prog Try.f13 Rows.fnBrokenAloneRow.domain false) (Rows.fnBrokenAloneSpec.post enc Try.prog Try.f13 false true false false) := by
  refine returnsInHanded_of_change (C := Try.checked) own started (by kernel_rfl) Try.func13
    (ChangeSpec.witness6 (enc := enc) (C := Try.checked) false ⟨#[], #[.slice none 0 0], []⟩ 8 (by kernel_rfl) (by kernel_rfl) (by kernel_rfl) (by kernel_rfl)) ?_
  intro W base args ds gs before hval0 hW hcnd _
  have hval : ∀ (j : Nat) t v, Try.f13.params[j]? = some t → args[j]? = some v → Value.okWide Try.prog W .any base t v := hval0
  have hW' := hW
  obtain ⟨p, q, hA0, hV, rfl, hfz, hnd⟩ := hW
  have hA : DataW.TrodAll enc Try.prog W 0 (fun _ => true) true Try.f13.params.toList args.toList ds p := hA0
  rw [Try.params13] at hA hval
  obtain ⟨v0, vs0, d0, ds0, p0, q0, hargs, rfl, rfl, h0, r0⟩ := trodAll_cons hA
  obtain ⟨rfl, rfl, rfl⟩ := trodAll_nil r0
  obtain rfl : args = #[v0] := by cases args; simp_all
  obtain ⟨rfl, rfl⟩ := trodVars_none hV
  have lt0 : ∀ x ∈ p0, x.block < W.heap.size := by obtain ⟨m, hm⟩ := h0; exact DataW.trod_lt m _ _ _ hm
  obtain ⟨x0, e0⟩ := argCode_of h0 (okWide_slice Try.underlying34 (hval 0 34 v0 rfl rfl))
  clear hA0 hval0
  refine (walk v0 x0 W e0).mono fun e W' ⟨he, bel⟩ => ?_
  subst he
  exact ⟨_, rfl, _, _, _, [], _, [], hW', trodAll_mk1 (shut_bool Try.underlying4 _), (trodAll_cons_mk (Below.trod laidOut (by kernel_rfl) (of_decide_eq_true (by kernel_rfl)) h0 bel lt0) trodAll_mk0), rfl, Below.frame bel _, fun h => by cases h⟩

theorem closed : joinedFacts Try.prog 13 Try.f13 Rows.fnBrokenAloneSpec Rows.fnBrokenAloneRow = true := by
  unfold joinedFacts
  rw [may_enter, lifts_final, make_cut]
  kernel_rfl

theorem proved : Rows.FnBrokenAloneSaid :=
  OpenClaim.holds_of_wide 13 Try.f13 rfl rfl rfl rfl rfl rfl rfl ⟨rfl, rfl, rfl, rfl, rfl⟩ rfl rfl rfl rfl rfl (by kernel_rfl) Try.func13 closed
    (of_decide_eq_true (by kernel_rfl)) (by unfold Func.isWrapper; first | (rw [if_pos (by decide +kernel)]; kernel_rfl) | (rw [if_neg (by decide +kernel)]; exact ⟨rfl, rfl⟩))
    (fun os started H enc _ => lifted os started H enc)

end Go.Proofs.Ytcijbpjiioodlaa.l55
