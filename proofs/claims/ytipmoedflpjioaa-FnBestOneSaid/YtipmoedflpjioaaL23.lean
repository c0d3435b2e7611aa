/- The law FnBestOne: whatever the code, a task alone has a node. No condition. -/
import Derived.Test.YtipmoedflpjioaaS14
import Derived.Test.YtipmoedflpjioaaLim
import Derived.Test.YtipmoedflpjioaaDr9
import Derived.Test.YtipmoedflpjioaaSame2
import Derived.Test.YtipmoedflpjioaaP3
import Derived.Test.YtipmoedflpjioaaHead
import Derived.OpenShut
import Derived.ChangeOld
namespace Go.Proofs.Ytipmoedflpjioaa.l23
set_option maxRecDepth 100000
open Go.RowKit Go.ChangeShapes Go.WideShapes Go.ChangeAt

set_option maxHeartbeats 4000000 in
theorem walk (v u : Value) (n m : Nat) (w : World) (h : ArgCode w v n) (k : ArgCode w u m) :
    Calls Try.prog 4 #[v, u] w fun e w' => e = .returned (.bool true) ∧ Ext w w' := by
  have h2 := h
  obtain ⟨_, ac, cc, rfl, -⟩ := h2
  have k2 := k
  obtain ⟨_, am, cm, rfl, -⟩ := k2
  clear k
  by_cases hbig : 1048576 < n
  · go_enter Try.func4, Try.ntmps4
    go_wp2
    go_ret
    exact ⟨rfl, Ext.refl _⟩
  have hsm : n ≤ 1048576 := by omega
  clear hbig
  by_cases hbig : 1048576 < m
  · go_enter Try.func4, Try.ntmps4
    go_wp2
    go_ret
    exact ⟨rfl, Ext.refl _⟩
  have hsm2 : m ≤ 1048576 := by omega
  clear hbig
  go_enter Try.func4, Try.ntmps4
  go_wp2_with fail
  refine (DrawBestAll_any _ _ _ h).mono ?_
  rintro e w1 ⟨vr, vt, room, ts, rfl, hd, E1⟩
  have Hd1 := Lib.hid hd
  obtain ⟨ra, rc, hvr, -⟩ := hd.1.open
  obtain ⟨ta, tc, hvt, htc⟩ := hd.2.2.2.2
  subst hvr hvt
  have F1 := Lib.hid E1
  clear hd E1 h
  have hl20 : ts.length ≤ 20 := Hd1.out.2.2.2.1
  have Htc := Lib.hid htc
  clear htc
  have HL := Lib.hid (bestAllL_lim room ts)
  go_wp2_with fail
  refine (BestAll_any _ _ room ts _ Hd1.out.1 Hd1.out.2.1).mono ?_
  rintro e w2 ⟨oa, oc, rfl, hE, hN⟩
  have O2 := Lib.hid (hN.upto.bins HL.out)
  have Hoc := Lib.hid hN.cap
  have Hd2 := Lib.hid (Hd1.out.ext hE)
  have F2 := Lib.hid (F1.out.trans hE)
  clear hE hN Hd1 F1
  go_wp2_with fail
  refine (sBestAll_any _ _ room ts _ Hd2.out.1 Hd2.out.2.1).mono ?_
  rintro e w3 ⟨wa, wc, rfl, hE, hB⟩
  have W3 := Lib.hid hB
  have O3 := Lib.hid (O2.out.ext hE)
  have Hd3 := Lib.hid (Hd2.out.ext hE)
  have F3 := Lib.hid (F2.out.trans hE)
  clear hE hB Hd2 F2 O2
  go_wp2_with fail
  refine (sameBins_any _ _ _ _ _ O3.out W3.out).mono ?_
  rintro e w4 ⟨rfl, hE⟩
  have W4 := Lib.hid (W3.out.ext hE)
  have O4 := Lib.hid (O3.out.ext hE)
  have Hd4 := Lib.hid (Hd3.out.ext hE)
  have F4 := Lib.hid (F3.out.trans hE)
  clear hE Hd3 F3 O3 W3
  rw [sameBs_iff.2 rfl]
  go_wp2_with fail
  have cc := sTasksValid_ext _ _ room ts _ Hd4.out.1 Hd4.out.2.1
  cases hb : tasksB room ts with
  | false =>
    rw [hb] at cc
    refine cc.mono ?_
    clear cc
    rintro e w5 ⟨rfl, hE⟩
    have W5 := Lib.hid (W4.out.ext hE)
    have O5 := Lib.hid (O4.out.ext hE)
    have F5 := Lib.hid (F4.out.trans hE)
    clear hE
    go_wp2_with fail
    refine (sameBins_any _ _ _ _ _ O5.out W5.out).mono ?_
    rintro e w6 ⟨rfl, hE⟩
    have F := F5.out.trans hE
    rw [sameBs_iff.2 rfl]
    go_wp2
    go_ret
    exact ⟨rfl, F⟩
  | true =>
    rw [hb] at cc
    have HT := Lib.hid (tasksB_iff.1 hb)
    have HB := Lib.hid (show bestAllL room ts = allL (best12 room) ts by simp [bestAllL, hb])
    clear hb
    refine cc.mono ?_
    clear cc
    rintro e w5 ⟨rfl, hE⟩
    have W5 := Lib.hid (W4.out.ext hE)
    have O5 := Lib.hid (O4.out.ext hE)
    have Hd5 := Lib.hid (Hd4.out.ext hE)
    have F5 := Lib.hid (F4.out.trans hE)
    clear hE W4 O4 Hd4 F4
    clear HB HL Hoc
    by_cases h0 : ts.length = 0
    · have hz : (((ts.length : Nat) : Int) == 0) = true := by simp [h0]
      have H0 := Lib.hid h0
      clear h0
      go_wp2_with fail
      refine (sameBins_any _ _ _ _ _ O5.out W5.out).mono ?_
      rintro e w6 ⟨rfl, hE⟩
      have F := F5.out.trans hE
      rw [sameBs_iff.2 rfl]
      go_wp2
      go_ret
      exact ⟨rfl, F⟩
    · have hz : (((ts.length : Nat) : Int) == 0) = false := beq_eq_false_iff_ne.2 (by omega)
      obtain ⟨k, hk⟩ : ∃ k, k = m % ts.length := ⟨_, rfl⟩
      have hkl : k < ts.length := by rw [hk]; exact Nat.mod_lt _ (by omega)
      have e1 : (m : Int) % (ts.length : Int) = (k : Int) := by rw [hk, Int.natCast_emod]
      have HS := Lib.hid (best_one HT.out (List.getElem_mem hkl))
      have r1 : IntKind.i64.wrap ((k : Int) + 1) = (k : Int) + 1 := IntWalk.i64_in _ (by omega)
      have r2 : ((k : Int) + 1).toNat = k + 1 := by omega
      have hcq : ¬ tc = k := by have := Htc.out; omega
      obtain ⟨b, off, nd, he, c0, c1, hn⟩ := Hd5.out.2.1.at hkl
      subst he
      obtain ⟨na, nc, rfl, hn'⟩ := hn.open
      have Hn := Lib.hid hn'
      have Tq := Lib.hid (Hd5.out.2.1.one hkl (tc - k))
      have KS := Lib.hid (show ∀ w', Ext w5 w' → w'.cell? ⟨b, off + k * 2, none⟩ = some (.int .i64 ts[k].id) ∧ w'.cell? ⟨b, off + k * 2 + 1, none⟩ = some (.slice na ts[k].need.length nc) from fun w' h => ⟨h.cell c0, h.cell c1⟩)
      have i0 : (0 : Int) ≤ (k : Int) := by omega
      have i1 : (k : Int) < (ts.length : Int) := by omega
      have i2 : (k : Int) ≤ (k : Int) + 1 := by omega
      have i3 : (k : Int) + 1 ≤ (tc : Int) := by have := Htc.out; omega
      have i4 : (0 : Int) ≤ (k : Int) + 1 := by omega
      clear h0 hn hn' c0 c1 W5 hk O5
      go_wp2_with fail
      try rw [e1]
      go_region_held3 (fun w' => w'.cell? ⟨b, off + k * 2, none⟩ = some (.int .i64 ts[k].id) ∧ w'.cell? ⟨b, off + k * 2 + 1, none⟩ = some (.slice na ts[k].need.length nc))
        (first | exact KS.out _ (Ext.refl w5).drew | exact KS.out _ ((Ext.refl w5).alloc _).drew | exact KS.out _ (((Ext.refl w5).alloc _).alloc _).drew | exact KS.out _ E8.out | exact KS.out _ E6.out | exact KS.out _ (E6.out.alloc _) | exact KS.out _ ((E6.out.alloc _).alloc _) | fail)
        ((first
          | (go_at_call 26; refine (BestAll_any _ _ room [ts[k]] _ (Hd5.out.1.ext (Ext.refl w5).drew) (Tq.out.ext (Ext.refl w5).drew)).mono ?_; rintro e w6 ⟨xa, xc, rfl, hE, hN⟩; have E6 := Lib.hid (Ext.trans (Ext.refl w5).drew hE); have EC := Lib.hid hE; have X6 := Lib.hid (hN.upto.bins (bestAllL_lim room [ts[k]])); clear hE hN)
          | (go_at_call 26; refine (BestAll_any _ _ room [ts[k]] _ (Hd5.out.1.ext ((Ext.refl w5).alloc (.cells #[.int .i64 ts[k].id, .slice na ts[k].need.length nc] 38)).drew) (Tq.out.ext ((Ext.refl w5).alloc (.cells #[.int .i64 ts[k].id, .slice na ts[k].need.length nc] 38)).drew)).mono ?_; rintro e w6 ⟨xa, xc, rfl, hE, hN⟩; have E6 := Lib.hid (Ext.trans ((Ext.refl w5).alloc (.cells #[.int .i64 ts[k].id, .slice na ts[k].need.length nc] 38)).drew hE); have EC := Lib.hid hE; have X6 := Lib.hid (hN.upto.bins (bestAllL_lim room [ts[k]])); clear hE hN)
          | (go_at_call 26; refine (BestAll_any _ _ room [ts[k]] _ (Hd5.out.1.ext (((Ext.refl w5).alloc (.cells #[.int .i64 ts[k].id, .slice na ts[k].need.length nc] 38)).alloc (.cells #[.slice (some ⟨w5.heap.size, 0, none⟩) 1 1] 27)).drew) (Tq.out.ext (((Ext.refl w5).alloc (.cells #[.int .i64 ts[k].id, .slice na ts[k].need.length nc] 38)).alloc (.cells #[.slice (some ⟨w5.heap.size, 0, none⟩) 1 1] 27)).drew)).mono ?_; rintro e w6 ⟨xa, xc, rfl, hE, hN⟩; have E6 := Lib.hid (Ext.trans (((Ext.refl w5).alloc (.cells #[.int .i64 ts[k].id, .slice na ts[k].need.length nc] 38)).alloc (.cells #[.slice (some ⟨w5.heap.size, 0, none⟩) 1 1] 27)).drew hE); have EC := Lib.hid hE; have X6 := Lib.hid (hN.upto.bins (bestAllL_lim room [ts[k]])); clear hE hN)
          | (go_at_call 28; refine (sameBins_any _ _ _ [[ts[k]]] _ X6.out (((Bins.drew (Bins.lit1' (Tasks.lit1 Hn.out 1) 1 (w5.heap.size + 1) (by simp))).ext EC.out))).mono ?_; rintro e w8 ⟨rfl, hE⟩; have E8 := Lib.hid (Ext.trans E6.out hE); clear hE)
          | (go_at_call 28; refine (sameBins_any _ _ _ [[ts[k]]] _ (X6.out.ext ((Ext.refl w6).alloc _)) (Bins.lit1 ((Tasks.lit1 Hn.out 1).drew.ext EC.out) 1)).mono ?_; rintro e w8 ⟨rfl, hE⟩; have E8 := Lib.hid (Ext.trans (E6.out.alloc (.cells #[.slice (some ⟨w5.heap.size, 0, none⟩) 1 1] 27)) hE); clear hE)
          | (go_at_call 28; refine (sameBins_any _ _ _ [[ts[k]]] _ (X6.out.ext (((Ext.refl w6).alloc _).alloc _)) (Bins.lit1' (Tasks.lit1 (Hn.out.ext E6.out) 1) 1 (w6.heap.size + 1) (by simp))).mono ?_; rintro e w8 ⟨rfl, hE⟩; have E8 := Lib.hid (Ext.trans ((E6.out.alloc (.cells #[.int .i64 ts[k].id, .slice na ts[k].need.length nc] 38)).alloc (.cells #[.slice (some ⟨w6.heap.size, 0, none⟩) 1 1] 27)) hE); clear hE)
          | fail))
      all_goals
        have F := F5.out.trans E8.out
        rw [HS.out, sameBs_iff.2 rfl]
        go_wp2
        go_ret
        exact ⟨rfl, F⟩

theorem own : ownKnob Try.prog.godebug = none := by kernel_rfl
theorem laidOut : laidOutB Try.prog = true := by kernel_rfl

set_option maxRecDepth 100000 in
theorem lifted (os : Os) (started : os.Started) (H : Type) (enc : TypeId × Value → H) :
    ReturnsInHanded {} Try.checked os 4 .any (Rows.fnBestOneSpec.pre6 enc Try.prog Try.f4 Rows.fnBestOneRow.domain false) (Rows.fnBestOneSpec.post enc Try.prog Try.f4 false true false false) := by
  refine returnsInHanded_of_change (C := Try.checked) own started (by kernel_rfl) Try.func4
    (ChangeSpec.witness6 (enc := enc) (C := Try.checked) false ⟨#[], #[.slice none 0 0, .slice none 0 0], []⟩ 8 (by kernel_rfl) (by kernel_rfl) (by kernel_rfl) (by kernel_rfl)) ?_
  intro W base args ds gs before hval0 hW hcnd _
  have hval : ∀ (j : Nat) t v, Try.f4.params[j]? = some t → args[j]? = some v → Value.okWide Try.prog W .any base t v := hval0
  have hW' := hW
  obtain ⟨p, q, hA0, hV, rfl, hfz, hnd⟩ := hW
  have hA : DataW.TrodAll enc Try.prog W 0 (fun _ => true) true Try.f4.params.toList args.toList ds p := hA0
  rw [Try.params4] at hA hval
  obtain ⟨v0, vs0, d0, ds0, p0, q0, hargs, rfl, rfl, h0, r0⟩ := trodAll_cons hA
  obtain ⟨v1, vs1, d1, ds1, p1, q1, rfl, rfl, rfl, h1, r1⟩ := trodAll_cons r0
  obtain ⟨rfl, rfl, rfl⟩ := trodAll_nil r1
  obtain rfl : args = #[v0, v1] := by cases args; simp_all
  obtain ⟨rfl, rfl⟩ := trodVars_none hV
  have lt0 : ∀ x ∈ p0, x.block < W.heap.size := by obtain ⟨m, hm⟩ := h0; exact DataW.trod_lt m _ _ _ hm
  have lt1 : ∀ x ∈ p1, x.block < W.heap.size := by obtain ⟨m, hm⟩ := h1; exact DataW.trod_lt m _ _ _ hm
  obtain ⟨x0, e0⟩ := argCode_of h0 (okWide_slice Try.underlying22 (hval 0 22 v0 rfl rfl))
  obtain ⟨x1, e1⟩ := argCode_of h1 (okWide_slice Try.underlying22 (hval 1 22 v1 rfl rfl))
  clear hA0 hval0
  refine (walk v0 v1 x0 x1 W e0 e1).mono fun e W' ⟨he, bel⟩ => ?_
  subst he
  exact ⟨_, rfl, _, _, _, [], _, [], hW', trodAll_mk1 (shut_bool Try.underlying4 _), (trodAll_cons_mk (Below.trod laidOut (by kernel_rfl) (of_decide_eq_true (by kernel_rfl)) h0 bel lt0) (trodAll_cons_mk (Below.trod laidOut (by kernel_rfl) (of_decide_eq_true (by kernel_rfl)) h1 bel lt1) trodAll_mk0)), rfl, Below.frame bel _, fun h => by cases h⟩

theorem closed : joinedFacts Try.prog 4 Try.f4 Rows.fnBestOneSpec Rows.fnBestOneRow = true := by
  unfold joinedFacts
  rw [may_enter, lifts_final, make_cut]
  kernel_rfl

theorem proved : Rows.FnBestOneSaid :=
  OpenClaim.holds_of_wide 4 Try.f4 rfl rfl rfl rfl rfl rfl rfl ⟨rfl, rfl, rfl, rfl, rfl⟩ rfl rfl rfl rfl rfl (by kernel_rfl) Try.func4 closed
    (of_decide_eq_true (by kernel_rfl)) (by unfold Func.isWrapper; first | (rw [if_pos (by decide +kernel)]; kernel_rfl) | (rw [if_neg (by decide +kernel)]; exact ⟨rfl, rfl⟩))
    (fun os started H enc _ => lifted os started H enc)

end Go.Proofs.Ytipmoedflpjioaa.l23
