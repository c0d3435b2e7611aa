/- The law FnBestAllStep: whatever the code, best fit puts the last task where it fits best among what it made of the others. No condition. -/
import Derived.Test.YtipmoedflpjioaaS14
import Derived.Test.YtipmoedflpjioaaLim
import Derived.Test.YtipmoedflpjioaaDr9
import Derived.Test.YtipmoedflpjioaaSame2
import Derived.Test.YtipmoedflpjioaaP3
import Derived.Test.YtipmoedflpjioaaPut
import Derived.Test.YtipmoedflpjioaaHead
import Derived.OpenShut
import Derived.ChangeOld
namespace Go.Proofs.Ytipmoedflpjioaa.l48
set_option maxRecDepth 100000
open Go.RowKit Go.ChangeShapes Go.WideShapes Go.ChangeAt

set_option maxHeartbeats 4000000 in
theorem walk (v : Value) (n : Nat) (w : World) (h : ArgCode w v n) :
    Calls Try.prog 17 #[v] w fun e w' => e = .returned (.bool true) ∧ Ext w w' := by
  have h2 := h
  obtain ⟨_, ac, cc, rfl, -⟩ := h2
  by_cases hbig : 1048576 < n
  · go_enter Try.func17, Try.ntmps17
    go_wp2
    go_ret
    exact ⟨rfl, Ext.refl _⟩
  have hsm : n ≤ 1048576 := by omega
  clear hbig
  go_enter Try.func17, Try.ntmps17
  go_wp2_with fail
  refine (DrawBestAll_any _ _ _ h).mono ?_
  rintro e w1 ⟨vr, vt, room, ts, rfl, hd, E1⟩
  have Hd1 := Lib.hid hd
  obtain ⟨ra, rc, hvr, -⟩ := hd.1.open
  obtain ⟨ta, tc, hvt, htc⟩ := hd.2.2.2.2
  subst hvr hvt
  have F1 := Lib.hid E1
  clear hd E1 h
  have hl20 : ts.length ≤ 20 := Hd1.out.2.2.2.1
  have Htc := Lib.hid htc
  clear htc
  have HL := Lib.hid (bestAllL_lim room ts)
  go_wp2_with fail
  refine (BestAll_any _ _ room ts _ Hd1.out.1 Hd1.out.2.1).mono ?_
  rintro e w2 ⟨oa, oc, rfl, hE, hN⟩
  have O2 := Lib.hid (hN.upto.bins HL.out)
  have Hoc := Lib.hid hN.cap
  have Hd2 := Lib.hid (Hd1.out.ext hE)
  have F2 := Lib.hid (F1.out.trans hE)
  clear hE hN Hd1 F1
  go_wp2_with fail
  refine (sBestAll_any _ _ room ts _ Hd2.out.1 Hd2.out.2.1).mono ?_
  rintro e w3 ⟨wa, wc, rfl, hE, hB⟩
  have W3 := Lib.hid hB
  have O3 := Lib.hid (O2.out.ext hE)
  have Hd3 := Lib.hid (Hd2.out.ext hE)
  have F3 := Lib.hid (F2.out.trans hE)
  clear hE hB Hd2 F2 O2
  go_wp2_with fail
  refine (sameBins_any _ _ _ _ _ O3.out W3.out).mono ?_
  rintro e w4 ⟨rfl, hE⟩
  have W4 := Lib.hid (W3.out.ext hE)
  have O4 := Lib.hid (O3.out.ext hE)
  have Hd4 := Lib.hid (Hd3.out.ext hE)
  have F4 := Lib.hid (F3.out.trans hE)
  clear hE Hd3 F3 O3 W3
  rw [sameBs_iff.2 rfl]
  go_wp2_with fail
  have cc := sTasksValid_ext _ _ room ts _ Hd4.out.1 Hd4.out.2.1
  cases hb : tasksB room ts with
  | false =>
    rw [hb] at cc
    refine cc.mono ?_
    clear cc
    rintro e w5 ⟨rfl, hE⟩
    have W5 := Lib.hid (W4.out.ext hE)
    have O5 := Lib.hid (O4.out.ext hE)
    have F5 := Lib.hid (F4.out.trans hE)
    clear hE
    go_wp2_with fail
    refine (sameBins_any _ _ _ _ _ O5.out W5.out).mono ?_
    rintro e w6 ⟨rfl, hE⟩
    have F := F5.out.trans hE
    rw [sameBs_iff.2 rfl]
    go_wp2
    go_ret
    exact ⟨rfl, F⟩
  | true =>
    rw [hb] at cc
    have HT := Lib.hid (tasksB_iff.1 hb)
    have HB := Lib.hid (show bestAllL room ts = allL (best12 room) ts by simp [bestAllL, hb])
    clear hb
    refine cc.mono ?_
    clear cc
    rintro e w5 ⟨rfl, hE⟩
    have W5 := Lib.hid (W4.out.ext hE)
    have O5 := Lib.hid (O4.out.ext hE)
    have Hd5 := Lib.hid (Hd4.out.ext hE)
    have F5 := Lib.hid (F4.out.trans hE)
    clear hE W4 O4 Hd4 F4
    clear HB
    by_cases h0 : ts.length = 0
    · have hz : (((ts.length : Nat) : Int) == 0) = true := by simp [h0]
      have H0 := Lib.hid h0
      clear h0
      go_wp2_with fail
      refine (sameBins_any _ _ _ _ _ O5.out W5.out).mono ?_
      rintro e w6 ⟨rfl, hE⟩
      have F := F5.out.trans hE
      rw [sameBs_iff.2 rfl]
      go_wp2
      go_ret
      exact ⟨rfl, F⟩
    · have hz : (((ts.length : Nat) : Int) == 0) = false := beq_eq_false_iff_ne.2 (by omega)
      obtain ⟨q, hq⟩ : ∃ q, q + 1 = ts.length := ⟨ts.length - 1, by omega⟩
      have hql : q < ts.length := by omega
      have HS := Lib.hid (best_step HT.out hq (List.getElem?_eq_getElem hql))
      have hok := Lib.hid (best_ok (show TasksOk room (ts.take q) from tasksOk_sub (List.take_sublist q ts) HT.out))
      have e1 : (ts.length : Int) - 1 = (q : Int) := by omega
      have hcq : q ≤ tc := by have := Htc.out; omega
      have hc0 : ¬ tc = 0 := by have := Htc.out; omega
      obtain ⟨b, off, nd, he, c0, c1, hn⟩ := Hd5.out.2.1.at hql
      subst he
      obtain ⟨na, nc, rfl, hn'⟩ := hn.open
      have Hn := Lib.hid hn'
      have Tq := Lib.hid (Hd5.out.2.1.take (show q ≤ ts.length by omega))
      have KS := Lib.hid (show ∀ w', Ext w5 w' → w'.cell? ⟨b, off + q * 2, none⟩ = some (.int .i64 ts[q].id) ∧ w'.cell? ⟨b, off + q * 2 + 1, none⟩ = some (.slice na ts[q].need.length nc) from fun w' h => ⟨h.cell c0, h.cell c1⟩)
      have hbb : b < w5.heap.size := World.block_lt_of_cell? w5 _ c0
      have HQ := Lib.hid hq
      have i0 : (0 : Int) ≤ (q : Int) := by omega
      have i1 : (q : Int) < (ts.length : Int) := by omega
      have i2 : (q : Int) ≤ (tc : Int) := by omega
      clear h0 hn hn' c0 c1 W5 hq
      go_wp2_with fail
      refine (BestAll_any _ _ room (ts.take q) _ Hd5.out.1 Tq.out).mono ?_
      rintro e w6 ⟨xa, xc, rfl, hE, hN⟩
      have X6 := Lib.hid (hN.upto.bins (bestAllL_lim room (ts.take q)))
      have E6 := Lib.hid hE
      obtain ⟨c0, c1⟩ := KS.out w6 hE
      clear hE hN
      go_wp2_with fail
      refine (BestAt_any _ _ _ room (bestAllL room (ts.take q)) ts[q] _ (Hd5.out.1.ext E6.out) X6.out (Hn.out.ext E6.out) (by have := hok.out.1.2.1; omega)).mono ?_
      rintro e w7 ⟨rfl, hE⟩
      have X7 := Lib.hid (X6.out.ext hE)
      have E7 := Lib.hid (E6.out.trans hE)
      have O7 := Lib.hid (O5.out.ext E7.out)
      have F7 := Lib.hid (F5.out.trans E7.out)
      rw [HS.out.2]
      have hstep := HS.out.1
      have hch := best12_chooses room (bestAllL room (ts.take q)) ts[q]
      have Hok2 := Lib.hid (show (bestAllL room (ts.take q)).length ≤ 14 ∧ ∀ b ∈ bestAllL room (ts.take q), b.length ≤ 14 from ⟨hok.out.2.1, fun b hb => by have := (sub_flat hb).length_le; have := hok.out.1.2.1; omega⟩)
      clear hE c0 c1 HS O5 X6 HL HT hok
      rcases hch with ⟨eb, -⟩ | ⟨k, hk, eb, -⟩
      · rw [eb] at hstep ⊢
        rw [putL_none] at hstep
        rw [hstep] at O7 Hoc ⊢
        generalize bestAllL room (ts.take q) = xs at *
        have hol : (xs ++ [[ts[q]]]).length = xs.length + 1 := by simp
        have hO8 := O7.out.take (q := xs.length) (by omega)
        rw [List.take_left] at hO8
        have O8 := Lib.hid hO8
        have hoc : xs.length ≤ oc := by have := Hoc.out; omega
        have hoc0 : ¬ oc = 0 := by have := Hoc.out; omega
        obtain ⟨ob, ooff, on, he, -, -⟩ := O7.out.at (k := xs.length) (by omega)
        subst he
        have g2 : (xs.length : Int) ≤ (oc : Int) := by omega
        have g3 : (0 : Int) ≤ (xs.length : Int) := by omega
        have hxl : xs.length ≤ 14 := Hok2.out.1
        rw [hol]
        clear Hoc hol hstep hO8 eb e1
        rw [show nodeI none = -1 from rfl]
        go_wp2_with fail
        refine (sameBins_any _ _ _ _ _ O8.out X7.out).mono ?_
        rintro e w8 ⟨rfl, hE⟩
        have F := F7.out.trans hE
        rw [sameBs_iff.2 rfl]
        go_wp2
        go_ret
        exact ⟨rfl, F⟩
      · rw [eb] at hstep ⊢
        rw [putL_some hk] at hstep
        rw [show nodeI (some k) = (k : Int) from rfl]
        have hneg : ¬ ((k : Int) < 0) := by omega
        have Hst := Lib.hid hstep
        generalize bestAllL room (ts.take q) = xs at *
        have hxl : xs.length ≤ 14 := Hok2.out.1
        obtain ⟨xb, xoff, kn, he, ck, htk⟩ := X7.out.at hk
        subst he
        obtain ⟨ka, kc, rfl, htk'⟩ := htk.open
        have Tk := Lib.hid htk'
        have CK := Lib.hid ck
        have hxb : xb < w7.heap.size := World.block_lt_of_cell? w7 _ ck
        have lk : xs[k].length ≤ 14 := Hok2.out.2 _ (List.getElem_mem hk)
        clear htk htk' ck hstep eb
        go_wp2_with (at_builtin; refine app_bins rfl _ _ rfl w7.heap.size _ [] rfl (OwnBins.lit0 w7 w7.heap.size (Nat.le_refl _)) (by simp) _ _ _ xs rfl (X7.out.ext ((Ext.refl w7).alloc _)) (by unfold lim; simp; omega) ?_; intro vy wy hown hkt hbl)
        have EY := Lib.hid (((Ext.refl w7).alloc (.cells #[] 27)).below hbl)
        rw [List.nil_append] at hown
        obtain ⟨ya, yc, rfl⟩ := OwnBins.form hown
        obtain ⟨yb, yu, hya, -, hyB, -, -⟩ := hown.at hk
        subst hya
        have HY := Lib.hid hown
        have ky0 : (0 : Int) ≤ (k : Int) := by omega
        have ky1 : (k : Int) < (xs.length : Int) := by omega
        have bw7 : w5.heap.size ≤ w7.heap.size := E7.out.le
        have hne1 : xb ≠ yb := by omega
        have hne2 : b ≠ yb := by omega
        have KY := Lib.hid (show ∀ w', Ext wy w' → w'.cell? ⟨xb, xoff + k, none⟩ = some (.slice ka xs[k].length kc) ∧ w'.cell? ⟨b, off + q * 2, none⟩ = some (.int .i64 ts[q].id) ∧ w'.cell? ⟨b, off + q * 2 + 1, none⟩ = some (.slice na ts[q].need.length nc) from fun w' h => ⟨(EY.out.trans h).cell CK.out, (KS.out w' (E7.out.trans (EY.out.trans h))).1, (KS.out w' (E7.out.trans (EY.out.trans h))).2⟩)
        have Tky := Lib.hid (Tk.out.ext EY.out)
        have Hny := Lib.hid (Hn.out.ext (E7.out.trans EY.out))
        clear hown hkt hbl
        go_wp2_with fail
        try rw [e1]
        go_region_held3 (fun w' => w'.cell? ⟨xb, xoff + k, none⟩ = some (.slice ka xs[k].length kc) ∧ w'.cell? ⟨b, off + q * 2, none⟩ = some (.int .i64 ts[q].id) ∧ w'.cell? ⟨b, off + q * 2 + 1, none⟩ = some (.slice na ts[q].need.length nc))
          (first | exact KY.out _ (Ext.refl wy).drew | exact KY.out _ ((Ext.refl wy).alloc _).drew | exact KY.out _ (((Ext.refl wy).alloc _).alloc _).drew | exact KY.out _ E8.out | exact KY.out _ (E8.out.alloc _) | exact KY.out _ E9.out | exact ⟨cell_far (KY.out _ E9.out).1 hne1, cell_far (KY.out _ E9.out).2.1 hne2, cell_far (KY.out _ E9.out).2.2 hne2⟩ | fail)
          ((first
            | (refine step_app2_tasks (by rfl) _ _ (by rfl) wy.heap.size _ [] (by rfl) (by first | exact (OwnTasks.lit0 wy wy.heap.size (Nat.le_refl _)).drew | exact ((OwnTasks.lit0 wy wy.heap.size (Nat.le_refl _)).alloc _).drew | exact (OwnTasks.lit0' (wy.alloc _) wy.heap.size (by simp) (wy.heap.size + 1) (by simp)).drew) (by simp <;> omega) _ _ _ xs[k] (by rfl) (Tky.out.ext (by first | exact ((Ext.refl wy).alloc _).drew | exact (((Ext.refl wy).alloc _).alloc _).drew)) (by unfold lim; simp; omega) ?_; intro v8 w8 hown hg hk4; have e8 : Ext wy w8 := (by first | exact ((Ext.refl wy).alloc _).drew.of_grown hg (by simp) | exact (((Ext.refl wy).alloc _).alloc _).drew.of_grown hg (by simp)); have E8 := Lib.hid e8; rw [List.nil_append] at hown; have Ho := Lib.hid hown; (first | (have LF : Hid (Tasks w8 (.slice (some ⟨wy.heap.size, 0, none⟩) 1 1) [ts[q]]) := Lib.hid (Tasks.of_heap (grown_heap (g := wy.heap.size + 1) (heap1 wy (.cells #[.int .i64 ts[q].id, .slice na ts[q].need.length nc] 38) (.cells #[] 38)) hg (by omega)) (Hny.out.ext e8))) | (have LF : Hid (Tasks w8 (.slice (some ⟨wy.heap.size + 1, 0, none⟩) 1 1) [ts[q]]) := Lib.hid (Tasks.of_heap (grown_heap (g := wy.heap.size) (heap2 wy (.cells #[] 38) (.cells #[.int .i64 ts[q].id, .slice na ts[q].need.length nc] 38)) hg (by omega)) (Hny.out.ext e8))) | skip); clear hown hg hk4 e8)
            | (refine step_app_tasks (by rfl) _ _ (by rfl) wy.heap.size _ xs[k] (by rfl) (by first | exact Ho.out | exact Ho.out.alloc _) (by first | exact E8.out.le | exact (E8.out.alloc _).le) _ _ _ [ts[q]] (by rfl) (by first | exact LF.out | exact Tasks.lit1 (Hny.out.ext E8.out) 1) (by unfold lim; simp; omega) ?_; intro v9 w9 hown hkt hbl9; have E9 := Lib.hid (show Ext wy w9 from (by first | exact Below.trans E8.out hbl9 | exact Below.trans (E8.out.alloc _) hbl9)); obtain ⟨za, zc, rfl⟩ := hown.form; have Hz := Lib.hid (hown.done (by unfold lim; simp; omega)); obtain ⟨yb', yu', hya, -, -, cy, fy⟩ := (HY.out.ext E9.out).at hk; simp only [Option.some.injEq, Addr.mk.injEq, and_true] at hya; subst hya; clear hown hkt hbl9)))
        all_goals
          have hP := (HY.out.ext E9.out).put hk Hz.out (by unfold lim; omega)
          have el : (xs[k] ++ [ts[q]]).length = xs[k].length + 1 := by simp
          try rw [el] at hP
          have HP := Lib.hid hP
          have E10 := Lib.hid ((EY.out.trans E9.out).below HP.out.2)
          have O10 := Lib.hid (O7.out.ext E10.out)
          have F10 := Lib.hid (F7.out.trans E10.out)
          clear cy fy hP
          go_wp2_with fail
          refine (sameBins_any _ _ _ _ _ O10.out HP.out.1).mono ?_
          rintro e w11 ⟨rfl, hE⟩
          have F := F10.out.trans hE
          rw [Hst.out, sameBs_iff.2 rfl]
          go_wp2
          go_ret
          exact ⟨rfl, F⟩

theorem own : ownKnob Try.prog.godebug = none := by kernel_rfl
theorem laidOut : laidOutB Try.prog = true := by kernel_rfl

set_option maxRecDepth 100000 in
theorem lifted (os : Os) (started : os.Started) (H : Type) (enc : TypeId × Value → H) :
    ReturnsInHanded {} Try.checked os 17 .any (Rows.fnBestAllStepSpec.pre6 enc Try.prog Try.f17 Rows.fnBestAllStepRow.domain false) (Rows.fnBestAllStepSpec.post enc Try.prog Try.f17 false true false false) := by
  refine returnsInHanded_of_change (C := Try.checked) own started (by kernel_rfl) Try.func17
    (ChangeSpec.witness6 (enc := enc) (C := Try.checked) false ⟨#[], #[.slice none 0 0], []⟩ 8 (by kernel_rfl) (by kernel_rfl) (by kernel_rfl) (by kernel_rfl)) ?_
  intro W base args ds gs before hval0 hW hcnd _
  have hval : ∀ (j : Nat) t v, Try.f17.params[j]? = some t → args[j]? = some v → Value.okWide Try.prog W .any base t v := hval0
  have hW' := hW
  obtain ⟨p, q, hA0, hV, rfl, hfz, hnd⟩ := hW
  have hA : DataW.TrodAll enc Try.prog W 0 (fun _ => true) true Try.f17.params.toList args.toList ds p := hA0
  rw [Try.params17] at hA hval
  obtain ⟨v0, vs0, d0, ds0, p0, q0, hargs, rfl, rfl, h0, r0⟩ := trodAll_cons hA
  obtain ⟨rfl, rfl, rfl⟩ := trodAll_nil r0
  obtain rfl : args = #[v0] := by cases args; simp_all
  obtain ⟨rfl, rfl⟩ := trodVars_none hV
  have lt0 : ∀ x ∈ p0, x.block < W.heap.size := by obtain ⟨m, hm⟩ := h0; exact DataW.trod_lt m _ _ _ hm
  obtain ⟨x0, e0⟩ := argCode_of h0 (okWide_slice Try.underlying22 (hval 0 22 v0 rfl rfl))
  clear hA0 hval0
  refine (walk v0 x0 W e0).mono fun e W' ⟨he, bel⟩ => ?_
  subst he
  exact ⟨_, rfl, _, _, _, [], _, [], hW', trodAll_mk1 (shut_bool Try.underlying4 _), (trodAll_cons_mk (Below.trod laidOut (by kernel_rfl) (of_decide_eq_true (by kernel_rfl)) h0 bel lt0) trodAll_mk0), rfl, Below.frame bel _, fun h => by cases h⟩

theorem closed : joinedFacts Try.prog 17 Try.f17 Rows.fnBestAllStepSpec Rows.fnBestAllStepRow = true := by
  unfold joinedFacts
  rw [may_enter, lifts_final, make_cut]
  kernel_rfl

theorem proved : Rows.FnBestAllStepSaid :=
  OpenClaim.holds_of_wide 17 Try.f17 rfl rfl rfl rfl rfl rfl rfl ⟨rfl, rfl, rfl, rfl, rfl⟩ rfl rfl rfl rfl rfl (by kernel_rfl) Try.func17 closed
    (of_decide_eq_true (by kernel_rfl)) (by unfold Func.isWrapper; first | (rw [if_pos (by decide +kernel)]; kernel_rfl) | (rw [if_neg (by decide +kernel)]; exact ⟨rfl, rfl⟩))
    (fun os started H enc _ => lifted os started H enc)

end Go.Proofs.Ytipmoedflpjioaa.l48
