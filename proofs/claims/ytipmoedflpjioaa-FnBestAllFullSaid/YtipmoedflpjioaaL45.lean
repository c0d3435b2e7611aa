/- The law FnBestAllFull: whatever the code, a node of best fit and the one after it do not fit one node. No condition. -/
import Derived.Test.YtipmoedflpjioaaS14
import Derived.Test.YtipmoedflpjioaaLim
import Derived.Test.YtipmoedflpjioaaDr9
import Derived.Test.YtipmoedflpjioaaSame2
import Derived.Test.YtipmoedflpjioaaP3
import Derived.Test.YtipmoedflpjioaaHead
import Derived.OpenShut
import Derived.ChangeOld
namespace Go.Proofs.Ytipmoedflpjioaa.l45
set_option maxRecDepth 100000
open Go.RowKit Go.ChangeShapes Go.WideShapes Go.ChangeAt

set_option maxHeartbeats 4000000 in
theorem walk (v u : Value) (n m : Nat) (w : World) (h : ArgCode w v n) (k : ArgCode w u m) :
    Calls Try.prog 16 #[v, u] w fun e w' => e = .returned (.bool true) ∧ Ext w w' := by
  have h2 := h
  obtain ⟨_, ac, cc, rfl, -⟩ := h2
  have k2 := k
  obtain ⟨_, am, cm, rfl, -⟩ := k2
  clear k
  by_cases hbig : 1048576 < n
  · go_enter Try.func16, Try.ntmps16
    go_wp2
    go_ret
    exact ⟨rfl, Ext.refl _⟩
  have hsm : n ≤ 1048576 := by omega
  clear hbig
  by_cases hbig : 1048576 < m
  · go_enter Try.func16, Try.ntmps16
    go_wp2
    go_ret
    exact ⟨rfl, Ext.refl _⟩
  have hsm2 : m ≤ 1048576 := by omega
  clear hbig
  go_enter Try.func16, Try.ntmps16
  go_wp2_with fail
  refine (DrawBestAll_any _ _ _ h).mono ?_
  rintro e w1 ⟨vr, vt, room, ts, rfl, hd, E1⟩
  have Hd1 := Lib.hid hd
  obtain ⟨ra, rc, hvr, -⟩ := hd.1.open
  obtain ⟨ta, tc, hvt, -⟩ := hd.2.1.open
  subst hvr hvt
  have F1 := Lib.hid E1
  clear hd E1 h
  have hl20 : ts.length ≤ 20 := Hd1.out.2.2.2
  have HL := Lib.hid (bestAllL_lim room ts)
  go_wp2_with fail
  refine (BestAll_any _ _ room ts _ Hd1.out.1 Hd1.out.2.1).mono ?_
  rintro e w2 ⟨oa, oc, rfl, hE, hN⟩
  have O2 := Lib.hid (hN.upto.bins HL.out)
  have Hd2 := Lib.hid (Hd1.out.ext hE)
  have F2 := Lib.hid (F1.out.trans hE)
  clear hE hN Hd1 F1
  go_wp2_with fail
  refine (sBestAll_any _ _ room ts _ Hd2.out.1 Hd2.out.2.1).mono ?_
  rintro e w3 ⟨wa, wc, rfl, hE, hB⟩
  have W3 := Lib.hid hB
  have O3 := Lib.hid (O2.out.ext hE)
  have Hd3 := Lib.hid (Hd2.out.ext hE)
  have F3 := Lib.hid (F2.out.trans hE)
  clear hE hB Hd2 F2 O2
  go_wp2_with fail
  refine (sameBins_any _ _ _ _ _ O3.out W3.out).mono ?_
  rintro e w4 ⟨rfl, hE⟩
  have W4 := Lib.hid (W3.out.ext hE)
  have O4 := Lib.hid (O3.out.ext hE)
  have Hd4 := Lib.hid (Hd3.out.ext hE)
  have F4 := Lib.hid (F3.out.trans hE)
  clear hE Hd3 F3 O3 W3
  rw [sameBs_iff.2 rfl]
  go_wp2_with fail
  have cc := sTasksValid_ext _ _ room ts _ Hd4.out.1 Hd4.out.2.1
  cases hb : tasksB room ts with
  | false =>
    rw [hb] at cc
    refine cc.mono ?_
    clear cc
    rintro e w5 ⟨rfl, hE⟩
    have W5 := Lib.hid (W4.out.ext hE)
    have O5 := Lib.hid (O4.out.ext hE)
    have F5 := Lib.hid (F4.out.trans hE)
    clear hE
    go_wp2_with fail
    refine (sameBins_any _ _ _ _ _ O5.out W5.out).mono ?_
    rintro e w6 ⟨rfl, hE⟩
    have F := F5.out.trans hE
    rw [sameBs_iff.2 rfl]
    go_wp2
    go_ret
    exact ⟨rfl, F⟩
  | true =>
    rw [hb] at cc
    have HT := Lib.hid (tasksB_iff.1 hb)
    have HB := Lib.hid (show bestAllL room ts = allL (best12 room) ts by simp [bestAllL, hb])
    clear hb
    refine cc.mono ?_
    clear cc
    rintro e w5 ⟨rfl, hE⟩
    have W5 := Lib.hid (W4.out.ext hE)
    have O5 := Lib.hid (O4.out.ext hE)
    have Hd5 := Lib.hid (Hd4.out.ext hE)
    have F5 := Lib.hid (F4.out.trans hE)
    clear hE W4 O4 Hd4 F4
    have HA := Lib.hid (show ∀ (a b : Nat) (x y : List T), a < b → (bestAllL room ts)[a]? = some x → (bestAllL room ts)[b]? = some y → binsB room [x ++ y] = false from fun a b x y hab hx hy => best_full' HT.out hab hx hy)
    have HO := Lib.hid (best_ok HT.out)
    clear HB HL
    generalize bestAllL room ts = bs at *
    have hl14 : bs.length ≤ 14 := HO.out.2.1
    by_cases hlt : bs.length < 2
    · go_wp2_with fail
      refine (sameBins_any _ _ _ _ _ O5.out W5.out).mono ?_
      rintro e w6 ⟨rfl, hE⟩
      have F := F5.out.trans hE
      rw [sameBs_iff.2 rfl]
      go_wp2
      go_ret
      exact ⟨rfl, F⟩
    · clear W5
      have e0 : ((bs.length : Int) - 1 == 0) = false := beq_eq_false_iff_ne.2 (by omega)
      have p0 : (0 : Int) ≤ (bs.length : Int) - 1 := by omega
      have hab : ∃ (a b : Nat), a < b ∧ b < bs.length ∧ a = m % (bs.length - 1) ∧ b = a + 1 := by
        have ha := Nat.mod_lt m (show 0 < bs.length - 1 by omega)
        exact ⟨_, _, by omega, by omega, rfl, rfl⟩
      obtain ⟨a, b, hab, hbl, ha, hb⟩ := hab
      have e1 : (m : Int) % ((bs.length : Int) - 1) = (a : Int) := by rw [ha, Int.natCast_emod]; congr 1; omega
      have e3 : IntKind.i64.wrap ((a : Int) + 1) = (b : Int) := by rw [IntWalk.i64_in _ (by omega)]; omega
      have hal : a < bs.length := by omega
      clear ha hb
      have HQ := Lib.hid (HA.out a b bs[a] bs[b] hab (List.getElem?_eq_getElem (by omega)) (List.getElem?_eq_getElem hbl))
      clear HA
      obtain ⟨bb, off, na, he, ca, hta⟩ := O5.out.at hal
      subst he
      obtain ⟨bb', off', nb, he, cb, htb⟩ := O5.out.at hbl
      simp only [Option.some.injEq, Addr.mk.injEq, and_true] at he
      obtain ⟨rfl, rfl⟩ := he
      obtain ⟨aa, ac', rfl, hta'⟩ := hta.open
      obtain ⟨ba, bc', rfl, htb'⟩ := htb.open
      have Ta := Lib.hid hta'
      have Tb := Lib.hid htb'
      have KS := Lib.hid (show ∀ w', Ext w5 w' → w'.cell? ⟨bb, off + a, none⟩ = some (.slice aa bs[a].length ac') ∧ w'.cell? ⟨bb, off + b, none⟩ = some (.slice ba bs[b].length bc') from fun w' h => ⟨h.cell ca, h.cell cb⟩)
      have la : bs[a].length ≤ 14 := by have := (sub_flat (List.getElem_mem hal)).length_le; have := HO.out.1.2.1; omega
      have lb : bs[b].length ≤ 14 := by have := (sub_flat (List.getElem_mem hbl)).length_le; have := HO.out.1.2.1; omega
      have i0 : (0 : Int) ≤ (a : Int) := by omega
      have i1 : (a : Int) < (bs.length : Int) := by omega
      have i2 : (0 : Int) ≤ (b : Int) := by omega
      have i3 : (b : Int) < (bs.length : Int) := by omega
      clear hta hta' htb htb' ca cb
      go_wp2_with fail
      rw [e1]
      go_region_held3 (fun w' => w'.cell? ⟨bb, off + a, none⟩ = some (.slice aa bs[a].length ac') ∧ w'.cell? ⟨bb, off + b, none⟩ = some (.slice ba bs[b].length bc'))
        (first | exact KS.out _ (Ext.refl w5).drew | exact KS.out _ ((Ext.refl w5).alloc _).drew | exact KS.out _ E1.out | exact KS.out _ E2.out | exact KS.out _ (E2.out.alloc _) | exact KS.out _ E3.out | fail)
        ((first
          | (refine step_app_tasks (by rfl) _ _ (by rfl) w5.heap.size _ [] (by rfl) (OwnTasks.lit0 w5 w5.heap.size (Nat.le_refl _)).drew (by simp) _ _ _ bs[a] (by rfl) (Ta.out.ext ((Ext.refl w5).alloc _).drew) (by unfold lim; simp; omega) ?_; intro v1 w1' hown1 hkt1 hbl1; have E1 := Lib.hid (((Ext.refl w5).alloc (.cells #[] 38)).drew.below hbl1); rw [List.nil_append] at hown1; have Ho1 := Lib.hid hown1; clear hown1 hkt1 hbl1)
          | (refine step_app_tasks (by rfl) _ _ (by rfl) w5.heap.size _ bs[a] (by rfl) Ho1.out E1.out.le _ _ _ bs[b] (by rfl) (Tb.out.ext E1.out) (by unfold lim; omega) ?_; intro v2 w2' hown2 hkt2 hbl2; have E2 := Lib.hid (E1.out.below hbl2); obtain ⟨xa, xc, rfl⟩ := hown2.form; have hb2 := hown2.done (by rw [List.length_append]; unfold lim; omega); rw [List.length_append] at hb2; have Hb2 := Lib.hid hb2; clear hb2; clear hown2 hkt2 hbl2)
          | (go_at_call 50; refine (BinsValid_any _ _ room [bs[a] ++ bs[b]] _ (Hd5.out.1.ext (E2.out.alloc _)) (Bins.lit1 Hb2.out 1) (by simp; omega)).mono ?_; rintro e w3' ⟨rfl, hE⟩; have E3 := Lib.hid ((E2.out.alloc (.cells #[.slice xa (bs[a].length + bs[b].length) xc] 27)).trans hE); clear hE)))
      all_goals
        have F := F5.out.trans E3.out
        rw [HQ.out]
        go_wp2
        go_ret
        exact ⟨rfl, F⟩

theorem own : ownKnob Try.prog.godebug = none := by kernel_rfl
theorem laidOut : laidOutB Try.prog = true := by kernel_rfl

set_option maxRecDepth 100000 in
theorem lifted (os : Os) (started : os.Started) (H : Type) (enc : TypeId × Value → H) :
    ReturnsInHanded {} Try.checked os 16 .any (Rows.fnBestAllFullSpec.pre6 enc Try.prog Try.f16 Rows.fnBestAllFullRow.domain false) (Rows.fnBestAllFullSpec.post enc Try.prog Try.f16 false true false false) := by
  refine returnsInHanded_of_change (C := Try.checked) own started (by kernel_rfl) Try.func16
    (ChangeSpec.witness6 (enc := enc) (C := Try.checked) false ⟨#[], #[.slice none 0 0, .slice none 0 0], []⟩ 8 (by kernel_rfl) (by kernel_rfl) (by kernel_rfl) (by kernel_rfl)) ?_
  intro W base args ds gs before hval0 hW hcnd _
  have hval : ∀ (j : Nat) t v, Try.f16.params[j]? = some t → args[j]? = some v → Value.okWide Try.prog W .any base t v := hval0
  have hW' := hW
  obtain ⟨p, q, hA0, hV, rfl, hfz, hnd⟩ := hW
  have hA : DataW.TrodAll enc Try.prog W 0 (fun _ => true) true Try.f16.params.toList args.toList ds p := hA0
  rw [Try.params16] at hA hval
  obtain ⟨v0, vs0, d0, ds0, p0, q0, hargs, rfl, rfl, h0, r0⟩ := trodAll_cons hA
  obtain ⟨v1, vs1, d1, ds1, p1, q1, rfl, rfl, rfl, h1, r1⟩ := trodAll_cons r0
  obtain ⟨rfl, rfl, rfl⟩ := trodAll_nil r1
  obtain rfl : args = #[v0, v1] := by cases args; simp_all
  obtain ⟨rfl, rfl⟩ := trodVars_none hV
  have lt0 : ∀ x ∈ p0, x.block < W.heap.size := by obtain ⟨m, hm⟩ := h0; exact DataW.trod_lt m _ _ _ hm
  have lt1 : ∀ x ∈ p1, x.block < W.heap.size := by obtain ⟨m, hm⟩ := h1; exact DataW.trod_lt m _ _ _ hm
  obtain ⟨x0, e0⟩ := argCode_of h0 (okWide_slice Try.underlying22 (hval 0 22 v0 rfl rfl))
  obtain ⟨x1, e1⟩ := argCode_of h1 (okWide_slice Try.underlying22 (hval 1 22 v1 rfl rfl))
  clear hA0 hval0
  refine (walk v0 v1 x0 x1 W e0 e1).mono fun e W' ⟨he, bel⟩ => ?_
  subst he
  exact ⟨_, rfl, _, _, _, [], _, [], hW', trodAll_mk1 (shut_bool Try.underlying4 _), (trodAll_cons_mk (Below.trod laidOut (by kernel_rfl) (of_decide_eq_true (by kernel_rfl)) h0 bel lt0) (trodAll_cons_mk (Below.trod laidOut (by kernel_rfl) (of_decide_eq_true (by kernel_rfl)) h1 bel lt1) trodAll_mk0)), rfl, Below.frame bel _, fun h => by cases h⟩

theorem closed : joinedFacts Try.prog 16 Try.f16 Rows.fnBestAllFullSpec Rows.fnBestAllFullRow = true := by
  unfold joinedFacts
  rw [may_enter, lifts_final, make_cut]
  kernel_rfl

theorem proved : Rows.FnBestAllFullSaid :=
  OpenClaim.holds_of_wide 16 Try.f16 rfl rfl rfl rfl rfl rfl rfl ⟨rfl, rfl, rfl, rfl, rfl⟩ rfl rfl rfl rfl rfl (by kernel_rfl) Try.func16 closed
    (of_decide_eq_true (by kernel_rfl)) (by unfold Func.isWrapper; first | (rw [if_pos (by decide +kernel)]; kernel_rfl) | (rw [if_neg (by decide +kernel)]; exact ⟨rfl, rfl⟩))
    (fun os started H enc _ => lifted os started H enc)

end Go.Proofs.Ytipmoedflpjioaa.l45
