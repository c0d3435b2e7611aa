/- The law FnSortTwice: whatever the code, sorting twice is sorting once, and sorting tasks turned round gives the same. No condition. -/
import Derived.Test.YtcijbpjiioodlaaI22
import Derived.Test.YtcijbpjiioodlaaDr9
import Derived.Test.YtcijbpjiioodlaaSame
import Derived.Test.YtcijbpjiioodlaaSame2
import Derived.Test.YtcijbpjiioodlaaHead
import Derived.OpenShut
import Derived.ChangeOld
namespace Go.Proofs.Ytcijbpjiioodlaa.l19
set_option maxRecDepth 100000
open Go.RowKit Go.ChangeShapes Go.WideShapes Go.ChangeAt

set_option maxHeartbeats 4000000 in
theorem walk (v : Value) (n : Nat) (w : World) (h : ArgCode w v n) :
    Calls Try.prog 16 #[v] w fun e w' => e = .returned (.bool true) ∧ Ext w w' := by
  have h2 := h
  obtain ⟨_, ac, cc, rfl, -⟩ := h2
  by_cases hbig : 1048576 < n
  · go_enter Try.func16, Try.ntmps16
    go_wp2
    go_ret
    exact ⟨rfl, Ext.refl _⟩
  have hsm : n ≤ 1048576 := by omega
  clear hbig
  go_enter Try.func16, Try.ntmps16
  go_wp2_with fail
  refine (DrawTasksSort_any _ _ _ h).mono ?_
  rintro e w1 ⟨vr, vt, room, ts, rfl, hd, E1⟩
  have Hd1 := Lib.hid hd
  obtain ⟨ra, rc, hvr, -⟩ := hd.1.open
  obtain ⟨ta, tc, hvt, htc⟩ := hd.2.2.2.2
  subst hvr hvt
  have F1 := Lib.hid E1
  clear hd E1 h
  have hl20 : ts.length ≤ 20 := Hd1.out.2.2.2.1
  have Htc := Lib.hid htc
  clear htc
  have HL := Lib.hid (show Sm (sortL room ts) from sortL_lim room ts)
  go_wp2_with fail
  refine (TasksSort_any _ _ room ts _ Hd1.out.1 Hd1.out.2.1).mono ?_
  rintro e w2 ⟨vo, rfl, hE, hN⟩
  have O2 := Lib.hid (hN.tasks HL.out.len HL.out.need)
  obtain ⟨oa, oc, ho⟩ := hN.form
  subst ho
  have Hd2 := Lib.hid (Hd1.out.ext hE)
  have F2 := Lib.hid (F1.out.trans hE)
  clear hE hN Hd1 F1
  go_wp2_with fail
  refine (sTasksSort_any _ _ room ts _ Hd2.out.1 Hd2.out.2.1).mono ?_
  rintro e w3 ⟨vo, rfl, hE, hB⟩
  have W3 := Lib.hid (hB.done HL.out.len)
  obtain ⟨wa, wc, ho⟩ := hB.form
  subst ho
  have O3 := Lib.hid (O2.out.ext hE)
  have Hd3 := Lib.hid (Hd2.out.ext hE)
  have F3 := Lib.hid (F2.out.trans hE)
  clear hE hB Hd2 F2 O2
  go_wp2_with fail
  refine (sameTasks_any _ _ _ _ _ O3.out W3.out).mono ?_
  rintro e w4 ⟨rfl, hE⟩
  have W4 := Lib.hid (W3.out.ext hE)
  have O4 := Lib.hid (O3.out.ext hE)
  have Hd4 := Lib.hid (Hd3.out.ext hE)
  have F4 := Lib.hid (F3.out.trans hE)
  clear hE Hd3 F3 O3 W3
  rw [sameTs_iff.2 rfl]
  go_wp2_with fail
  have cc := sTasksValid_ext _ _ room ts _ Hd4.out.1 Hd4.out.2.1
  cases hb : tasksB room ts with
  | false =>
    rw [hb] at cc
    refine cc.mono ?_
    clear cc
    rintro e w5 ⟨rfl, hE⟩
    have W5 := Lib.hid (W4.out.ext hE)
    have O5 := Lib.hid (O4.out.ext hE)
    have F5 := Lib.hid (F4.out.trans hE)
    clear hE
    go_wp2_with fail
    refine (sameTasks_any _ _ _ _ _ O5.out W5.out).mono ?_
    rintro e w6 ⟨rfl, hE⟩
    have F := F5.out.trans hE
    rw [sameTs_iff.2 rfl]
    go_wp2
    go_ret
    exact ⟨rfl, F⟩
  | true =>
    rw [hb] at cc
    have HT := Lib.hid (tasksB_iff.1 hb)
    have HB := Lib.hid (show sortL room ts = sortS ts by simp [sortL, hb])
    clear hb
    refine cc.mono ?_
    clear cc
    rintro e w5 ⟨rfl, hE⟩
    have O5 := Lib.hid (O4.out.ext hE)
    have Hd5 := Lib.hid (Hd4.out.ext hE)
    have F5 := Lib.hid (F4.out.trans hE)
    clear hE W4 O4 Hd4 F4 HL
    rw [HB.out] at O5 ⊢
    have Q1 := Lib.hid (show sortL room (sortS ts) = sortS ts from sort_perm HT.out (sortS_perm ts))
    have Q2 := Lib.hid (show sortL room ts.reverse = sortS ts from sort_perm HT.out (List.reverse_perm ts))
    have LS := Lib.hid (show Sm (sortS ts) by have := sortL_lim room ts; rwa [HB.out] at this)
    have T5 := Lib.hid Hd5.out.2.1
    clear HB
    generalize sortS ts = ss at *
    go_wp2_with fail
    go_loopw [7, 8] (fun s i wr => ∃ m : Nat, m ≤ ts.length ∧ i = .int .i64 ((m : Int) - 1) ∧ Ext w5 wr ∧ OwnTasks wr w5.heap.size s (ts.drop m).reverse) (fun _ i _ => (intOf i + 1).toNat)
    case atStart => exact ⟨ts.length, Nat.le_refl _, rfl, (Ext.refl w5).alloc _, by simpa using OwnTasks.lit0 w5 w5.heap.size (Nat.le_refl _)⟩
    case round =>
      obtain ⟨m, hm, rfl, hE, hs⟩ := hrel
      have Hs := Lib.hid hs
      clear hs
      cases m with
      | succ k =>
        have hlt : k < ts.length := by omega
        have e1 : Hid (((k + 1 : Nat) : Int) - 1 = (k : Int)) := by show ((k + 1 : Nat) : Int) - 1 = (k : Int); omega
        rw [e1.out]
        have b0 : (0 : Int) ≤ (k : Int) := by omega
        have b1 : (k : Int) < (ts.length : Int) := by omega
        obtain ⟨b, off, nd, he, c0, c1, hn⟩ := T5.out.at hlt
        subst he
        have c0' := hE.cell c0
        have c1' := hE.cell c1
        obtain ⟨na, nc, rfl, hn'⟩ := (hn.ext hE).open
        have Hn := Lib.hid hn'
        have Hst := Lib.hid (show (ts.drop k).reverse = (ts.drop (k + 1)).reverse ++ [ts[k]] by rw [List.drop_eq_getElem_cons hlt, List.reverse_cons])
        have dl : (ts.drop (k + 1)).reverse.length ≤ 20 := by simp; omega
        generalize (ts.drop (k + 1)).reverse = xs at *
        clear c0 c1 hn hn'
        go_wp2_with (at_builtin; refine app_tasks rfl _ _ rfl w5.heap.size _ _ rfl (Hs.out.alloc _) (by have := hE.le; simp; omega) _ _ _ [ts[k]] rfl (Tasks.lit1 Hn.out 1) (by unfold lim; simp; omega) ?_; intro v' w6 hown hkt hbl)
        have hE1 := (hE.alloc _).below hbl
        have Ho := Lib.hid (show OwnTasks w6 w5.heap.size v' (ts.drop k).reverse by rw [Hst.out]; exact hown)
        clear hown hkt hbl hE
        go_roundw
        case rel => exact ⟨k, by omega, by go_num, hE1, Ho.out⟩
        case measure => simp [intOf]
      | zero =>
        obtain ⟨xa, xc, rfl⟩ := OwnTasks.form Hs.out
        have Hs2 := Lib.hid (show Tasks wr (.slice xa ts.length xc) ts.reverse from by have := Hs.out.done (by simp; unfold lim; omega); rw [List.drop_zero, List.length_reverse] at this; exact this)
        have F6 := Lib.hid (F5.out.trans hE)
        have O6 := Lib.hid (O5.out.ext hE)
        have R6 := Lib.hid (Hd5.out.1.ext hE)
        clear Hs hE
        go_wp2_with fail
        refine (TasksSort_any _ _ room ss _ R6.out O6.out).mono ?_
        rintro e w7 ⟨v7, rfl, hE, hN⟩
        rw [Q1.out] at hN
        have N7 := Lib.hid (hN.tasks LS.out.len LS.out.need)
        obtain ⟨na, nc, ho⟩ := hN.form
        subst ho
        have O7 := Lib.hid (O6.out.ext hE)
        have R7 := Lib.hid (R6.out.ext hE)
        have X7 := Lib.hid (Hs2.out.ext hE)
        have F7 := Lib.hid (F6.out.trans hE)
        clear hE hN O6 R6 Hs2 F6
        go_wp2_with fail
        refine (sameTasks_any _ _ _ _ _ N7.out O7.out).mono ?_
        rintro e w8 ⟨rfl, hE⟩
        rw [sameTs_iff.2 rfl]
        have O8 := Lib.hid (O7.out.ext hE)
        have R8 := Lib.hid (R7.out.ext hE)
        have X8 := Lib.hid (X7.out.ext hE)
        have F8 := Lib.hid (F7.out.trans hE)
        clear hE N7 O7 R7 X7 F7
        go_wp2_with fail
        refine (TasksSort_any _ _ room ts.reverse _ R8.out X8.out).mono ?_
        rintro e w9 ⟨v9, rfl, hE, hN⟩
        rw [Q2.out] at hN
        have N9 := Lib.hid (hN.tasks LS.out.len LS.out.need)
        obtain ⟨pa, pc, ho⟩ := hN.form
        subst ho
        have O9 := Lib.hid (O8.out.ext hE)
        have F9 := Lib.hid (F8.out.trans hE)
        clear hE hN O8 R8 X8 F8
        go_wp2_with fail
        refine (sameTasks_any _ _ _ _ _ N9.out O9.out).mono ?_
        rintro e w10 ⟨rfl, hE⟩
        rw [sameTs_iff.2 rfl]
        have F := F9.out.trans hE
        go_wp2
        go_ret
        exact ⟨rfl, F⟩

theorem own : ownKnob Try.prog.godebug = none := by kernel_rfl
theorem laidOut : laidOutB Try.prog = true := by kernel_rfl

set_option maxRecDepth 100000 in
theorem lifted (os : Os) (started : os.Started) (H : Type) (enc : TypeId × Value → H) :
    ReturnsInHanded {} Try.checked os 16 .any (Rows.fnSortTwiceSpec.pre6 enc Try.prog Try.f16 Rows.fnSortTwiceRow.domain false) (Rows.fnSortTwiceSpec.post enc Try.prog Try.f16 false true false false) := by
  refine returnsInHanded_of_change (C := Try.checked) own started (by kernel_rfl) Try.func16
    (ChangeSpec.witness6 (enc := enc) (C := Try.checked) false ⟨#[], #[.slice none 0 0], []⟩ 8 (by kernel_rfl) (by kernel_rfl) (by kernel_rfl) (by kernel_rfl)) ?_
  intro W base args ds gs before hval0 hW hcnd _
  have hval : ∀ (j : Nat) t v, Try.f16.params[j]? = some t → args[j]? = some v → Value.okWide Try.prog W .any base t v := hval0
  have hW' := hW
  obtain ⟨p, q, hA0, hV, rfl, hfz, hnd⟩ := hW
  have hA : DataW.TrodAll enc Try.prog W 0 (fun _ => true) true Try.f16.params.toList args.toList ds p := hA0
  rw [Try.params16] at hA hval
  obtain ⟨v0, vs0, d0, ds0, p0, q0, hargs, rfl, rfl, h0, r0⟩ := trodAll_cons hA
  obtain ⟨rfl, rfl, rfl⟩ := trodAll_nil r0
  obtain rfl : args = #[v0] := by cases args; simp_all
  obtain ⟨rfl, rfl⟩ := trodVars_none hV
  have lt0 : ∀ x ∈ p0, x.block < W.heap.size := by obtain ⟨m, hm⟩ := h0; exact DataW.trod_lt m _ _ _ hm
  obtain ⟨x0, e0⟩ := argCode_of h0 (okWide_slice Try.underlying34 (hval 0 34 v0 rfl rfl))
  clear hA0 hval0
  refine (walk v0 x0 W e0).mono fun e W' ⟨he, bel⟩ => ?_
  subst he
  exact ⟨_, rfl, _, _, _, [], _, [], hW', trodAll_mk1 (shut_bool Try.underlying4 _), (trodAll_cons_mk (Below.trod laidOut (by kernel_rfl) (of_decide_eq_true (by kernel_rfl)) h0 bel lt0) trodAll_mk0), rfl, Below.frame bel _, fun h => by cases h⟩

theorem closed : joinedFacts Try.prog 16 Try.f16 Rows.fnSortTwiceSpec Rows.fnSortTwiceRow = true := by
  unfold joinedFacts
  rw [may_enter, lifts_final, make_cut]
  kernel_rfl

theorem proved : Rows.FnSortTwiceSaid :=
  OpenClaim.holds_of_wide 16 Try.f16 rfl rfl rfl rfl rfl rfl rfl ⟨rfl, rfl, rfl, rfl, rfl⟩ rfl rfl rfl rfl rfl (by kernel_rfl) Try.func16 closed
    (of_decide_eq_true (by kernel_rfl)) (by unfold Func.isWrapper; first | (rw [if_pos (by decide +kernel)]; kernel_rfl) | (rw [if_neg (by decide +kernel)]; exact ⟨rfl, rfl⟩))
    (fun os started H enc _ => lifted os started H enc)

end Go.Proofs.Ytcijbpjiioodlaa.l19
