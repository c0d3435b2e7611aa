/- The law FnSort: whatever the code, sorted tasks descend, and none is lost. No condition. -/
import Derived.Test.YtcijbpjiioodlaaI22
import Derived.Test.YtcijbpjiioodlaaDr9
import Derived.Test.YtcijbpjiioodlaaSame
import Derived.Test.YtcijbpjiioodlaaSame2
import Derived.Test.YtcijbpjiioodlaaHead
import Derived.OpenShut
import Derived.ChangeOld
namespace Go.Proofs.Ytcijbpjiioodlaa.l28
set_option maxRecDepth 100000
open Go.RowKit Go.ChangeShapes Go.WideShapes Go.ChangeAt

def Desc (ss : List T) : Prop := ∀ j (h : j + 1 < ss.length), lessB (ss[j]'(by omega)) ss[j + 1] = true
def Ids (ss : List T) : Prop := ∀ k (h : k < ss.length), 1 ≤ ss[k].id ∧ ss[k].id ≤ 40

set_option maxHeartbeats 4000000 in
theorem walk (v : Value) (n : Nat) (w : World) (h : ArgCode w v n) :
    Calls Try.prog 17 #[v] w fun e w' => e = .returned (.bool true) ∧ Ext w w' := by
  have h2 := h
  obtain ⟨_, ac, cc, rfl, -⟩ := h2
  by_cases hbig : 1048576 < n
  · go_enter Try.func17, Try.ntmps17
    go_wp2
    go_ret
    exact ⟨rfl, Ext.refl _⟩
  have hsm : n ≤ 1048576 := by omega
  clear hbig
  go_enter Try.func17, Try.ntmps17
  go_wp2_with fail
  refine (DrawTasksSort_any _ _ _ h).mono ?_
  rintro e w1 ⟨vr, vt, room, ts, rfl, hd, E1⟩
  have Hd1 := Lib.hid hd
  obtain ⟨ra, rc, hvr, -⟩ := hd.1.open
  obtain ⟨ta, tc, hvt, htc⟩ := hd.2.2.2.2
  subst hvr hvt
  have F1 := Lib.hid E1
  clear hd E1 h
  have hl20 : ts.length ≤ 20 := Hd1.out.2.2.2.1
  have Htc := Lib.hid htc
  clear htc
  have HL := Lib.hid (show Sm (sortL room ts) from sortL_lim room ts)
  go_wp2_with fail
  refine (TasksSort_any _ _ room ts _ Hd1.out.1 Hd1.out.2.1).mono ?_
  rintro e w2 ⟨vo, rfl, hE, hN⟩
  have O2 := Lib.hid (hN.tasks HL.out.len HL.out.need)
  obtain ⟨oa, oc, ho⟩ := hN.form
  subst ho
  have Hd2 := Lib.hid (Hd1.out.ext hE)
  have F2 := Lib.hid (F1.out.trans hE)
  clear hE hN Hd1 F1
  go_wp2_with fail
  refine (sTasksSort_any _ _ room ts _ Hd2.out.1 Hd2.out.2.1).mono ?_
  rintro e w3 ⟨vo, rfl, hE, hB⟩
  have W3 := Lib.hid (hB.done HL.out.len)
  obtain ⟨wa, wc, ho⟩ := hB.form
  subst ho
  have O3 := Lib.hid (O2.out.ext hE)
  have Hd3 := Lib.hid (Hd2.out.ext hE)
  have F3 := Lib.hid (F2.out.trans hE)
  clear hE hB Hd2 F2 O2
  go_wp2_with fail
  refine (sameTasks_any _ _ _ _ _ O3.out W3.out).mono ?_
  rintro e w4 ⟨rfl, hE⟩
  have W4 := Lib.hid (W3.out.ext hE)
  have O4 := Lib.hid (O3.out.ext hE)
  have Hd4 := Lib.hid (Hd3.out.ext hE)
  have F4 := Lib.hid (F3.out.trans hE)
  clear hE Hd3 F3 O3 W3
  rw [sameTs_iff.2 rfl]
  go_wp2_with fail
  have cc := sTasksValid_ext _ _ room ts _ Hd4.out.1 Hd4.out.2.1
  cases hb : tasksB room ts with
  | false =>
    rw [hb] at cc
    refine cc.mono ?_
    clear cc
    rintro e w5 ⟨rfl, hE⟩
    have W5 := Lib.hid (W4.out.ext hE)
    have O5 := Lib.hid (O4.out.ext hE)
    have F5 := Lib.hid (F4.out.trans hE)
    clear hE
    go_wp2_with fail
    refine (sameTasks_any _ _ _ _ _ O5.out W5.out).mono ?_
    rintro e w6 ⟨rfl, hE⟩
    have F := F5.out.trans hE
    rw [sameTs_iff.2 rfl]
    go_wp2
    go_ret
    exact ⟨rfl, F⟩
  | true =>
    rw [hb] at cc
    have HT := Lib.hid (tasksB_iff.1 hb)
    have HB := Lib.hid (show sortL room ts = sortS ts by simp [sortL, hb])
    clear hb
    refine cc.mono ?_
    clear cc
    rintro e w5 ⟨rfl, hE⟩
    have O5 := Lib.hid (O4.out.ext hE)
    have Hd5 := Lib.hid (Hd4.out.ext hE)
    have F5 := Lib.hid (F4.out.trans hE)
    clear hE W4 O4 Hd4 F4 HL
    rw [HB.out] at O5 ⊢
    have QM := Lib.hid (show ∀ t ∈ ts, hasT (sortS ts) t = true from fun t ht => hasT_mem ((sortS_perm ts).symm.subset ht))
    have QV := Lib.hid (show ∀ t ∈ sortS ts, VecOk t.need from (sorted_ok HT.out).vec)
    have QI := Lib.hid (show Ids (sortS ts) from fun k h => ((sorted_ok HT.out).2.2 k h).1)
    have QL := Lib.hid (show Desc (sortS ts) from fun j h => sorted_less HT.out (by omega) h)
    have sl := sortS_len ts
    have T5 := Lib.hid Hd5.out.2.1
    clear HB
    generalize sortS ts = ss at *
    have eqb : (((ss.length : Nat) : Int) == ((ts.length : Nat) : Int)) = true := by rw [sl]; simp
    have sl20 : ss.length ≤ 20 := by omega
    clear sl
    go_wp2_with fail
    go_loopw [7] (fun i wr => ∃ k : Nat, k ≤ ts.length ∧ i = .int .i64 k ∧ Ext w5 wr) (fun i _ => ts.length - (intOf i).toNat)
    case atStart => exact ⟨0, by omega, rfl, Ext.refl _⟩
    case round =>
      obtain ⟨k, hk, rfl, hE⟩ := hrel
      by_cases hlt : k < ts.length
      · obtain ⟨b, off, nd, he, c0, c1, hn⟩ := T5.out.at hlt
        subst he
        have c0' := hE.cell c0
        have c1' := hE.cell c1
        obtain ⟨na, nc, rfl, hn'⟩ := (hn.ext hE).open
        have Hn := Lib.hid hn'
        have b0 : (0 : Int) ≤ (k : Int) := by omega
        have b1 : (k : Int) < (ts.length : Int) := by omega
        clear c0 c1 hn hn'
        go_wp2_with fail
        have cc := hasTask_any _ _ ss ts[k] _ (O5.out.ext hE) Hn.out
        rw [QM.out _ (List.getElem_mem hlt)] at cc
        refine cc.mono ?_
        clear cc
        rintro e w6 ⟨rfl, hE6⟩
        have hE7 := hE.trans hE6
        clear hE hE6 c0' c1'
        go_wp2_with fail
        go_roundw
        case rel => exact ⟨k + 1, by omega, by go_num, hE7⟩
        case measure => simp [intOf]; omega
      · have e : k = ts.length := by omega
        subst e
        have E6 := Lib.hid hE
        clear hE
        go_wp2_with fail
        go_loopw [8] (fun i wr' => ∃ k : Nat, k ≤ ss.length ∧ i = .int .i64 ((k : Int) + 1) ∧ Ext wr wr') (fun i _ => ss.length + 2 - (intOf i).toNat)
        case atStart => exact ⟨0, by omega, rfl, Ext.refl _⟩
        case round =>
          obtain ⟨k, hk, rfl, hE⟩ := hrel
          by_cases hlt : k + 1 < ss.length
          · obtain ⟨b, off, nd, he, c0, c1, hn⟩ := O5.out.at (k := k) (by omega)
            subst he
            obtain ⟨b', off', nd', he, d0, d1, hn2⟩ := O5.out.at hlt
            simp only [Option.some.injEq, Addr.mk.injEq, and_true] at he
            obtain ⟨rfl, rfl⟩ := he
            have F7 := Lib.hid (E6.out.trans hE)
            have c0' := F7.out.cell c0
            have c1' := F7.out.cell c1
            have d0' := F7.out.cell d0
            have d1' := F7.out.cell d1
            obtain ⟨na, nc, rfl, hn'⟩ := (hn.ext F7.out).open
            obtain ⟨nb, nd, rfl, hn2'⟩ := (hn2.ext F7.out).open
            have Hn := Lib.hid hn'
            have Hn2 := Lib.hid hn2'
            have q1 : (0 : Int) ≤ (k : Int) := by omega
            have q2 : (k : Int) < (ss.length : Int) := by omega
            have q3 : (0 : Int) ≤ (k : Int) + 1 := by omega
            have q4 : (k : Int) + 1 < (ss.length : Int) := by omega
            have q5 : ((k : Int) + 1).toNat = k + 1 := by omega
            have q6 : IntKind.i64.wrap (k : Int) = (k : Int) := IntWalk.i64_in _ (by omega)
            have HLs := Lib.hid (QL.out k hlt)
            have V1 := Lib.hid (QV.out _ (List.getElem_mem (show k < ss.length by omega)))
            have V2 := Lib.hid (QV.out _ (List.getElem_mem hlt))
            have I1 := Lib.hid (QI.out k (by omega))
            have I2 := Lib.hid (QI.out (k + 1) hlt)
            clear c0 c1 d0 d1 hn hn' hn2 hn2'
            generalize ss[k] = x at *
            generalize ss[k + 1] = y at *
            go_wp2
            go_still_tail 9, (by kernel_rfl)
            change wpList _ _ _ _ _ wr.drew
            go_wp2_with fail
            have cc := TaskBefore_any x y _ _ wr.drew Hn.out.drew Hn2.out.drew V1.out V2.out I1.out I2.out
            rw [HLs.out] at cc
            refine cc.mono ?_
            clear cc
            rintro e w8 ⟨rfl, hE8⟩
            have hE9 := (hE.drew).trans hE8
            clear hE hE8 c0' c1' d0' d1' F7
            go_wp2_with fail
            go_roundw
            case rel => exact ⟨k + 1, by omega, by go_num, hE9⟩
            case measure => simp [intOf]; omega
          · have q4 : ¬ (k : Int) + 1 < (ss.length : Int) := by omega
            have F := F5.out.trans (E6.out.trans hE)
            go_wp2
            go_ret
            exact ⟨by first | rfl | (rw [eqb]), F⟩

theorem own : ownKnob Try.prog.godebug = none := by kernel_rfl
theorem laidOut : laidOutB Try.prog = true := by kernel_rfl

set_option maxRecDepth 100000 in
theorem lifted (os : Os) (started : os.Started) (H : Type) (enc : TypeId × Value → H) :
    ReturnsInHanded {} Try.checked os 17 .any (Rows.fnSortSpec.pre6 enc Try.prog Try.f17 Rows.fnSortRow.domain false) (Rows.fnSortSpec.post enc Try.prog Try.f17 false true false false) := by
  refine returnsInHanded_of_change (C := Try.checked) own started (by kernel_rfl) Try.func17
    (ChangeSpec.witness6 (enc := enc) (C := Try.checked) false ⟨#[], #[.slice none 0 0], []⟩ 8 (by kernel_rfl) (by kernel_rfl) (by kernel_rfl) (by kernel_rfl)) ?_
  intro W base args ds gs before hval0 hW hcnd _
  have hval : ∀ (j : Nat) t v, Try.f17.params[j]? = some t → args[j]? = some v → Value.okWide Try.prog W .any base t v := hval0
  have hW' := hW
  obtain ⟨p, q, hA0, hV, rfl, hfz, hnd⟩ := hW
  have hA : DataW.TrodAll enc Try.prog W 0 (fun _ => true) true Try.f17.params.toList args.toList ds p := hA0
  rw [Try.params17] at hA hval
  obtain ⟨v0, vs0, d0, ds0, p0, q0, hargs, rfl, rfl, h0, r0⟩ := trodAll_cons hA
  obtain ⟨rfl, rfl, rfl⟩ := trodAll_nil r0
  obtain rfl : args = #[v0] := by cases args; simp_all
  obtain ⟨rfl, rfl⟩ := trodVars_none hV
  have lt0 : ∀ x ∈ p0, x.block < W.heap.size := by obtain ⟨m, hm⟩ := h0; exact DataW.trod_lt m _ _ _ hm
  obtain ⟨x0, e0⟩ := argCode_of h0 (okWide_slice Try.underlying34 (hval 0 34 v0 rfl rfl))
  clear hA0 hval0
  refine (walk v0 x0 W e0).mono fun e W' ⟨he, bel⟩ => ?_
  subst he
  exact ⟨_, rfl, _, _, _, [], _, [], hW', trodAll_mk1 (shut_bool Try.underlying4 _), (trodAll_cons_mk (Below.trod laidOut (by kernel_rfl) (of_decide_eq_true (by kernel_rfl)) h0 bel lt0) trodAll_mk0), rfl, Below.frame bel _, fun h => by cases h⟩

theorem closed : joinedFacts Try.prog 17 Try.f17 Rows.fnSortSpec Rows.fnSortRow = true := by
  unfold joinedFacts
  rw [may_enter, lifts_final, make_cut]
  kernel_rfl

theorem proved : Rows.FnSortSaid :=
  OpenClaim.holds_of_wide 17 Try.f17 rfl rfl rfl rfl rfl rfl rfl ⟨rfl, rfl, rfl, rfl, rfl⟩ rfl rfl rfl rfl rfl (by kernel_rfl) Try.func17 closed
    (of_decide_eq_true (by kernel_rfl)) (by unfold Func.isWrapper; first | (rw [if_pos (by decide +kernel)]; kernel_rfl) | (rw [if_neg (by decide +kernel)]; exact ⟨rfl, rfl⟩))
    (fun os started H enc _ => lifted os started H enc)

end Go.Proofs.Ytcijbpjiioodlaa.l28
