/- The law FnFirstPutWhere: whatever the code, a task that was put is where it was put. No condition. -/
import Derived.Test.YtapkpphdkdbclaaS15
import Derived.Test.YtapkpphdkdbclaaP4
import Derived.Test.YtapkpphdkdbclaaDr9
import Derived.Test.YtapkpphdkdbclaaSame2
import Derived.Test.YtapkpphdkdbclaaI8
import Derived.Test.YtapkpphdkdbclaaHead
import Derived.OpenShut
import Derived.ChangeOld
namespace Go.Proofs.Ytapkpphdkdbclaa.l58
set_option maxRecDepth 100000
open Go.RowKit Go.ChangeShapes Go.WideShapes Go.ChangeAt

set_option maxHeartbeats 4000000 in
theorem walk (v : Value) (n : Nat) (w : World) (h : ArgCode w v n) :
    Calls Try.prog 13 #[v] w fun e w' => e = .returned (.bool true) ∧ Ext w w' := by
  have h2 := h
  obtain ⟨_, ac, cc, rfl, -⟩ := h2
  by_cases hbig : 1048576 < n
  · go_enter Try.func13, Try.ntmps13
    go_wp2
    go_ret
    exact ⟨rfl, Ext.refl _⟩
  have hsm : n ≤ 1048576 := by omega
  clear hbig
  go_enter Try.func13, Try.ntmps13
  go_wp2_with fail
  refine (DrawFirstPut_any _ _ _ h).mono ?_
  rintro e w1 ⟨vr, vb, nx, room, bs, x, rfl, hd, E1, na, nn, nc, rfl⟩
  obtain rfl : nn = x.need.length := hd.2.1.parts.1
  have Eb : Ext w1 (w1.alloc (.cells #[.int .i64 x.id, .slice na x.need.length nc] 42)) := (Ext.refl w1).alloc _
  have F1 := Lib.hid (E1.trans Eb)
  have Hd := Lib.hid (hd.ext Eb)
  have b0 : (w1.alloc (.cells #[.int .i64 x.id, .slice na x.need.length nc] 42)).cell? ⟨w1.heap.size, 0, none⟩ = some (.int .i64 x.id) := by rw [box_cell]; rfl
  have b1 : (w1.alloc (.cells #[.int .i64 x.id, .slice na x.need.length nc] 42)).cell? ⟨w1.heap.size, 1, none⟩ = some (.slice na x.need.length nc) := by rw [box_cell]; rfl
  have hws : w1.heap.size < (w1.alloc (.cells #[.int .i64 x.id, .slice na x.need.length nc] 42)).heap.size := by simp
  clear hd E1 Eb
  go_wp2_with fail
  generalize w1.alloc (.cells #[.int .i64 x.id, .slice na x.need.length nc] 42) = W1 at *
  have KB := Lib.hid (show ∀ w', Ext W1 w' → w'.cell? ⟨w1.heap.size, 0, none⟩ = some (.int .i64 x.id) ∧ w'.cell? ⟨w1.heap.size, 1, none⟩ = some (.slice na x.need.length nc) from fun w' h => ⟨h.cell b0, h.cell b1⟩)
  refine (FirstPut_any _ _ _ room bs x _ Hd.out.1.1 Hd.out.1.2.1 Hd.out.2.1 (by have := Hd.out.1.2.2.2.2; omega)).mono ?_
  clear b0 b1
  rintro e w2 ⟨oa, oc, rfl, E2, hN⟩
  have E2' := Lib.hid E2
  have O2 := Lib.hid (hN.upto.bins (firstPutL_lim room bs x))
  have Hoc := Lib.hid hN.cap
  obtain ⟨c0, c1⟩ := KB.out w2 E2
  clear E2 hN
  go_wp2_with fail
  clear c0 c1
  refine (sFirstPut_any _ _ _ room bs x _ (Hd.out.1.1.ext E2'.out) (Hd.out.1.2.1.ext E2'.out) (Hd.out.2.1.ext E2'.out) (by have := Hd.out.1.2.2.2.2; omega)).mono ?_
  rintro e w3 ⟨wa, wc, rfl, E3, hB⟩
  have W3 := Lib.hid hB
  have O3 := Lib.hid (O2.out.ext E3)
  have F3 := Lib.hid (F1.out.trans (E2'.out.trans E3))
  have E3' := Lib.hid (E2'.out.trans E3)
  have Hd3 := Lib.hid (Hd.out.ext E3'.out)
  clear E3 F1 E2' Hd hB O2
  cases hok : ok11 room bs x with
  | false =>
    go_wp2_with fail
    refine (sameBins_any _ _ _ _ _ O3.out W3.out).mono ?_
    rintro e w4 ⟨rfl, hE⟩
    have W4 := Lib.hid (W3.out.ext hE)
    have O4 := Lib.hid (O3.out.ext hE)
    have F4 := Lib.hid (F3.out.trans hE)
    rw [sameBs_iff.2 rfl]
    clear hE
    go_wp2_with fail
    refine (sameBins_any _ _ _ _ _ O4.out W4.out).mono ?_
    rintro e w5 ⟨rfl, hE⟩
    have F := F4.out.trans hE
    rw [sameBs_iff.2 rfl]
    go_wp2
    go_ret
    exact ⟨rfl, F⟩
  | true =>
    have HK := Lib.hid hok
    have Hfp := Lib.hid (firstPutL_yes hok)
    have Hfa := Lib.hid (show firstAtI room bs x = nodeI (at11 room bs x) by simp [firstAtI, hok])
    clear hok
    go_wp2_with fail
    refine (sameBins_any _ _ _ _ _ O3.out W3.out).mono ?_
    rintro e w4 ⟨rfl, hE⟩
    have O4 := Lib.hid (O3.out.ext hE)
    have F4 := Lib.hid (F3.out.trans hE)
    have Hd4 := Lib.hid (Hd3.out.ext hE)
    have E4' := Lib.hid (E3'.out.trans hE)
    rw [sameBs_iff.2 rfl]
    obtain ⟨c0, c1⟩ := KB.out w4 E4'.out
    clear hE F3 O3 W3 Hd3 E3'
    go_wp2_with fail
    clear c0 c1
    refine (FirstAt_any _ _ _ room bs x _ Hd4.out.1.1 Hd4.out.1.2.1 Hd4.out.2.1 (by have := Hd4.out.1.2.2.2.2; omega)).mono ?_
    rintro e w5 ⟨rfl, hE⟩
    have O5 := Lib.hid (O4.out.ext hE)
    have F5 := Lib.hid (F4.out.trans hE)
    have Hd5 := Lib.hid (Hd4.out.ext hE)
    have E5' := Lib.hid (E4'.out.trans hE)
    have HO := Lib.hid (ok11_facts HK.out)
    rw [Hfa.out]
    clear hE F4 O4 Hd4 E4'
    obtain ⟨ab, cb, hvb, -⟩ := Hd5.out.1.2.1.open
    subst hvb
    have hlen : bs.length ≤ 10 := Hd5.out.1.2.2.2.1
    have HWn := Lib.hid (fun h => put_where_new HK.out h)
    have HWo := Lib.hid (fun (k : Nat) h => put_where_old (k := k) HK.out h)
    obtain ⟨c0, c1⟩ := KB.out w5 E5'.out
    have HBO := Lib.hid (put_ok HK.out)
    cases ho : at11 room bs x with
    | none =>
      have hw := HWn.out ho
      have Hw := Lib.hid hw
      rw [show nodeI none = -1 from rfl]
      clear hw HWn HWo ho
      go_wp2_with fail
      refine (BinsWhere_any _ _ room _ x.id _ Hd5.out.1.1 O5.out (by rw [Hfp.out]; have := HBO.out.1.2.1; omega)).mono ?_
      rintro e w6 ⟨rfl, hE⟩
      have F := F5.out.trans hE
      rw [Hw.out]
      go_wp2
      go_ret
      exact ⟨rfl, F⟩
    | some k =>
      have hw := HWo.out k ho
      have Hw := Lib.hid hw
      rw [show nodeI (some k) = (k : Int) from rfl]
      have hneg : ¬ ((k : Int) < 0) := by omega
      clear hw HWn HWo ho
      go_wp2_with fail
      refine (BinsWhere_any _ _ room _ x.id _ Hd5.out.1.1 O5.out (by rw [Hfp.out]; have := HBO.out.1.2.1; omega)).mono ?_
      rintro e w6 ⟨rfl, hE⟩
      have F := F5.out.trans hE
      rw [Hw.out]
      go_wp2
      go_ret
      exact ⟨rfl, F⟩

theorem own : ownKnob Try.prog.godebug = none := by kernel_rfl
theorem laidOut : laidOutB Try.prog = true := by kernel_rfl

set_option maxRecDepth 100000 in
theorem lifted (os : Os) (started : os.Started) (H : Type) (enc : TypeId × Value → H) :
    ReturnsInHanded {} Try.checked os 13 .any (Rows.fnFirstPutWhereSpec.pre6 enc Try.prog Try.f13 Rows.fnFirstPutWhereRow.domain false) (Rows.fnFirstPutWhereSpec.post enc Try.prog Try.f13 false true false false) := by
  refine returnsInHanded_of_change (C := Try.checked) own started (by kernel_rfl) Try.func13
    (ChangeSpec.witness6 (enc := enc) (C := Try.checked) false ⟨#[], #[.slice none 0 0], []⟩ 8 (by kernel_rfl) (by kernel_rfl) (by kernel_rfl) (by kernel_rfl)) ?_
  intro W base args ds gs before hval0 hW hcnd _
  have hval : ∀ (j : Nat) t v, Try.f13.params[j]? = some t → args[j]? = some v → Value.okWide Try.prog W .any base t v := hval0
  have hW' := hW
  obtain ⟨p, q, hA0, hV, rfl, hfz, hnd⟩ := hW
  have hA : DataW.TrodAll enc Try.prog W 0 (fun _ => true) true Try.f13.params.toList args.toList ds p := hA0
  rw [Try.params13] at hA hval
  obtain ⟨v0, vs0, d0, ds0, p0, q0, hargs, rfl, rfl, h0, r0⟩ := trodAll_cons hA
  obtain ⟨rfl, rfl, rfl⟩ := trodAll_nil r0
  obtain rfl : args = #[v0] := by cases args; simp_all
  obtain ⟨rfl, rfl⟩ := trodVars_none hV
  have lt0 : ∀ x ∈ p0, x.block < W.heap.size := by obtain ⟨m, hm⟩ := h0; exact DataW.trod_lt m _ _ _ hm
  obtain ⟨x0, e0⟩ := argCode_of h0 (okWide_slice Try.underlying40 (hval 0 40 v0 rfl rfl))
  clear hA0 hval0
  refine (walk v0 x0 W e0).mono fun e W' ⟨he, bel⟩ => ?_
  subst he
  exact ⟨_, rfl, _, _, _, [], _, [], hW', trodAll_mk1 (shut_bool Try.underlying4 _), (trodAll_cons_mk (Below.trod laidOut (by kernel_rfl) (of_decide_eq_true (by kernel_rfl)) h0 bel lt0) trodAll_mk0), rfl, Below.frame bel _, fun h => by cases h⟩

theorem closed : joinedFacts Try.prog 13 Try.f13 Rows.fnFirstPutWhereSpec Rows.fnFirstPutWhereRow = true := by
  unfold joinedFacts
  rw [may_enter, lifts_final, make_cut]
  kernel_rfl

theorem proved : Rows.FnFirstPutWhereSaid :=
  OpenClaim.holds_of_wide 13 Try.f13 rfl rfl rfl rfl rfl rfl rfl ⟨rfl, rfl, rfl, rfl, rfl⟩ rfl rfl rfl rfl rfl (by kernel_rfl) Try.func13 closed
    (of_decide_eq_true (by kernel_rfl)) (by unfold Func.isWrapper; first | (rw [if_pos (by decide +kernel)]; kernel_rfl) | (rw [if_neg (by decide +kernel)]; exact ⟨rfl, rfl⟩))
    (fun os started H enc _ => lifted os started H enc)

end Go.Proofs.Ytapkpphdkdbclaa.l58
