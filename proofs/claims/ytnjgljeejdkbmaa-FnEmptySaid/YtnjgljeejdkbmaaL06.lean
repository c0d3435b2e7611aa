/- The law FnEmpty: whatever the code, the empty nodes are listed in order, by the program as by the reference. No condition. -/
import Derived.Test.YtnjgljeejdkbmaaDr7
import Derived.Test.YtnjgljeejdkbmaaS9
import Derived.Test.YtnjgljeejdkbmaaSame
import Derived.Test.YtnjgljeejdkbmaaHead
import Derived.OpenShut
import Derived.ChangeOld
namespace Go.Proofs.Ytnjgljeejdkbmaa.l06
set_option maxRecDepth 100000
open Go.RowKit Go.ChangeShapes Go.WideShapes Go.ChangeAt

theorem emptyL_pre (bs : List (List T)) : ∀ d k, k + d = bs.length → emptyL (bs.take k) <+: emptyL bs := by
  intro d
  induction d with
  | zero =>
    intro k hk
    rw [show k = bs.length by omega, List.take_length]
    exact List.prefix_refl _
  | succ d ih =>
    intro k hk
    have h1 := ih (k + 1) (by omega)
    rw [emptyL_step (by omega)] at h1
    split at h1
    · exact (List.prefix_append _ _).trans h1
    · exact h1
theorem emptyL_at {bs : List (List T)} {k : Nat} (h : k < bs.length) (h0 : bs[k].length = 0) : ∃ (hm : (emptyL (bs.take k)).length < (emptyL bs).length), (emptyL bs)[(emptyL (bs.take k)).length] = (k : Int) ∧ (emptyL (bs.take (k + 1))).length = (emptyL (bs.take k)).length + 1 := by
  have h1 := emptyL_pre bs (bs.length - (k + 1)) (k + 1) (by omega)
  have h2 := emptyL_step h
  rw [if_pos h0] at h2
  have h3 : (emptyL (bs.take (k + 1))).length = (emptyL (bs.take k)).length + 1 := by rw [h2]; simp
  have h4 := h1.length_le
  refine ⟨by omega, ?_, h3⟩
  have h5 := h1.getElem (i := (emptyL (bs.take k)).length) (by omega)
  rw [← h5]
  simp [h2]

theorem beq_refl (xs : List Int) : (xs == xs) = true := by simp

set_option maxHeartbeats 2000000 in
theorem walk (v : Value) (n : Nat) (w : World) (h : ArgCode w v n) :
    Calls Try.prog 8 #[v] w fun e w' => e = .returned (.bool true) ∧ Ext w w' := by
  have h2 := h
  obtain ⟨_, ac, cc, rfl, -⟩ := h2
  by_cases hbig : 1048576 < n
  · go_enter Try.func8, Try.ntmps8
    go_wp2
    go_ret
    exact ⟨rfl, Ext.refl _⟩
  have hsm : n ≤ 1048576 := by omega
  clear hbig
  go_enter Try.func8, Try.ntmps8
  go_wp2_with fail
  refine (DrawGatherEmpty_any _ _ _ h).mono ?_
  rintro e w1 ⟨vr, vb, room, bs, rfl, hd, E1⟩
  have Hd := Lib.hid hd
  clear hd
  go_wp2_with fail
  refine (GatherEmpty_any _ _ _ _ _ Hd.out.1 Hd.out.2.1 (by have := Hd.out.2.2.2.2; omega)).mono ?_
  rintro e w2 ⟨vg, rfl, E2, hg⟩
  have Hd2 := Lib.hid (Hd.out.ext E2)
  have HG := Lib.hid hg
  obtain ⟨gg, ⟨gc, rfl⟩, -⟩ := hg
  have F2 := E1.trans E2
  clear E1 E2 Hd
  go_wp2_with fail
  refine (sGatherEmpty_any _ _ _ _ _ Hd2.out.1 Hd2.out.2.1 (by have := Hd2.out.2.2.2.2; omega)).mono ?_
  rintro e w3 ⟨vs, rfl, E3, hs⟩
  have Hd3 := Lib.hid (Hd2.out.ext E3)
  have HG3 := Lib.hid (HG.out.ext E3)
  have HS := Lib.hid hs
  obtain ⟨sg, ⟨sc, rfl⟩, -⟩ := hs
  have F3 := F2.trans E3
  clear E3 F2 Hd2 HG
  have hle : (emptiesL room bs).length ≤ 10 := by
    unfold emptiesL
    split
    · have := emptyL_len bs; have := Hd3.out.2.2.2.1; omega
    · simp
  have IG := Lib.hid (HG3.out.own.done (by unfold lim; omega))
  have IS := Lib.hid (HS.out.own.done (by unfold lim; omega))
  go_wp2_with fail
  have cc := sameInts_any _ _ _ _ _ IG.out IS.out
  rw [beq_refl] at cc
  refine cc.mono ?_
  clear cc
  rintro e w4 ⟨rfl, m4, rfl⟩
  have Hd4 := Lib.hid (Hd3.out.ext ((Ext.refl w3).drewN m4))
  have IG4 := Lib.hid (IG.out.drewN m4)
  have IS4 := Lib.hid (IS.out.drewN m4)
  have F4 := F3.drewN m4
  clear F3 Hd3 IG IS HG3 HS
  go_wp2_with fail
  refine (sBinsValid_any _ _ _ _ _ Hd4.out.1 Hd4.out.2.1 (by have := Hd4.out.2.2.2.2; omega)).mono ?_
  rintro e w5 ⟨rfl, E5⟩
  have Hd5 := Lib.hid (Hd4.out.ext E5)
  have IG5 := Lib.hid (IG4.out.ext E5)
  have IS5 := Lib.hid (IS4.out.ext E5)
  have F5 := F4.trans E5
  clear E5 F4 Hd4 IG4 IS4
  cases hb : binsB room bs with
  | false =>
    go_wp2_with fail
    have cc := sameInts_any _ _ _ _ _ IG5.out IS5.out
    rw [beq_refl] at cc
    refine cc.mono ?_
    clear cc
    rintro e w6 ⟨rfl, m6, rfl⟩
    go_wp2_with fail
    go_ret
    exact ⟨rfl, F5.drewN m6⟩
  | true =>
    have he : emptiesL room bs = emptyL bs := by simp [emptiesL, hb]
    rw [he] at IG5 hle ⊢
    obtain ⟨ab, cb, hvb, -⟩ := Hd5.out.2.1.open
    subst hvb
    have hlen : bs.length ≤ 10 := Hd5.out.2.2.2.1
    generalize hout : emptyL bs = out at *
    have Hout := Lib.hid hout
    clear hout he hb IS5
    go_wp2_with fail
    go_loop [7, 8] (fun s i => ∃ k m : Nat, k ≤ bs.length ∧ i = .int .i64 k ∧ s = .int .i64 m ∧ m = (emptyL (bs.take k)).length ∧ m ≤ 10) (fun _ i => bs.length - (intOf i).toNat)
    case atStart => exact ⟨0, 0, by omega, rfl, rfl, by simp [emptyL], by omega⟩
    case round =>
      obtain ⟨k, m, hk, rfl, rfl, hm, hm10⟩ := hrel
      have Hm := Lib.hid hm
      clear hm
      by_cases hlt : k < bs.length
      · obtain ⟨b, off, nd, rfl, c0, ht⟩ := Hd5.out.2.1.at hlt
        obtain ⟨ta, tc, rfl, -⟩ := ht.open
        clear ht
        by_cases h0 : bs[k].length = 0
        · have h0' : (((bs[k].length : Nat) : Int) == 0) = true := by simp [h0]
          have Hat := Lib.hid (emptyL_at hlt h0)
          have hml : m < out.length := by obtain ⟨h1, _⟩ := Hat.out; rw [Hout.out, ← Hm.out] at h1; exact h1
          obtain ⟨bg, og, hbg, cg⟩ := IG5.out.at (by omega)
          have cm := cg m hml
          have hv : out[m] = (k : Int) := by obtain ⟨h1, h2, _⟩ := Hat.out; simp only [Hout.out, ← Hm.out] at h2; exact h2
          rw [hv] at cm
          simp only [Option.some.injEq, Addr.mk.injEq, and_true] at hbg
          obtain ⟨rfl, rfl⟩ := hbg
          rw [Nat.zero_add] at cm
          have Hml := Lib.hid (show m + 1 = (emptyL (bs.take (k + 1))).length ∧ m + 1 ≤ 10 from ⟨by obtain ⟨_, _, h3⟩ := Hat.out; rw [h3, ← Hm.out], by omega⟩)
          have m0 : (0 : Int) ≤ (m : Int) := by omega
          have hge : decide (out.length ≤ m) = false := by simp; omega
          clear h0 hv cg
          go_wp2
          go_round
          case rel => exact ⟨k + 1, m + 1, by omega, by go_num, by go_num, Hml.out.1, Hml.out.2⟩
          case measure => simp [intOf]; omega
        · have h0' : (((bs[k].length : Nat) : Int) == 0) = false := beq_eq_false_iff_ne.2 (by omega)
          have Hst := Lib.hid (emptyL_step hlt)
          have H0 := Lib.hid h0
          clear h0
          go_wp2
          go_round
          case rel => exact ⟨k + 1, m, by omega, by go_num, rfl, by rw [Hst.out, if_neg H0.out]; exact Hm.out, hm10⟩
          case measure => simp [intOf]; omega
      · have e : k = bs.length := by omega
        subst e
        have hml : m = out.length := by have := Hm.out; rw [List.take_length, Hout.out] at this; exact this
        subst hml
        go_wp2
        go_ret
        exact ⟨rfl, F5⟩

theorem own : ownKnob Try.prog.godebug = none := by kernel_rfl
theorem laidOut : laidOutB Try.prog = true := by kernel_rfl

set_option maxRecDepth 100000 in
theorem lifted (os : Os) (started : os.Started) (H : Type) (enc : TypeId × Value → H) :
    ReturnsInHanded {} Try.checked os 8 .any (Rows.fnEmptySpec.pre6 enc Try.prog Try.f8 Rows.fnEmptyRow.domain false) (Rows.fnEmptySpec.post enc Try.prog Try.f8 false true false false) := by
  refine returnsInHanded_of_change (C := Try.checked) own started (by kernel_rfl) Try.func8
    (ChangeSpec.witness6 (enc := enc) (C := Try.checked) false ⟨#[], #[.slice none 0 0], []⟩ 8 (by kernel_rfl) (by kernel_rfl) (by kernel_rfl) (by kernel_rfl)) ?_
  intro W base args ds gs before hval0 hW hcnd _
  have hval : ∀ (j : Nat) t v, Try.f8.params[j]? = some t → args[j]? = some v → Value.okWide Try.prog W .any base t v := hval0
  have hW' := hW
  obtain ⟨p, q, hA0, hV, rfl, hfz, hnd⟩ := hW
  have hA : DataW.TrodAll enc Try.prog W 0 (fun _ => true) true Try.f8.params.toList args.toList ds p := hA0
  rw [Try.params8] at hA hval
  obtain ⟨v0, vs0, d0, ds0, p0, q0, hargs, rfl, rfl, h0, r0⟩ := trodAll_cons hA
  obtain ⟨rfl, rfl, rfl⟩ := trodAll_nil r0
  obtain rfl : args = #[v0] := by cases args; simp_all
  obtain ⟨rfl, rfl⟩ := trodVars_none hV
  have lt0 : ∀ x ∈ p0, x.block < W.heap.size := by obtain ⟨m, hm⟩ := h0; exact DataW.trod_lt m _ _ _ hm
  obtain ⟨x0, e0⟩ := argCode_of h0 (okWide_slice Try.underlying32 (hval 0 32 v0 rfl rfl))
  clear hA0 hval0
  refine (walk v0 x0 W e0).mono fun e W' ⟨he, bel⟩ => ?_
  subst he
  exact ⟨_, rfl, _, _, _, [], _, [], hW', trodAll_mk1 (shut_bool Try.underlying4 _), (trodAll_cons_mk (Below.trod laidOut (by kernel_rfl) (of_decide_eq_true (by kernel_rfl)) h0 bel lt0) trodAll_mk0), rfl, Below.frame bel _, fun h => by cases h⟩

theorem closed : joinedFacts Try.prog 8 Try.f8 Rows.fnEmptySpec Rows.fnEmptyRow = true := by
  unfold joinedFacts
  rw [may_enter, lifts_final, make_cut]
  kernel_rfl

theorem proved : Rows.FnEmptySaid :=
  OpenClaim.holds_of_wide 8 Try.f8 rfl rfl rfl rfl rfl rfl rfl ⟨rfl, rfl, rfl, rfl, rfl⟩ rfl rfl rfl rfl rfl (by kernel_rfl) Try.func8 closed
    (of_decide_eq_true (by kernel_rfl)) (by unfold Func.isWrapper; first | (rw [if_pos (by decide +kernel)]; kernel_rfl) | (rw [if_neg (by decide +kernel)]; exact ⟨rfl, rfl⟩))
    (fun os started H enc _ => lifted os started H enc)

end Go.Proofs.Ytnjgljeejdkbmaa.l06
