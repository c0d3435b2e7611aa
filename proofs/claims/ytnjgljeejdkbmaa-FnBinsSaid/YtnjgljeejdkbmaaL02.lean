/- The law FnBins: whatever the code, all tasks of a valid node fit it, and the program's verdict on nodes is the reference's. No condition. -/
import Derived.Test.YtnjgljeejdkbmaaDr6
import Derived.Test.YtnjgljeejdkbmaaI6
import Derived.Test.YtnjgljeejdkbmaaHead
import Derived.OpenShut
import Derived.ChangeOld
namespace Go.Proofs.Ytnjgljeejdkbmaa.l02
set_option maxRecDepth 100000
open Go.RowKit Go.ChangeShapes Go.WideShapes Go.ChangeAt

theorem load_fits {room : List Int} {bs : List (List T)} (h : BinsOk room bs) {b : List T} (hb : b ∈ bs) : vfitsB (binLoadL room b) room = true := by
  have h' := binsOk_all.1 h
  have hT := tasksOk_sub (sub_flat hb) h'.1
  unfold binLoadL
  rw [if_pos (tasksB_iff.2 hT)]
  exact vfits_load hT (h'.2.2 b hb)

set_option maxHeartbeats 1000000 in
theorem walk (v : Value) (n : Nat) (w : World) (h : ArgCode w v n) :
    Calls Try.prog 4 #[v] w fun e w' => e = .returned (.bool true) ∧ Ext w w' := by
  have h2 := h
  obtain ⟨_, ac, cc, rfl, -⟩ := h2
  by_cases hbig : 1048576 < n
  · go_enter Try.func4, Try.ntmps4
    go_wp2
    go_ret
    exact ⟨rfl, Ext.refl _⟩
  · have hsm : n ≤ 1048576 := by omega
    clear hbig
    go_enter Try.func4, Try.ntmps4
    go_wp2_with fail
    refine (DrawBinsValid_any _ _ _ h).mono ?_
    rintro e w1 ⟨vr, vb, room, bs, rfl, hd, E1⟩
    have Hd := Lib.hid hd
    clear hd
    go_wp2_with fail
    refine (BinsValid_any _ _ _ _ _ Hd.out.1 Hd.out.2.1 (by have := Hd.out.2.2.2.2; omega)).mono ?_
    rintro e w2 ⟨rfl, E2⟩
    have Hd2 := Lib.hid (Hd.out.ext E2)
    have F2 := E1.trans E2
    clear E1 E2 Hd
    go_wp2_with fail
    refine (sBinsValid_any _ _ _ _ _ Hd2.out.1 Hd2.out.2.1 (by have := Hd2.out.2.2.2.2; omega)).mono ?_
    rintro e w3 ⟨rfl, E3⟩
    have Hd3 := Lib.hid (Hd2.out.ext E3)
    have F3 := F2.trans E3
    clear E3 F2 Hd2
    cases hb : binsB room bs with
    | false =>
      go_wp2
      go_ret
      exact ⟨rfl, F3⟩
    | true =>
      have Hok := Lib.hid (binsB_iff.1 hb)
      clear hb
      obtain ⟨ab, cb, hvb, -⟩ := Hd3.out.2.1.open
      subst hvb
      have hlen : bs.length ≤ 10 := Hd3.out.2.2.2.1
      go_wp2_with fail
      go_loopw [7] (fun i wr => ∃ k : Nat, k ≤ bs.length ∧ i = .int .i64 k ∧ Ext w3 wr) (fun i _ => bs.length - (intOf i).toNat)
      case atStart => exact ⟨0, by omega, rfl, Ext.refl _⟩
      case round =>
        obtain ⟨k, hk, rfl, hE⟩ := hrel
        by_cases hlt : k < bs.length
        · obtain ⟨b, off, nd, rfl, c0, ht⟩ := Hd3.out.2.1.at hlt
          have c0' := hE.cell c0
          have Ht := Lib.hid (ht.ext hE)
          have Hl := Lib.hid (load_fits Hok.out (List.getElem_mem hlt))
          clear ht c0
          go_wp2_with fail
          refine (BinLoad_any _ _ _ _ _ (Hd3.out.1.ext hE) Ht.out).mono ?_
          rintro e w4 ⟨r4, rfl, E4, hi4⟩
          have F4 := hE.trans E4
          have I4 := Lib.hid hi4
          clear hi4 E4
          go_wp2_with fail
          have cc := VecFits_any _ _ _ _ _ I4.out (Hd3.out.1.ext F4)
          rw [Hl.out] at cc
          refine cc.mono ?_
          clear cc
          rintro e w5 ⟨rfl, rfl⟩
          go_wp2_with fail
          go_roundw
          case rel => exact ⟨k + 1, by omega, by go_num, F4⟩
          case measure => simp [intOf]; omega
        · have e : k = bs.length := by omega
          subst e
          go_wp2
          go_ret
          exact ⟨rfl, F3.trans hE⟩

theorem own : ownKnob Try.prog.godebug = none := by kernel_rfl
theorem laidOut : laidOutB Try.prog = true := by kernel_rfl

set_option maxRecDepth 100000 in
theorem lifted (os : Os) (started : os.Started) (H : Type) (enc : TypeId × Value → H) :
    ReturnsInHanded {} Try.checked os 4 .any (Rows.fnBinsSpec.pre6 enc Try.prog Try.f4 Rows.fnBinsRow.domain false) (Rows.fnBinsSpec.post enc Try.prog Try.f4 false true false false) := by
  refine returnsInHanded_of_change (C := Try.checked) own started (by kernel_rfl) Try.func4
    (ChangeSpec.witness6 (enc := enc) (C := Try.checked) false ⟨#[], #[.slice none 0 0], []⟩ 8 (by kernel_rfl) (by kernel_rfl) (by kernel_rfl) (by kernel_rfl)) ?_
  intro W base args ds gs before hval0 hW hcnd _
  have hval : ∀ (j : Nat) t v, Try.f4.params[j]? = some t → args[j]? = some v → Value.okWide Try.prog W .any base t v := hval0
  have hW' := hW
  obtain ⟨p, q, hA0, hV, rfl, hfz, hnd⟩ := hW
  have hA : DataW.TrodAll enc Try.prog W 0 (fun _ => true) true Try.f4.params.toList args.toList ds p := hA0
  rw [Try.params4] at hA hval
  obtain ⟨v0, vs0, d0, ds0, p0, q0, hargs, rfl, rfl, h0, r0⟩ := trodAll_cons hA
  obtain ⟨rfl, rfl, rfl⟩ := trodAll_nil r0
  obtain rfl : args = #[v0] := by cases args; simp_all
  obtain ⟨rfl, rfl⟩ := trodVars_none hV
  have lt0 : ∀ x ∈ p0, x.block < W.heap.size := by obtain ⟨m, hm⟩ := h0; exact DataW.trod_lt m _ _ _ hm
  obtain ⟨x0, e0⟩ := argCode_of h0 (okWide_slice Try.underlying32 (hval 0 32 v0 rfl rfl))
  clear hA0 hval0
  refine (walk v0 x0 W e0).mono fun e W' ⟨he, bel⟩ => ?_
  subst he
  exact ⟨_, rfl, _, _, _, [], _, [], hW', trodAll_mk1 (shut_bool Try.underlying4 _), (trodAll_cons_mk (Below.trod laidOut (by kernel_rfl) (of_decide_eq_true (by kernel_rfl)) h0 bel lt0) trodAll_mk0), rfl, Below.frame bel _, fun h => by cases h⟩

theorem closed : joinedFacts Try.prog 4 Try.f4 Rows.fnBinsSpec Rows.fnBinsRow = true := by
  unfold joinedFacts
  rw [may_enter, lifts_final, make_cut]
  kernel_rfl

theorem proved : Rows.FnBinsSaid :=
  OpenClaim.holds_of_wide 4 Try.f4 rfl rfl rfl rfl rfl rfl rfl ⟨rfl, rfl, rfl, rfl, rfl⟩ rfl rfl rfl rfl rfl (by kernel_rfl) Try.func4 closed
    (of_decide_eq_true (by kernel_rfl)) (by unfold Func.isWrapper; first | (rw [if_pos (by decide +kernel)]; kernel_rfl) | (rw [if_neg (by decide +kernel)]; exact ⟨rfl, rfl⟩))
    (fun os started H enc _ => lifted os started H enc)

end Go.Proofs.Ytnjgljeejdkbmaa.l02
