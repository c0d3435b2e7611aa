/- The law FnWhereNone: whatever the code, a task is found just where some node has it. No condition. -/
import Derived.Test.YtnjgljeejdkbmaaDr7
import Derived.Test.YtnjgljeejdkbmaaS10
import Derived.Test.YtnjgljeejdkbmaaHead
import Derived.OpenShut
import Derived.ChangeOld
namespace Go.Proofs.Ytnjgljeejdkbmaa.l09
set_option maxRecDepth 100000
open Go.RowKit Go.ChangeShapes Go.WideShapes Go.ChangeAt

theorem where_some {room : List Int} {bs : List (List T)} {id : Int} (h : binsB room bs = true) : decide (0 ≤ whereI room bs id) = (binsTasksL room bs).any (isId id) := by
  unfold whereI binsTasksL
  rw [if_pos h, if_pos h, nodeI_some]
  unfold where0
  rw [any_find, List.any_flatten]
  rfl
theorem any_step {α : Type} {p : α → Bool} {l : List α} {k : Nat} (h : k < l.length) : (l.take (k + 1)).any p = ((l.take k).any p || p l[k]) := by
  rw [List.take_succ_eq_append_getElem h, List.any_append]; simp

set_option maxHeartbeats 2000000 in
theorem walk (v : Value) (n : Nat) (w : World) (h : ArgCode w v n) :
    Calls Try.prog 10 #[v] w fun e w' => e = .returned (.bool true) ∧ Ext w w' := by
  have h2 := h
  obtain ⟨_, ac, cc, rfl, -⟩ := h2
  by_cases hbig : 1048576 < n
  · go_enter Try.func10, Try.ntmps10
    go_wp2
    go_ret
    exact ⟨rfl, Ext.refl _⟩
  have hsm : n ≤ 1048576 := by omega
  clear hbig
  go_enter Try.func10, Try.ntmps10
  go_wp2_with fail
  refine (DrawBinsWhere_any _ _ _ h).mono ?_
  rintro e w1 ⟨vr, vb, room, bs, id, rfl, hd, E1⟩
  have Hd := Lib.hid hd
  clear hd
  go_wp2_with fail
  refine (BinsWhere_any _ _ _ _ id _ Hd.out.1 Hd.out.2.1 (by have := Hd.out.2.2.2.2; omega)).mono ?_
  rintro e w2 ⟨rfl, E2⟩
  have Hd2 := Lib.hid (Hd.out.ext E2)
  have F2 := E1.trans E2
  clear E1 E2 Hd
  go_wp2_with fail
  refine (sBinsWhere_any _ _ _ _ id _ Hd2.out.1 Hd2.out.2.1 (by have := Hd2.out.2.2.2.2; omega)).mono ?_
  rintro e w3 ⟨rfl, E3⟩
  have Hd3 := Lib.hid (Hd2.out.ext E3)
  have F3 := Lib.hid (F2.trans E3)
  clear E3 F2 Hd2
  have HS := Lib.hid (where_some (room := room) (bs := bs) (id := id))
  generalize whereI room bs id = z at *
  go_wp2_with fail
  refine (sBinsValid_any _ _ _ _ _ Hd3.out.1 Hd3.out.2.1 (by have := Hd3.out.2.2.2.2; omega)).mono ?_
  rintro e w4 ⟨rfl, E4⟩
  have Hd4 := Lib.hid (Hd3.out.ext E4)
  have F4 := Lib.hid (F3.out.trans E4)
  clear E4 F3 Hd3
  cases hb : binsB room bs with
  | false =>
    have F := F4.out
    go_wp2
    go_ret
    exact ⟨rfl, F⟩
  | true =>
    have HZ := Lib.hid (HS.out hb)
    have Hl := Lib.hid (binsTasks_lim room bs)
    go_wp2_with fail
    clear hb HS
    refine (BinsTasks_any _ _ _ _ _ Hd4.out.1 Hd4.out.2.1 (by have := Hd4.out.2.2.2.2; omega)).mono ?_
    rintro e w5 ⟨r5, rfl, E5, ht5⟩
    obtain ⟨a5, c5, rfl⟩ := ht5.form
    have F5 := Lib.hid (F4.out.trans E5)
    have hl : (binsTasksL room bs).length ≤ 1000 := Hl.out.1
    have Ht := Lib.hid (ht5.tasks (by have := Hl.out.1; unfold lim; omega) (fun t ht => by have := Hl.out.2 t ht; unfold lim; omega))
    clear E5 ht5 F4 Hd4 Hl
    generalize binsTasksL room bs = all at *
    go_wp2_with fail
    go_loop [9, 10] (fun s i => ∃ (k : Nat) (f : Bool), k ≤ all.length ∧ i = .int .i64 k ∧ s = .bool f ∧ f = (all.take k).any (isId id)) (fun _ i => all.length - (intOf i).toNat)
    case atStart => exact ⟨0, false, by omega, rfl, rfl, by simp⟩
    case round =>
      obtain ⟨k, f, hk, rfl, rfl, hf⟩ := hrel
      have Hf := Lib.hid hf
      clear hf
      by_cases hlt : k < all.length
      · obtain ⟨b, off, nd, rfl, c0, c1, hn⟩ := Ht.out.at hlt
        have Hst := Lib.hid (any_step (p := isId id) hlt)
        have i0 : (0 : Int) ≤ (k : Int) := by omega
        have i1 : (k : Int) < (all.length : Int) := by omega
        clear c1 hn
        cases f with
        | true =>
          go_wp2
          go_round
          case rel => exact ⟨k + 1, true, by omega, by go_num, rfl, by rw [Hst.out, ← Hf.out]; rfl⟩
          case measure => simp [intOf]; omega
        | false =>
          go_wp2
          go_round
          case rel => exact ⟨k + 1, _, by omega, by go_num, rfl, by rw [Hst.out, ← Hf.out]; rfl⟩
          case measure => simp [intOf]; omega
      · have e : k = all.length := by omega
        subst e
        have e2 : f = decide (0 ≤ z) := by have := Hf.out; rw [List.take_length] at this; rw [this, HZ.out]
        have F := F5.out
        subst e2
        by_cases hz : 0 ≤ z
        · go_wp2
          go_ret
          exact ⟨by simp, F⟩
        · have hz' : z < 0 := by omega
          go_wp2
          go_ret
          exact ⟨by simp, F⟩

theorem own : ownKnob Try.prog.godebug = none := by kernel_rfl
theorem laidOut : laidOutB Try.prog = true := by kernel_rfl

set_option maxRecDepth 100000 in
theorem lifted (os : Os) (started : os.Started) (H : Type) (enc : TypeId × Value → H) :
    ReturnsInHanded {} Try.checked os 10 .any (Rows.fnWhereNoneSpec.pre6 enc Try.prog Try.f10 Rows.fnWhereNoneRow.domain false) (Rows.fnWhereNoneSpec.post enc Try.prog Try.f10 false true false false) := by
  refine returnsInHanded_of_change (C := Try.checked) own started (by kernel_rfl) Try.func10
    (ChangeSpec.witness6 (enc := enc) (C := Try.checked) false ⟨#[], #[.slice none 0 0], []⟩ 8 (by kernel_rfl) (by kernel_rfl) (by kernel_rfl) (by kernel_rfl)) ?_
  intro W base args ds gs before hval0 hW hcnd _
  have hval : ∀ (j : Nat) t v, Try.f10.params[j]? = some t → args[j]? = some v → Value.okWide Try.prog W .any base t v := hval0
  have hW' := hW
  obtain ⟨p, q, hA0, hV, rfl, hfz, hnd⟩ := hW
  have hA : DataW.TrodAll enc Try.prog W 0 (fun _ => true) true Try.f10.params.toList args.toList ds p := hA0
  rw [Try.params10] at hA hval
  obtain ⟨v0, vs0, d0, ds0, p0, q0, hargs, rfl, rfl, h0, r0⟩ := trodAll_cons hA
  obtain ⟨rfl, rfl, rfl⟩ := trodAll_nil r0
  obtain rfl : args = #[v0] := by cases args; simp_all
  obtain ⟨rfl, rfl⟩ := trodVars_none hV
  have lt0 : ∀ x ∈ p0, x.block < W.heap.size := by obtain ⟨m, hm⟩ := h0; exact DataW.trod_lt m _ _ _ hm
  obtain ⟨x0, e0⟩ := argCode_of h0 (okWide_slice Try.underlying32 (hval 0 32 v0 rfl rfl))
  clear hA0 hval0
  refine (walk v0 x0 W e0).mono fun e W' ⟨he, bel⟩ => ?_
  subst he
  exact ⟨_, rfl, _, _, _, [], _, [], hW', trodAll_mk1 (shut_bool Try.underlying4 _), (trodAll_cons_mk (Below.trod laidOut (by kernel_rfl) (of_decide_eq_true (by kernel_rfl)) h0 bel lt0) trodAll_mk0), rfl, Below.frame bel _, fun h => by cases h⟩

theorem closed : joinedFacts Try.prog 10 Try.f10 Rows.fnWhereNoneSpec Rows.fnWhereNoneRow = true := by
  unfold joinedFacts
  rw [may_enter, lifts_final, make_cut]
  kernel_rfl

theorem proved : Rows.FnWhereNoneSaid :=
  OpenClaim.holds_of_wide 10 Try.f10 rfl rfl rfl rfl rfl rfl rfl ⟨rfl, rfl, rfl, rfl, rfl⟩ rfl rfl rfl rfl rfl (by kernel_rfl) Try.func10 closed
    (of_decide_eq_true (by kernel_rfl)) (by unfold Func.isWrapper; first | (rw [if_pos (by decide +kernel)]; kernel_rfl) | (rw [if_neg (by decide +kernel)]; exact ⟨rfl, rfl⟩))
    (fun os started H enc _ => lifted os started H enc)

end Go.Proofs.Ytnjgljeejdkbmaa.l09
