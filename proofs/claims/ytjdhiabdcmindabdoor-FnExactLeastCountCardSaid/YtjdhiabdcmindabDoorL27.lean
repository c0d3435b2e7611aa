/- The law FnExactLeastCount (a tied card): the program's LeastCount equals the reference's for every room and all tasks; nothing that came in is changed. No condition beyond the card's own: math/bits' tables lie as the program's text lays them. -/
import Derived.Test.YtjdhiabdcmindabDoorLe1
import Derived.Test.YtjdhiabdcmindabDoorLe2
import Derived.Test.YtjdhiabdcmindabDoorLd
import Derived.Test.YtjdhiabdcmindabDoorArg
import Derived.Test.YtjdhiabdcmindabDoorOpen
import Derived.Test.YtjdhiabdcmindabDoorHead
import Derived.OpenShut
import Derived.ChangeOld
namespace Go.Proofs.YtjdhiabdcmindabDoor.l27
set_option maxRecDepth 100000
open Go.RowKit Go.ChangeShapes Go.WideShapes Go.ChangeAt

theorem beq_refl (xs : List Int) : (xs == xs) = true := by simp

set_option maxHeartbeats 2000000 in
theorem walk (v_room v_ts : Value) (room : List Int) (ts : List T) (w : World) (a_room : ArgInts w v_room room) (a_ts : ArgTasks w v_ts ts) (ht : TabW w) :
    Calls Tryd.prog 6 #[v_room, v_ts] w fun e w' => e = .returned (.bool true) ∧ Ext w w' := by
  have HTW := Lib.hid ht
  clear ht
  have b_room := a_room
  obtain ⟨_, ar_room, cr_room, rfl, -⟩ := b_room
  have A_room := Lib.hid a_room
  clear a_room
  have b_ts := a_ts
  obtain ⟨_, ar_ts, cr_ts, rfl, -⟩ := b_ts
  have A_ts := Lib.hid a_ts
  clear a_ts
  by_cases g_room : 1048576 < room.length
  · go_enter Tryd.func6, Tryd.ntmps6
    go_wp2
    go_ret
    exact ⟨rfl, Ext.refl _⟩
  have h_room : room.length ≤ 1048576 := by omega
  clear g_room
  go_enter Tryd.func6, Tryd.ntmps6
  go_wp2_with fail
  have hEx := Ext.refl w
  have E0 := Lib.hid hEx
  clear hEx
  have q_ts := A_ts.out.ext E0.out
  refine (szTaskS_any _ _ 1048576 _ q_ts (by omega) (by omega)).mono ?_
  rintro e w1 ⟨r_ts, rfl, z_ts, hE⟩
  have E1 := Lib.hid (E0.out.trans hE)
  clear hE q_ts E0
  rcases z_ts with rfl | ⟨l_ts, m_ts⟩
  · have F := E1.out
    go_wp2
    go_ret
    exact ⟨rfl, F⟩
  have u_ts : r_ts ≤ 1048576 := by omega
  have t_ts : ts.length + needs ts ≤ 1048576 := by omega
  clear m_ts
  have L_room := Lib.hid (show room.length ≤ lim by unfold lim; omega)
  have N_room := Lib.hid (show room.length ≤ 2097152 by omega)
  have N_ts := Lib.hid (show ts.length + needs ts ≤ 2097152 by omega)
  have L_ts := Lib.hid (show ts.length ≤ lim by unfold lim; omega)
  have K_ts := Lib.hid (show ∀ t ∈ ts, t.need.length ≤ lim from fun t h => by
    obtain ⟨k, hk, rfl⟩ := List.getElem_of_mem h
    have := needs_le hk
    unfold lim; omega)
  clear h_room
  clear u_ts t_ts
  go_wp2_with fail
  have q_room := A_room.out.ext E1.out
  refine (toIntS_any _ _ _ q_room N_room.out).mono ?_
  rintro e w2 ⟨g2, rfl, hE, ho, -⟩
  have E2 := Lib.hid (E1.out.trans hE)
  have S_room__2 := Lib.hid (ho.done L_room.out)
  clear hE ho q_room E1
  go_wp2_with fail
  have q_ts := A_ts.out.ext E2.out
  refine (toTaskS_any _ _ _ q_ts N_ts.out).mono ?_
  rintro e w3 ⟨g3, rfl, hE, ho⟩
  have E3 := Lib.hid (E2.out.trans hE)
  have S_room__3 := Lib.hid (S_room__2.out.ext hE)
  have S_ts__3 := Lib.hid (ho.tasks L_ts.out K_ts.out)
  clear hE ho q_ts E2 S_room__2
  go_wp2_with fail
  refine (sLeastCount_any _ _ room ts _ S_room__3.out S_ts__3.out).mono ?_
  rintro e w4 ⟨rfl, hE⟩
  have E4 := Lib.hid (E3.out.trans hE)
  have S_room__4 := Lib.hid (S_room__3.out.ext hE)
  have S_ts__4 := Lib.hid (S_ts__3.out.ext hE)
  clear hE E3 S_room__3 S_ts__3
  clear S_room__4 S_ts__4
  go_wp2_with fail
  have q_room := A_room.out.ext E4.out
  refine (toIntS_any _ _ _ q_room N_room.out).mono ?_
  rintro e w5 ⟨g5, rfl, hE, ho, -⟩
  have E5 := Lib.hid (E4.out.trans hE)
  have X_room__5 := Lib.hid (ho.done L_room.out)
  clear hE ho q_room E4
  go_wp2_with fail
  have q_ts := A_ts.out.ext E5.out
  refine (toTaskS_any _ _ _ q_ts N_ts.out).mono ?_
  rintro e w6 ⟨g6, rfl, hE, ho⟩
  have E6 := Lib.hid (E5.out.trans hE)
  have X_room__6 := Lib.hid (X_room__5.out.ext hE)
  have X_ts__6 := Lib.hid (ho.tasks L_ts.out K_ts.out)
  clear hE ho q_ts E5 X_room__5
  go_wp2_with fail
  refine (LeastCount_any _ _ room ts _ X_room__6.out X_ts__6.out (HTW.out.ext E6.out)).mono ?_
  rintro e w7 ⟨rfl, hE⟩
  have E7 := Lib.hid (E6.out.trans hE)
  have X_room__7 := Lib.hid (X_room__6.out.ext hE)
  have X_ts__7 := Lib.hid (X_ts__6.out.ext hE)
  clear hE E6 X_room__6 X_ts__6
  generalize leastI room ts = res at *
  go_wp2_with fail
  have q_room := A_room.out.ext E7.out
  refine (toIntS_any _ _ _ q_room N_room.out).mono ?_
  rintro e w8 ⟨g8, rfl, hE, ho, -⟩
  have E8 := Lib.hid (E7.out.trans hE)
  have X_room__8 := Lib.hid (X_room__7.out.ext hE)
  have X_ts__8 := Lib.hid (X_ts__7.out.ext hE)
  have Y_room__8 := Lib.hid (ho.done L_room.out)
  clear hE ho q_room E7 X_room__7 X_ts__7
  go_wp2_with fail
  refine (eqIntS_any _ _ _ _ _ X_room__8.out Y_room__8.out).mono ?_
  rintro e w9 ⟨rfl, m8, rfl⟩
  have hE := (Ext.refl (w8)).drewN m8
  have E9 := Lib.hid (E8.out.trans hE)
  have X_room__9 := Lib.hid (X_room__8.out.ext hE)
  have X_ts__9 := Lib.hid (X_ts__8.out.ext hE)
  have Y_room__9 := Lib.hid (Y_room__8.out.ext hE)
  clear hE E8 X_room__8 X_ts__8 Y_room__8
  rw [beq_refl]
  clear X_room__9 Y_room__9
  go_wp2_with fail
  have q_ts := A_ts.out.ext E9.out
  refine (toTaskS_any _ _ _ q_ts N_ts.out).mono ?_
  rintro e w10 ⟨g10, rfl, hE, ho⟩
  have E10 := Lib.hid (E9.out.trans hE)
  have X_ts__10 := Lib.hid (X_ts__9.out.ext hE)
  have Y_ts__10 := Lib.hid (ho.tasks L_ts.out K_ts.out)
  clear hE ho q_ts E9 X_ts__9
  go_wp2_with fail
  refine (eqTaskS_any _ _ _ _ _ X_ts__10.out Y_ts__10.out).mono ?_
  rintro e w11 ⟨rfl, hE⟩
  have E11 := Lib.hid (E10.out.trans hE)
  have X_ts__11 := Lib.hid (X_ts__10.out.ext hE)
  have Y_ts__11 := Lib.hid (Y_ts__10.out.ext hE)
  clear hE E10 X_ts__10 Y_ts__10
  rw [sameTs_iff.2 rfl]
  clear X_ts__11 Y_ts__11
  have F := E11.out
  go_wp2_with fail
  go_ret
  exact ⟨rfl, F⟩

theorem own : ownKnob Tryd.prog.godebug = none := by kernel_rfl
theorem laidOut : laidOutB Tryd.prog = true := by kernel_rfl

set_option maxRecDepth 100000 in
theorem lifted (os : Os) (started : os.Started) (H : Type) (enc : TypeId × Value → H) :
    ReturnsInHanded {} Tryd.checked os 6 .any (fun w args => (Rows.fnExactLeastCountSpec.pre enc Tryd.prog Tryd.f6 [] false w args ∧ laidMetH Tryd.prog laidL w) ∧ sizedMet enc Tryd.prog Tryd.f6 (OpenSpec.ofChange Rows.fnExactLeastCountSpec) false w args) (Rows.fnExactLeastCountSpec.post enc Tryd.prog Tryd.f6 false true false false) := by
  refine returnsInHanded_of_change_and (C := Tryd.checked) (X := fun w _ => laidMetH Tryd.prog laidL w) (fun _ _ _ hh h => h.of_heap hh) own started (by kernel_rfl) Tryd.func6
    (ChangeSpec.witness_shaped (enc := enc) (C := Tryd.checked) (os := os) (X := fun w _ => laidMetH Tryd.prog laidL w) false (World.doorLaid Tryd.prog 19 os) #[.slice none 0 0, .slice none 0 0] 8 rfl (World.shaped_of_RefB (by kernel_rfl) (by kernel_rfl)) (by kernel_rfl) (by kernel_rfl) (by kernel_rfl) (door_met os _)) ?_
  intro W base args ds gs before hval0 hW _ _ hL _
  have hval : ∀ (j : Nat) t v, Tryd.f6.params[j]? = some t → args[j]? = some v → Value.okWide Tryd.prog W .any base t v := hval0
  have hW' := hW
  obtain ⟨p, q, hA0, hV, rfl, hfz, hnd⟩ := hW
  have hA : DataW.TrodAll enc Tryd.prog W 0 (fun _ => true) true Tryd.f6.params.toList args.toList ds p := hA0
  rw [Tryd.params6] at hA hval
  obtain ⟨v0, vs0, d0, ds0, p0, q0, hargs, rfl, rfl, h0, r0⟩ := trodAll_cons hA
  obtain ⟨v1, vs1, d1, ds1, p1, q1, rfl, rfl, rfl, h1, r1⟩ := trodAll_cons r0
  obtain ⟨rfl, rfl, rfl⟩ := trodAll_nil r1
  obtain rfl : args = #[v0, v1] := by cases args; simp_all
  obtain ⟨rfl, rfl⟩ := trodVars_none hV
  have lt0 : ∀ x ∈ p0, x.block < W.heap.size := by obtain ⟨m, hm⟩ := h0; exact DataW.trod_lt m _ _ _ hm
  have lt1 : ∀ x ∈ p1, x.block < W.heap.size := by obtain ⟨m, hm⟩ := h1; exact DataW.trod_lt m _ _ _ hm
  obtain ⟨x0, e0⟩ := argInts_of h0 (okWide_slice Tryd.underlying23 (hval 0 23 v0 rfl rfl))
  obtain ⟨x1, e1⟩ := argTasks_of h1 (okWide_slice Tryd.underlying32 (hval 1 32 v1 rfl rfl))
  clear hA0 hval0
  refine (walk v0 v1 x0 x1 W e0 e1 (met_tab hL)).mono fun e W' ⟨he, bel⟩ => ?_
  subst he
  exact ⟨_, rfl, _, _, _, [], _, [], hW', trodAll_mk1 (shut_bool Tryd.underlying4 _), (trodAll_cons_mk (Below.trod laidOut (by kernel_rfl) (of_decide_eq_true (by kernel_rfl)) h0 bel lt0) (trodAll_cons_mk (Below.trod laidOut (by kernel_rfl) (of_decide_eq_true (by kernel_rfl)) h1 bel lt1) trodAll_mk0)), rfl, Below.frame bel _, fun h => by cases h⟩

theorem closed : joinedFacts Tryd.prog 6 Tryd.f6 Rows.fnExactLeastCountSpec Rows.fnExactLeastCountRow = true := by
  unfold joinedFacts
  rw [may_enter, lifts_final, make_cut]
  kernel_rfl

theorem row_holds : Rows.FnExactLeastCountSaid :=
  OpenClaim.holds_of_wide 6 Tryd.f6 rfl rfl rfl rfl rfl rfl rfl ⟨rfl, rfl, rfl, rfl, rfl⟩ rfl rfl rfl rfl rfl (by kernel_rfl) Tryd.func6 closed
    (of_decide_eq_true (by kernel_rfl)) (by unfold Func.isWrapper; first | (rw [if_pos (by decide +kernel)]; kernel_rfl) | (rw [if_neg (by decide +kernel)]; exact ⟨rfl, rfl⟩))
    (fun os started H enc _ => lifted os started H enc)

theorem proved : Rows.FnExactLeastCountCardSaid :=
  Claim7.holds_tied_plain_at .later [] [.data, .data] true Rows.fnExactLeastCountCard.stood.harness Rows.fnExactLeastCountCard.stood.looks
    row_holds (fun _ h => by cases h) (by kernel_rfl) (fun _ h => by cases h) fnExactLeastCount_row_tie rfl ⟨rfl, rfl⟩ (by kernel_rfl) rfl
    (fun f fn hf hfn => by
      obtain rfl : f = 6 := Option.some.inj ((show Tryd.prog.funcNamed "loop.example/vectorpacker/laws.FnExactLeastCount" = some 6 by kernel_rfl).symm.trans hf) |>.symm
      obtain rfl : fn = Tryd.f6 := (Option.some.inj (Tryd.func6.symm.trans hfn)).symm
      exact ⟨by kernel_rfl, fun j t ht => by
        rw [Tryd.params6] at ht
        have hm : t ∈ [23, 32] := by simpa using Array.mem_of_getElem? ht
        have hall : ([23, 32].all fun u => !Tryd.prog.wantsStandIn u) = true := by kernel_rfl
        exact (show Tryd.prog.wantsStandIn t = false by simpa using List.all_eq_true.1 hall t hm)⟩)
    (by kernel_rfl)

end Go.Proofs.YtjdhiabdcmindabDoor.l27
