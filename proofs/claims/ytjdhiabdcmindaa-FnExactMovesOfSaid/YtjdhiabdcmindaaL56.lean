/- The law FnExactMovesOf: the program's MovesOf equals the reference's for every room and all nodes; it changes nothing that came in, and its result shares no memory. No condition. -/
import Derived.Test.YtjdhiabdcmindaaMo
import Derived.Test.YtjdhiabdcmindaaMark4
import Derived.Test.YtjdhiabdcmindaaArg
import Derived.Test.YtjdhiabdcmindaaOpen
import Derived.Test.YtjdhiabdcmindaaHead
import Derived.OpenShut
import Derived.ChangeOld
namespace Go.Proofs.Ytjdhiabdcmindaa.l56
set_option maxRecDepth 100000
open Go.RowKit Go.ChangeShapes Go.WideShapes Go.ChangeAt

theorem beq_refl (xs : List Int) : (xs == xs) = true := by simp

set_option maxHeartbeats 4000000 in
theorem walk (v_room v_bs : Value) (room : List Int) (bs : List (List T)) (w : World) (a_room : ArgInts w v_room room) (a_bs : ArgBins w v_bs bs) :
    Calls Try.prog 5 #[v_room, v_bs] w fun e w' => e = .returned (.bool true) ∧ Ext w w' := by
  have b_room := a_room
  obtain ⟨_, ar_room, cr_room, rfl, -⟩ := b_room
  have A_room := Lib.hid a_room
  clear a_room
  have b_bs := a_bs
  obtain ⟨_, ar_bs, cr_bs, rfl, -⟩ := b_bs
  have A_bs := Lib.hid a_bs
  clear a_bs
  by_cases g_room : 1048576 < room.length
  · go_enter Try.func5, Try.ntmps5
    go_wp2
    go_ret
    exact ⟨rfl, Ext.refl _⟩
  have h_room : room.length ≤ 1048576 := by omega
  clear g_room
  go_enter Try.func5, Try.ntmps5
  go_wp2_with fail
  have hEx := Ext.refl w
  have E0 := Lib.hid hEx
  clear hEx
  have q_bs := A_bs.out.ext E0.out
  refine (szTaskSS_any _ _ 1048576 _ q_bs (by omega) (by omega)).mono ?_
  rintro e w1 ⟨r_bs, rfl, z_bs, hE⟩
  have E1 := Lib.hid (E0.out.trans hE)
  clear hE q_bs E0
  rcases z_bs with rfl | ⟨l_bs, m_bs⟩
  · have F := E1.out
    go_wp2
    go_ret
    exact ⟨rfl, F⟩
  have u_bs : r_bs ≤ 1048576 := by omega
  have t_bs : bs.length + weigh bs ≤ 1048576 := by omega
  clear m_bs
  have L_room := Lib.hid (show room.length ≤ lim by unfold lim; omega)
  have N_room := Lib.hid (show room.length ≤ 2097152 by omega)
  have N_bs := Lib.hid (show bs.length + weigh bs ≤ 2097152 by omega)
  have L_bs := Lib.hid (show bs.length + weigh bs ≤ lim by unfold lim; omega)
  have K_bs := Lib.hid (show bs.flatten.length ≤ 2097152 by have := flat_le bs; omega)
  clear h_room
  clear u_bs t_bs
  go_wp2_with fail
  have q_room := A_room.out.ext E1.out
  refine (toIntS_any _ _ _ q_room N_room.out).mono ?_
  rintro e w2 ⟨g2, rfl, hE, ho, -⟩
  have E2 := Lib.hid (E1.out.trans hE)
  have S_room__2 := Lib.hid (ho.done L_room.out)
  clear hE ho q_room E1
  go_wp2_with fail
  have q_bs := A_bs.out.ext E2.out
  refine (toTaskSS_any _ _ _ q_bs N_bs.out).mono ?_
  rintro e w3 ⟨g3, rfl, hE, ho⟩
  have E3 := Lib.hid (E2.out.trans hE)
  have S_room__3 := Lib.hid (S_room__2.out.ext hE)
  have S_bs__3 := Lib.hid (ho.bins L_bs.out)
  clear hE ho q_bs E2 S_room__2
  go_wp2_with fail
  refine (sMovesOf_any _ _ _ _ _ S_room__3.out S_bs__3.out K_bs.out).mono ?_
  rintro e w4 ⟨rs, rfl, hs, hE⟩
  have E4 := Lib.hid (E3.out.trans hE)
  have S_room__4 := Lib.hid (S_room__3.out.ext hE)
  have S_bs__4 := Lib.hid (S_bs__3.out.ext hE)
  have R0__4 := Lib.hid (hs.done (movesOf_lim room bs))
  clear hE hs E3 S_room__3 S_bs__3
  clear S_room__4 S_bs__4
  have M4 := Lib.hid (Ext.refl w4)
  go_wp2_with fail
  have q_room := A_room.out.ext E4.out
  refine (toIntS_any _ _ _ q_room N_room.out).mono ?_
  rintro e w5 ⟨g5, rfl, hE, ho, -⟩
  have E5 := Lib.hid (E4.out.trans hE)
  have M5 := Lib.hid (M4.out.trans hE)
  have Q5 := Lib.hid hE.le
  have X_room__5 := Lib.hid (IntsU.upto ho)
  clear hE ho q_room M4
  go_wp2_with fail
  have q_bs := A_bs.out.ext E5.out
  refine (toTaskSSU_any _ _ _ q_bs N_bs.out).mono ?_
  rintro e w6 ⟨g6, rfl, hE, ho⟩
  have E6 := Lib.hid (E5.out.trans hE)
  have M6 := Lib.hid (M5.out.trans hE)
  have Q6 := Lib.hid hE.le
  have X_room__6 := Lib.hid (X_room__5.out.ext hE)
  have X_bs__6 := Lib.hid (ho)
  clear hE ho q_bs E5 M5 X_room__5
  go_wp2_with fail
  refine (MovesOf_all _ _ _ _ _ (X_room__6.out.ints L_room.out) (X_bs__6.out.bins L_bs.out) K_bs.out).mono ?_
  rintro e w7 ⟨rg, rfl, hg, hE⟩
  have E7 := Lib.hid (E6.out.trans hE)
  have M7 := Lib.hid (M6.out.trans hE)
  have X_room__7 := Lib.hid (X_room__6.out.ext hE)
  have X_bs__7 := Lib.hid (X_bs__6.out.ext hE)
  have G__7 := Lib.hid (hg.upto)
  clear hE hg E6 M6 X_room__6 X_bs__6
  have RL := Lib.hid (movesOf_lim room bs)
  go_wp2_with fail
  refine (eqMoveS_any _ _ _ _ _ (G__7.out.moves RL.out) (R0__4.out.ext M7.out)).mono ?_
  rintro e w8 ⟨rfl, hE⟩
  have E8 := Lib.hid (E7.out.trans hE)
  have M8 := Lib.hid (M7.out.trans hE)
  have X_room__8 := Lib.hid (X_room__7.out.ext hE)
  have X_bs__8 := Lib.hid (X_bs__7.out.ext hE)
  have G__8 := Lib.hid (G__7.out.ext hE)
  clear hE E7 M7 X_room__7 X_bs__7 G__7
  rw [samePs_iff.2 rfl]
  go_wp2_with fail
  have q_room := A_room.out.ext E8.out
  refine (toIntS_any _ _ _ q_room N_room.out).mono ?_
  rintro e w9 ⟨g9, rfl, hE, ho, -⟩
  have E9 := Lib.hid (E8.out.trans hE)
  have M9 := Lib.hid (M8.out.trans hE)
  have X_room__9 := Lib.hid (X_room__8.out.ext hE)
  have X_bs__9 := Lib.hid (X_bs__8.out.ext hE)
  have G__9 := Lib.hid (G__8.out.ext hE)
  have Y_room__9 := Lib.hid (ho.done L_room.out)
  clear hE ho q_room E8 M8 X_room__8 X_bs__8 G__8
  go_wp2_with fail
  refine (eqIntS_any _ _ _ _ _ (X_room__9.out.ints L_room.out) Y_room__9.out).mono ?_
  rintro e w10 ⟨rfl, m9, rfl⟩
  have hE := (Ext.refl (w9)).drewN m9
  have E10 := Lib.hid (E9.out.trans hE)
  have M10 := Lib.hid (M9.out.trans hE)
  have X_room__10 := Lib.hid (X_room__9.out.ext hE)
  have X_bs__10 := Lib.hid (X_bs__9.out.ext hE)
  have G__10 := Lib.hid (G__9.out.ext hE)
  have Y_room__10 := Lib.hid (Y_room__9.out.ext hE)
  clear hE E9 M9 X_room__9 X_bs__9 G__9 Y_room__9
  rw [beq_refl]
  clear Y_room__10
  go_wp2_with fail
  have q_bs := A_bs.out.ext E10.out
  refine (toTaskSS_any _ _ _ q_bs N_bs.out).mono ?_
  rintro e w11 ⟨g11, rfl, hE, ho⟩
  have E11 := Lib.hid (E10.out.trans hE)
  have M11 := Lib.hid (M10.out.trans hE)
  have X_room__11 := Lib.hid (X_room__10.out.ext hE)
  have X_bs__11 := Lib.hid (X_bs__10.out.ext hE)
  have G__11 := Lib.hid (G__10.out.ext hE)
  have Y_bs__11 := Lib.hid (ho.bins L_bs.out)
  clear hE ho q_bs E10 M10 X_room__10 X_bs__10 G__10
  go_wp2_with fail
  refine (eqTaskSS_any _ _ _ _ _ (X_bs__11.out.bins L_bs.out) Y_bs__11.out).mono ?_
  rintro e w12 ⟨rfl, hE⟩
  have E12 := Lib.hid (E11.out.trans hE)
  have M12 := Lib.hid (M11.out.trans hE)
  have X_room__12 := Lib.hid (X_room__11.out.ext hE)
  have X_bs__12 := Lib.hid (X_bs__11.out.ext hE)
  have G__12 := Lib.hid (G__11.out.ext hE)
  have Y_bs__12 := Lib.hid (Y_bs__11.out.ext hE)
  clear hE E11 M11 X_room__11 X_bs__11 G__11 Y_bs__11
  rw [sameBs_iff.2 rfl]
  clear Y_bs__12
  go_wp2_with fail
  refine (markIntS_any _ room (1) _ _ _ X_room__12.out (by have := N_room.out; have := N_bs.out; omega) (by have := N_room.out; have := N_bs.out; omega) (by have := N_room.out; omega)).mono ?_
  rintro e w13 ⟨rfl, -, hC, -⟩
  have M13 := Lib.hid (hC.ext M12.out (by have := Q5.out; have := Q6.out; omega))
  have E13 := Lib.hid (E4.out.trans M13.out)
  have X_bs__13 := Lib.hid (X_bs__12.out.chg hC (by have := Q5.out; have := Q6.out; omega))
  have G__13 := Lib.hid (G__12.out.chg hC (by have := Q5.out; have := Q6.out; omega))
  clear hC M12 E12 X_room__12 X_bs__12 G__12
  go_wp2_with fail
  refine (markTaskSS_any _ bs (1 + ((room.length : Nat) : Int)) _ _ _ X_bs__13.out (by have := N_room.out; have := N_bs.out; omega) (by have := N_room.out; have := N_bs.out; omega) (by have := N_bs.out; omega)).mono ?_
  rintro e w14 ⟨rfl, hC⟩
  have M14 := Lib.hid (hC.ext M13.out (by have := Q5.out; have := Q6.out; omega))
  have E14 := Lib.hid (E4.out.trans M14.out)
  have G__14 := Lib.hid (G__13.out.chg hC (by have := Q5.out; have := Q6.out; omega))
  clear hC M13 E13 X_bs__13 G__13
  go_wp2_with fail
  refine (eqMoveS_any _ _ _ _ _ (G__14.out.moves RL.out) (R0__4.out.ext M14.out)).mono ?_
  rintro e w15 ⟨rfl, hE⟩
  have E15 := Lib.hid (E14.out.trans hE)
  have M15 := Lib.hid (M14.out.trans hE)
  have G__15 := Lib.hid (G__14.out.ext hE)
  clear hE E14 M14 G__14
  rw [samePs_iff.2 rfl]
  go_wp2_with fail
  refine (markMoveS_any _ (movesOfL room bs) 1 _ _ _ G__15.out (by omega) (by omega) (by have := RL.out; unfold lim at this; omega)).mono ?_
  rintro e w16 ⟨rfl, hG, hC⟩
  have M16 := Lib.hid (hC.ext M15.out (by have := Q5.out; have := Q6.out; omega))
  have E16 := Lib.hid (E4.out.trans M16.out)
  have H__16 := Lib.hid (hG)
  clear hC hG M15 E15 G__15
  go_wp2_with fail
  refine (heldMoveS_any _ (movesOfL room bs) 1 _ (H__16.out.moves (by rw [seqM_len]; exact RL.out)) (by omega) (by omega) (by have := RL.out; unfold lim at this; omega)).mono ?_
  rintro e w17 ⟨rfl, hE⟩
  have E17 := Lib.hid (E16.out.trans hE)
  have M17 := Lib.hid (M16.out.trans hE)
  have H__17 := Lib.hid (H__16.out.ext hE)
  clear hE E16 M16 H__16
  go_wp2_with fail
  have q_room := A_room.out.ext E17.out
  refine (toIntS_any _ _ _ q_room N_room.out).mono ?_
  rintro e w18 ⟨g18, rfl, hE, ho, -⟩
  have E18 := Lib.hid (E17.out.trans hE)
  have M18 := Lib.hid (M17.out.trans hE)
  have H__18 := Lib.hid (H__17.out.ext hE)
  have Z_room__18 := Lib.hid (ho.done L_room.out)
  clear hE ho q_room E17 M17 H__17
  go_wp2_with fail
  have q_bs := A_bs.out.ext E18.out
  refine (toTaskSS_any _ _ _ q_bs N_bs.out).mono ?_
  rintro e w19 ⟨g19, rfl, hE, ho⟩
  have E19 := Lib.hid (E18.out.trans hE)
  have M19 := Lib.hid (M18.out.trans hE)
  have H__19 := Lib.hid (H__18.out.ext hE)
  have Z_room__19 := Lib.hid (Z_room__18.out.ext hE)
  have Z_bs__19 := Lib.hid (ho.bins L_bs.out)
  clear hE ho q_bs E18 M18 H__18 Z_room__18
  go_wp2_with fail
  refine (MovesOf_all _ _ _ _ _ Z_room__19.out Z_bs__19.out K_bs.out).mono ?_
  rintro e w20 ⟨rh, rfl, hg, hE⟩
  have E20 := Lib.hid (E19.out.trans hE)
  have M20 := Lib.hid (M19.out.trans hE)
  have H__20 := Lib.hid (H__19.out.ext hE)
  have Z_room__20 := Lib.hid (Z_room__19.out.ext hE)
  have Z_bs__20 := Lib.hid (Z_bs__19.out.ext hE)
  have K__20 := Lib.hid (hg.done (movesOf_lim room bs))
  clear hE hg E19 M19 H__19 Z_room__19 Z_bs__19
  clear Z_room__20 Z_bs__20
  go_wp2_with fail
  refine (eqMoveS_any _ _ _ _ _ K__20.out (R0__4.out.ext M20.out)).mono ?_
  rintro e w21 ⟨rfl, hE⟩
  have E21 := Lib.hid (E20.out.trans hE)
  have M21 := Lib.hid (M20.out.trans hE)
  have H__21 := Lib.hid (H__20.out.ext hE)
  have K__21 := Lib.hid (K__20.out.ext hE)
  clear hE E20 M20 H__20 K__20
  rw [samePs_iff.2 rfl]
  clear K__21
  go_wp2_with fail
  refine (heldMoveS_any _ (movesOfL room bs) 1 _ (H__21.out.moves (by rw [seqM_len]; exact RL.out)) (by omega) (by omega) (by have := RL.out; unfold lim at this; omega)).mono ?_
  rintro e w22 ⟨rfl, hE⟩
  have E22 := Lib.hid (E21.out.trans hE)
  have M22 := Lib.hid (M21.out.trans hE)
  have H__22 := Lib.hid (H__21.out.ext hE)
  clear hE E21 M21 H__21
  go_wp2_with fail
  have F := E22.out
  go_ret
  exact ⟨rfl, F⟩

theorem own : ownKnob Try.prog.godebug = none := by kernel_rfl
theorem laidOut : laidOutB Try.prog = true := by kernel_rfl

set_option maxRecDepth 100000 in
theorem lifted (os : Os) (started : os.Started) (H : Type) (enc : TypeId × Value → H) :
    ReturnsInHanded {} Try.checked os 5 .any (Rows.fnExactMovesOfSpec.pre6 enc Try.prog Try.f5 Rows.fnExactMovesOfRow.domain false) (Rows.fnExactMovesOfSpec.post enc Try.prog Try.f5 false true false false) := by
  refine returnsInHanded_of_change (C := Try.checked) own started (by kernel_rfl) Try.func5
    (ChangeSpec.witness6 (enc := enc) (C := Try.checked) false ⟨#[], #[.slice none 0 0, .slice none 0 0], []⟩ 8 (by kernel_rfl) (by kernel_rfl) (by kernel_rfl) (by kernel_rfl)) ?_
  intro W base args ds gs before hval0 hW hcnd _
  have hval : ∀ (j : Nat) t v, Try.f5.params[j]? = some t → args[j]? = some v → Value.okWide Try.prog W .any base t v := hval0
  have hW' := hW
  obtain ⟨p, q, hA0, hV, rfl, hfz, hnd⟩ := hW
  have hA : DataW.TrodAll enc Try.prog W 0 (fun _ => true) true Try.f5.params.toList args.toList ds p := hA0
  rw [Try.params5] at hA hval
  obtain ⟨v0, vs0, d0, ds0, p0, q0, hargs, rfl, rfl, h0, r0⟩ := trodAll_cons hA
  obtain ⟨v1, vs1, d1, ds1, p1, q1, rfl, rfl, rfl, h1, r1⟩ := trodAll_cons r0
  obtain ⟨rfl, rfl, rfl⟩ := trodAll_nil r1
  obtain rfl : args = #[v0, v1] := by cases args; simp_all
  obtain ⟨rfl, rfl⟩ := trodVars_none hV
  have lt0 : ∀ x ∈ p0, x.block < W.heap.size := by obtain ⟨m, hm⟩ := h0; exact DataW.trod_lt m _ _ _ hm
  have lt1 : ∀ x ∈ p1, x.block < W.heap.size := by obtain ⟨m, hm⟩ := h1; exact DataW.trod_lt m _ _ _ hm
  obtain ⟨x0, e0⟩ := argInts_of h0 (okWide_slice Try.underlying23 (hval 0 23 v0 rfl rfl))
  obtain ⟨x1, e1⟩ := argBins_of h1 (okWide_slice Try.underlying36 (hval 1 36 v1 rfl rfl))
  clear hA0 hval0
  refine (walk v0 v1 x0 x1 W e0 e1).mono fun e W' ⟨he, bel⟩ => ?_
  subst he
  exact ⟨_, rfl, _, _, _, [], _, [], hW', trodAll_mk1 (shut_bool Try.underlying4 _), (trodAll_cons_mk (Below.trod laidOut (by kernel_rfl) (of_decide_eq_true (by kernel_rfl)) h0 bel lt0) (trodAll_cons_mk (Below.trod laidOut (by kernel_rfl) (of_decide_eq_true (by kernel_rfl)) h1 bel lt1) trodAll_mk0)), rfl, Below.frame bel _, fun h => by cases h⟩

theorem closed : joinedFacts Try.prog 5 Try.f5 Rows.fnExactMovesOfSpec Rows.fnExactMovesOfRow = true := by
  unfold joinedFacts
  rw [may_enter, lifts_final, make_cut]
  kernel_rfl

theorem proved : Rows.FnExactMovesOfSaid :=
  OpenClaim.holds_of_wide 5 Try.f5 rfl rfl rfl rfl rfl rfl rfl ⟨rfl, rfl, rfl, rfl, rfl⟩ rfl rfl rfl rfl rfl (by kernel_rfl) Try.func5 closed
    (of_decide_eq_true (by kernel_rfl)) (by unfold Func.isWrapper; first | (rw [if_pos (by decide +kernel)]; kernel_rfl) | (rw [if_neg (by decide +kernel)]; exact ⟨rfl, rfl⟩))
    (fun os started H enc _ => lifted os started H enc)

end Go.Proofs.Ytjdhiabdcmindaa.l56
