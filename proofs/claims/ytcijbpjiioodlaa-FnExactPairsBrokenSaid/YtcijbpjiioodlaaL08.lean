/- The law FnExactPairsBroken: the program's PairsBroken equals the reference's for every room, all nodes and all pairs; it changes nothing that came in, and its result shares no memory. No condition. -/
import Derived.Test.YtcijbpjiioodlaaPd
import Derived.Test.YtcijbpjiioodlaaMark4
import Derived.Test.YtcijbpjiioodlaaArg
import Derived.Test.YtcijbpjiioodlaaOpen
import Derived.Test.YtcijbpjiioodlaaHead
import Derived.OpenShut
import Derived.ChangeOld
namespace Go.Proofs.Ytcijbpjiioodlaa.l08
set_option maxRecDepth 100000
open Go.RowKit Go.ChangeShapes Go.WideShapes Go.ChangeAt

theorem beq_refl (xs : List Int) : (xs == xs) = true := by simp

set_option maxHeartbeats 4000000 in
theorem walk (v_room v_bs v_ps : Value) (room : List Int) (bs : List (List T)) (ps : List Pr) (w : World) (a_room : ArgInts w v_room room) (a_bs : ArgBins w v_bs bs) (a_ps : ArgTwos w v_ps ps) :
    Calls Try.prog 10 #[v_room, v_bs, v_ps] w fun e w' => e = .returned (.bool true) ∧ Ext w w' := by
  have b_room := a_room
  obtain ⟨_, ar_room, cr_room, rfl, -⟩ := b_room
  have A_room := Lib.hid a_room
  clear a_room
  have b_bs := a_bs
  obtain ⟨_, ar_bs, cr_bs, rfl, -⟩ := b_bs
  have A_bs := Lib.hid a_bs
  clear a_bs
  have b_ps := a_ps
  obtain ⟨_, ar_ps, cr_ps, rfl, -⟩ := b_ps
  have A_ps := Lib.hid a_ps
  clear a_ps
  by_cases g_room : 1048576 < room.length
  · go_enter Try.func10, Try.ntmps10
    go_wp2
    go_ret
    exact ⟨rfl, Ext.refl _⟩
  have h_room : room.length ≤ 1048576 := by omega
  clear g_room
  go_enter Try.func10, Try.ntmps10
  go_wp2_with fail
  have hEx := Ext.refl w
  have E0 := Lib.hid hEx
  clear hEx
  have q_bs := A_bs.out.ext E0.out
  refine (szTaskSS_any _ _ 1048576 _ q_bs (by omega) (by omega)).mono ?_
  rintro e w1 ⟨r_bs, rfl, z_bs, hE⟩
  have E1 := Lib.hid (E0.out.trans hE)
  clear hE q_bs E0
  rcases z_bs with rfl | ⟨l_bs, m_bs⟩
  · have F := E1.out
    go_wp2
    go_ret
    exact ⟨rfl, F⟩
  have u_bs : r_bs ≤ 1048576 := by omega
  have t_bs : bs.length + weigh bs ≤ 1048576 := by omega
  clear m_bs
  go_wp2_with fail
  have q_ps := A_ps.out.ext E1.out
  refine (szPairS_any _ _ r_bs _ q_ps (by omega) (by omega)).mono ?_
  rintro e w2 ⟨r_ps, rfl, z_ps, hE⟩
  have E2 := Lib.hid (E1.out.trans hE)
  clear hE q_ps E1
  rcases z_ps with rfl | ⟨l_ps, m_ps⟩
  · have F := E2.out
    go_wp2
    go_ret
    exact ⟨rfl, F⟩
  have u_ps : r_ps ≤ 1048576 := by omega
  have t_ps : ps.length ≤ 1048576 := by omega
  clear m_ps
  have L_room := Lib.hid (show room.length ≤ lim by unfold lim; omega)
  have N_room := Lib.hid (show room.length ≤ 2097152 by omega)
  have N_bs := Lib.hid (show bs.length + weigh bs ≤ 2097152 by omega)
  have L_bs := Lib.hid (show bs.length + weigh bs ≤ lim by unfold lim; omega)
  have K_bs := Lib.hid (show bs.flatten.length ≤ 2097152 by have := flat_le bs; omega)
  have N_ps := Lib.hid (show ps.length ≤ 2097152 by omega)
  clear h_room
  clear u_bs t_bs
  clear u_ps t_ps
  go_wp2_with fail
  have q_room := A_room.out.ext E2.out
  refine (toIntS_any _ _ _ q_room N_room.out).mono ?_
  rintro e w3 ⟨g3, rfl, hE, ho, -⟩
  have E3 := Lib.hid (E2.out.trans hE)
  have S_room__3 := Lib.hid (ho.done L_room.out)
  clear hE ho q_room E2
  go_wp2_with fail
  have q_bs := A_bs.out.ext E3.out
  refine (toTaskSS_any _ _ _ q_bs N_bs.out).mono ?_
  rintro e w4 ⟨g4, rfl, hE, ho⟩
  have E4 := Lib.hid (E3.out.trans hE)
  have S_room__4 := Lib.hid (S_room__3.out.ext hE)
  have S_bs__4 := Lib.hid (ho.bins L_bs.out)
  clear hE ho q_bs E3 S_room__3
  go_wp2_with fail
  have q_ps := A_ps.out.ext E4.out
  refine (toPairS_any _ _ _ q_ps N_ps.out).mono ?_
  rintro e w5 ⟨g5, rfl, hE, ho⟩
  have E5 := Lib.hid (E4.out.trans hE)
  have S_room__5 := Lib.hid (S_room__4.out.ext hE)
  have S_bs__5 := Lib.hid (S_bs__4.out.ext hE)
  have S_ps__5 := Lib.hid (ho.pairs N_ps.out)
  clear hE ho q_ps E4 S_room__4 S_bs__4
  go_wp2_with fail
  refine (sPairsBroken_any _ _ _ _ _ _ _ S_room__5.out S_bs__5.out S_ps__5.out K_bs.out).mono ?_
  rintro e w6 ⟨rs, rfl, hE, hs⟩
  have E6 := Lib.hid (E5.out.trans hE)
  have S_room__6 := Lib.hid (S_room__5.out.ext hE)
  have S_bs__6 := Lib.hid (S_bs__5.out.ext hE)
  have S_ps__6 := Lib.hid (S_ps__5.out.ext hE)
  have R0__6 := Lib.hid (hs.own.done (broken_lim room bs ps))
  clear hE hs E5 S_room__5 S_bs__5 S_ps__5
  clear S_room__6 S_bs__6 S_ps__6
  have M6 := Lib.hid (Ext.refl w6)
  go_wp2_with fail
  have q_room := A_room.out.ext E6.out
  refine (toIntS_any _ _ _ q_room N_room.out).mono ?_
  rintro e w7 ⟨g7, rfl, hE, ho, -⟩
  have E7 := Lib.hid (E6.out.trans hE)
  have M7 := Lib.hid (M6.out.trans hE)
  have Q7 := Lib.hid hE.le
  have X_room__7 := Lib.hid (IntsU.upto ho)
  clear hE ho q_room M6
  go_wp2_with fail
  have q_bs := A_bs.out.ext E7.out
  refine (toTaskSSU_any _ _ _ q_bs N_bs.out).mono ?_
  rintro e w8 ⟨g8, rfl, hE, ho⟩
  have E8 := Lib.hid (E7.out.trans hE)
  have M8 := Lib.hid (M7.out.trans hE)
  have Q8 := Lib.hid hE.le
  have X_room__8 := Lib.hid (X_room__7.out.ext hE)
  have X_bs__8 := Lib.hid (ho)
  clear hE ho q_bs E7 M7 X_room__7
  go_wp2_with fail
  have q_ps := A_ps.out.ext E8.out
  refine (toPairS_any _ _ _ q_ps N_ps.out).mono ?_
  rintro e w9 ⟨g9, rfl, hE, ho⟩
  have E9 := Lib.hid (E8.out.trans hE)
  have M9 := Lib.hid (M8.out.trans hE)
  have Q9 := Lib.hid hE.le
  have X_room__9 := Lib.hid (X_room__8.out.ext hE)
  have X_bs__9 := Lib.hid (X_bs__8.out.ext hE)
  have X_ps__9 := Lib.hid (ho.upto)
  clear hE ho q_ps E8 M8 X_room__8 X_bs__8
  go_wp2_with fail
  refine (PairsBroken_any _ _ _ _ _ _ _ (X_room__9.out.ints L_room.out) (X_bs__9.out.bins L_bs.out) (X_ps__9.out.pairs N_ps.out) K_bs.out).mono ?_
  rintro e w10 ⟨rg, rfl, hE, hg⟩
  have E10 := Lib.hid (E9.out.trans hE)
  have M10 := Lib.hid (M9.out.trans hE)
  have X_room__10 := Lib.hid (X_room__9.out.ext hE)
  have X_bs__10 := Lib.hid (X_bs__9.out.ext hE)
  have X_ps__10 := Lib.hid (X_ps__9.out.ext hE)
  have G__10 := Lib.hid (IntsU.upto hg.own)
  clear hE hg E9 M9 X_room__9 X_bs__9 X_ps__9
  have RL := Lib.hid (broken_lim room bs ps)
  go_wp2_with fail
  refine (eqIntS_any _ _ _ _ _ (G__10.out.ints RL.out) (R0__6.out.ext M10.out)).mono ?_
  rintro e w11 ⟨rfl, m10, rfl⟩
  have hE := (Ext.refl (w10)).drewN m10
  have E11 := Lib.hid (E10.out.trans hE)
  have M11 := Lib.hid (M10.out.trans hE)
  have X_room__11 := Lib.hid (X_room__10.out.ext hE)
  have X_bs__11 := Lib.hid (X_bs__10.out.ext hE)
  have X_ps__11 := Lib.hid (X_ps__10.out.ext hE)
  have G__11 := Lib.hid (G__10.out.ext hE)
  clear hE E10 M10 X_room__10 X_bs__10 X_ps__10 G__10
  rw [beq_refl]
  go_wp2_with fail
  have q_room := A_room.out.ext E11.out
  refine (toIntS_any _ _ _ q_room N_room.out).mono ?_
  rintro e w12 ⟨g12, rfl, hE, ho, -⟩
  have E12 := Lib.hid (E11.out.trans hE)
  have M12 := Lib.hid (M11.out.trans hE)
  have X_room__12 := Lib.hid (X_room__11.out.ext hE)
  have X_bs__12 := Lib.hid (X_bs__11.out.ext hE)
  have X_ps__12 := Lib.hid (X_ps__11.out.ext hE)
  have G__12 := Lib.hid (G__11.out.ext hE)
  have Y_room__12 := Lib.hid (ho.done L_room.out)
  clear hE ho q_room E11 M11 X_room__11 X_bs__11 X_ps__11 G__11
  go_wp2_with fail
  refine (eqIntS_any _ _ _ _ _ (X_room__12.out.ints L_room.out) Y_room__12.out).mono ?_
  rintro e w13 ⟨rfl, m12, rfl⟩
  have hE := (Ext.refl (w12)).drewN m12
  have E13 := Lib.hid (E12.out.trans hE)
  have M13 := Lib.hid (M12.out.trans hE)
  have X_room__13 := Lib.hid (X_room__12.out.ext hE)
  have X_bs__13 := Lib.hid (X_bs__12.out.ext hE)
  have X_ps__13 := Lib.hid (X_ps__12.out.ext hE)
  have G__13 := Lib.hid (G__12.out.ext hE)
  have Y_room__13 := Lib.hid (Y_room__12.out.ext hE)
  clear hE E12 M12 X_room__12 X_bs__12 X_ps__12 G__12 Y_room__12
  rw [beq_refl]
  clear Y_room__13
  go_wp2_with fail
  have q_bs := A_bs.out.ext E13.out
  refine (toTaskSS_any _ _ _ q_bs N_bs.out).mono ?_
  rintro e w14 ⟨g14, rfl, hE, ho⟩
  have E14 := Lib.hid (E13.out.trans hE)
  have M14 := Lib.hid (M13.out.trans hE)
  have X_room__14 := Lib.hid (X_room__13.out.ext hE)
  have X_bs__14 := Lib.hid (X_bs__13.out.ext hE)
  have X_ps__14 := Lib.hid (X_ps__13.out.ext hE)
  have G__14 := Lib.hid (G__13.out.ext hE)
  have Y_bs__14 := Lib.hid (ho.bins L_bs.out)
  clear hE ho q_bs E13 M13 X_room__13 X_bs__13 X_ps__13 G__13
  go_wp2_with fail
  refine (eqTaskSS_any _ _ _ _ _ (X_bs__14.out.bins L_bs.out) Y_bs__14.out).mono ?_
  rintro e w15 ⟨rfl, hE⟩
  have E15 := Lib.hid (E14.out.trans hE)
  have M15 := Lib.hid (M14.out.trans hE)
  have X_room__15 := Lib.hid (X_room__14.out.ext hE)
  have X_bs__15 := Lib.hid (X_bs__14.out.ext hE)
  have X_ps__15 := Lib.hid (X_ps__14.out.ext hE)
  have G__15 := Lib.hid (G__14.out.ext hE)
  have Y_bs__15 := Lib.hid (Y_bs__14.out.ext hE)
  clear hE E14 M14 X_room__14 X_bs__14 X_ps__14 G__14 Y_bs__14
  rw [sameBs_iff.2 rfl]
  clear Y_bs__15
  go_wp2_with fail
  have q_ps := A_ps.out.ext E15.out
  refine (toPairS_any _ _ _ q_ps N_ps.out).mono ?_
  rintro e w16 ⟨g16, rfl, hE, ho⟩
  have E16 := Lib.hid (E15.out.trans hE)
  have M16 := Lib.hid (M15.out.trans hE)
  have X_room__16 := Lib.hid (X_room__15.out.ext hE)
  have X_bs__16 := Lib.hid (X_bs__15.out.ext hE)
  have X_ps__16 := Lib.hid (X_ps__15.out.ext hE)
  have G__16 := Lib.hid (G__15.out.ext hE)
  have Y_ps__16 := Lib.hid (ho.pairs N_ps.out)
  clear hE ho q_ps E15 M15 X_room__15 X_bs__15 X_ps__15 G__15
  go_wp2_with fail
  refine (eqPairS_any _ _ _ _ _ (X_ps__16.out.pairs N_ps.out) Y_ps__16.out).mono ?_
  rintro e w17 ⟨rfl, hE⟩
  have E17 := Lib.hid (E16.out.trans hE)
  have M17 := Lib.hid (M16.out.trans hE)
  have X_room__17 := Lib.hid (X_room__16.out.ext hE)
  have X_bs__17 := Lib.hid (X_bs__16.out.ext hE)
  have X_ps__17 := Lib.hid (X_ps__16.out.ext hE)
  have G__17 := Lib.hid (G__16.out.ext hE)
  have Y_ps__17 := Lib.hid (Y_ps__16.out.ext hE)
  clear hE E16 M16 X_room__16 X_bs__16 X_ps__16 G__16 Y_ps__16
  rw [samePs_iff.2 rfl]
  clear Y_ps__17
  go_wp2_with fail
  refine (markIntS_any _ room (1) _ _ _ X_room__17.out (by have := N_room.out; have := N_bs.out; have := N_ps.out; omega) (by have := N_room.out; have := N_bs.out; have := N_ps.out; omega) (by have := N_room.out; omega)).mono ?_
  rintro e w18 ⟨rfl, -, hC, -⟩
  have M18 := Lib.hid (hC.ext M17.out (by have := Q7.out; have := Q8.out; have := Q9.out; omega))
  have E18 := Lib.hid (E6.out.trans M18.out)
  have X_bs__18 := Lib.hid (X_bs__17.out.chg hC (by have := Q7.out; have := Q8.out; have := Q9.out; omega))
  have X_ps__18 := Lib.hid (X_ps__17.out.chg hC (by have := Q7.out; have := Q8.out; have := Q9.out; omega))
  have G__18 := Lib.hid (G__17.out.chg hC (by have := Q7.out; have := Q8.out; have := Q9.out; omega))
  clear hC M17 E17 X_room__17 X_bs__17 X_ps__17 G__17
  go_wp2_with fail
  refine (markTaskSS_any _ bs (1 + ((room.length : Nat) : Int)) _ _ _ X_bs__18.out (by have := N_room.out; have := N_bs.out; have := N_ps.out; omega) (by have := N_room.out; have := N_bs.out; have := N_ps.out; omega) (by have := N_bs.out; omega)).mono ?_
  rintro e w19 ⟨rfl, hC⟩
  have M19 := Lib.hid (hC.ext M18.out (by have := Q7.out; have := Q8.out; have := Q9.out; omega))
  have E19 := Lib.hid (E6.out.trans M19.out)
  have X_ps__19 := Lib.hid (X_ps__18.out.chg hC (by have := Q7.out; have := Q8.out; have := Q9.out; omega))
  have G__19 := Lib.hid (G__18.out.chg hC (by have := Q7.out; have := Q8.out; have := Q9.out; omega))
  clear hC M18 E18 X_bs__18 X_ps__18 G__18
  go_wp2_with fail
  refine (markPairS_any _ ps (1 + ((room.length : Nat) : Int) + ((weigh bs : Nat) : Int)) _ _ _ X_ps__19.out (by have := N_room.out; have := N_bs.out; have := N_ps.out; omega) (by have := N_room.out; have := N_bs.out; have := N_ps.out; omega) (by have := N_ps.out; omega)).mono ?_
  rintro e w20 ⟨rfl, -, hC⟩
  have M20 := Lib.hid (hC.ext M19.out (by have := Q7.out; have := Q8.out; have := Q9.out; omega))
  have E20 := Lib.hid (E6.out.trans M20.out)
  have G__20 := Lib.hid (G__19.out.chg hC (by have := Q7.out; have := Q8.out; have := Q9.out; omega))
  clear hC M19 E19 X_ps__19 G__19
  go_wp2_with fail
  refine (eqIntS_any _ _ _ _ _ (G__20.out.ints RL.out) (R0__6.out.ext M20.out)).mono ?_
  rintro e w21 ⟨rfl, m20, rfl⟩
  have hE := (Ext.refl (w20)).drewN m20
  have E21 := Lib.hid (E20.out.trans hE)
  have M21 := Lib.hid (M20.out.trans hE)
  have G__21 := Lib.hid (G__20.out.ext hE)
  clear hE E20 M20 G__20
  rw [beq_refl]
  go_wp2_with fail
  refine (markIntS_any _ (brokenI room bs ps) 1 _ _ _ G__21.out (by omega) (by omega) (by have := RL.out; unfold lim at this; omega)).mono ?_
  rintro e w22 ⟨rfl, hG, hC, -⟩
  have M22 := Lib.hid (hC.ext M21.out (by have := Q7.out; have := Q8.out; have := Q9.out; omega))
  have E22 := Lib.hid (E6.out.trans M22.out)
  have H__22 := Lib.hid (hG)
  clear hC hG M21 E21 G__21
  go_wp2_with fail
  refine (heldIntS_any _ (brokenI room bs ps).length 1 _ (H__22.out.ints (by rw [seqI_len]; exact RL.out)) (by omega) (by omega)).mono ?_
  rintro e w23 ⟨rfl, rfl⟩
  go_wp2_with fail
  have q_room := A_room.out.ext E22.out
  refine (toIntS_any _ _ _ q_room N_room.out).mono ?_
  rintro e w23 ⟨g23, rfl, hE, ho, -⟩
  have E23 := Lib.hid (E22.out.trans hE)
  have M23 := Lib.hid (M22.out.trans hE)
  have H__23 := Lib.hid (H__22.out.ext hE)
  have Z_room__23 := Lib.hid (ho.done L_room.out)
  clear hE ho q_room E22 M22 H__22
  go_wp2_with fail
  have q_bs := A_bs.out.ext E23.out
  refine (toTaskSS_any _ _ _ q_bs N_bs.out).mono ?_
  rintro e w24 ⟨g24, rfl, hE, ho⟩
  have E24 := Lib.hid (E23.out.trans hE)
  have M24 := Lib.hid (M23.out.trans hE)
  have H__24 := Lib.hid (H__23.out.ext hE)
  have Z_room__24 := Lib.hid (Z_room__23.out.ext hE)
  have Z_bs__24 := Lib.hid (ho.bins L_bs.out)
  clear hE ho q_bs E23 M23 H__23 Z_room__23
  go_wp2_with fail
  have q_ps := A_ps.out.ext E24.out
  refine (toPairS_any _ _ _ q_ps N_ps.out).mono ?_
  rintro e w25 ⟨g25, rfl, hE, ho⟩
  have E25 := Lib.hid (E24.out.trans hE)
  have M25 := Lib.hid (M24.out.trans hE)
  have H__25 := Lib.hid (H__24.out.ext hE)
  have Z_room__25 := Lib.hid (Z_room__24.out.ext hE)
  have Z_bs__25 := Lib.hid (Z_bs__24.out.ext hE)
  have Z_ps__25 := Lib.hid (ho.pairs N_ps.out)
  clear hE ho q_ps E24 M24 H__24 Z_room__24 Z_bs__24
  go_wp2_with fail
  refine (PairsBroken_any _ _ _ _ _ _ _ Z_room__25.out Z_bs__25.out Z_ps__25.out K_bs.out).mono ?_
  rintro e w26 ⟨rh, rfl, hE, hg⟩
  have E26 := Lib.hid (E25.out.trans hE)
  have M26 := Lib.hid (M25.out.trans hE)
  have H__26 := Lib.hid (H__25.out.ext hE)
  have Z_room__26 := Lib.hid (Z_room__25.out.ext hE)
  have Z_bs__26 := Lib.hid (Z_bs__25.out.ext hE)
  have Z_ps__26 := Lib.hid (Z_ps__25.out.ext hE)
  have K__26 := Lib.hid (hg.own.done (broken_lim room bs ps))
  clear hE hg E25 M25 H__25 Z_room__25 Z_bs__25 Z_ps__25
  clear Z_room__26 Z_bs__26 Z_ps__26
  go_wp2_with fail
  refine (eqIntS_any _ _ _ _ _ K__26.out (R0__6.out.ext M26.out)).mono ?_
  rintro e w27 ⟨rfl, m26, rfl⟩
  have hE := (Ext.refl (w26)).drewN m26
  have E27 := Lib.hid (E26.out.trans hE)
  have M27 := Lib.hid (M26.out.trans hE)
  have H__27 := Lib.hid (H__26.out.ext hE)
  have K__27 := Lib.hid (K__26.out.ext hE)
  clear hE E26 M26 H__26 K__26
  rw [beq_refl]
  clear K__27
  go_wp2_with fail
  refine (heldIntS_any _ (brokenI room bs ps).length 1 _ (H__27.out.ints (by rw [seqI_len]; exact RL.out)) (by omega) (by omega)).mono ?_
  rintro e w28 ⟨rfl, rfl⟩
  go_wp2_with fail
  have F := E27.out
  go_ret
  exact ⟨rfl, F⟩

theorem own : ownKnob Try.prog.godebug = none := by kernel_rfl
theorem laidOut : laidOutB Try.prog = true := by kernel_rfl

set_option maxRecDepth 100000 in
theorem lifted (os : Os) (started : os.Started) (H : Type) (enc : TypeId × Value → H) :
    ReturnsInHanded {} Try.checked os 10 .any (Rows.fnExactPairsBrokenSpec.pre6 enc Try.prog Try.f10 Rows.fnExactPairsBrokenRow.domain false) (Rows.fnExactPairsBrokenSpec.post enc Try.prog Try.f10 false true false false) := by
  refine returnsInHanded_of_change (C := Try.checked) own started (by kernel_rfl) Try.func10
    (ChangeSpec.witness6 (enc := enc) (C := Try.checked) false ⟨#[], #[.slice none 0 0, .slice none 0 0, .slice none 0 0], []⟩ 8 (by kernel_rfl) (by kernel_rfl) (by kernel_rfl) (by kernel_rfl)) ?_
  intro W base args ds gs before hval0 hW hcnd _
  have hval : ∀ (j : Nat) t v, Try.f10.params[j]? = some t → args[j]? = some v → Value.okWide Try.prog W .any base t v := hval0
  have hW' := hW
  obtain ⟨p, q, hA0, hV, rfl, hfz, hnd⟩ := hW
  have hA : DataW.TrodAll enc Try.prog W 0 (fun _ => true) true Try.f10.params.toList args.toList ds p := hA0
  rw [Try.params10] at hA hval
  obtain ⟨v0, vs0, d0, ds0, p0, q0, hargs, rfl, rfl, h0, r0⟩ := trodAll_cons hA
  obtain ⟨v1, vs1, d1, ds1, p1, q1, rfl, rfl, rfl, h1, r1⟩ := trodAll_cons r0
  obtain ⟨v2, vs2, d2, ds2, p2, q2, rfl, rfl, rfl, h2, r2⟩ := trodAll_cons r1
  obtain ⟨rfl, rfl, rfl⟩ := trodAll_nil r2
  obtain rfl : args = #[v0, v1, v2] := by cases args; simp_all
  obtain ⟨rfl, rfl⟩ := trodVars_none hV
  have lt0 : ∀ x ∈ p0, x.block < W.heap.size := by obtain ⟨m, hm⟩ := h0; exact DataW.trod_lt m _ _ _ hm
  have lt1 : ∀ x ∈ p1, x.block < W.heap.size := by obtain ⟨m, hm⟩ := h1; exact DataW.trod_lt m _ _ _ hm
  have lt2 : ∀ x ∈ p2, x.block < W.heap.size := by obtain ⟨m, hm⟩ := h2; exact DataW.trod_lt m _ _ _ hm
  obtain ⟨x0, e0⟩ := argInts_of h0 (okWide_slice Try.underlying22 (hval 0 22 v0 rfl rfl))
  obtain ⟨x1, e1⟩ := argBins_of h1 (okWide_slice Try.underlying53 (hval 1 53 v1 rfl rfl))
  obtain ⟨x2, e2⟩ := argPairs_of h2 (okWide_slice Try.underlying54 (hval 2 54 v2 rfl rfl))
  clear hA0 hval0
  refine (walk v0 v1 v2 x0 x1 x2 W e0 e1 e2).mono fun e W' ⟨he, bel⟩ => ?_
  subst he
  exact ⟨_, rfl, _, _, _, [], _, [], hW', trodAll_mk1 (shut_bool Try.underlying4 _), (trodAll_cons_mk (Below.trod laidOut (by kernel_rfl) (of_decide_eq_true (by kernel_rfl)) h0 bel lt0) (trodAll_cons_mk (Below.trod laidOut (by kernel_rfl) (of_decide_eq_true (by kernel_rfl)) h1 bel lt1) (trodAll_cons_mk (Below.trod laidOut (by kernel_rfl) (of_decide_eq_true (by kernel_rfl)) h2 bel lt2) trodAll_mk0))), rfl, Below.frame bel _, fun h => by cases h⟩

theorem closed : joinedFacts Try.prog 10 Try.f10 Rows.fnExactPairsBrokenSpec Rows.fnExactPairsBrokenRow = true := by
  unfold joinedFacts
  rw [may_enter, lifts_final, make_cut]
  kernel_rfl

theorem proved : Rows.FnExactPairsBrokenSaid :=
  OpenClaim.holds_of_wide 10 Try.f10 rfl rfl rfl rfl rfl rfl rfl ⟨rfl, rfl, rfl, rfl, rfl⟩ rfl rfl rfl rfl rfl (by kernel_rfl) Try.func10 closed
    (of_decide_eq_true (by kernel_rfl)) (by unfold Func.isWrapper; first | (rw [if_pos (by decide +kernel)]; kernel_rfl) | (rw [if_neg (by decide +kernel)]; exact ⟨rfl, rfl⟩))
    (fun os started H enc _ => lifted os started H enc)

end Go.Proofs.Ytcijbpjiioodlaa.l08
