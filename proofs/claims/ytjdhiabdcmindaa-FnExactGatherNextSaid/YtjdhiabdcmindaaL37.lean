/- The law FnExactGatherNext: the program's GatherNext equals the reference's for every room and all nodes; nothing that came in is changed. No condition. -/
import Derived.Test.YtjdhiabdcmindaaMv3
import Derived.Test.YtjdhiabdcmindaaArg
import Derived.Test.YtjdhiabdcmindaaOpen
import Derived.Test.YtjdhiabdcmindaaHead
import Derived.OpenShut
import Derived.ChangeOld
namespace Go.Proofs.Ytjdhiabdcmindaa.l37
set_option maxRecDepth 100000
open Go.RowKit Go.ChangeShapes Go.WideShapes Go.ChangeAt

theorem beq_refl (xs : List Int) : (xs == xs) = true := by simp
theorem nextV_form (o : Option (Int × Nat)) : ∃ (m : Pr) (b : Bool), nextV o = .tuple #[.agg #[.int .i64 m.a, .int .i64 m.b], .bool b] := by
  rcases o with _ | ⟨id, k⟩
  · exact ⟨⟨0, 0⟩, false, rfl⟩
  · exact ⟨⟨id, k⟩, true, rfl⟩

set_option maxHeartbeats 2000000 in
theorem walk (v_room v_bs : Value) (room : List Int) (bs : List (List T)) (w : World) (a_room : ArgInts w v_room room) (a_bs : ArgBins w v_bs bs) :
    Calls Try.prog 4 #[v_room, v_bs] w fun e w' => e = .returned (.bool true) ∧ Ext w w' := by
  have b_room := a_room
  obtain ⟨_, ar_room, cr_room, rfl, -⟩ := b_room
  have A_room := Lib.hid a_room
  clear a_room
  have b_bs := a_bs
  obtain ⟨_, ar_bs, cr_bs, rfl, -⟩ := b_bs
  have A_bs := Lib.hid a_bs
  clear a_bs
  by_cases g_room : 1048576 < room.length
  · go_enter Try.func4, Try.ntmps4
    go_wp2
    go_ret
    exact ⟨rfl, Ext.refl _⟩
  have h_room : room.length ≤ 1048576 := by omega
  clear g_room
  go_enter Try.func4, Try.ntmps4
  go_wp2_with fail
  have hEx := Ext.refl w
  have E0 := Lib.hid hEx
  clear hEx
  have q_bs := A_bs.out.ext E0.out
  refine (szTaskSS_any _ _ 1048576 _ q_bs (by omega) (by omega)).mono ?_
  rintro e w1 ⟨r_bs, rfl, z_bs, hE⟩
  have E1 := Lib.hid (E0.out.trans hE)
  clear hE q_bs E0
  rcases z_bs with rfl | ⟨l_bs, m_bs⟩
  · have F := E1.out
    go_wp2
    go_ret
    exact ⟨rfl, F⟩
  have u_bs : r_bs ≤ 1048576 := by omega
  have t_bs : bs.length + weigh bs ≤ 1048576 := by omega
  clear m_bs
  have L_room := Lib.hid (show room.length ≤ lim by unfold lim; omega)
  have N_room := Lib.hid (show room.length ≤ 2097152 by omega)
  have N_bs := Lib.hid (show bs.length + weigh bs ≤ 2097152 by omega)
  have L_bs := Lib.hid (show bs.length + weigh bs ≤ lim by unfold lim; omega)
  have K_bs := Lib.hid (show bs.flatten.length ≤ 2097152 by have := flat_le bs; omega)
  clear h_room
  clear u_bs t_bs
  go_wp2_with fail
  have q_room := A_room.out.ext E1.out
  refine (toIntS_any _ _ _ q_room N_room.out).mono ?_
  rintro e w2 ⟨g2, rfl, hE, ho, -⟩
  have E2 := Lib.hid (E1.out.trans hE)
  have S_room__2 := Lib.hid (ho.done L_room.out)
  clear hE ho q_room E1
  go_wp2_with fail
  have q_bs := A_bs.out.ext E2.out
  refine (toTaskSS_any _ _ _ q_bs N_bs.out).mono ?_
  rintro e w3 ⟨g3, rfl, hE, ho⟩
  have E3 := Lib.hid (E2.out.trans hE)
  have S_room__3 := Lib.hid (S_room__2.out.ext hE)
  have S_bs__3 := Lib.hid (ho.bins L_bs.out)
  clear hE ho q_bs E2 S_room__2
  go_wp2_with fail
  obtain ⟨mv, ok, hmv⟩ := nextV_form (gatherO room bs)
  have hok : (ok != ok) = false := by simp
  have cc := sGatherNext_any _ (some ⟨g3, 0, none⟩) bs.length room bs _ S_room__3.out S_bs__3.out (Nat.le_refl _) K_bs.out
  rw [hmv] at cc
  refine cc.mono ?_
  clear cc
  rintro e w4 ⟨rfl, hE⟩
  have E4 := Lib.hid (E3.out.trans hE)
  have S_room__4 := Lib.hid (S_room__3.out.ext hE)
  have S_bs__4 := Lib.hid (S_bs__3.out.ext hE)
  clear hE E3 S_room__3 S_bs__3
  clear S_room__4 S_bs__4
  go_wp2_with fail
  have hB : Ext w4 _ := (Ext.refl w4).alloc (.cells #[.int .i64 mv.a, .int .i64 mv.b] 28)
  have z0 : (w4.alloc (.cells #[.int .i64 mv.a, .int .i64 mv.b] 28)).cell? ⟨w4.heap.size, 0, none⟩ = some (.int .i64 mv.a) := by rw [box_cell]; rfl
  have z1 : (w4.alloc (.cells #[.int .i64 mv.a, .int .i64 mv.b] 28)).cell? ⟨w4.heap.size, 1, none⟩ = some (.int .i64 mv.b) := by rw [box_cell]; rfl
  generalize w4.alloc (.cells #[.int .i64 mv.a, .int .i64 mv.b] 28) = w4b at *
  have KZ := Lib.hid (show ∀ w', Ext w4b w' → w'.cell? ⟨w4.heap.size, 0, none⟩ = some (.int .i64 mv.a) ∧ w'.cell? ⟨w4.heap.size, 1, none⟩ = some (.int .i64 mv.b) from fun w' h => ⟨h.cell z0, h.cell z1⟩)
  have E4b := Lib.hid (E4.out.trans hB)
  have Z4 := Lib.hid (Ext.refl w4b)
  clear hB z0 z1 E4
  have q_room := A_room.out.ext E4b.out
  refine (toIntS_any _ _ _ q_room N_room.out).mono ?_
  rintro e w5 ⟨g5, rfl, hE, ho, -⟩
  have E5 := Lib.hid (E4b.out.trans hE)
  have Z5 := Lib.hid (Z4.out.trans hE)
  have X_room__5 := Lib.hid (ho.done L_room.out)
  clear hE ho q_room E4b
  go_wp2_with fail
  have q_bs := A_bs.out.ext E5.out
  refine (toTaskSS_any _ _ _ q_bs N_bs.out).mono ?_
  rintro e w6 ⟨g6, rfl, hE, ho⟩
  have E6 := Lib.hid (E5.out.trans hE)
  have Z6 := Lib.hid (Z5.out.trans hE)
  have X_room__6 := Lib.hid (X_room__5.out.ext hE)
  have X_bs__6 := Lib.hid (ho.bins L_bs.out)
  clear hE ho q_bs E5 X_room__5
  go_wp2_with fail
  have cc := GatherNext_any _ (some ⟨g6, 0, none⟩) bs.length room bs _ X_room__6.out X_bs__6.out (Nat.le_refl _) K_bs.out
  rw [hmv] at cc
  refine cc.mono ?_
  clear cc
  rintro e w7 ⟨rfl, hE⟩
  have E7 := Lib.hid (E6.out.trans hE)
  have Z7 := Lib.hid (Z6.out.trans hE)
  have X_room__7 := Lib.hid (X_room__6.out.ext hE)
  have X_bs__7 := Lib.hid (X_bs__6.out.ext hE)
  clear hE E6 X_room__6 X_bs__6
  obtain ⟨z0, z1⟩ := KZ.out _ (Z7.out.trans ((Ext.refl w7).alloc (.cells #[.int .i64 mv.a, .int .i64 mv.b] 28)))
  clear KZ Z4 Z5 Z6 Z7
  go_wp2_with fail
  refine (eqMove_any mv mv _).mono ?_
  rintro e w7c ⟨rfl, hE⟩
  have hE := ((Ext.refl w7).alloc (.cells #[.int .i64 mv.a, .int .i64 mv.b] 28)).trans hE
  have E7c := Lib.hid (E7.out.trans hE)
  have X_room__7c := Lib.hid (X_room__7.out.ext hE)
  have X_bs__7c := Lib.hid (X_bs__7.out.ext hE)
  clear hE E7 X_room__7 X_bs__7 z0 z1
  rw [sameP_iff.2 rfl]
  go_wp2_with fail
  have q_room := A_room.out.ext E7c.out
  refine (toIntS_any _ _ _ q_room N_room.out).mono ?_
  rintro e w8 ⟨g8, rfl, hE, ho, -⟩
  have E8 := Lib.hid (E7c.out.trans hE)
  have X_room__8 := Lib.hid (X_room__7c.out.ext hE)
  have X_bs__8 := Lib.hid (X_bs__7c.out.ext hE)
  have Y_room__8 := Lib.hid (ho.done L_room.out)
  clear hE ho q_room E7c X_room__7c X_bs__7c
  go_wp2_with fail
  refine (eqIntS_any _ _ _ _ _ X_room__8.out Y_room__8.out).mono ?_
  rintro e w9 ⟨rfl, m8, rfl⟩
  have hE := (Ext.refl (w8)).drewN m8
  have E9 := Lib.hid (E8.out.trans hE)
  have X_room__9 := Lib.hid (X_room__8.out.ext hE)
  have X_bs__9 := Lib.hid (X_bs__8.out.ext hE)
  have Y_room__9 := Lib.hid (Y_room__8.out.ext hE)
  clear hE E8 X_room__8 X_bs__8 Y_room__8
  rw [beq_refl]
  clear X_room__9 Y_room__9
  go_wp2_with fail
  have q_bs := A_bs.out.ext E9.out
  refine (toTaskSS_any _ _ _ q_bs N_bs.out).mono ?_
  rintro e w10 ⟨g10, rfl, hE, ho⟩
  have E10 := Lib.hid (E9.out.trans hE)
  have X_bs__10 := Lib.hid (X_bs__9.out.ext hE)
  have Y_bs__10 := Lib.hid (ho.bins L_bs.out)
  clear hE ho q_bs E9 X_bs__9
  go_wp2_with fail
  refine (eqTaskSS_any _ _ _ _ _ X_bs__10.out Y_bs__10.out).mono ?_
  rintro e w11 ⟨rfl, hE⟩
  have E11 := Lib.hid (E10.out.trans hE)
  have X_bs__11 := Lib.hid (X_bs__10.out.ext hE)
  have Y_bs__11 := Lib.hid (Y_bs__10.out.ext hE)
  clear hE E10 X_bs__10 Y_bs__10
  rw [sameBs_iff.2 rfl]
  clear X_bs__11 Y_bs__11
  have F := E11.out
  go_wp2_with fail
  go_ret
  exact ⟨rfl, F⟩

theorem own : ownKnob Try.prog.godebug = none := by kernel_rfl
theorem laidOut : laidOutB Try.prog = true := by kernel_rfl

set_option maxRecDepth 100000 in
theorem lifted (os : Os) (started : os.Started) (H : Type) (enc : TypeId × Value → H) :
    ReturnsInHanded {} Try.checked os 4 .any (Rows.fnExactGatherNextSpec.pre6 enc Try.prog Try.f4 Rows.fnExactGatherNextRow.domain false) (Rows.fnExactGatherNextSpec.post enc Try.prog Try.f4 false true false false) := by
  refine returnsInHanded_of_change (C := Try.checked) own started (by kernel_rfl) Try.func4
    (ChangeSpec.witness6 (enc := enc) (C := Try.checked) false ⟨#[], #[.slice none 0 0, .slice none 0 0], []⟩ 8 (by kernel_rfl) (by kernel_rfl) (by kernel_rfl) (by kernel_rfl)) ?_
  intro W base args ds gs before hval0 hW hcnd _
  have hval : ∀ (j : Nat) t v, Try.f4.params[j]? = some t → args[j]? = some v → Value.okWide Try.prog W .any base t v := hval0
  have hW' := hW
  obtain ⟨p, q, hA0, hV, rfl, hfz, hnd⟩ := hW
  have hA : DataW.TrodAll enc Try.prog W 0 (fun _ => true) true Try.f4.params.toList args.toList ds p := hA0
  rw [Try.params4] at hA hval
  obtain ⟨v0, vs0, d0, ds0, p0, q0, hargs, rfl, rfl, h0, r0⟩ := trodAll_cons hA
  obtain ⟨v1, vs1, d1, ds1, p1, q1, rfl, rfl, rfl, h1, r1⟩ := trodAll_cons r0
  obtain ⟨rfl, rfl, rfl⟩ := trodAll_nil r1
  obtain rfl : args = #[v0, v1] := by cases args; simp_all
  obtain ⟨rfl, rfl⟩ := trodVars_none hV
  have lt0 : ∀ x ∈ p0, x.block < W.heap.size := by obtain ⟨m, hm⟩ := h0; exact DataW.trod_lt m _ _ _ hm
  have lt1 : ∀ x ∈ p1, x.block < W.heap.size := by obtain ⟨m, hm⟩ := h1; exact DataW.trod_lt m _ _ _ hm
  obtain ⟨x0, e0⟩ := argInts_of h0 (okWide_slice Try.underlying23 (hval 0 23 v0 rfl rfl))
  obtain ⟨x1, e1⟩ := argBins_of h1 (okWide_slice Try.underlying36 (hval 1 36 v1 rfl rfl))
  clear hA0 hval0
  refine (walk v0 v1 x0 x1 W e0 e1).mono fun e W' ⟨he, bel⟩ => ?_
  subst he
  exact ⟨_, rfl, _, _, _, [], _, [], hW', trodAll_mk1 (shut_bool Try.underlying4 _), (trodAll_cons_mk (Below.trod laidOut (by kernel_rfl) (of_decide_eq_true (by kernel_rfl)) h0 bel lt0) (trodAll_cons_mk (Below.trod laidOut (by kernel_rfl) (of_decide_eq_true (by kernel_rfl)) h1 bel lt1) trodAll_mk0)), rfl, Below.frame bel _, fun h => by cases h⟩

theorem closed : joinedFacts Try.prog 4 Try.f4 Rows.fnExactGatherNextSpec Rows.fnExactGatherNextRow = true := by
  unfold joinedFacts
  rw [may_enter, lifts_final, make_cut]
  kernel_rfl

theorem proved : Rows.FnExactGatherNextSaid :=
  OpenClaim.holds_of_wide 4 Try.f4 rfl rfl rfl rfl rfl rfl rfl ⟨rfl, rfl, rfl, rfl, rfl⟩ rfl rfl rfl rfl rfl (by kernel_rfl) Try.func4 closed
    (of_decide_eq_true (by kernel_rfl)) (by unfold Func.isWrapper; first | (rw [if_pos (by decide +kernel)]; kernel_rfl) | (rw [if_neg (by decide +kernel)]; exact ⟨rfl, rfl⟩))
    (fun os started H enc _ => lifted os started H enc)

end Go.Proofs.Ytjdhiabdcmindaa.l37
