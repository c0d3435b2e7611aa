/- The law FnExactBestAt: the program's BestAt equals the reference's for every room, all nodes and every task; nothing that came in is changed. No condition. -/
import Derived.Test.YtipmoedflpjioaaI13
import Derived.Test.YtipmoedflpjioaaS14
import Derived.Test.YtipmoedflpjioaaArg3
import Derived.Test.YtipmoedflpjioaaOpen2
import Derived.Test.YtipmoedflpjioaaHead
import Derived.OpenShut
import Derived.ChangeOld
namespace Go.Proofs.Ytipmoedflpjioaa.l38
set_option maxRecDepth 100000
open Go.RowKit Go.ChangeShapes Go.WideShapes Go.ChangeAt

theorem beq_refl (xs : List Int) : (xs == xs) = true := by simp

set_option maxHeartbeats 2000000 in
theorem walk (v_room v_bs v_x : Value) (room : List Int) (bs : List (List T)) (x : T) (w : World) (a_room : ArgInts w v_room room) (a_bs : ArgBins w v_bs bs) (a_x : ArgTask w v_x x) :
    Calls Try.prog 10 #[v_room, v_bs, v_x] w fun e w' => e = .returned (.bool true) ∧ Ext w w' := by
  have b_room := a_room
  obtain ⟨_, ar_room, cr_room, rfl, -⟩ := b_room
  have A_room := Lib.hid a_room
  clear a_room
  have b_bs := a_bs
  obtain ⟨_, ar_bs, cr_bs, rfl, -⟩ := b_bs
  have A_bs := Lib.hid a_bs
  clear a_bs
  have b_x := a_x
  obtain ⟨n_x, rfl, b_x⟩ := b_x
  have c_x := b_x
  obtain ⟨_, ar_x, cr_x, rfl, -⟩ := c_x
  have A_x := Lib.hid b_x
  clear b_x a_x
  by_cases g_room : 1048576 < room.length
  · go_enter Try.func10, Try.ntmps10
    go_wp2
    go_ret
    exact ⟨rfl, (Ext.refl w).alloc _⟩
  have h_room : room.length ≤ 1048576 := by omega
  clear g_room
  go_enter Try.func10, Try.ntmps10
  go_wp2_with fail
  have hEx : Ext w _ := (Ext.refl w).alloc (Obj.cells #[.int .i64 x.id, .slice ar_x x.need.length cr_x] 61)
  have x0_x : (w.alloc (Obj.cells #[.int .i64 x.id, .slice ar_x x.need.length cr_x] 61)).cell? ⟨w.heap.size, 0, none⟩ = some (.int .i64 x.id) := by rw [box_cell]; rfl
  have x1_x : (w.alloc (Obj.cells #[.int .i64 x.id, .slice ar_x x.need.length cr_x] 61)).cell? ⟨w.heap.size, 1, none⟩ = some (.slice ar_x x.need.length cr_x) := by rw [box_cell]; rfl
  generalize w.alloc (Obj.cells #[.int .i64 x.id, .slice ar_x x.need.length cr_x] 61) = W at *
  have E0 := Lib.hid hEx
  clear hEx
  have S0 := Lib.hid (Ext.refl W)
  have q_bs := A_bs.out.ext E0.out
  refine (szTaskSS_any _ _ 1048576 _ q_bs (by omega) (by omega)).mono ?_
  rintro e w1 ⟨r_bs, rfl, z_bs, hE⟩
  have E1 := Lib.hid (E0.out.trans hE)
  have S1 := Lib.hid (S0.out.trans hE)
  clear hE q_bs E0 S0
  rcases z_bs with rfl | ⟨l_bs, m_bs⟩
  · have F := E1.out
    have y0_x := S1.out.cell x0_x
    have y1_x := S1.out.cell x1_x
    go_wp2
    go_ret
    exact ⟨rfl, F⟩
  have u_bs : r_bs ≤ 1048576 := by omega
  have t_bs : bs.length + weigh bs ≤ 1048576 := by omega
  clear m_bs
  have y0_x := S1.out.cell x0_x
  have y1_x := S1.out.cell x1_x
  go_wp2_with fail
  clear y0_x y1_x
  have q_x := A_x.out.ext E1.out
  refine (szTask_any _ _ _ r_bs _ q_x (by omega) (by omega)).mono ?_
  rintro e w2 ⟨r_x, rfl, z_x, hE⟩
  have E2 := Lib.hid (E1.out.trans hE)
  have S2 := Lib.hid (S1.out.trans hE)
  clear hE q_x E1 S1
  rcases z_x with rfl | ⟨l_x, m_x⟩
  · have F := E2.out
    have y0_x := S2.out.cell x0_x
    have y1_x := S2.out.cell x1_x
    go_wp2
    go_ret
    exact ⟨rfl, F⟩
  have u_x : r_x ≤ 1048576 := by omega
  have t_x : x.need.length ≤ 1048576 := by omega
  clear m_x
  have L_room := Lib.hid (show room.length ≤ lim by unfold lim; omega)
  have N_room := Lib.hid (show room.length ≤ 2097152 by omega)
  have N_bs := Lib.hid (show bs.length + weigh bs ≤ 2097152 by omega)
  have L_bs := Lib.hid (show bs.length + weigh bs ≤ lim by unfold lim; omega)
  have K_bs := Lib.hid (show bs.flatten.length ≤ 2097152 by have := flat_le bs; omega)
  have N_x := Lib.hid (show x.need.length ≤ 2097152 by omega)
  have L_x := Lib.hid (show x.need.length ≤ lim by unfold lim; omega)
  clear h_room
  clear u_bs t_bs
  clear u_x t_x
  have KS := Lib.hid (show ∀ w', Ext W w' → w'.cell? ⟨w.heap.size, 0, none⟩ = some (.int .i64 x.id) ∧ w'.cell? ⟨w.heap.size, 1, none⟩ = some (.slice ar_x x.need.length cr_x) from fun w' h => ⟨h.cell x0_x, h.cell x1_x⟩)
  have y0_x := S2.out.cell x0_x
  have y1_x := S2.out.cell x1_x
  go_wp2_with fail
  clear y0_x y1_x
  have E2d := Lib.hid E2.out.drew
  have S2d := Lib.hid S2.out.drew
  clear E2 S2
  go_region_held3 (fun w' => w'.cell? ⟨w.heap.size, 0, none⟩ = some (.int .i64 x.id) ∧ w'.cell? ⟨w.heap.size, 1, none⟩ = some (.slice ar_x x.need.length cr_x))
    (first | exact KS.out _ S2d.out | exact KS.out _ S3.out | exact KS.out _ S4.out | exact KS.out _ S5.out | exact KS.out _ S6.out)
    (first
      | (go_at_call 35; refine (toIntS_any _ _ _ (A_room.out.ext E2d.out) N_room.out).mono ?_; rintro e w3 ⟨g3, rfl, hE, ho, -⟩; have E3 := Lib.hid (E2d.out.trans hE); have S3 := Lib.hid (S2d.out.trans hE); have S_room__3 := Lib.hid (ho.done L_room.out); clear hE ho E2d S2d)
      | (go_at_call 56; refine (toTaskSS_any _ _ _ (A_bs.out.ext E3.out) N_bs.out).mono ?_; rintro e w4 ⟨g4, rfl, hE, ho⟩; have E4 := Lib.hid (E3.out.trans hE); have S4 := Lib.hid (S3.out.trans hE); have S_room__4 := Lib.hid (S_room__3.out.ext hE); have S_bs__4 := Lib.hid (ho.bins L_bs.out); clear hE ho E3 S3 S_room__3)
      | (go_at_call 57; refine (toTask_any _ _ _ _ (A_x.out.ext E4.out) N_x.out).mono ?_; rintro e w5 ⟨g5, rfl, hE, ho⟩; have E5 := Lib.hid (E4.out.trans hE); have S5 := Lib.hid (S4.out.trans hE); have S_room__5 := Lib.hid (S_room__4.out.ext hE); have S_bs__5 := Lib.hid (S_bs__4.out.ext hE); have S_x__5 := Lib.hid (ho.2.done L_x.out); clear hE ho E4 S4 S_room__4 S_bs__4)
      | (go_at_call 53; refine (sBestAt_any _ _ _ room bs x _ S_room__5.out S_bs__5.out S_x__5.out K_bs.out).mono ?_; rintro e w6 ⟨rfl, hE⟩; have E6 := Lib.hid (E5.out.trans hE); have S6 := Lib.hid (S5.out.trans hE); have S_room__6 := Lib.hid (S_room__5.out.ext hE); have S_bs__6 := Lib.hid (S_bs__5.out.ext hE); have S_x__6 := Lib.hid (S_x__5.out.ext hE); clear hE E5 S5 S_room__5 S_bs__5 S_x__5))
  clear KS
  clear S_room__6 S_bs__6 S_x__6
  have y0_x := S6.out.cell x0_x
  have y1_x := S6.out.cell x1_x
  go_wp2_with fail
  clear y0_x y1_x
  have q_room := A_room.out.ext E6.out
  refine (toIntS_any _ _ _ q_room N_room.out).mono ?_
  rintro e w7 ⟨g7, rfl, hE, ho, -⟩
  have E7 := Lib.hid (E6.out.trans hE)
  have S7 := Lib.hid (S6.out.trans hE)
  have X_room__7 := Lib.hid (ho.done L_room.out)
  clear hE ho q_room E6 S6
  have y0_x := S7.out.cell x0_x
  have y1_x := S7.out.cell x1_x
  go_wp2_with fail
  clear y0_x y1_x
  have q_bs := A_bs.out.ext E7.out
  refine (toTaskSS_any _ _ _ q_bs N_bs.out).mono ?_
  rintro e w8 ⟨g8, rfl, hE, ho⟩
  have E8 := Lib.hid (E7.out.trans hE)
  have S8 := Lib.hid (S7.out.trans hE)
  have X_room__8 := Lib.hid (X_room__7.out.ext hE)
  have X_bs__8 := Lib.hid (ho.bins L_bs.out)
  clear hE ho q_bs E7 S7 X_room__7
  have y0_x := S8.out.cell x0_x
  have y1_x := S8.out.cell x1_x
  go_wp2_with fail
  clear y0_x y1_x
  have q_x := A_x.out.ext E8.out
  refine (toTask_any _ _ _ _ q_x N_x.out).mono ?_
  rintro e w9 ⟨g9, rfl, hE, ho⟩
  have E9 := Lib.hid (E8.out.trans hE)
  have S9 := Lib.hid (S8.out.trans hE)
  have X_room__9 := Lib.hid (X_room__8.out.ext hE)
  have X_bs__9 := Lib.hid (X_bs__8.out.ext hE)
  have X_x__9 := Lib.hid (ho.2.done L_x.out)
  clear hE ho q_x E8 S8 X_room__8 X_bs__8
  have y0_x := S9.out.cell x0_x
  have y1_x := S9.out.cell x1_x
  go_wp2_with fail
  clear y0_x y1_x
  have hB : Ext w9 _ := (Ext.refl w9).alloc (Obj.cells #[.int .i64 x.id, .slice (some ⟨g9, 0, none⟩) x.need.length x.need.length] 38)
  have z0_x : (w9.alloc (Obj.cells #[.int .i64 x.id, .slice (some ⟨g9, 0, none⟩) x.need.length x.need.length] 38)).cell? ⟨w9.heap.size, 0, none⟩ = some (.int .i64 x.id) := by rw [box_cell]; rfl
  have z1_x : (w9.alloc (Obj.cells #[.int .i64 x.id, .slice (some ⟨g9, 0, none⟩) x.need.length x.need.length] 38)).cell? ⟨w9.heap.size, 1, none⟩ = some (.slice (some ⟨g9, 0, none⟩) x.need.length x.need.length) := by rw [box_cell]; rfl
  generalize w9.alloc (Obj.cells #[.int .i64 x.id, .slice (some ⟨g9, 0, none⟩) x.need.length x.need.length] 38) = w10 at *
  have E10 := Lib.hid (E9.out.trans hB)
  have S10 := Lib.hid (S9.out.trans hB)
  have Z10 := Lib.hid (Ext.refl w10)
  have X_room__10 := Lib.hid (X_room__9.out.ext hB)
  have X_bs__10 := Lib.hid (X_bs__9.out.ext hB)
  have X_x__10 := Lib.hid (X_x__9.out.ext hB)
  clear hB E9 S9 X_room__9 X_bs__9 X_x__9
  have KZ : Hid (∀ w', Ext w10 w' → w'.cell? ⟨w9.heap.size, 0, none⟩ = some (.int .i64 x.id) ∧ w'.cell? ⟨w9.heap.size, 1, none⟩ = some (.slice (some ⟨g9, 0, none⟩) x.need.length x.need.length)) := fun w' h => ⟨h.cell z0_x, h.cell z1_x⟩
  clear z0_x z1_x
  refine (BestAt_any _ _ _ room bs x _ X_room__10.out X_bs__10.out X_x__10.out K_bs.out).mono ?_
  rintro e w11 ⟨rfl, hE⟩
  have E11 := Lib.hid (E10.out.trans hE)
  have S11 := Lib.hid (S10.out.trans hE)
  have Z11 := Lib.hid (Z10.out.trans hE)
  have X_room__11 := Lib.hid (X_room__10.out.ext hE)
  have X_bs__11 := Lib.hid (X_bs__10.out.ext hE)
  have X_x__11 := Lib.hid (X_x__10.out.ext hE)
  clear hE E10 S10 Z10 X_room__10 X_bs__10 X_x__10
  generalize bestAtI room bs x = res at *
  have y0_x := S11.out.cell x0_x
  have y1_x := S11.out.cell x1_x
  go_wp2_with fail
  clear y0_x y1_x
  have q_room := A_room.out.ext E11.out
  refine (toIntS_any _ _ _ q_room N_room.out).mono ?_
  rintro e w12 ⟨g12, rfl, hE, ho, -⟩
  have E12 := Lib.hid (E11.out.trans hE)
  have S12 := Lib.hid (S11.out.trans hE)
  have Z12 := Lib.hid (Z11.out.trans hE)
  have X_room__12 := Lib.hid (X_room__11.out.ext hE)
  have X_bs__12 := Lib.hid (X_bs__11.out.ext hE)
  have X_x__12 := Lib.hid (X_x__11.out.ext hE)
  have Y_room__12 := Lib.hid (ho.done L_room.out)
  clear hE ho q_room E11 S11 Z11 X_room__11 X_bs__11 X_x__11
  have y0_x := S12.out.cell x0_x
  have y1_x := S12.out.cell x1_x
  go_wp2_with fail
  clear y0_x y1_x
  refine (eqIntS_any _ _ _ _ _ X_room__12.out Y_room__12.out).mono ?_
  rintro e w13 ⟨rfl, m12, rfl⟩
  have hE := (Ext.refl (w12)).drewN m12
  have E13 := Lib.hid (E12.out.trans hE)
  have S13 := Lib.hid (S12.out.trans hE)
  have Z13 := Lib.hid (Z12.out.trans hE)
  have X_room__13 := Lib.hid (X_room__12.out.ext hE)
  have X_bs__13 := Lib.hid (X_bs__12.out.ext hE)
  have X_x__13 := Lib.hid (X_x__12.out.ext hE)
  have Y_room__13 := Lib.hid (Y_room__12.out.ext hE)
  clear hE E12 S12 Z12 X_room__12 X_bs__12 X_x__12 Y_room__12
  rw [beq_refl]
  clear X_room__13 Y_room__13
  have y0_x := S13.out.cell x0_x
  have y1_x := S13.out.cell x1_x
  go_wp2_with fail
  clear y0_x y1_x
  have q_bs := A_bs.out.ext E13.out
  refine (toTaskSS_any _ _ _ q_bs N_bs.out).mono ?_
  rintro e w14 ⟨g14, rfl, hE, ho⟩
  have E14 := Lib.hid (E13.out.trans hE)
  have S14 := Lib.hid (S13.out.trans hE)
  have Z14 := Lib.hid (Z13.out.trans hE)
  have X_bs__14 := Lib.hid (X_bs__13.out.ext hE)
  have X_x__14 := Lib.hid (X_x__13.out.ext hE)
  have Y_bs__14 := Lib.hid (ho.bins L_bs.out)
  clear hE ho q_bs E13 S13 Z13 X_bs__13 X_x__13
  have y0_x := S14.out.cell x0_x
  have y1_x := S14.out.cell x1_x
  go_wp2_with fail
  clear y0_x y1_x
  refine (eqTaskSS_any _ _ _ _ _ X_bs__14.out Y_bs__14.out).mono ?_
  rintro e w15 ⟨rfl, hE⟩
  have E15 := Lib.hid (E14.out.trans hE)
  have S15 := Lib.hid (S14.out.trans hE)
  have Z15 := Lib.hid (Z14.out.trans hE)
  have X_bs__15 := Lib.hid (X_bs__14.out.ext hE)
  have X_x__15 := Lib.hid (X_x__14.out.ext hE)
  have Y_bs__15 := Lib.hid (Y_bs__14.out.ext hE)
  clear hE E14 S14 Z14 X_bs__14 X_x__14 Y_bs__14
  rw [sameBs_iff.2 rfl]
  clear X_bs__15 Y_bs__15
  have KS := Lib.hid (show ∀ w', Ext W w' → Ext w10 w' → (w'.cell? ⟨w.heap.size, 0, none⟩ = some (.int .i64 x.id) ∧ w'.cell? ⟨w.heap.size, 1, none⟩ = some (.slice ar_x x.need.length cr_x)) ∧ (w'.cell? ⟨w9.heap.size, 0, none⟩ = some (.int .i64 x.id) ∧ w'.cell? ⟨w9.heap.size, 1, none⟩ = some (.slice (some ⟨g9, 0, none⟩) x.need.length x.need.length)) from fun w' h k => ⟨⟨h.cell x0_x, h.cell x1_x⟩, KZ.out w' k⟩)
  have y0_x := S15.out.cell x0_x
  have y1_x := S15.out.cell x1_x
  obtain ⟨y2, y3⟩ := KZ.out _ Z15.out
  go_wp2_with fail
  clear y0_x y1_x
  clear y2 y3
  have E15d := Lib.hid E15.out.drew
  have S15d := Lib.hid S15.out.drew
  have Z15d := Lib.hid Z15.out.drew
  have X_x__15d := Lib.hid X_x__15.out.drew
  clear E15 S15 Z15 X_x__15
  go_region_held3 (fun w' => (w'.cell? ⟨w.heap.size, 0, none⟩ = some (.int .i64 x.id) ∧ w'.cell? ⟨w.heap.size, 1, none⟩ = some (.slice ar_x x.need.length cr_x)) ∧ (w'.cell? ⟨w9.heap.size, 0, none⟩ = some (.int .i64 x.id) ∧ w'.cell? ⟨w9.heap.size, 1, none⟩ = some (.slice (some ⟨g9, 0, none⟩) x.need.length x.need.length)))
    (first | exact KS.out _ S15d.out Z15d.out | exact KS.out _ S16.out Z16.out | exact KS.out _ S17.out Z17.out)
    (first
      | (go_at_call 57; refine (toTask_any _ _ _ _ (A_x.out.ext E15d.out) N_x.out).mono ?_; rintro e w16 ⟨g16, rfl, hE, ho⟩; have E16 := Lib.hid (E15d.out.trans hE); have S16 := Lib.hid (S15d.out.trans hE); have Z16 := Lib.hid (Z15d.out.trans hE); have X_x__16 := Lib.hid (X_x__15d.out.ext hE); have Y_x__16 := Lib.hid (ho.2.done L_x.out); clear hE ho E15d S15d Z15d X_x__15d)
      | (go_at_call 58; have cc := eqTask_any x x _ _ _ X_x__16.out Y_x__16.out; rw [sameT_iff.2 rfl] at cc; refine cc.mono ?_; clear cc; rintro e w17 ⟨rfl, hE⟩; have E17 := Lib.hid (E16.out.trans hE); have S17 := Lib.hid (S16.out.trans hE); have Z17 := Lib.hid (Z16.out.trans hE); have X_x__17 := Lib.hid (X_x__16.out.ext hE); have Y_x__17 := Lib.hid (Y_x__16.out.ext hE); clear hE E16 S16 Z16 X_x__16 Y_x__16))
  have y0_x := S17.out.cell x0_x
  have y1_x := S17.out.cell x1_x
  have F := E17.out
  go_wp2_with fail
  go_ret
  exact ⟨rfl, F⟩

theorem own : ownKnob Try.prog.godebug = none := by kernel_rfl
theorem laidOut : laidOutB Try.prog = true := by kernel_rfl

set_option maxRecDepth 100000 in
theorem lifted (os : Os) (started : os.Started) (H : Type) (enc : TypeId × Value → H) :
    ReturnsInHanded {} Try.checked os 10 .any (Rows.fnExactBestAtSpec.pre6 enc Try.prog Try.f10 Rows.fnExactBestAtRow.domain false) (Rows.fnExactBestAtSpec.post enc Try.prog Try.f10 false true false false) := by
  refine returnsInHanded_of_change (C := Try.checked) own started (by kernel_rfl) Try.func10
    (ChangeSpec.witness6 (enc := enc) (C := Try.checked) false ⟨#[], #[.slice none 0 0, .slice none 0 0, .agg #[.int .i64 0, .slice none 0 0]], []⟩ 8 (by kernel_rfl) (by kernel_rfl) (by kernel_rfl) (by kernel_rfl)) ?_
  intro W base args ds gs before hval0 hW hcnd _
  have hval : ∀ (j : Nat) t v, Try.f10.params[j]? = some t → args[j]? = some v → Value.okWide Try.prog W .any base t v := hval0
  have hW' := hW
  obtain ⟨p, q, hA0, hV, rfl, hfz, hnd⟩ := hW
  have hA : DataW.TrodAll enc Try.prog W 0 (fun _ => true) true Try.f10.params.toList args.toList ds p := hA0
  rw [Try.params10] at hA hval
  obtain ⟨v0, vs0, d0, ds0, p0, q0, hargs, rfl, rfl, h0, r0⟩ := trodAll_cons hA
  obtain ⟨v1, vs1, d1, ds1, p1, q1, rfl, rfl, rfl, h1, r1⟩ := trodAll_cons r0
  obtain ⟨v2, vs2, d2, ds2, p2, q2, rfl, rfl, rfl, h2, r2⟩ := trodAll_cons r1
  obtain ⟨rfl, rfl, rfl⟩ := trodAll_nil r2
  obtain rfl : args = #[v0, v1, v2] := by cases args; simp_all
  obtain ⟨rfl, rfl⟩ := trodVars_none hV
  have lt0 : ∀ x ∈ p0, x.block < W.heap.size := by obtain ⟨m, hm⟩ := h0; exact DataW.trod_lt m _ _ _ hm
  have lt1 : ∀ x ∈ p1, x.block < W.heap.size := by obtain ⟨m, hm⟩ := h1; exact DataW.trod_lt m _ _ _ hm
  have lt2 : ∀ x ∈ p2, x.block < W.heap.size := by obtain ⟨m, hm⟩ := h2; exact DataW.trod_lt m _ _ _ hm
  obtain ⟨x0, e0⟩ := argInts_of h0 (okWide_slice Try.underlying23 (hval 0 23 v0 rfl rfl))
  obtain ⟨x1, e1⟩ := argBins_of h1 (okWide_slice Try.underlying60 (hval 1 60 v1 rfl rfl))
  obtain ⟨x2, e2⟩ := argTask_of (hval 2 61 v2 rfl rfl) h2
  clear hA0 hval0
  refine (walk v0 v1 v2 x0 x1 x2 W e0 e1 e2).mono fun e W' ⟨he, bel⟩ => ?_
  subst he
  exact ⟨_, rfl, _, _, _, [], _, [], hW', trodAll_mk1 (shut_bool Try.underlying4 _), (trodAll_cons_mk (Below.trod laidOut (by kernel_rfl) (of_decide_eq_true (by kernel_rfl)) h0 bel lt0) (trodAll_cons_mk (Below.trod laidOut (by kernel_rfl) (of_decide_eq_true (by kernel_rfl)) h1 bel lt1) (trodAll_cons_mk (Below.trod laidOut (by kernel_rfl) (of_decide_eq_true (by kernel_rfl)) h2 bel lt2) trodAll_mk0))), rfl, Below.frame bel _, fun h => by cases h⟩

theorem closed : joinedFacts Try.prog 10 Try.f10 Rows.fnExactBestAtSpec Rows.fnExactBestAtRow = true := by
  unfold joinedFacts
  rw [may_enter, lifts_final, make_cut]
  kernel_rfl

theorem proved : Rows.FnExactBestAtSaid :=
  OpenClaim.holds_of_wide 10 Try.f10 rfl rfl rfl rfl rfl rfl rfl ⟨rfl, rfl, rfl, rfl, rfl⟩ rfl rfl rfl rfl rfl (by kernel_rfl) Try.func10 closed
    (of_decide_eq_true (by kernel_rfl)) (by unfold Func.isWrapper; first | (rw [if_pos (by decide +kernel)]; kernel_rfl) | (rw [if_neg (by decide +kernel)]; exact ⟨rfl, rfl⟩))
    (fun os started H enc _ => lifted os started H enc)

end Go.Proofs.Ytipmoedflpjioaa.l38
