/- The law FnExactFirstPut: the program's FirstPut equals the reference's for every room, all nodes and every task; it changes nothing that came in, and its result shares no memory. No condition. -/
import Derived.Test.YtapkpphdkdbclaaS15
import Derived.Test.YtapkpphdkdbclaaMark4
import Derived.Test.YtapkpphdkdbclaaMark5
import Derived.Test.YtapkpphdkdbclaaLim
import Derived.Test.YtapkpphdkdbclaaP4
import Derived.Test.YtapkpphdkdbclaaArg
import Derived.Test.YtapkpphdkdbclaaOpen
import Derived.Test.YtapkpphdkdbclaaReg
import Derived.Test.YtapkpphdkdbclaaHead
import Derived.OpenShut
import Derived.ChangeOld
namespace Go.Proofs.Ytapkpphdkdbclaa.l63
set_option maxRecDepth 100000
open Go.RowKit Go.ChangeShapes Go.WideShapes Go.ChangeAt

theorem beq_refl (xs : List Int) : (xs == xs) = true := by simp

set_option maxHeartbeats 4000000 in
theorem walk (v_room v_bs v_x : Value) (room : List Int) (bs : List (List T)) (x : T) (w : World) (a_room : ArgInts w v_room room) (a_bs : ArgBins w v_bs bs) (a_x : ArgTask w v_x x) :
    Calls Try.prog 14 #[v_room, v_bs, v_x] w fun e w' => e = .returned (.bool true) ∧ Ext w w' := by
  have b_room := a_room
  obtain ⟨_, ar_room, cr_room, rfl, -⟩ := b_room
  have A_room := Lib.hid a_room
  clear a_room
  have b_bs := a_bs
  obtain ⟨_, ar_bs, cr_bs, rfl, -⟩ := b_bs
  have A_bs := Lib.hid a_bs
  clear a_bs
  have b_x := a_x
  obtain ⟨n_x, rfl, b_x⟩ := b_x
  have c_x := b_x
  obtain ⟨_, ar_x, cr_x, rfl, -⟩ := c_x
  have A_x := Lib.hid b_x
  clear b_x a_x
  by_cases g_room : 1048576 < room.length
  · go_enter Try.func14, Try.ntmps14
    go_wp2
    go_ret
    exact ⟨rfl, (Ext.refl w).alloc _⟩
  have h_room : room.length ≤ 1048576 := by omega
  clear g_room
  go_enter Try.func14, Try.ntmps14
  go_wp2_with fail
  have hEx : Ext w _ := (Ext.refl w).alloc (Obj.cells #[.int .i64 x.id, .slice ar_x x.need.length cr_x] 72)
  have x0_x : (w.alloc (Obj.cells #[.int .i64 x.id, .slice ar_x x.need.length cr_x] 72)).cell? ⟨w.heap.size, 0, none⟩ = some (.int .i64 x.id) := by rw [box_cell]; rfl
  have x1_x : (w.alloc (Obj.cells #[.int .i64 x.id, .slice ar_x x.need.length cr_x] 72)).cell? ⟨w.heap.size, 1, none⟩ = some (.slice ar_x x.need.length cr_x) := by rw [box_cell]; rfl
  generalize w.alloc (Obj.cells #[.int .i64 x.id, .slice ar_x x.need.length cr_x] 72) = W at *
  have E0 := Lib.hid hEx
  clear hEx
  have S0 := Lib.hid (Ext.refl W)
  have q_bs := A_bs.out.ext E0.out
  refine (szTaskSS_any _ _ 1048576 _ q_bs (by omega) (by omega)).mono ?_
  rintro e w1 ⟨r_bs, rfl, z_bs, hE⟩
  have E1 := Lib.hid (E0.out.trans hE)
  have S1 := Lib.hid (S0.out.trans hE)
  clear hE q_bs E0 S0
  rcases z_bs with rfl | ⟨l_bs, m_bs⟩
  · have F := E1.out
    have y0_x := S1.out.cell x0_x
    have y1_x := S1.out.cell x1_x
    go_wp2
    go_ret
    exact ⟨rfl, F⟩
  have u_bs : r_bs ≤ 1048576 := by omega
  have t_bs : bs.length + weigh bs ≤ 1048576 := by omega
  clear m_bs
  have y0_x := S1.out.cell x0_x
  have y1_x := S1.out.cell x1_x
  go_wp2_with fail
  clear y0_x y1_x
  have q_x := A_x.out.ext E1.out
  refine (szTask_any _ _ _ r_bs _ q_x (by omega) (by omega)).mono ?_
  rintro e w2 ⟨r_x, rfl, z_x, hE⟩
  have E2 := Lib.hid (E1.out.trans hE)
  have S2 := Lib.hid (S1.out.trans hE)
  clear hE q_x E1 S1
  rcases z_x with rfl | ⟨l_x, m_x⟩
  · have F := E2.out
    have y0_x := S2.out.cell x0_x
    have y1_x := S2.out.cell x1_x
    go_wp2
    go_ret
    exact ⟨rfl, F⟩
  have u_x : r_x ≤ 1048576 := by omega
  have t_x : x.need.length ≤ 1048576 := by omega
  clear m_x
  have L_room := Lib.hid (show room.length ≤ lim by unfold lim; omega)
  have N_room := Lib.hid (show room.length ≤ 2097152 by omega)
  have N_bs := Lib.hid (show bs.length + weigh bs ≤ 2097152 by omega)
  have L_bs := Lib.hid (show bs.length + weigh bs ≤ lim by unfold lim; omega)
  have K_bs := Lib.hid (show bs.flatten.length ≤ 2097152 by have := flat_le bs; omega)
  have N_x := Lib.hid (show x.need.length ≤ 2097152 by omega)
  have L_x := Lib.hid (show x.need.length ≤ lim by unfold lim; omega)
  clear h_room
  clear u_bs t_bs
  clear u_x t_x
  have y0_x := S2.out.cell x0_x
  have y1_x := S2.out.cell x1_x
  go_wp2_with fail
  clear y0_x y1_x
  refine wp_region_held_drew (S := fun w' => w'.cell? ⟨w.heap.size, 0, none⟩ = some (.int .i64 x.id) ∧ w'.cell? ⟨w.heap.size, 1, none⟩ = some (.slice ar_x x.need.length cr_x)) (by kernel_rfl) (⟨(Ext.refl _).drew.cell (S2.out.cell x0_x), (Ext.refl _).drew.cell (S2.out.cell x1_x)⟩) (fun hHeld => ?_)
  have hE := (Ext.refl w2).drew
  have E3 := Lib.hid (E2.out.trans hE)
  have S3 := Lib.hid (S2.out.trans hE)
  clear hE E2 S2
  generalize w2.drew = w3 at *
  refine takeH (i := 0) (d := some 34) (v := ?_) rfl rfl (by kernel_rfl) (by kernel_rfl) (by kernel_rfl) (fun _ _ _ h => h) (by rfl) ?_ (by assumption) ?_
  rotate_left
  · intro w hSw; (try dsimp only at hSw); (try go_simp); (try with_reducible rfl)
  try simp only [Act.put, List.setIfInBounds_toArray, List.set_cons_zero, List.set_cons_succ]
  refine takeH (i := 2) (d := some 36) (v := ?_) rfl rfl (by kernel_rfl) (by kernel_rfl) (by kernel_rfl) (fun _ _ _ h => h) (by rfl) ?_ (by assumption) ?_
  rotate_left
  · intro w hSw; (try dsimp only at hSw); (try go_simp); (try with_reducible rfl)
  try simp only [Act.put, List.setIfInBounds_toArray, List.set_cons_zero, List.set_cons_succ]
  refine takeH (i := 4) (d := some 38) (v := ?_) rfl rfl (by kernel_rfl) (by kernel_rfl) (by kernel_rfl) (fun _ _ _ h => h) (by rfl) ?_ (by assumption) ?_
  rotate_left
  · intro w hSw; (try dsimp only at hSw); (try obtain ⟨l0, l1⟩ := hSw; go_simp); (try with_reducible rfl)
  try simp only [Act.put, List.setIfInBounds_toArray, List.set_cons_zero, List.set_cons_succ]
  refine oneH (i := 1) (by kernel_rfl) rfl (by rfl) (fun K hK => ?_)
  go_simp
  have q_room := A_room.out.ext E3.out
  refine (toIntS_any _ _ _ q_room N_room.out).mono ?_
  rintro e w4 ⟨g4, rfl, hE, ho, -⟩
  have E4 := Lib.hid (E3.out.trans hE)
  have S4 := Lib.hid (S3.out.trans hE)
  have S_room__4 := Lib.hid (ho.done L_room.out)
  clear hE ho q_room E3 S3
  try dsimp only
  refine hK.out _ _ (⟨S4.out.cell x0_x, S4.out.cell x1_x⟩) (fun hHeld => ?_)
  clear hK K
  try simp only [Act.put, List.setIfInBounds_toArray, List.set_cons_zero, List.set_cons_succ]
  refine oneH (i := 3) (by kernel_rfl) rfl (by rfl) (fun K hK => ?_)
  go_simp
  have q_bs := A_bs.out.ext E4.out
  refine (toTaskSS_any _ _ _ q_bs N_bs.out).mono ?_
  rintro e w5 ⟨g5, rfl, hE, ho⟩
  have E5 := Lib.hid (E4.out.trans hE)
  have S5 := Lib.hid (S4.out.trans hE)
  have S_room__5 := Lib.hid (S_room__4.out.ext hE)
  have S_bs__5 := Lib.hid (ho.bins L_bs.out)
  clear hE ho q_bs E4 S4 S_room__4
  try dsimp only
  refine hK.out _ _ (⟨S5.out.cell x0_x, S5.out.cell x1_x⟩) (fun hHeld => ?_)
  clear hK K
  try simp only [Act.put, List.setIfInBounds_toArray, List.set_cons_zero, List.set_cons_succ]
  refine oneH (i := 5) (by kernel_rfl) rfl (by rfl) (fun K hK => ?_)
  go_simp
  have q_x := A_x.out.ext E5.out
  refine (toTask_any _ _ _ _ q_x N_x.out).mono ?_
  rintro e w6 ⟨g6, rfl, hE, ho⟩
  have E6 := Lib.hid (E5.out.trans hE)
  have S6 := Lib.hid (S5.out.trans hE)
  have S_room__6 := Lib.hid (S_room__5.out.ext hE)
  have S_bs__6 := Lib.hid (S_bs__5.out.ext hE)
  have S_x__6 := Lib.hid (ho.2.done L_x.out)
  clear hE ho q_x E5 S5 S_room__5 S_bs__5
  try dsimp only
  refine hK.out _ _ (⟨S6.out.cell x0_x, S6.out.cell x1_x⟩) (fun hHeld => ?_)
  clear hK K
  try simp only [Act.put, List.setIfInBounds_toArray, List.set_cons_zero, List.set_cons_succ]
  refine oneH (i := 6) (by kernel_rfl) rfl (by rfl) (fun K hK => ?_)
  go_simp
  refine (sFirstPut_any _ _ _ room bs x _ S_room__6.out S_bs__6.out S_x__6.out K_bs.out).mono ?_
  rintro e w7 ⟨sa, sc, rfl, hE, hs⟩
  have E7 := Lib.hid (E6.out.trans hE)
  have S7 := Lib.hid (S6.out.trans hE)
  have S_room__7 := Lib.hid (S_room__6.out.ext hE)
  have S_bs__7 := Lib.hid (S_bs__6.out.ext hE)
  have S_x__7 := Lib.hid (S_x__6.out.ext hE)
  have R0__7 := Lib.hid (hs)
  clear hE hs E6 S6 S_room__6 S_bs__6 S_x__6
  try dsimp only
  refine hK.out _ _ (⟨S7.out.cell x0_x, S7.out.cell x1_x⟩) (fun hHeld => ?_)
  clear hK K
  try simp only [Act.put, List.setIfInBounds_toArray, List.set_cons_zero, List.set_cons_succ]
  refine takeH (i := 7) (d := some 33) (v := ?_) rfl rfl (by kernel_rfl) (by kernel_rfl) (by kernel_rfl) (fun _ _ _ h => h) (by rfl) ?_ (by assumption) ?_
  rotate_left
  · intro w hSw; (try dsimp only at hSw); (try go_simp); (try with_reducible rfl)
  try simp only [Act.put, List.setIfInBounds_toArray, List.set_cons_zero, List.set_cons_succ]
  refine takeH (i := 8) (d := some 41) (v := ?_) rfl rfl (by kernel_rfl) (by kernel_rfl) (by kernel_rfl) (fun _ _ _ h => h) (by rfl) ?_ (by assumption) ?_
  rotate_left
  · intro w hSw; (try dsimp only at hSw); (try go_simp); (try with_reducible rfl)
  try simp only [Act.put, List.setIfInBounds_toArray, List.set_cons_zero, List.set_cons_succ]
  refine takeH (i := 9) (d := some 42) (v := ?_) rfl rfl (by kernel_rfl) (by kernel_rfl) (by kernel_rfl) (fun _ _ _ h => h) (by rfl) ?_ (by assumption) ?_
  rotate_left
  · intro w hSw; (try dsimp only at hSw); (try go_simp); (try with_reducible rfl)
  try simp only [Act.put, List.setIfInBounds_toArray, List.set_cons_zero, List.set_cons_succ]
  refine takeH (i := 10) (d := some 8) (v := ?_) rfl rfl (by kernel_rfl) (by kernel_rfl) (by kernel_rfl) (fun _ _ _ h => h) (by rfl) ?_ (by assumption) ?_
  rotate_left
  · intro w hSw; (try dsimp only at hSw); (try go_simp); (try with_reducible rfl)
  try simp only [Act.put, List.setIfInBounds_toArray, List.set_cons_zero, List.set_cons_succ]
  refine takeH (i := 11) (d := some 9) (v := ?_) rfl rfl (by kernel_rfl) (by kernel_rfl) (by kernel_rfl) (fun _ _ _ h => h) (by rfl) ?_ (by assumption) ?_
  rotate_left
  · intro w hSw; (try dsimp only at hSw); (try go_simp); (try with_reducible rfl)
  try simp only [Act.put, List.setIfInBounds_toArray, List.set_cons_zero, List.set_cons_succ]
  refine wpAnyH_done (by kernel_rfl) ?_ _
  clear S_room__7 S_bs__7 S_x__7
  have M7 := Lib.hid (Ext.refl w7)
  have y0_x := S7.out.cell x0_x
  have y1_x := S7.out.cell x1_x
  go_wp2_with fail
  clear y0_x y1_x
  have q_room := A_room.out.ext E7.out
  refine (toIntS_any _ _ _ q_room N_room.out).mono ?_
  rintro e w8 ⟨g8, rfl, hE, ho, -⟩
  have E8 := Lib.hid (E7.out.trans hE)
  have S8 := Lib.hid (S7.out.trans hE)
  have M8 := Lib.hid (M7.out.trans hE)
  have Q8 := Lib.hid hE.le
  have X_room__8 := Lib.hid (IntsU.upto ho)
  clear hE ho q_room M7
  have y0_x := S8.out.cell x0_x
  have y1_x := S8.out.cell x1_x
  go_wp2_with fail
  clear y0_x y1_x
  have q_bs := A_bs.out.ext E8.out
  refine (toTaskSSU_any _ _ _ q_bs N_bs.out).mono ?_
  rintro e w9 ⟨g9, rfl, hE, ho⟩
  have E9 := Lib.hid (E8.out.trans hE)
  have S9 := Lib.hid (S8.out.trans hE)
  have M9 := Lib.hid (M8.out.trans hE)
  have Q9 := Lib.hid hE.le
  have X_room__9 := Lib.hid (X_room__8.out.ext hE)
  have X_bs__9 := Lib.hid (ho)
  clear hE ho q_bs E8 S8 M8 X_room__8
  have y0_x := S9.out.cell x0_x
  have y1_x := S9.out.cell x1_x
  go_wp2_with fail
  clear y0_x y1_x
  have q_x := A_x.out.ext E9.out
  refine (toTask_any _ _ _ _ q_x N_x.out).mono ?_
  rintro e w10 ⟨g10, rfl, hE, ho⟩
  have E10 := Lib.hid (E9.out.trans hE)
  have S10 := Lib.hid (S9.out.trans hE)
  have M10 := Lib.hid (M9.out.trans hE)
  have Q10 := Lib.hid hE.le
  have X_room__10 := Lib.hid (X_room__9.out.ext hE)
  have X_bs__10 := Lib.hid (X_bs__9.out.ext hE)
  have X_x__10 := Lib.hid (IntsU.upto ho.2)
  clear hE ho q_x E9 S9 M9 X_room__9 X_bs__9
  have v0_x : (w10.alloc (Obj.cells #[.int .i64 x.id, .slice (some ⟨g10, 0, none⟩) x.need.length x.need.length] 42)).cell? ⟨w10.heap.size, 0, none⟩ = some (.int .i64 x.id) := by rw [box_cell]; rfl
  have v1_x : (w10.alloc (Obj.cells #[.int .i64 x.id, .slice (some ⟨g10, 0, none⟩) x.need.length x.need.length] 42)).cell? ⟨w10.heap.size, 1, none⟩ = some (.slice (some ⟨g10, 0, none⟩) x.need.length x.need.length) := by rw [box_cell]; rfl
  have v2_x : w10.heap.size < (w10.alloc (Obj.cells #[.int .i64 x.id, .slice (some ⟨g10, 0, none⟩) x.need.length x.need.length] 42)).heap.size := by simp
  have y0_x := S10.out.cell x0_x
  have y1_x := S10.out.cell x1_x
  go_wp2_with fail
  clear y0_x y1_x
  have hE := (Ext.refl w10).alloc (Obj.cells #[.int .i64 x.id, .slice (some ⟨g10, 0, none⟩) x.need.length x.need.length] 42)
  have E11 := Lib.hid (E10.out.trans hE)
  have S11 := Lib.hid (S10.out.trans hE)
  have M11 := Lib.hid (M10.out.trans hE)
  have Q11 := Lib.hid hE.le
  have X_room__11 := Lib.hid (X_room__10.out.ext hE)
  have X_bs__11 := Lib.hid (X_bs__10.out.ext hE)
  have X_x__11 := Lib.hid (X_x__10.out.ext hE)
  have B_x__11 := Lib.hid (show BoxAt (w10.alloc (Obj.cells #[.int .i64 x.id, .slice (some ⟨g10, 0, none⟩) x.need.length x.need.length] 42)) w10.heap.size x.id (.slice (some ⟨g10, 0, none⟩) x.need.length x.need.length) from ⟨v2_x, v0_x, v1_x⟩)
  clear hE E10 S10 M10 X_room__10 X_bs__10 X_x__10
  generalize w10.alloc (Obj.cells #[.int .i64 x.id, .slice (some ⟨g10, 0, none⟩) x.need.length x.need.length] 42) = w11 at *
  clear v0_x v1_x v2_x
  have QB_x := Lib.hid B_x__11.out.1
  refine (FirstPut_any _ _ _ room bs x _ (X_room__11.out.ints L_room.out) (X_bs__11.out.bins L_bs.out) (X_x__11.out.ints L_x.out) K_bs.out).mono ?_
  rintro e w12 ⟨rg, cg, rfl, hE, hg⟩
  have E12 := Lib.hid (E11.out.trans hE)
  have S12 := Lib.hid (S11.out.trans hE)
  have M12 := Lib.hid (M11.out.trans hE)
  have X_room__12 := Lib.hid (X_room__11.out.ext hE)
  have X_bs__12 := Lib.hid (X_bs__11.out.ext hE)
  have X_x__12 := Lib.hid (X_x__11.out.ext hE)
  have B_x__12 := Lib.hid (B_x__11.out.ext hE)
  have G__12 := Lib.hid (hg.upto)
  clear hE hg E11 S11 M11 X_room__11 X_bs__11 X_x__11 B_x__11
  have RL := Lib.hid (firstPutL_lim room bs x)
  have y2_x := B_x__12.out.2.1
  have y3_x := B_x__12.out.2.2
  have y0_x := S12.out.cell x0_x
  have y1_x := S12.out.cell x1_x
  go_wp2_with fail
  clear y2_x y3_x
  clear y0_x y1_x
  refine (eqTaskSS_any _ _ _ _ _ (G__12.out.bins RL.out) (R0__7.out.ext M12.out)).mono ?_
  rintro e w13 ⟨rfl, hE⟩
  have E13 := Lib.hid (E12.out.trans hE)
  have S13 := Lib.hid (S12.out.trans hE)
  have M13 := Lib.hid (M12.out.trans hE)
  have X_room__13 := Lib.hid (X_room__12.out.ext hE)
  have X_bs__13 := Lib.hid (X_bs__12.out.ext hE)
  have X_x__13 := Lib.hid (X_x__12.out.ext hE)
  have B_x__13 := Lib.hid (B_x__12.out.ext hE)
  have G__13 := Lib.hid (G__12.out.ext hE)
  clear hE E12 S12 M12 X_room__12 X_bs__12 X_x__12 B_x__12 G__12
  rw [sameBs_iff.2 rfl]
  have y2_x := B_x__13.out.2.1
  have y3_x := B_x__13.out.2.2
  have y0_x := S13.out.cell x0_x
  have y1_x := S13.out.cell x1_x
  go_wp2_with fail
  clear y2_x y3_x
  clear y0_x y1_x
  have q_room := A_room.out.ext E13.out
  refine (toIntS_any _ _ _ q_room N_room.out).mono ?_
  rintro e w14 ⟨g14, rfl, hE, ho, -⟩
  have E14 := Lib.hid (E13.out.trans hE)
  have S14 := Lib.hid (S13.out.trans hE)
  have M14 := Lib.hid (M13.out.trans hE)
  have X_room__14 := Lib.hid (X_room__13.out.ext hE)
  have X_bs__14 := Lib.hid (X_bs__13.out.ext hE)
  have X_x__14 := Lib.hid (X_x__13.out.ext hE)
  have B_x__14 := Lib.hid (B_x__13.out.ext hE)
  have G__14 := Lib.hid (G__13.out.ext hE)
  have Y_room__14 := Lib.hid (ho.done L_room.out)
  clear hE ho q_room E13 S13 M13 X_room__13 X_bs__13 X_x__13 B_x__13 G__13
  have y2_x := B_x__14.out.2.1
  have y3_x := B_x__14.out.2.2
  have y0_x := S14.out.cell x0_x
  have y1_x := S14.out.cell x1_x
  go_wp2_with fail
  clear y2_x y3_x
  clear y0_x y1_x
  refine (eqIntS_any _ _ _ _ _ (X_room__14.out.ints L_room.out) Y_room__14.out).mono ?_
  rintro e w15 ⟨rfl, m14, rfl⟩
  have hE := (Ext.refl (w14)).drewN m14
  have E15 := Lib.hid (E14.out.trans hE)
  have S15 := Lib.hid (S14.out.trans hE)
  have M15 := Lib.hid (M14.out.trans hE)
  have X_room__15 := Lib.hid (X_room__14.out.ext hE)
  have X_bs__15 := Lib.hid (X_bs__14.out.ext hE)
  have X_x__15 := Lib.hid (X_x__14.out.ext hE)
  have B_x__15 := Lib.hid (B_x__14.out.ext hE)
  have G__15 := Lib.hid (G__14.out.ext hE)
  have Y_room__15 := Lib.hid (Y_room__14.out.ext hE)
  clear hE E14 S14 M14 X_room__14 X_bs__14 X_x__14 B_x__14 G__14 Y_room__14
  rw [beq_refl]
  clear Y_room__15
  have y2_x := B_x__15.out.2.1
  have y3_x := B_x__15.out.2.2
  have y0_x := S15.out.cell x0_x
  have y1_x := S15.out.cell x1_x
  go_wp2_with fail
  clear y2_x y3_x
  clear y0_x y1_x
  have q_bs := A_bs.out.ext E15.out
  refine (toTaskSS_any _ _ _ q_bs N_bs.out).mono ?_
  rintro e w16 ⟨g16, rfl, hE, ho⟩
  have E16 := Lib.hid (E15.out.trans hE)
  have S16 := Lib.hid (S15.out.trans hE)
  have M16 := Lib.hid (M15.out.trans hE)
  have X_room__16 := Lib.hid (X_room__15.out.ext hE)
  have X_bs__16 := Lib.hid (X_bs__15.out.ext hE)
  have X_x__16 := Lib.hid (X_x__15.out.ext hE)
  have B_x__16 := Lib.hid (B_x__15.out.ext hE)
  have G__16 := Lib.hid (G__15.out.ext hE)
  have Y_bs__16 := Lib.hid (ho.bins L_bs.out)
  clear hE ho q_bs E15 S15 M15 X_room__15 X_bs__15 X_x__15 B_x__15 G__15
  have y2_x := B_x__16.out.2.1
  have y3_x := B_x__16.out.2.2
  have y0_x := S16.out.cell x0_x
  have y1_x := S16.out.cell x1_x
  go_wp2_with fail
  clear y2_x y3_x
  clear y0_x y1_x
  refine (eqTaskSS_any _ _ _ _ _ (X_bs__16.out.bins L_bs.out) Y_bs__16.out).mono ?_
  rintro e w17 ⟨rfl, hE⟩
  have E17 := Lib.hid (E16.out.trans hE)
  have S17 := Lib.hid (S16.out.trans hE)
  have M17 := Lib.hid (M16.out.trans hE)
  have X_room__17 := Lib.hid (X_room__16.out.ext hE)
  have X_bs__17 := Lib.hid (X_bs__16.out.ext hE)
  have X_x__17 := Lib.hid (X_x__16.out.ext hE)
  have B_x__17 := Lib.hid (B_x__16.out.ext hE)
  have G__17 := Lib.hid (G__16.out.ext hE)
  have Y_bs__17 := Lib.hid (Y_bs__16.out.ext hE)
  clear hE E16 S16 M16 X_room__16 X_bs__16 X_x__16 B_x__16 G__16 Y_bs__16
  rw [sameBs_iff.2 rfl]
  clear Y_bs__17
  have y2_x := B_x__17.out.2.1
  have y3_x := B_x__17.out.2.2
  have y0_x := S17.out.cell x0_x
  have y1_x := S17.out.cell x1_x
  go_wp2_with fail
  clear y2_x y3_x
  clear y0_x y1_x
  refine wp_region_held_drew (S := fun w' => w'.cell? ⟨w.heap.size, 0, none⟩ = some (.int .i64 x.id) ∧ w'.cell? ⟨w.heap.size, 1, none⟩ = some (.slice ar_x x.need.length cr_x) ∧ w'.cell? ⟨w10.heap.size, 0, none⟩ = some (.int .i64 x.id) ∧ w'.cell? ⟨w10.heap.size, 1, none⟩ = some (.slice (some ⟨g10, 0, none⟩) x.need.length x.need.length)) (by kernel_rfl) (⟨(Ext.refl _).drew.cell (S17.out.cell x0_x), (Ext.refl _).drew.cell (S17.out.cell x1_x), (Ext.refl _).drew.cell (B_x__17.out.2.1), (Ext.refl _).drew.cell (B_x__17.out.2.2)⟩) (fun hHeld => ?_)
  have hE := (Ext.refl w17).drew
  have E18 := Lib.hid (E17.out.trans hE)
  have S18 := Lib.hid (S17.out.trans hE)
  have M18 := Lib.hid (M17.out.trans hE)
  have X_room__18 := Lib.hid (X_room__17.out.ext hE)
  have X_bs__18 := Lib.hid (X_bs__17.out.ext hE)
  have X_x__18 := Lib.hid (X_x__17.out.ext hE)
  have B_x__18 := Lib.hid (B_x__17.out.ext hE)
  have G__18 := Lib.hid (G__17.out.ext hE)
  clear hE E17 S17 M17 X_room__17 X_bs__17 X_x__17 B_x__17 G__17
  generalize w17.drew = w18 at *
  refine takeH (i := 0) (d := some 75) (v := ?_) rfl rfl (by kernel_rfl) (by kernel_rfl) (by kernel_rfl) (fun _ _ _ h => h) (by rfl) ?_ (by assumption) ?_
  rotate_left
  · intro w hSw; (try dsimp only at hSw); (try obtain ⟨l0, l1, l2, l3⟩ := hSw; go_simp); (try with_reducible rfl)
  try simp only [Act.put, List.setIfInBounds_toArray, List.set_cons_zero, List.set_cons_succ]
  refine takeH (i := 1) (d := some 76) (v := ?_) rfl rfl (by kernel_rfl) (by kernel_rfl) (by kernel_rfl) (fun _ _ _ h => h) (by rfl) ?_ (by assumption) ?_
  rotate_left
  · intro w hSw; (try dsimp only at hSw); (try obtain ⟨l0, l1, l2, l3⟩ := hSw; go_simp); (try with_reducible rfl)
  try simp only [Act.put, List.setIfInBounds_toArray, List.set_cons_zero, List.set_cons_succ]
  refine oneH (i := 2) (by kernel_rfl) rfl (by rfl) (fun K hK => ?_)
  go_simp
  have q_x := A_x.out.ext E18.out
  refine (toTask_any _ _ _ _ q_x N_x.out).mono ?_
  rintro e w19 ⟨g19, rfl, hE, ho⟩
  have E19 := Lib.hid (E18.out.trans hE)
  have S19 := Lib.hid (S18.out.trans hE)
  have M19 := Lib.hid (M18.out.trans hE)
  have X_room__19 := Lib.hid (X_room__18.out.ext hE)
  have X_bs__19 := Lib.hid (X_bs__18.out.ext hE)
  have X_x__19 := Lib.hid (X_x__18.out.ext hE)
  have B_x__19 := Lib.hid (B_x__18.out.ext hE)
  have G__19 := Lib.hid (G__18.out.ext hE)
  have Y_x__19 := Lib.hid (ho.2.done L_x.out)
  clear hE ho q_x E18 S18 M18 X_room__18 X_bs__18 X_x__18 B_x__18 G__18
  try dsimp only
  refine hK.out _ _ (⟨S19.out.cell x0_x, S19.out.cell x1_x, B_x__19.out.2.1, B_x__19.out.2.2⟩) (fun hHeld => ?_)
  clear hK K
  try simp only [Act.put, List.setIfInBounds_toArray, List.set_cons_zero, List.set_cons_succ]
  refine oneH (i := 3) (by kernel_rfl) rfl (by rfl) (fun K hK => ?_)
  go_simp
  refine (eqTask_any x x _ _ _ (X_x__19.out.ints L_x.out) Y_x__19.out).mono ?_
  rintro e w20 ⟨rfl, hE⟩
  have E20 := Lib.hid (E19.out.trans hE)
  have S20 := Lib.hid (S19.out.trans hE)
  have M20 := Lib.hid (M19.out.trans hE)
  have X_room__20 := Lib.hid (X_room__19.out.ext hE)
  have X_bs__20 := Lib.hid (X_bs__19.out.ext hE)
  have X_x__20 := Lib.hid (X_x__19.out.ext hE)
  have B_x__20 := Lib.hid (B_x__19.out.ext hE)
  have G__20 := Lib.hid (G__19.out.ext hE)
  have Y_x__20 := Lib.hid (Y_x__19.out.ext hE)
  clear hE E19 S19 M19 X_room__19 X_bs__19 X_x__19 B_x__19 G__19 Y_x__19
  rw [sameT_iff.2 rfl]
  try dsimp only
  refine hK.out _ _ (⟨S20.out.cell x0_x, S20.out.cell x1_x, B_x__20.out.2.1, B_x__20.out.2.2⟩) (fun hHeld => ?_)
  clear hK K
  try simp only [Act.put, List.setIfInBounds_toArray, List.set_cons_zero, List.set_cons_succ]
  refine takeH (i := 4) (d := some 79) (v := ?_) rfl rfl (by kernel_rfl) (by kernel_rfl) (by kernel_rfl) (fun _ _ _ h => h) (by rfl) ?_ (by assumption) ?_
  rotate_left
  · intro w hSw; (try dsimp only at hSw); (try go_simp); (try with_reducible rfl)
  try simp only [Act.put, List.setIfInBounds_toArray, List.set_cons_zero, List.set_cons_succ]
  refine wpAnyH_done (by kernel_rfl) ?_ _
  clear Y_x__20
  have y2_x := B_x__20.out.2.1
  have y3_x := B_x__20.out.2.2
  have y0_x := S20.out.cell x0_x
  have y1_x := S20.out.cell x1_x
  go_wp2_with fail
  clear y2_x y3_x
  clear y0_x y1_x
  refine (markIntS_any _ room (1) _ _ _ X_room__20.out (by have := N_room.out; have := N_bs.out; have := N_x.out; omega) (by have := N_room.out; have := N_bs.out; have := N_x.out; omega) (by have := N_room.out; omega)).mono ?_
  rintro e w21 ⟨rfl, -, hC, -⟩
  have M21 := Lib.hid (hC.ext M20.out (by have := Q8.out; have := Q9.out; have := Q10.out; have := Q11.out; have := QB_x.out; omega))
  have E21 := Lib.hid (E7.out.trans M21.out)
  have S21 := Lib.hid (S7.out.trans M21.out)
  have X_bs__21 := Lib.hid (X_bs__20.out.chg hC (by have := Q8.out; have := Q9.out; have := Q10.out; have := Q11.out; have := QB_x.out; omega))
  have X_x__21 := Lib.hid (X_x__20.out.chg hC (by have := Q8.out; have := Q9.out; have := Q10.out; have := Q11.out; have := QB_x.out; omega))
  have B_x__21 := Lib.hid (B_x__20.out.chg hC (by have := Q8.out; have := Q9.out; have := Q10.out; have := Q11.out; have := QB_x.out; omega))
  have G__21 := Lib.hid (G__20.out.chg hC (by have := Q8.out; have := Q9.out; have := Q10.out; have := Q11.out; have := QB_x.out; omega))
  clear hC M20 E20 S20 X_room__20 X_bs__20 X_x__20 B_x__20 G__20
  have y2_x := B_x__21.out.2.1
  have y3_x := B_x__21.out.2.2
  have y0_x := S21.out.cell x0_x
  have y1_x := S21.out.cell x1_x
  go_wp2_with fail
  clear y2_x y3_x
  clear y0_x y1_x
  refine (markTaskSS_any _ bs (1 + ((room.length : Nat) : Int)) _ _ _ X_bs__21.out (by have := N_room.out; have := N_bs.out; have := N_x.out; omega) (by have := N_room.out; have := N_bs.out; have := N_x.out; omega) (by have := N_bs.out; omega)).mono ?_
  rintro e w22 ⟨rfl, hC⟩
  have M22 := Lib.hid (hC.ext M21.out (by have := Q8.out; have := Q9.out; have := Q10.out; have := Q11.out; have := QB_x.out; omega))
  have E22 := Lib.hid (E7.out.trans M22.out)
  have S22 := Lib.hid (S7.out.trans M22.out)
  have X_x__22 := Lib.hid (X_x__21.out.chg hC (by have := Q8.out; have := Q9.out; have := Q10.out; have := Q11.out; have := QB_x.out; omega))
  have B_x__22 := Lib.hid (B_x__21.out.chg hC (by have := Q8.out; have := Q9.out; have := Q10.out; have := Q11.out; have := QB_x.out; omega))
  have G__22 := Lib.hid (G__21.out.chg hC (by have := Q8.out; have := Q9.out; have := Q10.out; have := Q11.out; have := QB_x.out; omega))
  clear hC M21 E21 S21 X_bs__21 X_x__21 B_x__21 G__21
  have y2_x := B_x__22.out.2.1
  have y3_x := B_x__22.out.2.2
  have y0_x := S22.out.cell x0_x
  have y1_x := S22.out.cell x1_x
  go_wp2_with fail
  clear y2_x y3_x
  clear y0_x y1_x
  refine (markTask_any x.id _ x (1 + ((room.length : Nat) : Int) + ((weigh bs : Nat) : Int)) _ _ _ X_x__22.out (by have := N_room.out; have := N_bs.out; have := N_x.out; omega) (by have := N_room.out; have := N_bs.out; have := N_x.out; omega) (by have := N_x.out; omega)).mono ?_
  rintro e w23 ⟨rfl, -, hC, -⟩
  have M23 := Lib.hid (hC.ext M22.out (by have := Q8.out; have := Q9.out; have := Q10.out; have := Q11.out; have := QB_x.out; omega))
  have E23 := Lib.hid (E7.out.trans M23.out)
  have S23 := Lib.hid (S7.out.trans M23.out)
  have B_x__23 := Lib.hid (B_x__22.out.chg hC (by have := Q8.out; have := Q9.out; have := Q10.out; have := Q11.out; have := QB_x.out; omega))
  have G__23 := Lib.hid (G__22.out.chg hC (by have := Q8.out; have := Q9.out; have := Q10.out; have := Q11.out; have := QB_x.out; omega))
  clear hC M22 E22 S22 X_x__22 B_x__22 G__22
  have y2_x := B_x__23.out.2.1
  have y3_x := B_x__23.out.2.2
  have y0_x := S23.out.cell x0_x
  have y1_x := S23.out.cell x1_x
  go_wp2_with fail
  clear y2_x y3_x
  clear y0_x y1_x
  refine (eqTaskSS_any _ _ _ _ _ (G__23.out.bins RL.out) (R0__7.out.ext M23.out)).mono ?_
  rintro e w24 ⟨rfl, hE⟩
  have E24 := Lib.hid (E23.out.trans hE)
  have S24 := Lib.hid (S23.out.trans hE)
  have M24 := Lib.hid (M23.out.trans hE)
  have B_x__24 := Lib.hid (B_x__23.out.ext hE)
  have G__24 := Lib.hid (G__23.out.ext hE)
  clear hE E23 S23 M23 B_x__23 G__23
  rw [sameBs_iff.2 rfl]
  have y2_x := B_x__24.out.2.1
  have y3_x := B_x__24.out.2.2
  have y0_x := S24.out.cell x0_x
  have y1_x := S24.out.cell x1_x
  go_wp2_with fail
  clear y2_x y3_x
  clear y0_x y1_x
  refine (markNest_any _ (firstPutL room bs x) 1 _ _ _ G__24.out (by omega) (by omega) (by have := RL.out; unfold lim at this; omega)).mono ?_
  rintro e w25 ⟨rfl, hG, hC⟩
  have M25 := Lib.hid (hC.ext M24.out (by have := Q8.out; have := Q9.out; have := Q10.out; have := Q11.out; have := QB_x.out; omega))
  have E25 := Lib.hid (E7.out.trans M25.out)
  have S25 := Lib.hid (S7.out.trans M25.out)
  have B_x__25 := Lib.hid (B_x__24.out.chg hC (by have := Q8.out; have := Q9.out; have := Q10.out; have := Q11.out; have := QB_x.out; omega))
  have H__25 := Lib.hid (hG)
  clear hC hG M24 E24 S24 B_x__24 G__24
  have y2_x := B_x__25.out.2.1
  have y3_x := B_x__25.out.2.2
  have y0_x := S25.out.cell x0_x
  have y1_x := S25.out.cell x1_x
  go_wp2_with fail
  clear y2_x y3_x
  clear y0_x y1_x
  refine (heldTaskSS_any _ (firstPutL room bs x) 1 _ (H__25.out.bins (markBs_lim RL.out)) (by omega) (by omega) (by have := RL.out; unfold lim at this; omega)).mono ?_
  rintro e w26 ⟨rfl, hE⟩
  have E26 := Lib.hid (E25.out.trans hE)
  have S26 := Lib.hid (S25.out.trans hE)
  have M26 := Lib.hid (M25.out.trans hE)
  have B_x__26 := Lib.hid (B_x__25.out.ext hE)
  have H__26 := Lib.hid (H__25.out.ext hE)
  clear hE E25 S25 M25 B_x__25 H__25
  have y2_x := B_x__26.out.2.1
  have y3_x := B_x__26.out.2.2
  have y0_x := S26.out.cell x0_x
  have y1_x := S26.out.cell x1_x
  go_wp2_with fail
  clear y2_x y3_x
  clear y0_x y1_x
  refine wp_region_held_drew (S := fun w' => w'.cell? ⟨w.heap.size, 0, none⟩ = some (.int .i64 x.id) ∧ w'.cell? ⟨w.heap.size, 1, none⟩ = some (.slice ar_x x.need.length cr_x) ∧ w'.cell? ⟨w10.heap.size, 0, none⟩ = some (.int .i64 x.id) ∧ w'.cell? ⟨w10.heap.size, 1, none⟩ = some (.slice (some ⟨g10, 0, none⟩) x.need.length x.need.length)) (by kernel_rfl) (⟨(Ext.refl _).drew.cell (S26.out.cell x0_x), (Ext.refl _).drew.cell (S26.out.cell x1_x), (Ext.refl _).drew.cell (B_x__26.out.2.1), (Ext.refl _).drew.cell (B_x__26.out.2.2)⟩) (fun hHeld => ?_)
  have hE := (Ext.refl w26).drew
  have E27 := Lib.hid (E26.out.trans hE)
  have S27 := Lib.hid (S26.out.trans hE)
  have M27 := Lib.hid (M26.out.trans hE)
  have B_x__27 := Lib.hid (B_x__26.out.ext hE)
  have H__27 := Lib.hid (H__26.out.ext hE)
  clear hE E26 S26 M26 B_x__26 H__26
  generalize w26.drew = w27 at *
  refine takeH (i := 0) (d := some 114) (v := ?_) rfl rfl (by kernel_rfl) (by kernel_rfl) (by kernel_rfl) (fun _ _ _ h => h) (by rfl) ?_ (by assumption) ?_
  rotate_left
  · intro w hSw; (try dsimp only at hSw); (try go_simp); (try with_reducible rfl)
  try simp only [Act.put, List.setIfInBounds_toArray, List.set_cons_zero, List.set_cons_succ]
  refine takeH (i := 2) (d := some 116) (v := ?_) rfl rfl (by kernel_rfl) (by kernel_rfl) (by kernel_rfl) (fun _ _ _ h => h) (by rfl) ?_ (by assumption) ?_
  rotate_left
  · intro w hSw; (try dsimp only at hSw); (try go_simp); (try with_reducible rfl)
  try simp only [Act.put, List.setIfInBounds_toArray, List.set_cons_zero, List.set_cons_succ]
  refine takeH (i := 4) (d := some 118) (v := ?_) rfl rfl (by kernel_rfl) (by kernel_rfl) (by kernel_rfl) (fun _ _ _ h => h) (by rfl) ?_ (by assumption) ?_
  rotate_left
  · intro w hSw; (try dsimp only at hSw); (try obtain ⟨l0, l1, l2, l3⟩ := hSw; go_simp); (try with_reducible rfl)
  try simp only [Act.put, List.setIfInBounds_toArray, List.set_cons_zero, List.set_cons_succ]
  refine oneH (i := 1) (by kernel_rfl) rfl (by rfl) (fun K hK => ?_)
  go_simp
  have q_room := A_room.out.ext E27.out
  refine (toIntS_any _ _ _ q_room N_room.out).mono ?_
  rintro e w28 ⟨g28, rfl, hE, ho, -⟩
  have E28 := Lib.hid (E27.out.trans hE)
  have S28 := Lib.hid (S27.out.trans hE)
  have M28 := Lib.hid (M27.out.trans hE)
  have B_x__28 := Lib.hid (B_x__27.out.ext hE)
  have H__28 := Lib.hid (H__27.out.ext hE)
  have Z_room__28 := Lib.hid (ho.done L_room.out)
  clear hE ho q_room E27 S27 M27 B_x__27 H__27
  try dsimp only
  refine hK.out _ _ (⟨S28.out.cell x0_x, S28.out.cell x1_x, B_x__28.out.2.1, B_x__28.out.2.2⟩) (fun hHeld => ?_)
  clear hK K
  try simp only [Act.put, List.setIfInBounds_toArray, List.set_cons_zero, List.set_cons_succ]
  refine oneH (i := 3) (by kernel_rfl) rfl (by rfl) (fun K hK => ?_)
  go_simp
  have q_bs := A_bs.out.ext E28.out
  refine (toTaskSS_any _ _ _ q_bs N_bs.out).mono ?_
  rintro e w29 ⟨g29, rfl, hE, ho⟩
  have E29 := Lib.hid (E28.out.trans hE)
  have S29 := Lib.hid (S28.out.trans hE)
  have M29 := Lib.hid (M28.out.trans hE)
  have B_x__29 := Lib.hid (B_x__28.out.ext hE)
  have H__29 := Lib.hid (H__28.out.ext hE)
  have Z_room__29 := Lib.hid (Z_room__28.out.ext hE)
  have Z_bs__29 := Lib.hid (ho.bins L_bs.out)
  clear hE ho q_bs E28 S28 M28 B_x__28 H__28 Z_room__28
  try dsimp only
  refine hK.out _ _ (⟨S29.out.cell x0_x, S29.out.cell x1_x, B_x__29.out.2.1, B_x__29.out.2.2⟩) (fun hHeld => ?_)
  clear hK K
  try simp only [Act.put, List.setIfInBounds_toArray, List.set_cons_zero, List.set_cons_succ]
  refine oneH (i := 5) (by kernel_rfl) rfl (by rfl) (fun K hK => ?_)
  go_simp
  have q_x := A_x.out.ext E29.out
  refine (toTask_any _ _ _ _ q_x N_x.out).mono ?_
  rintro e w30 ⟨g30, rfl, hE, ho⟩
  have E30 := Lib.hid (E29.out.trans hE)
  have S30 := Lib.hid (S29.out.trans hE)
  have M30 := Lib.hid (M29.out.trans hE)
  have B_x__30 := Lib.hid (B_x__29.out.ext hE)
  have H__30 := Lib.hid (H__29.out.ext hE)
  have Z_room__30 := Lib.hid (Z_room__29.out.ext hE)
  have Z_bs__30 := Lib.hid (Z_bs__29.out.ext hE)
  have Z_x__30 := Lib.hid (ho.2.done L_x.out)
  clear hE ho q_x E29 S29 M29 B_x__29 H__29 Z_room__29 Z_bs__29
  try dsimp only
  refine hK.out _ _ (⟨S30.out.cell x0_x, S30.out.cell x1_x, B_x__30.out.2.1, B_x__30.out.2.2⟩) (fun hHeld => ?_)
  clear hK K
  try simp only [Act.put, List.setIfInBounds_toArray, List.set_cons_zero, List.set_cons_succ]
  refine oneH (i := 6) (by kernel_rfl) rfl (by rfl) (fun K hK => ?_)
  go_simp
  refine (FirstPut_any _ _ _ room bs x _ Z_room__30.out Z_bs__30.out Z_x__30.out K_bs.out).mono ?_
  rintro e w31 ⟨rh, cg, rfl, hE, hg⟩
  have E31 := Lib.hid (E30.out.trans hE)
  have S31 := Lib.hid (S30.out.trans hE)
  have M31 := Lib.hid (M30.out.trans hE)
  have B_x__31 := Lib.hid (B_x__30.out.ext hE)
  have H__31 := Lib.hid (H__30.out.ext hE)
  have Z_room__31 := Lib.hid (Z_room__30.out.ext hE)
  have Z_bs__31 := Lib.hid (Z_bs__30.out.ext hE)
  have Z_x__31 := Lib.hid (Z_x__30.out.ext hE)
  have K__31 := Lib.hid (hg.upto.bins (firstPutL_lim room bs x))
  clear hE hg E30 S30 M30 B_x__30 H__30 Z_room__30 Z_bs__30 Z_x__30
  try dsimp only
  refine hK.out _ _ (⟨S31.out.cell x0_x, S31.out.cell x1_x, B_x__31.out.2.1, B_x__31.out.2.2⟩) (fun hHeld => ?_)
  clear hK K
  try simp only [Act.put, List.setIfInBounds_toArray, List.set_cons_zero, List.set_cons_succ]
  refine takeH (i := 7) (d := some 113) (v := ?_) rfl rfl (by kernel_rfl) (by kernel_rfl) (by kernel_rfl) (fun _ _ _ h => h) (by rfl) ?_ (by assumption) ?_
  rotate_left
  · intro w hSw; (try dsimp only at hSw); (try go_simp); (try with_reducible rfl)
  try simp only [Act.put, List.setIfInBounds_toArray, List.set_cons_zero, List.set_cons_succ]
  refine takeH (i := 8) (d := some 121) (v := ?_) rfl rfl (by kernel_rfl) (by kernel_rfl) (by kernel_rfl) (fun _ _ _ h => h) (by rfl) ?_ (by assumption) ?_
  rotate_left
  · intro w hSw; (try dsimp only at hSw); (try go_simp); (try with_reducible rfl)
  try simp only [Act.put, List.setIfInBounds_toArray, List.set_cons_zero, List.set_cons_succ]
  refine takeH (i := 9) (d := some 122) (v := ?_) rfl rfl (by kernel_rfl) (by kernel_rfl) (by kernel_rfl) (fun _ _ _ h => h) (by rfl) ?_ (by assumption) ?_
  rotate_left
  · intro w hSw; (try dsimp only at hSw); (try go_simp); (try with_reducible rfl)
  try simp only [Act.put, List.setIfInBounds_toArray, List.set_cons_zero, List.set_cons_succ]
  refine takeH (i := 10) (d := some 18) (v := ?_) rfl rfl (by kernel_rfl) (by kernel_rfl) (by kernel_rfl) (fun _ _ _ h => h) (by rfl) ?_ (by assumption) ?_
  rotate_left
  · intro w hSw; (try dsimp only at hSw); (try go_simp); (try with_reducible rfl)
  try simp only [Act.put, List.setIfInBounds_toArray, List.set_cons_zero, List.set_cons_succ]
  refine takeH (i := 11) (d := some 19) (v := ?_) rfl rfl (by kernel_rfl) (by kernel_rfl) (by kernel_rfl) (fun _ _ _ h => h) (by rfl) ?_ (by assumption) ?_
  rotate_left
  · intro w hSw; (try dsimp only at hSw); (try go_simp); (try with_reducible rfl)
  try simp only [Act.put, List.setIfInBounds_toArray, List.set_cons_zero, List.set_cons_succ]
  refine wpAnyH_done (by kernel_rfl) ?_ _
  clear Z_room__31 Z_bs__31 Z_x__31
  have y2_x := B_x__31.out.2.1
  have y3_x := B_x__31.out.2.2
  have y0_x := S31.out.cell x0_x
  have y1_x := S31.out.cell x1_x
  go_wp2_with fail
  clear y2_x y3_x
  clear y0_x y1_x
  refine (eqTaskSS_any _ _ _ _ _ K__31.out (R0__7.out.ext M31.out)).mono ?_
  rintro e w32 ⟨rfl, hE⟩
  have E32 := Lib.hid (E31.out.trans hE)
  have S32 := Lib.hid (S31.out.trans hE)
  have M32 := Lib.hid (M31.out.trans hE)
  have B_x__32 := Lib.hid (B_x__31.out.ext hE)
  have H__32 := Lib.hid (H__31.out.ext hE)
  have K__32 := Lib.hid (K__31.out.ext hE)
  clear hE E31 S31 M31 B_x__31 H__31 K__31
  rw [sameBs_iff.2 rfl]
  clear K__32
  have y2_x := B_x__32.out.2.1
  have y3_x := B_x__32.out.2.2
  have y0_x := S32.out.cell x0_x
  have y1_x := S32.out.cell x1_x
  go_wp2_with fail
  clear y2_x y3_x
  clear y0_x y1_x
  refine (heldTaskSS_any _ (firstPutL room bs x) 1 _ (H__32.out.bins (markBs_lim RL.out)) (by omega) (by omega) (by have := RL.out; unfold lim at this; omega)).mono ?_
  rintro e w33 ⟨rfl, hE⟩
  have E33 := Lib.hid (E32.out.trans hE)
  have S33 := Lib.hid (S32.out.trans hE)
  have M33 := Lib.hid (M32.out.trans hE)
  have B_x__33 := Lib.hid (B_x__32.out.ext hE)
  have H__33 := Lib.hid (H__32.out.ext hE)
  clear hE E32 S32 M32 B_x__32 H__32
  have y2_x := B_x__33.out.2.1
  have y3_x := B_x__33.out.2.2
  have y0_x := S33.out.cell x0_x
  have y1_x := S33.out.cell x1_x
  go_wp2_with fail
  clear y2_x y3_x
  clear y0_x y1_x
  have F := E33.out
  go_ret
  exact ⟨rfl, F⟩

theorem own : ownKnob Try.prog.godebug = none := by kernel_rfl
theorem laidOut : laidOutB Try.prog = true := by kernel_rfl

set_option maxRecDepth 100000 in
theorem lifted (os : Os) (started : os.Started) (H : Type) (enc : TypeId × Value → H) :
    ReturnsInHanded {} Try.checked os 14 .any (Rows.fnExactFirstPutSpec.pre6 enc Try.prog Try.f14 Rows.fnExactFirstPutRow.domain false) (Rows.fnExactFirstPutSpec.post enc Try.prog Try.f14 false true false false) := by
  refine returnsInHanded_of_change (C := Try.checked) own started (by kernel_rfl) Try.func14
    (ChangeSpec.witness6 (enc := enc) (C := Try.checked) false ⟨#[], #[.slice none 0 0, .slice none 0 0, .agg #[.int .i64 0, .slice none 0 0]], []⟩ 8 (by kernel_rfl) (by kernel_rfl) (by kernel_rfl) (by kernel_rfl)) ?_
  intro W base args ds gs before hval0 hW hcnd _
  have hval : ∀ (j : Nat) t v, Try.f14.params[j]? = some t → args[j]? = some v → Value.okWide Try.prog W .any base t v := hval0
  have hW' := hW
  obtain ⟨p, q, hA0, hV, rfl, hfz, hnd⟩ := hW
  have hA : DataW.TrodAll enc Try.prog W 0 (fun _ => true) true Try.f14.params.toList args.toList ds p := hA0
  rw [Try.params14] at hA hval
  obtain ⟨v0, vs0, d0, ds0, p0, q0, hargs, rfl, rfl, h0, r0⟩ := trodAll_cons hA
  obtain ⟨v1, vs1, d1, ds1, p1, q1, rfl, rfl, rfl, h1, r1⟩ := trodAll_cons r0
  obtain ⟨v2, vs2, d2, ds2, p2, q2, rfl, rfl, rfl, h2, r2⟩ := trodAll_cons r1
  obtain ⟨rfl, rfl, rfl⟩ := trodAll_nil r2
  obtain rfl : args = #[v0, v1, v2] := by cases args; simp_all
  obtain ⟨rfl, rfl⟩ := trodVars_none hV
  have lt0 : ∀ x ∈ p0, x.block < W.heap.size := by obtain ⟨m, hm⟩ := h0; exact DataW.trod_lt m _ _ _ hm
  have lt1 : ∀ x ∈ p1, x.block < W.heap.size := by obtain ⟨m, hm⟩ := h1; exact DataW.trod_lt m _ _ _ hm
  have lt2 : ∀ x ∈ p2, x.block < W.heap.size := by obtain ⟨m, hm⟩ := h2; exact DataW.trod_lt m _ _ _ hm
  obtain ⟨x0, e0⟩ := argInts_of h0 (okWide_slice Try.underlying22 (hval 0 22 v0 rfl rfl))
  obtain ⟨x1, e1⟩ := argBins_of h1 (okWide_slice Try.underlying23 (hval 1 23 v1 rfl rfl))
  obtain ⟨x2, e2⟩ := argTask_of (hval 2 72 v2 rfl rfl) h2
  clear hA0 hval0
  refine (walk v0 v1 v2 x0 x1 x2 W e0 e1 e2).mono fun e W' ⟨he, bel⟩ => ?_
  subst he
  exact ⟨_, rfl, _, _, _, [], _, [], hW', trodAll_mk1 (shut_bool Try.underlying4 _), (trodAll_cons_mk (Below.trod laidOut (by kernel_rfl) (of_decide_eq_true (by kernel_rfl)) h0 bel lt0) (trodAll_cons_mk (Below.trod laidOut (by kernel_rfl) (of_decide_eq_true (by kernel_rfl)) h1 bel lt1) (trodAll_cons_mk (Below.trod laidOut (by kernel_rfl) (of_decide_eq_true (by kernel_rfl)) h2 bel lt2) trodAll_mk0))), rfl, Below.frame bel _, fun h => by cases h⟩

theorem closed : joinedFacts Try.prog 14 Try.f14 Rows.fnExactFirstPutSpec Rows.fnExactFirstPutRow = true := by
  unfold joinedFacts
  rw [may_enter, lifts_final, make_cut]
  kernel_rfl

theorem proved : Rows.FnExactFirstPutSaid :=
  OpenClaim.holds_of_wide 14 Try.f14 rfl rfl rfl rfl rfl rfl rfl ⟨rfl, rfl, rfl, rfl, rfl⟩ rfl rfl rfl rfl rfl (by kernel_rfl) Try.func14 closed
    (of_decide_eq_true (by kernel_rfl)) (by unfold Func.isWrapper; first | (rw [if_pos (by decide +kernel)]; kernel_rfl) | (rw [if_neg (by decide +kernel)]; exact ⟨rfl, rfl⟩))
    (fun os started H enc _ => lifted os started H enc)

end Go.Proofs.Ytapkpphdkdbclaa.l63
