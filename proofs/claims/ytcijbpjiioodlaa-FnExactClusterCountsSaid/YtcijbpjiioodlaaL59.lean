/- The law FnExactClusterCounts: the program's ClusterCounts equals the reference's for every cluster; it changes nothing that came in, and its result shares no memory. No condition. -/
import Derived.Test.YtcijbpjiioodlaaCo
import Derived.Test.YtcijbpjiioodlaaUn3
import Derived.Test.YtcijbpjiioodlaaArg
import Derived.Test.YtcijbpjiioodlaaOpen
import Derived.Test.YtcijbpjiioodlaaHead
import Derived.OpenShut
import Derived.ChangeOld
namespace Go.Proofs.Ytcijbpjiioodlaa.l59
set_option maxRecDepth 100000
open Go.RowKit Go.ChangeShapes Go.WideShapes Go.ChangeAt

theorem beq_refl (xs : List Int) : (xs == xs) = true := by simp

set_option maxHeartbeats 8000000 in
theorem walk (v : Value) (c : C) (w : World) (h : ArgCluster w v c) :
    Calls Try.prog 8 #[v] w fun e w' => e = .returned (.bool true) ∧ Ext w w' := by
  have HA := Lib.hid h
  obtain ⟨r, u, rfl, hr, hu⟩ := h
  obtain ⟨_, ra, rc, rfl, -⟩ := hr
  obtain ⟨_, ua, uc, rfl, -⟩ := hu
  have e0 : Ext w (w.alloc (Obj.cells #[.slice ra c.room.length rc, .slice ua c.us.length uc] 25)) := (Ext.refl w).alloc _
  have R0 := Lib.hid (heap_alloc_new w (Obj.cells #[.slice ra c.room.length rc, .slice ua c.us.length uc] 25))
  go_enter Try.func8, Try.ntmps8
  go_wp2_with fail
  have sw : (w.alloc (Obj.cells #[.slice ra c.room.length rc, .slice ua c.us.length uc] 25)).heap.size = w.heap.size + 1 := by simp
  generalize w.alloc (Obj.cells #[.slice ra c.room.length rc, .slice ua c.us.length uc] 25) = W at *
  refine (szCluster_any _ c 1048576 _ (HA.out.ext e0) (by omega) (by omega)).mono ?_
  rintro e w1 ⟨left, rfl, hz, hE⟩
  have E1 := Lib.hid (e0.trans hE)
  have l1 := hE.le
  have r1 := (hE.block (lt_of_heap R0.out)).trans R0.out
  have R1 := Lib.hid r1
  have x0 := cell_of_heap r1 0
  have x1 := cell_of_heap r1 1
  clear e0 hE R0 r1
  rcases hz with rfl | ⟨l0, lm⟩
  · go_wp2
    go_ret
    exact ⟨rfl, E1.out⟩
  have NW := Lib.hid (show weighC c ≤ 2097152 by omega)
  have HL := counts_lim c
  clear lm
  go_wp2_with fail
  refine (toCluster_any _ c _ (HA.out.ext E1.out) NW.out).mono ?_
  rintro e w2 ⟨g2, k2, rfl, hE, ho⟩
  have E2 := Lib.hid (E1.out.trans hE)
  have l2 := hE.le
  have R2 := Lib.hid ((hE.block (lt_of_heap R1.out)).trans R1.out)
  have C2 := Lib.hid (ho.cluster NW.out)
  clear hE ho E1 R1 x0 x1
  go_wp2_with fail
  refine (sClusterCounts_any _ c _ C2.out NW.out).mono ?_
  rintro e w3 ⟨r0, rfl, hE, hs⟩
  obtain ⟨sa, sc, hs0⟩ := (IntsU.upto hs).form
  subst hs0
  have V3 := Lib.hid (IntsU.upto hs)
  have E3 := Lib.hid (E2.out.trans hE)
  have l3 := hE.le
  have r3 := (hE.block (lt_of_heap R2.out)).trans R2.out
  have R3 := Lib.hid r3
  have x0 := cell_of_heap r3 0
  have x1 := cell_of_heap r3 1
  clear hE r3 E2 R2 C2 hs
  go_wp2_with fail
  refine (toCluster_any _ c _ (HA.out.ext E3.out) NW.out).mono ?_
  rintro e w4 ⟨g3, k3, rfl, hE, ho⟩
  have E4 := Lib.hid (E3.out.trans hE)
  have l4 := hE.le
  have R4 := Lib.hid ((hE.block (lt_of_heap R3.out)).trans R3.out)
  have C4 := Lib.hid ho
  have V4 := Lib.hid (V3.out.ext hE)
  have hX := (Ext.refl w4).alloc (Obj.cells #[.slice (some ⟨g3, 0, none⟩) c.room.length c.room.length, .slice (some ⟨k3, 0, none⟩) c.us.length c.us.length] 30)
  have X4 := Lib.hid (heap_alloc_new w4 (Obj.cells #[.slice (some ⟨g3, 0, none⟩) c.room.length c.room.length, .slice (some ⟨k3, 0, none⟩) c.us.length c.us.length] 30))
  clear hE ho E3 R3 x0 x1 V3
  go_wp2_with fail
  have sx : (w4.alloc (Obj.cells #[.slice (some ⟨g3, 0, none⟩) c.room.length c.room.length, .slice (some ⟨k3, 0, none⟩) c.us.length c.us.length] 30)).heap.size = w4.heap.size + 1 := by simp
  generalize w4.alloc (Obj.cells #[.slice (some ⟨g3, 0, none⟩) c.room.length c.room.length, .slice (some ⟨k3, 0, none⟩) c.us.length c.us.length] 30) = W5 at *
  have E5 := Lib.hid (E4.out.trans hX)
  have C5 := Lib.hid (C4.out.ext hX)
  have V5 := Lib.hid (V4.out.ext hX)
  have R5 := Lib.hid ((hX.block (lt_of_heap R4.out)).trans R4.out)
  clear hX E4 C4 R4 V4
  refine (ClusterCounts_any _ c _ (C5.out.cluster NW.out) NW.out).mono ?_
  rintro e w6 ⟨rg, rfl, hE, hg⟩
  obtain ⟨ga, gc, hg0⟩ := (IntsU.upto hg).form
  subst hg0
  have G6 := Lib.hid (IntsU.upto hg)
  have E6 := Lib.hid (E5.out.trans hE)
  have l6 := hE.le
  have C6 := Lib.hid (C5.out.ext hE)
  have V6 := Lib.hid (V5.out.ext hE)
  have R6 := Lib.hid ((hE.block (lt_of_heap R5.out)).trans R5.out)
  have X6 := Lib.hid ((hE.block (lt_of_heap X4.out)).trans X4.out)
  clear hE E5 C5 R5 X4 V5 hg
  obtain ⟨res, hres⟩ : ∃ res, countsC c = res := ⟨_, rfl⟩
  have HRs := Lib.hid hres
  rw [hres] at HL V6 G6 ⊢
  clear hres
  have rl : res.length ≤ 4194304 := HL
  go_wp2_with fail
  refine (eqIntS_any _ _ res res _ (G6.out.ints HL) (V6.out.ints HL)).mono ?_
  rintro e w7 ⟨rfl, m, rfl⟩
  rw [beq_refl]
  have hE := (Ext.refl w6).drewN m
  have E7 := Lib.hid (E6.out.trans hE)
  have C7 := Lib.hid (C6.out.ext hE)
  have V7 := Lib.hid (V6.out.ext hE)
  have G7 := Lib.hid (G6.out.ext hE)
  have R7 := Lib.hid ((hE.block (lt_of_heap R6.out)).trans R6.out)
  have X7 := Lib.hid ((hE.block (lt_of_heap X6.out)).trans X6.out)
  have s7 : (w6.drewN m).heap.size = w6.heap.size := Nat.le_antisymm (by have := R7; exact Nat.le_of_eq (by first | rfl | simp)) hE.le
  clear hE E6 C6 R6 X6 V6 G6
  go_wp2_with fail
  generalize w6.drewN m = w7 at *
  refine wp_region_held_drew (S := fun w' => w'.heap[w.heap.size]? = some (Obj.cells #[.slice ra c.room.length rc, .slice ua c.us.length uc] 25) ∧ w'.heap[w4.heap.size]? = some (Obj.cells #[.slice (some ⟨g3, 0, none⟩) c.room.length c.room.length, .slice (some ⟨k3, 0, none⟩) c.us.length c.us.length] 30)) (by kernel_rfl) ⟨R7.out, X7.out⟩ (fun hHeld => ?_)
  refine takeH (i := 0) (d := some 27) (v := ?_) rfl rfl (by kernel_rfl) (by kernel_rfl) (by kernel_rfl) (fun _ _ _ h => h) (by rfl) ?_ (by assumption) ?_
  rotate_left
  · intro w hSw; (try dsimp only at hSw); (try have l0 := cell_of_heap hSw.1 0; have l1 := cell_of_heap hSw.1 1; have l2 := cell_of_heap hSw.2 0; have l3 := cell_of_heap hSw.2 1; go_simp); (try with_reducible rfl)
  try simp only [Act.put, List.setIfInBounds_toArray, List.set_cons_zero, List.set_cons_succ]
  refine takeH (i := 1) (d := some 28) (v := ?_) rfl rfl (by kernel_rfl) (by kernel_rfl) (by kernel_rfl) (fun _ _ _ h => h) (by rfl) ?_ (by assumption) ?_
  rotate_left
  · intro w hSw; (try dsimp only at hSw); (try have l0 := cell_of_heap hSw.1 0; have l1 := cell_of_heap hSw.1 1; have l2 := cell_of_heap hSw.2 0; have l3 := cell_of_heap hSw.2 1; go_simp); (try with_reducible rfl)
  try simp only [Act.put, List.setIfInBounds_toArray, List.set_cons_zero, List.set_cons_succ]
  refine oneH (i := 2) (by kernel_rfl) rfl (by rfl) (fun K hK => ?_)
  go_simp
  refine (toCluster_any _ c _ (HA.out.ext E7.out.drew) NW.out).mono ?_; rintro e w8 ⟨g7, k7, rfl, hE, ho⟩; have Y8 := Lib.hid ((Ext.refl w7).drew.trans hE); have C8 := Lib.hid (ho.cluster NW.out); clear hE ho
  try dsimp only
  refine hK.out _ _ (⟨(Y8.out.block (lt_of_heap R7.out)).trans R7.out, (Y8.out.block (lt_of_heap X7.out)).trans X7.out⟩) (fun hHeld => ?_)
  clear hK K
  try simp only [Act.put, List.setIfInBounds_toArray, List.set_cons_zero, List.set_cons_succ]
  refine oneH (i := 3) (by kernel_rfl) rfl (by rfl) (fun K hK => ?_)
  go_simp
  refine (eqCluster_any _ _ c _ ((C7.out.cluster NW.out).ext Y8.out) C8.out).mono ?_; rintro e w9 ⟨rfl, hE⟩; have Y9 := Lib.hid (Y8.out.trans hE); clear hE
  try dsimp only
  refine hK.out _ _ (⟨(Y9.out.block (lt_of_heap R7.out)).trans R7.out, (Y9.out.block (lt_of_heap X7.out)).trans X7.out⟩) (fun hHeld => ?_)
  clear hK K
  try simp only [Act.put, List.setIfInBounds_toArray, List.set_cons_zero, List.set_cons_succ]
  refine takeH (i := 4) (d := some 31) (v := ?_) rfl rfl (by kernel_rfl) (by kernel_rfl) (by kernel_rfl) (fun _ _ _ h => h) (by rfl) ?_ (by assumption) ?_
  rotate_left
  · intro w hSw; (try dsimp only at hSw); (try go_simp); (try with_reducible rfl)
  try simp only [Act.put, List.setIfInBounds_toArray, List.set_cons_zero, List.set_cons_succ]
  refine wpAnyH_done (by kernel_rfl) ?_ _
  have E9 := Lib.hid (E7.out.trans Y9.out)
  have C9 := Lib.hid (C7.out.ext Y9.out)
  have V9 := Lib.hid (V7.out.ext Y9.out)
  have G9 := Lib.hid (G7.out.ext Y9.out)
  have R9 := Lib.hid ((Y9.out.block (lt_of_heap R7.out)).trans R7.out)
  have x9 := (Y9.out.block (lt_of_heap X7.out)).trans X7.out
  have l9 := Y9.out.le
  have X9 := Lib.hid x9
  have y0 := cell_of_heap x9 0
  have y1 := cell_of_heap x9 1
  clear hHeld x9 C8 Y8 Y9 E7 C7 V7 G7 R7 X7
  go_wp2_with fail
  refine (markCluster_any _ c 1 w3.heap.size w4.heap.size _ C9.out (by omega) (by omega) (by omega) NW.out).mono ?_
  rintro e w10 ⟨rfl, hC⟩
  have E10 := Lib.hid (hC.ext E9.out (by omega))
  have V10 := Lib.hid (V9.out.chg hC (.inl (Nat.le_refl _)))
  have G10 := Lib.hid (G9.out.chg hC (.inr (by omega)))
  have R10 := Lib.hid ((hC.block w.heap.size (lt_of_heap R9.out) (.inl (by omega))).trans R9.out)
  have nk : ¬ ((1 : Int) + ((weighC c : Nat) : Int) < 0) := by omega
  have nkb : decide ((1 : Int) + ((weighC c : Nat) : Int) < 0) = false := by simp; omega
  have l10 := hC.size
  clear hC E9 C9 V9 G9 R9 X9 y0 y1
  go_wp2_with fail
  refine (eqIntS_any _ _ res res _ (G10.out.ints HL) (V10.out.ints HL)).mono ?_
  rintro e w11 ⟨rfl, m11, rfl⟩
  rw [beq_refl]
  have hE := (Ext.refl w10).drewN m11
  have E11 := Lib.hid (E10.out.trans hE)
  have V11 := Lib.hid (V10.out.ext hE)
  have G11 := Lib.hid (G10.out.ext hE)
  have R11 := Lib.hid ((hE.block (lt_of_heap R10.out)).trans R10.out)
  have l11 := hE.le
  clear hE E10 V10 G10 R10 nk nkb
  go_wp2_with fail
  generalize w10.drewN m11 = w11 at *
  refine (markIntS_any _ res 1 _ _ _ G11.out (by omega) (by omega) rl).mono ?_
  rintro e w12 ⟨rfl, hI, hC, -⟩
  have E12 := Lib.hid (hC.ext E11.out (by omega))
  have V12 := Lib.hid (V11.out.chg hC (.inl (by omega)))
  have G12 := Lib.hid hI
  have r12 := (hC.block w.heap.size (lt_of_heap R11.out) (.inl (by omega))).trans R11.out
  have R12 := Lib.hid r12
  have x0 := cell_of_heap r12 0
  have x1 := cell_of_heap r12 1
  have nk : ¬ ((1 : Int) + ((res.length : Nat) : Int) < 0) := by omega
  have ne : ((1 : Int) + ((res.length : Nat) : Int) != 1 + ((res.length : Nat) : Int)) = false := by simp
  clear hC hI E11 V11 G11 R11 r12
  go_wp2_with fail
  refine (heldIntS_any _ res.length 1 _ (G12.out.ints (by rw [seqI_len]; exact HL)) (by omega) (by omega)).mono ?_
  rintro e w13 ⟨rfl, rfl⟩
  go_wp2_with fail
  refine (toCluster_any _ c _ (HA.out.ext E12.out) NW.out).mono ?_
  rintro e w14 ⟨g14, k14, rfl, hE, ho⟩
  have E14 := Lib.hid (E12.out.trans hE)
  have C14 := Lib.hid (ho.cluster NW.out)
  have V14 := Lib.hid (V12.out.ext hE)
  have G14 := Lib.hid (G12.out.ext hE)
  clear hE ho E12 V12 G12 R12 x0 x1
  go_wp2_with fail
  refine (ClusterCounts_any _ c _ C14.out NW.out).mono ?_
  rintro e w15 ⟨rh, rfl, hE, hg⟩
  rw [HRs.out] at hg
  obtain ⟨pa, pc, hg0⟩ := (IntsU.upto hg).form
  subst hg0
  have K15 := Lib.hid (hg.done HL)
  have E15 := Lib.hid (E14.out.trans hE)
  have V15 := Lib.hid (V14.out.ext hE)
  have G15 := Lib.hid (G14.out.ext hE)
  clear hE hg E14 C14 V14 G14
  go_wp2_with fail
  refine (eqIntS_any _ _ res res _ K15.out (V15.out.ints HL)).mono ?_
  rintro e w16 ⟨rfl, m16, rfl⟩
  rw [beq_refl]
  have hE := (Ext.refl w15).drewN m16
  have E16 := Lib.hid (E15.out.trans hE)
  have G16 := Lib.hid (G15.out.ext hE)
  clear hE E15 V15 G15 K15
  go_wp2_with fail
  refine (heldIntS_any _ res.length 1 _ (G16.out.ints (by rw [seqI_len]; exact HL)) (by omega) (by omega)).mono ?_
  rintro e w17 ⟨rfl, rfl⟩
  have F := E16.out
  go_wp2
  go_ret
  exact ⟨rfl, F⟩

theorem own : ownKnob Try.prog.godebug = none := by kernel_rfl
theorem laidOut : laidOutB Try.prog = true := by kernel_rfl

set_option maxRecDepth 100000 in
theorem lifted (os : Os) (started : os.Started) (H : Type) (enc : TypeId × Value → H) :
    ReturnsInHanded {} Try.checked os 8 .any (Rows.fnExactClusterCountsSpec.pre6 enc Try.prog Try.f8 Rows.fnExactClusterCountsRow.domain false) (Rows.fnExactClusterCountsSpec.post enc Try.prog Try.f8 false true false false) := by
  refine returnsInHanded_of_change (C := Try.checked) own started (by kernel_rfl) Try.func8
    (ChangeSpec.witness6 (enc := enc) (C := Try.checked) false ⟨#[], #[.agg #[.slice none 0 0, .slice none 0 0]], []⟩ 8 (by kernel_rfl) (by kernel_rfl) (by kernel_rfl) (by kernel_rfl)) ?_
  intro W base args ds gs before hval0 hW hcnd _
  have hval : ∀ (j : Nat) t v, Try.f8.params[j]? = some t → args[j]? = some v → Value.okWide Try.prog W .any base t v := hval0
  have hW' := hW
  obtain ⟨p, q, hA0, hV, rfl, hfz, hnd⟩ := hW
  have hA : DataW.TrodAll enc Try.prog W 0 (fun _ => true) true Try.f8.params.toList args.toList ds p := hA0
  rw [Try.params8] at hA hval
  obtain ⟨v0, vs0, d0, ds0, p0, q0, hargs, rfl, rfl, h0, r0⟩ := trodAll_cons hA
  obtain ⟨rfl, rfl, rfl⟩ := trodAll_nil r0
  obtain rfl : args = #[v0] := by cases args; simp_all
  obtain ⟨rfl, rfl⟩ := trodVars_none hV
  have lt0 : ∀ x ∈ p0, x.block < W.heap.size := by obtain ⟨m, hm⟩ := h0; exact DataW.trod_lt m _ _ _ hm
  obtain ⟨x0, e0⟩ := argCluster_of (hval 0 25 v0 rfl rfl) h0
  clear hA0 hval0
  refine (walk v0 x0 W e0).mono fun e W' ⟨he, bel⟩ => ?_
  subst he
  exact ⟨_, rfl, _, _, _, [], _, [], hW', trodAll_mk1 (shut_bool Try.underlying4 _), (trodAll_cons_mk (Below.trod laidOut (by kernel_rfl) (of_decide_eq_true (by kernel_rfl)) h0 bel lt0) trodAll_mk0), rfl, Below.frame bel _, fun h => by cases h⟩

theorem closed : joinedFacts Try.prog 8 Try.f8 Rows.fnExactClusterCountsSpec Rows.fnExactClusterCountsRow = true := by
  unfold joinedFacts
  rw [may_enter, lifts_final, make_cut]
  kernel_rfl

theorem proved : Rows.FnExactClusterCountsSaid :=
  OpenClaim.holds_of_wide 8 Try.f8 rfl rfl rfl rfl rfl rfl rfl ⟨rfl, rfl, rfl, rfl, rfl⟩ rfl rfl rfl rfl rfl (by kernel_rfl) Try.func8 closed
    (of_decide_eq_true (by kernel_rfl)) (by unfold Func.isWrapper; first | (rw [if_pos (by decide +kernel)]; kernel_rfl) | (rw [if_neg (by decide +kernel)]; exact ⟨rfl, rfl⟩))
    (fun os started H enc _ => lifted os started H enc)

end Go.Proofs.Ytcijbpjiioodlaa.l59
