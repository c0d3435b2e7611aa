/- The law FnExactClusterWhere: the program's ClusterWhere equals the reference's for every cluster and every number; nothing that came in is changed. No condition. -/
import Derived.Test.YtcijbpjiioodlaaCn
import Derived.Test.YtcijbpjiioodlaaUn2
import Derived.Test.YtcijbpjiioodlaaArg
import Derived.Test.YtcijbpjiioodlaaOpen
import Derived.Test.YtcijbpjiioodlaaHead
import Derived.OpenShut
import Derived.ChangeOld
namespace Go.Proofs.Ytcijbpjiioodlaa.l46
set_option maxRecDepth 100000
open Go.RowKit Go.ChangeShapes Go.WideShapes Go.ChangeAt

set_option maxHeartbeats 4000000 in
theorem walk (v : Value) (c : C) (id : Int) (w : World) (h : ArgCluster w v c) :
    Calls Try.prog 5 #[v, .int .i64 id] w fun e w' => e = .returned (.bool true) ∧ Ext w w' := by
  have h2 := h
  obtain ⟨r, u, rfl, hr, hu⟩ := h2
  obtain ⟨_, ra, rc, rfl, -⟩ := hr
  obtain ⟨_, ua, uc, rfl, -⟩ := hu
  have e0 : Ext w (w.alloc (Obj.cells #[.slice ra c.room.length rc, .slice ua c.us.length uc] 25)) := (Ext.refl w).alloc _
  have R0 := Lib.hid (heap_alloc_new w (Obj.cells #[.slice ra c.room.length rc, .slice ua c.us.length uc] 25))
  have A0 := Lib.hid (h.ext e0)
  clear h
  go_enter Try.func5, Try.ntmps5
  go_wp2_with fail
  generalize w.alloc (Obj.cells #[.slice ra c.room.length rc, .slice ua c.us.length uc] 25) = W at *
  refine (szCluster_any _ c 1048576 _ A0.out (by omega) (by omega)).mono ?_
  rintro e w1 ⟨left, rfl, hz, hE⟩
  have E1 := Lib.hid (e0.trans hE)
  have r1 := (hE.block (lt_of_heap R0.out)).trans R0.out
  have A1 := Lib.hid (A0.out.ext hE)
  have R1 := Lib.hid r1
  have x0 := cell_of_heap r1 0
  have x1 := cell_of_heap r1 1
  clear e0 hE R0 r1 A0
  rcases hz with rfl | ⟨l0, lm⟩
  · go_wp2
    go_ret
    exact ⟨rfl, E1.out⟩
  have NW := Lib.hid (show weighC c ≤ 2097152 by omega)
  clear lm
  go_wp2_with fail
  refine (toCluster_any _ c _ A1.out NW.out).mono ?_
  rintro e w2 ⟨g2, k2, rfl, hE, ho⟩
  have E2 := Lib.hid (E1.out.trans hE)
  have A2 := Lib.hid (A1.out.ext hE)
  have R2 := Lib.hid ((hE.block (lt_of_heap R1.out)).trans R1.out)
  have C2 := Lib.hid (ho.cluster NW.out)
  clear hE ho E1 A1 R1 x0 x1
  go_wp2_with fail
  refine (sClusterWhere_any _ c id _ C2.out NW.out).mono ?_
  rintro e w3 ⟨rfl, hE⟩
  have E3 := Lib.hid (E2.out.trans hE)
  have A3 := Lib.hid (A2.out.ext hE)
  have r3 := (hE.block (lt_of_heap R2.out)).trans R2.out
  have R3 := Lib.hid r3
  have x0 := cell_of_heap r3 0
  have x1 := cell_of_heap r3 1
  clear hE r3 E2 A2 R2 C2
  go_wp2_with fail
  refine (toCluster_any _ c _ A3.out NW.out).mono ?_
  rintro e w4 ⟨g3, k3, rfl, hE, ho⟩
  have E4 := Lib.hid (E3.out.trans hE)
  have A4 := Lib.hid (A3.out.ext hE)
  have R4 := Lib.hid ((hE.block (lt_of_heap R3.out)).trans R3.out)
  have C4 := Lib.hid (ho.cluster NW.out)
  have hX := (Ext.refl w4).alloc (Obj.cells #[.slice (some ⟨g3, 0, none⟩) c.room.length c.room.length, .slice (some ⟨k3, 0, none⟩) c.us.length c.us.length] 30)
  have X4 := Lib.hid (heap_alloc_new w4 (Obj.cells #[.slice (some ⟨g3, 0, none⟩) c.room.length c.room.length, .slice (some ⟨k3, 0, none⟩) c.us.length c.us.length] 30))
  clear hE ho E3 A3 R3 x0 x1
  go_wp2_with fail
  generalize w4.alloc (Obj.cells #[.slice (some ⟨g3, 0, none⟩) c.room.length c.room.length, .slice (some ⟨k3, 0, none⟩) c.us.length c.us.length] 30) = W5 at *
  have E5 := Lib.hid (E4.out.trans hX)
  have A5 := Lib.hid (A4.out.ext hX)
  have C5 := Lib.hid (C4.out.ext hX)
  have R5 := Lib.hid ((hX.block (lt_of_heap R4.out)).trans R4.out)
  clear hX E4 A4 C4 R4
  refine (ClusterWhere_any _ c id _ C5.out NW.out).mono ?_
  rintro e w6 ⟨rfl, hE⟩
  have E6 := Lib.hid (E5.out.trans hE)
  have A6 := Lib.hid (A5.out.ext hE)
  have C6 := Lib.hid (C5.out.ext hE)
  have R6 := Lib.hid ((hE.block (lt_of_heap R5.out)).trans R5.out)
  have X6 := Lib.hid ((hE.block (lt_of_heap X4.out)).trans X4.out)
  clear hE E5 A5 C5 R5 X4
  generalize whereC c id = res at *
  go_wp2_with fail
  refine wp_region_held_drew (S := fun w' => w'.heap[w.heap.size]? = some (Obj.cells #[.slice ra c.room.length rc, .slice ua c.us.length uc] 25) ∧ w'.heap[w4.heap.size]? = some (Obj.cells #[.slice (some ⟨g3, 0, none⟩) c.room.length c.room.length, .slice (some ⟨k3, 0, none⟩) c.us.length c.us.length] 30)) (by kernel_rfl) ⟨R6.out, X6.out⟩ (fun hHeld => ?_)
  refine takeH (i := 0) (d := some 26) (v := ?_) rfl rfl (by kernel_rfl) (by kernel_rfl) (by kernel_rfl) (fun _ _ _ h => h) (by rfl) ?_ (by assumption) ?_
  rotate_left
  · intro w hSw; (try dsimp only at hSw); (try have l0 := cell_of_heap hSw.1 0; have l1 := cell_of_heap hSw.1 1; have l2 := cell_of_heap hSw.2 0; have l3 := cell_of_heap hSw.2 1; go_simp); (try with_reducible rfl)
  try simp only [Act.put, List.setIfInBounds_toArray, List.set_cons_zero, List.set_cons_succ]
  refine takeH (i := 1) (d := some 27) (v := ?_) rfl rfl (by kernel_rfl) (by kernel_rfl) (by kernel_rfl) (fun _ _ _ h => h) (by rfl) ?_ (by assumption) ?_
  rotate_left
  · intro w hSw; (try dsimp only at hSw); (try have l0 := cell_of_heap hSw.1 0; have l1 := cell_of_heap hSw.1 1; have l2 := cell_of_heap hSw.2 0; have l3 := cell_of_heap hSw.2 1; go_simp); (try with_reducible rfl)
  try simp only [Act.put, List.setIfInBounds_toArray, List.set_cons_zero, List.set_cons_succ]
  refine oneH (i := 2) (by kernel_rfl) rfl (by rfl) (fun K hK => ?_)
  go_simp
  refine (toCluster_any _ c _ (A6.out.ext (Ext.refl w6).drew) NW.out).mono ?_; rintro e w7 ⟨g7, k7, rfl, hE, ho⟩; have Y7 := Lib.hid ((Ext.refl w6).drew.trans hE); have C7 := Lib.hid (ho.cluster NW.out); clear hE ho
  try dsimp only
  refine hK.out _ _ (⟨(Y7.out.block (lt_of_heap R6.out)).trans R6.out, (Y7.out.block (lt_of_heap X6.out)).trans X6.out⟩) (fun hHeld => ?_)
  clear hK K
  try simp only [Act.put, List.setIfInBounds_toArray, List.set_cons_zero, List.set_cons_succ]
  refine oneH (i := 3) (by kernel_rfl) rfl (by rfl) (fun K hK => ?_)
  go_simp
  refine (eqCluster_any _ _ c _ (C6.out.ext Y7.out) C7.out).mono ?_; rintro e w8 ⟨rfl, hE⟩; have Y8 := Lib.hid (Y7.out.trans hE); clear hE
  try dsimp only
  refine hK.out _ _ (⟨(Y8.out.block (lt_of_heap R6.out)).trans R6.out, (Y8.out.block (lt_of_heap X6.out)).trans X6.out⟩) (fun hHeld => ?_)
  clear hK K
  try simp only [Act.put, List.setIfInBounds_toArray, List.set_cons_zero, List.set_cons_succ]
  refine takeH (i := 4) (d := some 30) (v := ?_) rfl rfl (by kernel_rfl) (by kernel_rfl) (by kernel_rfl) (fun _ _ _ h => h) (by rfl) ?_ (by assumption) ?_
  rotate_left
  · intro w hSw; (try dsimp only at hSw); (try go_simp); (try with_reducible rfl)
  try simp only [Act.put, List.setIfInBounds_toArray, List.set_cons_zero, List.set_cons_succ]
  refine wpAnyH_done (by kernel_rfl) ?_ _
  have F := E6.out.trans Y8.out
  go_wp2_with fail
  go_ret
  exact ⟨rfl, F⟩

theorem own : ownKnob Try.prog.godebug = none := by kernel_rfl
theorem laidOut : laidOutB Try.prog = true := by kernel_rfl

set_option maxRecDepth 100000 in
theorem lifted (os : Os) (started : os.Started) (H : Type) (enc : TypeId × Value → H) :
    ReturnsInHanded {} Try.checked os 5 .any (Rows.fnExactClusterWhereSpec.pre6 enc Try.prog Try.f5 Rows.fnExactClusterWhereRow.domain false) (Rows.fnExactClusterWhereSpec.post enc Try.prog Try.f5 false true false false) := by
  refine returnsInHanded_of_change (C := Try.checked) own started (by kernel_rfl) Try.func5
    (ChangeSpec.witness6 (enc := enc) (C := Try.checked) false ⟨#[], #[.agg #[.slice none 0 0, .slice none 0 0], .int .i64 0], []⟩ 8 (by kernel_rfl) (by kernel_rfl) (by kernel_rfl) (by kernel_rfl)) ?_
  intro W base args ds gs before hval0 hW hcnd _
  have hval : ∀ (j : Nat) t v, Try.f5.params[j]? = some t → args[j]? = some v → Value.okWide Try.prog W .any base t v := hval0
  have hW' := hW
  obtain ⟨p, q, hA0, hV, rfl, hfz, hnd⟩ := hW
  have hA : DataW.TrodAll enc Try.prog W 0 (fun _ => true) true Try.f5.params.toList args.toList ds p := hA0
  rw [Try.params5] at hA hval
  obtain ⟨v0, vs0, d0, ds0, p0, q0, hargs, rfl, rfl, h0, r0⟩ := trodAll_cons hA
  obtain ⟨v1, vs1, d1, ds1, p1, q1, rfl, rfl, rfl, h1, r1⟩ := trodAll_cons r0
  obtain ⟨rfl, rfl, rfl⟩ := trodAll_nil r1
  obtain rfl : args = #[v0, v1] := by cases args; simp_all
  obtain ⟨rfl, rfl⟩ := trodVars_none hV
  have lt0 : ∀ x ∈ p0, x.block < W.heap.size := by obtain ⟨m, hm⟩ := h0; exact DataW.trod_lt m _ _ _ hm
  have lt1 : ∀ x ∈ p1, x.block < W.heap.size := by obtain ⟨m, hm⟩ := h1; exact DataW.trod_lt m _ _ _ hm
  obtain ⟨x0, e0⟩ := argCluster_of (hval 0 25 v0 rfl rfl) h0
  obtain ⟨x1, rfl⟩ := okWide_int Try.underlying3 (hval 1 3 v1 rfl rfl)
  clear hA0 hval0
  refine (walk v0 x0 x1 W e0).mono fun e W' ⟨he, bel⟩ => ?_
  subst he
  exact ⟨_, rfl, _, _, _, [], _, [], hW', trodAll_mk1 (shut_bool Try.underlying4 _), (trodAll_cons_mk (Below.trod laidOut (by kernel_rfl) (of_decide_eq_true (by kernel_rfl)) h0 bel lt0) (trodAll_cons_mk (Below.trod laidOut (by kernel_rfl) (of_decide_eq_true (by kernel_rfl)) h1 bel lt1) trodAll_mk0)), rfl, Below.frame bel _, fun h => by cases h⟩

theorem closed : joinedFacts Try.prog 5 Try.f5 Rows.fnExactClusterWhereSpec Rows.fnExactClusterWhereRow = true := by
  unfold joinedFacts
  rw [may_enter, lifts_final, make_cut]
  kernel_rfl

theorem proved : Rows.FnExactClusterWhereSaid :=
  OpenClaim.holds_of_wide 5 Try.f5 rfl rfl rfl rfl rfl rfl rfl ⟨rfl, rfl, rfl, rfl, rfl⟩ rfl rfl rfl rfl rfl (by kernel_rfl) Try.func5 closed
    (of_decide_eq_true (by kernel_rfl)) (by unfold Func.isWrapper; first | (rw [if_pos (by decide +kernel)]; kernel_rfl) | (rw [if_neg (by decide +kernel)]; exact ⟨rfl, rfl⟩))
    (fun os started H enc _ => lifted os started H enc)

end Go.Proofs.Ytcijbpjiioodlaa.l46
