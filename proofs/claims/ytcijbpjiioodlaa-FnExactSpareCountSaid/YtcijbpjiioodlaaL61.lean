/- The law FnExactSpareCount: the program's SpareCount equals the reference's for every cluster and every need; nothing that came in is changed. No condition. -/
import Derived.Test.YtcijbpjiioodlaaSq
import Derived.Test.YtcijbpjiioodlaaUn2
import Derived.Test.YtcijbpjiioodlaaArg
import Derived.Test.YtcijbpjiioodlaaOpen
import Derived.Test.YtcijbpjiioodlaaHead
import Derived.OpenShut
import Derived.ChangeOld
namespace Go.Proofs.Ytcijbpjiioodlaa.l61
set_option maxRecDepth 100000
open Go.RowKit Go.ChangeShapes Go.WideShapes Go.ChangeAt

theorem beq_refl (xs : List Int) : (xs == xs) = true := by simp

set_option maxHeartbeats 8000000 in
theorem walk (v u : Value) (c : C) (need : List Int) (w : World) (h : ArgCluster w v c) (hn : ArgInts w u need) :
    Calls Try.prog 9 #[v, u] w fun e w' => e = .returned (.bool true) ∧ Ext w w' := by
  have h2 := h
  obtain ⟨r, us, rfl, hr, hu⟩ := h2
  obtain ⟨_, ra, rc, rfl, -⟩ := hr
  obtain ⟨_, ua, uc, rfl, -⟩ := hu
  have h3 := hn
  obtain ⟨_, na, nc, rfl, -⟩ := h3
  have e0 : Ext w (w.alloc (Obj.cells #[.slice ra c.room.length rc, .slice ua c.us.length uc] 25)) := (Ext.refl w).alloc _
  have R0 := Lib.hid (heap_alloc_new w (Obj.cells #[.slice ra c.room.length rc, .slice ua c.us.length uc] 25))
  have A0 := Lib.hid (h.ext e0)
  have N0 := Lib.hid (hn.ext e0)
  clear h hn
  by_cases hbig : 1048576 < need.length
  · go_enter Try.func9, Try.ntmps9
    go_wp2
    go_ret
    exact ⟨rfl, e0⟩
  have hsm : need.length ≤ 1048576 := by omega
  clear hbig
  go_enter Try.func9, Try.ntmps9
  go_wp2_with fail
  generalize w.alloc (Obj.cells #[.slice ra c.room.length rc, .slice ua c.us.length uc] 25) = W at *
  refine (szCluster_any _ c 1048576 _ A0.out (by omega) (by omega)).mono ?_
  rintro e w1 ⟨left, rfl, hz, hE⟩
  have E1 := Lib.hid (e0.trans hE)
  have r1 := (hE.block (lt_of_heap R0.out)).trans R0.out
  have A1 := Lib.hid (A0.out.ext hE)
  have N1 := Lib.hid (N0.out.ext hE)
  have R1 := Lib.hid r1
  have x0 := cell_of_heap r1 0
  have x1 := cell_of_heap r1 1
  clear e0 hE R0 r1 A0 N0
  rcases hz with rfl | ⟨l0, lm⟩
  · go_wp2
    go_ret
    exact ⟨rfl, E1.out⟩
  have NW := Lib.hid (show weighC c ≤ 2097152 by omega)
  have NL := Lib.hid (show need.length ≤ 2097152 by omega)
  have NN := Lib.hid (show need.length ≤ lim by unfold lim; omega)
  clear lm
  go_wp2_with fail
  refine (toCluster_any _ c _ A1.out NW.out).mono ?_
  rintro e w2 ⟨g2, k2, rfl, hE, ho⟩
  have E2 := Lib.hid (E1.out.trans hE)
  have A2 := Lib.hid (A1.out.ext hE)
  have N2 := Lib.hid (N1.out.ext hE)
  have R2 := Lib.hid ((hE.block (lt_of_heap R1.out)).trans R1.out)
  have C2 := Lib.hid (ho.cluster NW.out)
  clear hE ho E1 A1 N1 R1 x0 x1
  go_wp2_with fail
  refine (toIntS_any _ need _ N2.out NL.out).mono ?_
  rintro e w2b ⟨m2, rfl, hE, ho, -⟩
  have E2b := Lib.hid (E2.out.trans hE)
  have A2b := Lib.hid (A2.out.ext hE)
  have N2b := Lib.hid (N2.out.ext hE)
  have R2b := Lib.hid ((hE.block (lt_of_heap R2.out)).trans R2.out)
  have C2b := Lib.hid (C2.out.ext hE)
  have I2b := Lib.hid (ho.done NN.out)
  clear hE ho E2 A2 N2 R2 C2
  go_wp2_with fail
  refine (sSpareCount_any _ _ c need _ C2b.out NW.out I2b.out).mono ?_
  rintro e w3 ⟨rfl, hE⟩
  have E3 := Lib.hid (E2b.out.trans hE)
  have A3 := Lib.hid (A2b.out.ext hE)
  have N3 := Lib.hid (N2b.out.ext hE)
  have r3 := (hE.block (lt_of_heap R2b.out)).trans R2b.out
  have R3 := Lib.hid r3
  have x0 := cell_of_heap r3 0
  have x1 := cell_of_heap r3 1
  clear hE r3 E2b A2b N2b R2b C2b I2b
  go_wp2_with fail
  refine (toCluster_any _ c _ A3.out NW.out).mono ?_
  rintro e w4 ⟨g3, k3, rfl, hE, ho⟩
  have E4 := Lib.hid (E3.out.trans hE)
  have A4 := Lib.hid (A3.out.ext hE)
  have N4 := Lib.hid (N3.out.ext hE)
  have R4 := Lib.hid ((hE.block (lt_of_heap R3.out)).trans R3.out)
  have C4 := Lib.hid (ho.cluster NW.out)
  have hX := (Ext.refl w4).alloc (Obj.cells #[.slice (some ⟨g3, 0, none⟩) c.room.length c.room.length, .slice (some ⟨k3, 0, none⟩) c.us.length c.us.length] 30)
  have X4 := Lib.hid (heap_alloc_new w4 (Obj.cells #[.slice (some ⟨g3, 0, none⟩) c.room.length c.room.length, .slice (some ⟨k3, 0, none⟩) c.us.length c.us.length] 30))
  clear hE ho E3 A3 N3 R3 x0 x1
  go_wp2_with fail
  generalize w4.alloc (Obj.cells #[.slice (some ⟨g3, 0, none⟩) c.room.length c.room.length, .slice (some ⟨k3, 0, none⟩) c.us.length c.us.length] 30) = W5 at *
  have E5 := Lib.hid (E4.out.trans hX)
  have A5 := Lib.hid (A4.out.ext hX)
  have N5 := Lib.hid (N4.out.ext hX)
  have C5 := Lib.hid (C4.out.ext hX)
  have R5 := Lib.hid ((hX.block (lt_of_heap R4.out)).trans R4.out)
  clear hX E4 A4 N4 C4 R4
  refine (toIntS_any _ need _ N5.out NL.out).mono ?_
  rintro e w5b ⟨m5, rfl, hE, ho, -⟩
  have E5b := Lib.hid (E5.out.trans hE)
  have A5b := Lib.hid (A5.out.ext hE)
  have N5b := Lib.hid (N5.out.ext hE)
  have C5b := Lib.hid (C5.out.ext hE)
  have I5b := Lib.hid (ho.done NN.out)
  have R5b := Lib.hid ((hE.block (lt_of_heap R5.out)).trans R5.out)
  have x5 := (hE.block (lt_of_heap X4.out)).trans X4.out
  have X5b := Lib.hid x5
  have y0 := cell_of_heap x5 0
  have y1 := cell_of_heap x5 1
  clear hE ho E5 A5 N5 C5 R5 X4 x5
  go_wp2_with fail
  refine (SpareCount_any _ _ c need _ C5b.out NW.out I5b.out).mono ?_
  rintro e w6 ⟨rfl, hE⟩
  have E6 := Lib.hid (E5b.out.trans hE)
  have A6 := Lib.hid (A5b.out.ext hE)
  have N6 := Lib.hid (N5b.out.ext hE)
  have C6 := Lib.hid (C5b.out.ext hE)
  have I6 := Lib.hid (I5b.out.ext hE)
  have R6 := Lib.hid ((hE.block (lt_of_heap R5b.out)).trans R5b.out)
  have X6 := Lib.hid ((hE.block (lt_of_heap X5b.out)).trans X5b.out)
  clear hE E5b A5b N5b C5b I5b R5b X5b y0 y1
  generalize spareI c need = res at *
  go_wp2_with fail
  refine wp_region_held_drew (S := fun w' => w'.heap[w.heap.size]? = some (Obj.cells #[.slice ra c.room.length rc, .slice ua c.us.length uc] 25) ∧ w'.heap[w4.heap.size]? = some (Obj.cells #[.slice (some ⟨g3, 0, none⟩) c.room.length c.room.length, .slice (some ⟨k3, 0, none⟩) c.us.length c.us.length] 30)) (by kernel_rfl) ⟨R6.out, X6.out⟩ (fun hHeld => ?_)
  refine takeH (i := 0) (d := some 33) (v := ?_) rfl rfl (by kernel_rfl) (by kernel_rfl) (by kernel_rfl) (fun _ _ _ h => h) (by rfl) ?_ (by assumption) ?_
  rotate_left
  · intro w hSw; (try dsimp only at hSw); (try have l0 := cell_of_heap hSw.1 0; have l1 := cell_of_heap hSw.1 1; have l2 := cell_of_heap hSw.2 0; have l3 := cell_of_heap hSw.2 1; go_simp); (try with_reducible rfl)
  try simp only [Act.put, List.setIfInBounds_toArray, List.set_cons_zero, List.set_cons_succ]
  refine takeH (i := 1) (d := some 34) (v := ?_) rfl rfl (by kernel_rfl) (by kernel_rfl) (by kernel_rfl) (fun _ _ _ h => h) (by rfl) ?_ (by assumption) ?_
  rotate_left
  · intro w hSw; (try dsimp only at hSw); (try have l0 := cell_of_heap hSw.1 0; have l1 := cell_of_heap hSw.1 1; have l2 := cell_of_heap hSw.2 0; have l3 := cell_of_heap hSw.2 1; go_simp); (try with_reducible rfl)
  try simp only [Act.put, List.setIfInBounds_toArray, List.set_cons_zero, List.set_cons_succ]
  refine oneH (i := 2) (by kernel_rfl) rfl (by rfl) (fun K hK => ?_)
  go_simp
  refine (toCluster_any _ c _ (A6.out.ext (Ext.refl w6).drew) NW.out).mono ?_; rintro e w7 ⟨g7, k7, rfl, hE, ho⟩; have Y7 := Lib.hid ((Ext.refl w6).drew.trans hE); have C7 := Lib.hid (ho.cluster NW.out); clear hE ho
  try dsimp only
  refine hK.out _ _ (⟨(Y7.out.block (lt_of_heap R6.out)).trans R6.out, (Y7.out.block (lt_of_heap X6.out)).trans X6.out⟩) (fun hHeld => ?_)
  clear hK K
  try simp only [Act.put, List.setIfInBounds_toArray, List.set_cons_zero, List.set_cons_succ]
  refine oneH (i := 3) (by kernel_rfl) rfl (by rfl) (fun K hK => ?_)
  go_simp
  refine (eqCluster_any _ _ c _ (C6.out.ext Y7.out) C7.out).mono ?_; rintro e w8 ⟨rfl, hE⟩; have Y8 := Lib.hid (Y7.out.trans hE); clear hE
  try dsimp only
  refine hK.out _ _ (⟨(Y8.out.block (lt_of_heap R6.out)).trans R6.out, (Y8.out.block (lt_of_heap X6.out)).trans X6.out⟩) (fun hHeld => ?_)
  clear hK K
  try simp only [Act.put, List.setIfInBounds_toArray, List.set_cons_zero, List.set_cons_succ]
  refine takeH (i := 4) (d := some 37) (v := ?_) rfl rfl (by kernel_rfl) (by kernel_rfl) (by kernel_rfl) (fun _ _ _ h => h) (by rfl) ?_ (by assumption) ?_
  rotate_left
  · intro w hSw; (try dsimp only at hSw); (try go_simp); (try with_reducible rfl)
  try simp only [Act.put, List.setIfInBounds_toArray, List.set_cons_zero, List.set_cons_succ]
  refine wpAnyH_done (by kernel_rfl) ?_ _
  have E8 := Lib.hid (E6.out.trans Y8.out)
  have N8 := Lib.hid (N6.out.ext Y8.out)
  have I8 := Lib.hid (I6.out.ext Y8.out)
  clear hHeld C7 Y7 Y8 E6 A6 N6 C6 I6 R6 X6
  go_wp2_with fail
  refine (toIntS_any _ need _ N8.out NL.out).mono ?_
  rintro e w9 ⟨m9, rfl, hE, ho, -⟩
  have E9 := Lib.hid (E8.out.trans hE)
  have I9 := Lib.hid (I8.out.ext hE)
  have J9 := Lib.hid (ho.done NN.out)
  clear hE ho E8 N8 I8
  go_wp2_with fail
  refine (eqIntS_any _ _ need need _ I9.out J9.out).mono ?_
  rintro e w10 ⟨rfl, m, rfl⟩
  rw [beq_refl]
  have F := E9.out.trans ((Ext.refl w9).drewN m)
  clear E9
  go_wp2
  go_ret
  exact ⟨rfl, F⟩

theorem own : ownKnob Try.prog.godebug = none := by kernel_rfl
theorem laidOut : laidOutB Try.prog = true := by kernel_rfl

set_option maxRecDepth 100000 in
theorem lifted (os : Os) (started : os.Started) (H : Type) (enc : TypeId × Value → H) :
    ReturnsInHanded {} Try.checked os 9 .any (Rows.fnExactSpareCountSpec.pre6 enc Try.prog Try.f9 Rows.fnExactSpareCountRow.domain false) (Rows.fnExactSpareCountSpec.post enc Try.prog Try.f9 false true false false) := by
  refine returnsInHanded_of_change (C := Try.checked) own started (by kernel_rfl) Try.func9
    (ChangeSpec.witness6 (enc := enc) (C := Try.checked) false ⟨#[], #[.agg #[.slice none 0 0, .slice none 0 0], .slice none 0 0], []⟩ 8 (by kernel_rfl) (by kernel_rfl) (by kernel_rfl) (by kernel_rfl)) ?_
  intro W base args ds gs before hval0 hW hcnd _
  have hval : ∀ (j : Nat) t v, Try.f9.params[j]? = some t → args[j]? = some v → Value.okWide Try.prog W .any base t v := hval0
  have hW' := hW
  obtain ⟨p, q, hA0, hV, rfl, hfz, hnd⟩ := hW
  have hA : DataW.TrodAll enc Try.prog W 0 (fun _ => true) true Try.f9.params.toList args.toList ds p := hA0
  rw [Try.params9] at hA hval
  obtain ⟨v0, vs0, d0, ds0, p0, q0, hargs, rfl, rfl, h0, r0⟩ := trodAll_cons hA
  obtain ⟨v1, vs1, d1, ds1, p1, q1, rfl, rfl, rfl, h1, r1⟩ := trodAll_cons r0
  obtain ⟨rfl, rfl, rfl⟩ := trodAll_nil r1
  obtain rfl : args = #[v0, v1] := by cases args; simp_all
  obtain ⟨rfl, rfl⟩ := trodVars_none hV
  have lt0 : ∀ x ∈ p0, x.block < W.heap.size := by obtain ⟨m, hm⟩ := h0; exact DataW.trod_lt m _ _ _ hm
  have lt1 : ∀ x ∈ p1, x.block < W.heap.size := by obtain ⟨m, hm⟩ := h1; exact DataW.trod_lt m _ _ _ hm
  obtain ⟨x0, e0⟩ := argCluster_of (hval 0 25 v0 rfl rfl) h0
  obtain ⟨x1, e1⟩ := argInts_of h1 (okWide_slice Try.underlying22 (hval 1 22 v1 rfl rfl))
  clear hA0 hval0
  refine (walk v0 v1 x0 x1 W e0 e1).mono fun e W' ⟨he, bel⟩ => ?_
  subst he
  exact ⟨_, rfl, _, _, _, [], _, [], hW', trodAll_mk1 (shut_bool Try.underlying4 _), (trodAll_cons_mk (Below.trod laidOut (by kernel_rfl) (of_decide_eq_true (by kernel_rfl)) h0 bel lt0) (trodAll_cons_mk (Below.trod laidOut (by kernel_rfl) (of_decide_eq_true (by kernel_rfl)) h1 bel lt1) trodAll_mk0)), rfl, Below.frame bel _, fun h => by cases h⟩

theorem closed : joinedFacts Try.prog 9 Try.f9 Rows.fnExactSpareCountSpec Rows.fnExactSpareCountRow = true := by
  unfold joinedFacts
  rw [may_enter, lifts_final, make_cut]
  kernel_rfl

theorem proved : Rows.FnExactSpareCountSaid :=
  OpenClaim.holds_of_wide 9 Try.f9 rfl rfl rfl rfl rfl rfl rfl ⟨rfl, rfl, rfl, rfl, rfl⟩ rfl rfl rfl rfl rfl (by kernel_rfl) Try.func9 closed
    (of_decide_eq_true (by kernel_rfl)) (by unfold Func.isWrapper; first | (rw [if_pos (by decide +kernel)]; kernel_rfl) | (rw [if_neg (by decide +kernel)]; exact ⟨rfl, rfl⟩))
    (fun os started H enc _ => lifted os started H enc)

end Go.Proofs.Ytcijbpjiioodlaa.l61
