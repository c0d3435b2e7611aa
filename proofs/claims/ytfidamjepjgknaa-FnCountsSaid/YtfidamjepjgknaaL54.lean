/- The law FnCounts: whatever the code, counts are ordered: no more busy nodes than open ones, nor than tasks, no more open ones than there are. No condition. -/
import Derived.Test.YtfidamjepjgknaaCu
import Derived.Test.YtfidamjepjgknaaCo
import Derived.Test.YtfidamjepjgknaaSame
import Derived.Test.YtfidamjepjgknaaHead
import Derived.OpenShut
import Derived.ChangeOld
namespace Go.Proofs.Ytfidamjepjgknaa.l54
set_option maxRecDepth 100000
open Go.RowKit Go.ChangeShapes Go.WideShapes Go.ChangeAt

theorem beq_refl (xs : List Int) : (xs == xs) = true := by simp
theorem busy_open : ∀ {us : List Un}, us.all okU = true → busyN us ≤ openN us
  | [], _ => Nat.le_refl _
  | u :: r, h => by
    rw [List.all_cons, Bool.and_eq_true] at h
    have ih := busy_open h.2
    have h1 := h.1
    unfold busyN openN at *
    unfold okU at h1
    rw [List.filter_cons, List.filter_cons]
    by_cases hb : 0 < u.ts.length
    · rw [if_pos (decide_eq_true hb)]
      have : u.op = true := by
        rw [Bool.or_eq_true] at h1
        rcases h1 with h1 | h1
        · exact h1
        · simp at h1; rw [h1] at hb; simp at hb
      rw [if_pos this]
      simp only [List.length_cons]
      omega
    · rw [if_neg (by rw [decide_eq_false hb]; decide)]
      split
      · simp only [List.length_cons]; omega
      · exact ih
theorem busy_task : ∀ (us : List Un), busyN us ≤ taskN us
  | [] => Nat.le_refl _
  | u :: r => by
    have ih := busy_task r
    unfold busyN taskN binsC at *
    rw [List.filter_cons, List.map_cons, List.flatten_cons, List.length_append]
    by_cases hb : 0 < u.ts.length
    · rw [if_pos (decide_eq_true hb), List.length_cons]
      omega
    · rw [if_neg (by rw [decide_eq_false hb]; decide)]
      omega

set_option maxHeartbeats 4000000 in
theorem walk (v : Value) (n : Nat) (w : World) (h : ArgCode w v n) :
    Calls Try.prog 5 #[v] w fun e w' => e = .returned (.bool true) ∧ Ext w w' := by
  have h2 := h
  obtain ⟨_, ac, cc, rfl, -⟩ := h2
  by_cases hbig : 1048576 < n
  · go_enter Try.func5, Try.ntmps5
    go_wp2
    go_ret
    exact ⟨rfl, Ext.refl _⟩
  have hsm : n ≤ 1048576 := by omega
  clear hbig
  go_enter Try.func5, Try.ntmps5
  go_wp2_with fail
  refine (DrawClusterCounts_any _ _ _ h).mono ?_
  rintro e w1 ⟨ra, rc, ua, uc, c, rfl, hc, hu, hd, E1⟩
  have C2 := Lib.hid (hc.ext ((Ext.refl w1).alloc (Obj.cells #[.slice ra c.room.length rc, .slice ua c.us.length uc] 26)))
  have F2 := Lib.hid (E1.alloc (Obj.cells #[.slice ra c.room.length rc, .slice ua c.us.length uc] 26))
  have O2 := Lib.hid (heap_alloc_new w1 (Obj.cells #[.slice ra c.room.length rc, .slice ua c.us.length uc] 26))
  have NW := Lib.hid (show weighC c ≤ 2097152 by have := hd.weigh; omega)
  have HL := Lib.hid (counts_lim c)
  clear hc hu hd E1 h
  go_wp2_with fail
  generalize w1.alloc (Obj.cells #[.slice ra c.room.length rc, .slice ua c.us.length uc] 26) = w2 at *
  refine (ClusterCounts_any _ c _ C2.out NW.out).mono ?_
  rintro e w3 ⟨r3, rfl, hE, ho⟩
  have o3 := ho.done HL.out
  obtain ⟨oa, oc, rfl, -⟩ := o3.open
  have I3 := Lib.hid o3
  have F3 := Lib.hid (F2.out.trans hE)
  have C3 := Lib.hid (C2.out.ext hE)
  have O3 := Lib.hid ((hE.block (lt_of_heap O2.out)).trans O2.out)
  have x0 := cell_of_heap O3.out 0
  have x1 := cell_of_heap O3.out 1
  clear hE ho o3 C2 F2
  go_wp2_with fail
  refine (sClusterCounts_any _ c _ C3.out NW.out).mono ?_
  rintro e w4 ⟨r4, rfl, hE, ho⟩
  have o4 := ho.done HL.out
  obtain ⟨wa, wc, rfl, -⟩ := o4.open
  have W4 := Lib.hid o4
  have I4 := Lib.hid (I3.out.ext hE)
  have F4 := Lib.hid (F3.out.trans hE)
  have O4 := Lib.hid ((hE.block (lt_of_heap O3.out)).trans O3.out)
  clear hE ho o4 C3 F3 I3 O3 x0 x1
  go_wp2_with fail
  refine (sameInts_any _ _ _ _ _ I4.out W4.out).mono ?_
  rintro e ws ⟨rfl, dm, rfl⟩
  have hE := (Ext.refl w4).drewN dm
  have W5 := Lib.hid (W4.out.ext hE)
  have I5 := Lib.hid (I4.out.ext hE)
  have F5 := Lib.hid (F4.out.trans hE)
  have O5 := Lib.hid ((hE.block (lt_of_heap O4.out)).trans O4.out)
  clear hE F4 I4 W4 O4 HL
  rw [beq_refl]
  generalize w4.drewN dm = w5 at *
  cases hv : clusterB c with
  | false =>
    have HC : countsC c = [] := by unfold countsC; rw [hv]; rfl
    rw [HC] at W5 I5
    rw [HC]
    simp only [List.length_nil]
    go_wp2_with fail
    refine (sameInts_any _ _ _ _ _ I5.out W5.out).mono ?_
    rintro e ws ⟨rfl, dm, rfl⟩
    have F := F5.out.drewN dm
    go_wp2
    go_ret
    exact ⟨rfl, F⟩
  | true =>
    have HC : countsC c = [(openN c.us : Int), (busyN c.us : Int), (taskN c.us : Int)] := by unfold countsC; rw [hv]; rfl
    have hall : c.us.all okU = true := by unfold clusterB at hv; rw [Bool.and_eq_true] at hv; exact hv.1
    rw [HC] at W5 I5
    rw [HC]
    have b1 : (busyN c.us : Int) ≤ (openN c.us : Int) := by have := busy_open hall; omega
    have b2 : (busyN c.us : Int) ≤ (taskN c.us : Int) := by have := busy_task c.us; omega
    have b3 : (openN c.us : Int) ≤ (c.us.length : Int) := by have := openN_le c.us; omega
    have b4 : (0 : Int) ≤ (busyN c.us : Int) := by omega
    clear hall HC hv W5
    generalize busyN c.us = n1 at *
    generalize openN c.us = n0 at *
    generalize taskN c.us = n2 at *
    simp only [List.length_cons, List.length_nil, Nat.zero_add, Nat.reduceAdd] at I5 ⊢
    obtain ⟨ob, oo, rfl, hcell⟩ := I5.out.at (by simp)
    have q0 := hcell 0 (by simp)
    have q1 := hcell 1 (by simp)
    have q2 := hcell 2 (by simp)
    simp only [Nat.add_zero, List.getElem_cons_zero, List.getElem_cons_succ] at q0 q1 q2
    have x0 := cell_of_heap O5.out 0
    have x1 := cell_of_heap O5.out 1
    clear hcell I5 O5
    go_wp2_with fail
    go_quiet (fail)
    go_wp2
    go_ret
    exact ⟨rfl, F5.out.drewN _⟩

theorem own : ownKnob Try.prog.godebug = none := by kernel_rfl
theorem laidOut : laidOutB Try.prog = true := by kernel_rfl

set_option maxRecDepth 100000 in
theorem lifted (os : Os) (started : os.Started) (H : Type) (enc : TypeId × Value → H) :
    ReturnsInHanded {} Try.checked os 5 .any (Rows.fnCountsSpec.pre6 enc Try.prog Try.f5 Rows.fnCountsRow.domain false) (Rows.fnCountsSpec.post enc Try.prog Try.f5 false true false false) := by
  refine returnsInHanded_of_change (C := Try.checked) own started (by kernel_rfl) Try.func5
    (ChangeSpec.witness6 (enc := enc) (C := Try.checked) false ⟨#[], #[.slice none 0 0], []⟩ 8 (by kernel_rfl) (by kernel_rfl) (by kernel_rfl) (by kernel_rfl)) ?_
  intro W base args ds gs before hval0 hW hcnd _
  have hval : ∀ (j : Nat) t v, Try.f5.params[j]? = some t → args[j]? = some v → Value.okWide Try.prog W .any base t v := hval0
  have hW' := hW
  obtain ⟨p, q, hA0, hV, rfl, hfz, hnd⟩ := hW
  have hA : DataW.TrodAll enc Try.prog W 0 (fun _ => true) true Try.f5.params.toList args.toList ds p := hA0
  rw [Try.params5] at hA hval
  obtain ⟨v0, vs0, d0, ds0, p0, q0, hargs, rfl, rfl, h0, r0⟩ := trodAll_cons hA
  obtain ⟨rfl, rfl, rfl⟩ := trodAll_nil r0
  obtain rfl : args = #[v0] := by cases args; simp_all
  obtain ⟨rfl, rfl⟩ := trodVars_none hV
  have lt0 : ∀ x ∈ p0, x.block < W.heap.size := by obtain ⟨m, hm⟩ := h0; exact DataW.trod_lt m _ _ _ hm
  obtain ⟨x0, e0⟩ := argCode_of h0 (okWide_slice Try.underlying22 (hval 0 22 v0 rfl rfl))
  clear hA0 hval0
  refine (walk v0 x0 W e0).mono fun e W' ⟨he, bel⟩ => ?_
  subst he
  exact ⟨_, rfl, _, _, _, [], _, [], hW', trodAll_mk1 (shut_bool Try.underlying4 _), (trodAll_cons_mk (Below.trod laidOut (by kernel_rfl) (of_decide_eq_true (by kernel_rfl)) h0 bel lt0) trodAll_mk0), rfl, Below.frame bel _, fun h => by cases h⟩

theorem closed : joinedFacts Try.prog 5 Try.f5 Rows.fnCountsSpec Rows.fnCountsRow = true := by
  unfold joinedFacts
  rw [may_enter, lifts_final, make_cut]
  kernel_rfl

theorem proved : Rows.FnCountsSaid :=
  OpenClaim.holds_of_wide 5 Try.f5 rfl rfl rfl rfl rfl rfl rfl ⟨rfl, rfl, rfl, rfl, rfl⟩ rfl rfl rfl rfl rfl (by kernel_rfl) Try.func5 closed
    (of_decide_eq_true (by kernel_rfl)) (by unfold Func.isWrapper; first | (rw [if_pos (by decide +kernel)]; kernel_rfl) | (rw [if_neg (by decide +kernel)]; exact ⟨rfl, rfl⟩))
    (fun os started H enc _ => lifted os started H enc)

end Go.Proofs.Ytfidamjepjgknaa.l54
