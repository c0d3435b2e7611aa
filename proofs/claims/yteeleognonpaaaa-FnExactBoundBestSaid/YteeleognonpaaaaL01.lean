/- The law FnExactBoundBest: the program's bound equals the reference's for every room and every list of tasks; nothing that came in is changed. No condition. -/
import Derived.Test.YteeleognonpaaaaS7
import Derived.Test.YteeleognonpaaaaI6
import Derived.Test.YteeleognonpaaaaEq
import Derived.Test.YteeleognonpaaaaOpen
import Derived.OpenShut
import Derived.ChangeOld
namespace Go.Proofs.Yteeleognonpaaaa.l01
open Go.RowKit Go.ChangeShapes Go.WideShapes Go.ChangeAt

theorem sameTs_refl (ts : List T) : sameTs ts ts = true := sameTs_iff.2 rfl
theorem beq_refl (xs : List Int) : (xs == xs) = true := by simp

set_option maxHeartbeats 1000000 in
theorem walk (v u : Value) (room : List Int) (ts : List T) (w : World) (hr : ArgInts w v room) (ht : ArgTasks w u ts) :
    Calls Try.prog 3 #[v, u] w fun e w' => e = .returned (.bool true) ∧ Ext w w' := by
  have hr2 := hr
  have ht2 := ht
  obtain ⟨_, ar, cr, rfl, -⟩ := hr2
  obtain ⟨_, at', ct, rfl, -⟩ := ht2
  by_cases hbig : 1048576 < room.length
  · go_enter Try.func3, Try.ntmps3
    go_wp2
    go_ret
    exact ⟨rfl, Ext.refl _⟩
  · have hsm : room.length ≤ 1048576 := by omega
    clear hbig
    go_enter Try.func3, Try.ntmps3
    go_wp2_with fail
    refine (szTaskS_any _ _ 1048576 _ ht (by omega) (by omega)).mono ?_
    rintro e w1 ⟨r, rfl, hsz, hE1⟩
    rcases hsz with rfl | ⟨hr0, hr1⟩
    · go_wp2
      go_ret
      exact ⟨rfl, hE1⟩
    · have hts : ts.length + needs ts ≤ 2097152 := by omega
      have Hl := Lib.hid (show ts.length ≤ lim by unfold lim; omega)
      have Hn := Lib.hid (show ∀ t ∈ ts, t.need.length ≤ lim from fun t h => by
        obtain ⟨k, hk, rfl⟩ := List.getElem_of_mem h
        have := needs_le hk
        unfold lim; omega)
      have Hrl := Lib.hid (show room.length ≤ lim by unfold lim; omega)
      have Hts := Lib.hid hts
      have Hsm := Lib.hid (show room.length ≤ 2097152 by omega)
      clear hr1 hts hsm
      go_wp2_with fail
      refine (toIntS_any _ _ _ (hr.ext hE1) Hsm.out).mono ?_
      rintro e w2 ⟨g2, rfl, hE2, ho2, -⟩
      have I2 := Lib.hid (ho2.done Hrl.out)
      have E2 := hE1.trans hE2
      clear ho2 hE1 hE2
      go_wp2_with fail
      refine (toTaskS_any _ _ _ (ht.ext E2) Hts.out).mono ?_
      rintro e w3 ⟨g3, rfl, hE3, ho3⟩
      have I3 := Lib.hid (ho3.tasks Hl.out Hn.out)
      have E3 := E2.trans hE3
      have I2' := Lib.hid (I2.out.ext hE3)
      clear ho3 hE3 E2 I2
      go_wp2_with fail
      refine (sBoundBest_any _ _ _ _ _ I2'.out I3.out).mono ?_
      rintro e w4 ⟨rfl, hE4⟩
      have E4 := E3.trans hE4
      clear hE4 E3 I2' I3
      go_wp2_with fail
      refine (toIntS_any _ _ _ (hr.ext E4) Hsm.out).mono ?_
      rintro e w5 ⟨g5, rfl, hE5, ho5, -⟩
      have I5 := Lib.hid (ho5.done Hrl.out)
      have E5 := E4.trans hE5
      clear ho5 hE5 E4
      go_wp2_with fail
      refine (toTaskS_any _ _ _ (ht.ext E5) Hts.out).mono ?_
      rintro e w6 ⟨g6, rfl, hE6, ho6⟩
      have I6 := Lib.hid (ho6.tasks Hl.out Hn.out)
      have E6 := E5.trans hE6
      have I5' := Lib.hid (I5.out.ext hE6)
      clear ho6 hE6 E5 I5
      go_wp2_with fail
      refine (BoundBest_any _ _ _ _ _ I5'.out I6.out).mono ?_
      rintro e w7 ⟨rfl, hE7⟩
      have E7 := E6.trans hE7
      have I5 := Lib.hid (I5'.out.ext hE7)
      have J6 := Lib.hid (I6.out.ext hE7)
      clear hE7 E6 I5' I6
      go_wp2_with fail
      refine (toIntS_any _ _ _ (hr.ext E7) Hsm.out).mono ?_
      rintro e w8 ⟨g8, rfl, hE8, ho8, -⟩
      have I8 := Lib.hid (ho8.done Hrl.out)
      have E8 := E7.trans hE8
      have I5b := Lib.hid (I5.out.ext hE8)
      have J6b := Lib.hid (J6.out.ext hE8)
      clear ho8 hE8 E7 I5 J6
      go_wp2_with fail
      refine (eqIntS_any _ _ _ _ _ I5b.out I8.out).mono ?_
      rintro e w9 ⟨rfl, m, rfl⟩
      have E9 := E8.drewN m
      have J6c := Lib.hid (J6b.out.ext ((Ext.refl _).drewN m))
      clear E8 I5b I8 J6b
      rw [beq_refl]
      go_wp2_with fail
      refine (toTaskS_any _ _ _ (ht.ext E9) Hts.out).mono ?_
      rintro e wa ⟨ga, rfl, hEa, hoa⟩
      have Ia := Lib.hid (hoa.tasks Hl.out Hn.out)
      have Ea := E9.trans hEa
      have J6d := Lib.hid (J6c.out.ext hEa)
      clear hoa hEa E9 J6c
      go_wp2_with fail
      refine (eqTaskS_any _ _ _ _ _ J6d.out Ia.out).mono ?_
      rintro e wb ⟨rfl, hEb⟩
      have Eb := Ea.trans hEb
      clear hEb Ea
      rw [sameTs_refl]
      go_wp2_with fail
      go_ret
      exact ⟨rfl, Eb⟩

theorem own : ownKnob Try.prog.godebug = none := by kernel_rfl
theorem laidOut : laidOutB Try.prog = true := by kernel_rfl

set_option maxRecDepth 100000 in
theorem lifted (os : Os) (started : os.Started) (H : Type) (enc : TypeId × Value → H) :
    ReturnsInHanded {} Try.checked os 3 .any (Rows.fnExactBoundBestSpec.pre6 enc Try.prog Try.f3 Rows.fnExactBoundBestRow.domain false) (Rows.fnExactBoundBestSpec.post enc Try.prog Try.f3 false true false false) := by
  refine returnsInHanded_of_change (C := Try.checked) own started (by kernel_rfl) Try.func3
    (ChangeSpec.witness6 (enc := enc) (C := Try.checked) false ⟨#[], #[.slice none 0 0, .slice none 0 0], []⟩ 8 (by kernel_rfl) (by kernel_rfl) (by kernel_rfl) (by kernel_rfl)) ?_
  intro W base args ds gs before hval0 hW hcnd _
  have hval : ∀ (j : Nat) t v, Try.f3.params[j]? = some t → args[j]? = some v → Value.okWide Try.prog W .any base t v := hval0
  have hW' := hW
  obtain ⟨p, q, hA0, hV, rfl, hfz, hnd⟩ := hW
  have hA : DataW.TrodAll enc Try.prog W 0 (fun _ => true) true Try.f3.params.toList args.toList ds p := hA0
  rw [Try.params3] at hA hval
  obtain ⟨v0, vs0, d0, ds0, p0, q0, hargs, rfl, rfl, h0, r0⟩ := trodAll_cons hA
  obtain ⟨v1, vs1, d1, ds1, p1, q1, rfl, rfl, rfl, h1, r1⟩ := trodAll_cons r0
  obtain ⟨rfl, rfl, rfl⟩ := trodAll_nil r1
  obtain rfl : args = #[v0, v1] := by cases args; simp_all
  obtain ⟨rfl, rfl⟩ := trodVars_none hV
  have lt0 : ∀ x ∈ p0, x.block < W.heap.size := by obtain ⟨m, hm⟩ := h0; exact DataW.trod_lt m _ _ _ hm
  have lt1 : ∀ x ∈ p1, x.block < W.heap.size := by obtain ⟨m, hm⟩ := h1; exact DataW.trod_lt m _ _ _ hm
  obtain ⟨room, hr⟩ := argInts_of h0 (okWide_slice Try.underlying22 (hval 0 22 v0 rfl rfl))
  obtain ⟨ts, ht⟩ := argTasks_of h1 (okWide_slice Try.underlying23 (hval 1 23 v1 rfl rfl))
  clear hA0 hval0
  refine (walk v0 v1 room ts W hr ht).mono fun e W' ⟨he, bel⟩ => ?_
  subst he
  exact ⟨_, rfl, _, _, _, [], _, [], hW', trodAll_mk1 (shut_bool Try.underlying4 _), (trodAll_cons_mk (Below.trod laidOut (by kernel_rfl) (of_decide_eq_true (by kernel_rfl)) h0 bel lt0) (trodAll_cons_mk (Below.trod laidOut (by kernel_rfl) (of_decide_eq_true (by kernel_rfl)) h1 bel lt1) trodAll_mk0)), rfl, Below.frame bel _, fun h => by cases h⟩

theorem proved : Rows.FnExactBoundBestSaid :=
  OpenClaim.holds_of_wide 3 Try.f3 rfl rfl rfl rfl rfl rfl rfl ⟨rfl, rfl, rfl, rfl, rfl⟩ rfl rfl rfl rfl rfl (by kernel_rfl) Try.func3 (by kernel_rfl)
    (of_decide_eq_true (by kernel_rfl)) (by unfold Func.isWrapper; first | (rw [if_pos (by decide +kernel)]; kernel_rfl) | (rw [if_neg (by decide +kernel)]; exact ⟨rfl, rfl⟩))
    (fun os started H enc _ => lifted os started H enc)

end Go.Proofs.Yteeleognonpaaaa.l01
