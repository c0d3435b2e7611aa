/- The law FnBestAtNone: whatever the code, best fit turns a task away where first fit does, and does not take an earlier node. No condition. -/
import Derived.Test.YtipmoedflpjioaaS14
import Derived.Test.YtipmoedflpjioaaDr9
import Derived.Test.YtipmoedflpjioaaP3
import Derived.Test.YtipmoedflpjioaaHead
import Derived.OpenShut
import Derived.ChangeOld
namespace Go.Proofs.Ytipmoedflpjioaa.l40
set_option maxRecDepth 100000
open Go.RowKit Go.ChangeShapes Go.WideShapes Go.ChangeAt

set_option maxHeartbeats 4000000 in
theorem walk (v : Value) (n : Nat) (w : World) (h : ArgCode w v n) :
    Calls Try.prog 12 #[v] w fun e w' => e = .returned (.bool true) ∧ Ext w w' := by
  have h2 := h
  obtain ⟨_, ac, cc, rfl, -⟩ := h2
  by_cases hbig : 1048576 < n
  · go_enter Try.func12, Try.ntmps12
    go_wp2
    go_ret
    exact ⟨rfl, Ext.refl _⟩
  have hsm : n ≤ 1048576 := by omega
  clear hbig
  go_enter Try.func12, Try.ntmps12
  go_wp2_with fail
  refine (DrawBestAt_any _ _ _ h).mono ?_
  rintro e w1 ⟨vr, vb, nx, room, bs, x, rfl, hd, E1, na, nn, nc, rfl⟩
  obtain rfl : nn = x.need.length := hd.2.1.parts.1
  have Eb : Ext w1 (w1.alloc (.cells #[.int .i64 x.id, .slice na x.need.length nc] 38)) := (Ext.refl w1).alloc _
  have F1 := Lib.hid (E1.trans Eb)
  have Hd := Lib.hid (hd.ext Eb)
  have b0 : (w1.alloc (.cells #[.int .i64 x.id, .slice na x.need.length nc] 38)).cell? ⟨w1.heap.size, 0, none⟩ = some (.int .i64 x.id) := by rw [box_cell]; rfl
  have b1 : (w1.alloc (.cells #[.int .i64 x.id, .slice na x.need.length nc] 38)).cell? ⟨w1.heap.size, 1, none⟩ = some (.slice na x.need.length nc) := by rw [box_cell]; rfl
  clear hd E1 Eb
  go_wp2_with fail
  generalize w1.alloc (.cells #[.int .i64 x.id, .slice na x.need.length nc] 38) = W1 at *
  have KB := Lib.hid (show ∀ w', Ext W1 w' → w'.cell? ⟨w1.heap.size, 0, none⟩ = some (.int .i64 x.id) ∧ w'.cell? ⟨w1.heap.size, 1, none⟩ = some (.slice na x.need.length nc) from fun w' h => ⟨h.cell b0, h.cell b1⟩)
  refine (BestAt_any _ _ _ room bs x _ Hd.out.1.1 Hd.out.1.2.1 Hd.out.2.1 (by have := Hd.out.1.2.2.2.2; omega)).mono ?_
  clear b0 b1
  rintro e w2 ⟨rfl, E2⟩
  have E2' := Lib.hid E2
  obtain ⟨c0, c1⟩ := KB.out w2 E2
  clear E2
  go_wp2_with fail
  clear c0 c1
  refine (sBestAt_any _ _ _ room bs x _ (Hd.out.1.1.ext E2'.out) (Hd.out.1.2.1.ext E2'.out) (Hd.out.2.1.ext E2'.out) (by have := Hd.out.1.2.2.2.2; omega)).mono ?_
  rintro e w3 ⟨rfl, E3⟩
  have F3 := Lib.hid (F1.out.trans (E2'.out.trans E3))
  have E3' := Lib.hid (E2'.out.trans E3)
  have Hd3 := Lib.hid (Hd.out.ext E3'.out)
  clear E3 F1 E2' Hd
  have HC := Lib.hid (best_first room bs x)
  generalize bestAtI room bs x = z at *
  obtain ⟨c0, c1⟩ := KB.out w3 E3'.out
  go_wp2_with fail
  clear c0 c1
  refine (FirstAt_any _ _ _ room bs x _ Hd3.out.1.1 Hd3.out.1.2.1 Hd3.out.2.1 (by have := Hd3.out.1.2.2.2.2; omega)).mono ?_
  rintro e w4 ⟨rfl, E4⟩
  have F := F3.out.trans E4
  generalize firstAtI room bs x = y at *
  rcases HC.out with ⟨rfl, rfl⟩ | ⟨i, j, hij, rfl, rfl⟩
  · go_wp2
    go_ret
    exact ⟨rfl, F⟩
  · have n1 : decide ((j : Int) < 0) = false := by simp
    have n2 : decide ((i : Int) < 0) = false := by simp
    have n3 : (i : Int) ≤ (j : Int) := by omega
    clear HC
    go_wp2
    go_ret
    exact ⟨rfl, F⟩

theorem own : ownKnob Try.prog.godebug = none := by kernel_rfl
theorem laidOut : laidOutB Try.prog = true := by kernel_rfl

set_option maxRecDepth 100000 in
theorem lifted (os : Os) (started : os.Started) (H : Type) (enc : TypeId × Value → H) :
    ReturnsInHanded {} Try.checked os 12 .any (Rows.fnBestAtNoneSpec.pre6 enc Try.prog Try.f12 Rows.fnBestAtNoneRow.domain false) (Rows.fnBestAtNoneSpec.post enc Try.prog Try.f12 false true false false) := by
  refine returnsInHanded_of_change (C := Try.checked) own started (by kernel_rfl) Try.func12
    (ChangeSpec.witness6 (enc := enc) (C := Try.checked) false ⟨#[], #[.slice none 0 0], []⟩ 8 (by kernel_rfl) (by kernel_rfl) (by kernel_rfl) (by kernel_rfl)) ?_
  intro W base args ds gs before hval0 hW hcnd _
  have hval : ∀ (j : Nat) t v, Try.f12.params[j]? = some t → args[j]? = some v → Value.okWide Try.prog W .any base t v := hval0
  have hW' := hW
  obtain ⟨p, q, hA0, hV, rfl, hfz, hnd⟩ := hW
  have hA : DataW.TrodAll enc Try.prog W 0 (fun _ => true) true Try.f12.params.toList args.toList ds p := hA0
  rw [Try.params12] at hA hval
  obtain ⟨v0, vs0, d0, ds0, p0, q0, hargs, rfl, rfl, h0, r0⟩ := trodAll_cons hA
  obtain ⟨rfl, rfl, rfl⟩ := trodAll_nil r0
  obtain rfl : args = #[v0] := by cases args; simp_all
  obtain ⟨rfl, rfl⟩ := trodVars_none hV
  have lt0 : ∀ x ∈ p0, x.block < W.heap.size := by obtain ⟨m, hm⟩ := h0; exact DataW.trod_lt m _ _ _ hm
  obtain ⟨x0, e0⟩ := argCode_of h0 (okWide_slice Try.underlying22 (hval 0 22 v0 rfl rfl))
  clear hA0 hval0
  refine (walk v0 x0 W e0).mono fun e W' ⟨he, bel⟩ => ?_
  subst he
  exact ⟨_, rfl, _, _, _, [], _, [], hW', trodAll_mk1 (shut_bool Try.underlying4 _), (trodAll_cons_mk (Below.trod laidOut (by kernel_rfl) (of_decide_eq_true (by kernel_rfl)) h0 bel lt0) trodAll_mk0), rfl, Below.frame bel _, fun h => by cases h⟩

theorem closed : joinedFacts Try.prog 12 Try.f12 Rows.fnBestAtNoneSpec Rows.fnBestAtNoneRow = true := by
  unfold joinedFacts
  rw [may_enter, lifts_final, make_cut]
  kernel_rfl

theorem proved : Rows.FnBestAtNoneSaid :=
  OpenClaim.holds_of_wide 12 Try.f12 rfl rfl rfl rfl rfl rfl rfl ⟨rfl, rfl, rfl, rfl, rfl⟩ rfl rfl rfl rfl rfl (by kernel_rfl) Try.func12 closed
    (of_decide_eq_true (by kernel_rfl)) (by unfold Func.isWrapper; first | (rw [if_pos (by decide +kernel)]; kernel_rfl) | (rw [if_neg (by decide +kernel)]; exact ⟨rfl, rfl⟩))
    (fun os started H enc _ => lifted os started H enc)

end Go.Proofs.Ytipmoedflpjioaa.l40
