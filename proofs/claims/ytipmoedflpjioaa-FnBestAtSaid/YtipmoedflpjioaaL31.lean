/- The law FnBestAt: whatever the code, the node that best fit takes has the greatest score, and is the first one with it. No condition. -/
import Derived.Test.YtipmoedflpjioaaS14
import Derived.Test.YtipmoedflpjioaaDr9
import Derived.Test.YtipmoedflpjioaaP3
import Derived.Test.YtipmoedflpjioaaHead
import Derived.OpenShut
import Derived.ChangeOld
namespace Go.Proofs.Ytipmoedflpjioaa.l31
set_option maxRecDepth 100000
open Go.RowKit Go.ChangeShapes Go.WideShapes Go.ChangeAt

set_option maxHeartbeats 4000000 in
theorem walk (v : Value) (n : Nat) (w : World) (h : ArgCode w v n) :
    Calls Try.prog 8 #[v] w fun e w' => e = .returned (.bool true) ∧ Ext w w' := by
  have h2 := h
  obtain ⟨_, ac, cc, rfl, -⟩ := h2
  by_cases hbig : 1048576 < n
  · go_enter Try.func8, Try.ntmps8
    go_wp2
    go_ret
    exact ⟨rfl, Ext.refl _⟩
  have hsm : n ≤ 1048576 := by omega
  clear hbig
  go_enter Try.func8, Try.ntmps8
  go_wp2_with fail
  refine (DrawBestAt_any _ _ _ h).mono ?_
  rintro e w1 ⟨vr, vb, nx, room, bs, x, rfl, hd, E1, na, nn, nc, rfl⟩
  obtain rfl : nn = x.need.length := hd.2.1.parts.1
  have Eb : Ext w1 (w1.alloc (.cells #[.int .i64 x.id, .slice na x.need.length nc] 38)) := (Ext.refl w1).alloc _
  have F1 := Lib.hid (E1.trans Eb)
  have Hd := Lib.hid (hd.ext Eb)
  have b0 : (w1.alloc (.cells #[.int .i64 x.id, .slice na x.need.length nc] 38)).cell? ⟨w1.heap.size, 0, none⟩ = some (.int .i64 x.id) := by rw [box_cell]; rfl
  have b1 : (w1.alloc (.cells #[.int .i64 x.id, .slice na x.need.length nc] 38)).cell? ⟨w1.heap.size, 1, none⟩ = some (.slice na x.need.length nc) := by rw [box_cell]; rfl
  clear hd E1 Eb
  go_wp2_with fail
  generalize w1.alloc (.cells #[.int .i64 x.id, .slice na x.need.length nc] 38) = W1 at *
  have KB := Lib.hid (show ∀ w', Ext W1 w' → w'.cell? ⟨w1.heap.size, 0, none⟩ = some (.int .i64 x.id) ∧ w'.cell? ⟨w1.heap.size, 1, none⟩ = some (.slice na x.need.length nc) from fun w' h => ⟨h.cell b0, h.cell b1⟩)
  refine (BestAt_any _ _ _ room bs x _ Hd.out.1.1 Hd.out.1.2.1 Hd.out.2.1 (by have := Hd.out.1.2.2.2.2; omega)).mono ?_
  clear b0 b1
  rintro e w2 ⟨rfl, E2⟩
  have E2' := Lib.hid E2
  obtain ⟨c0, c1⟩ := KB.out w2 E2
  clear E2
  go_wp2_with fail
  clear c0 c1
  refine (sBestAt_any _ _ _ room bs x _ (Hd.out.1.1.ext E2'.out) (Hd.out.1.2.1.ext E2'.out) (Hd.out.2.1.ext E2'.out) (by have := Hd.out.1.2.2.2.2; omega)).mono ?_
  rintro e w3 ⟨rfl, E3⟩
  have F3 := Lib.hid (F1.out.trans (E2'.out.trans E3))
  have E3' := Lib.hid (E2'.out.trans E3)
  have Hd3 := Lib.hid (Hd.out.ext E3'.out)
  clear E3 F1 E2' Hd
  have HC := Lib.hid (best_score room bs x)
  generalize bestAtI room bs x = z at *
  rcases HC.out with hneg | ⟨k, b0, hk, rfl, hp, hmax⟩
  · have F := F3.out
    go_wp2
    go_ret
    exact ⟨rfl, F⟩
  · obtain ⟨hkl, rfl⟩ := List.getElem?_eq_some_iff.1 hk
    have HM := Lib.hid hmax
    have HP := Lib.hid hp
    clear hk hp hmax HC
    obtain ⟨ab, cb, hvb, -⟩ := Hd3.out.1.2.1.open
    subst hvb
    have hlen : bs.length ≤ 10 := Hd3.out.1.2.2.2.1
    have hbl : ∀ i (hi : i < bs.length), bs[i].length ≤ 20 := fun i hi => by have := bin_len (List.getElem_mem hi); have := Hd3.out.1.2.2.2.2; omega
    have Hbl := Lib.hid hbl
    clear hbl
    obtain ⟨b, off, nd, he, ck, htk⟩ := Hd3.out.1.2.1.at hkl
    subst he
    obtain ⟨ka, kc, rfl, htk'⟩ := htk.open
    have Tk := Lib.hid htk'
    obtain ⟨c0, c1⟩ := KB.out w3 E3'.out
    have KS := Lib.hid (show ∀ w', Ext w3 w' → w'.cell? ⟨b, off + k, none⟩ = some (.slice ka bs[k].length kc) ∧ w'.cell? ⟨w1.heap.size, 0, none⟩ = some (.int .i64 x.id) ∧ w'.cell? ⟨w1.heap.size, 1, none⟩ = some (.slice na x.need.length nc) from fun w' h => ⟨h.cell ck, h.cell c0, h.cell c1⟩)
    have i0 : (0 : Int) ≤ (k : Int) := by omega
    have i1 : (k : Int) < (bs.length : Int) := by omega
    have n0 : decide ((k : Int) < 0) = false := by simp
    clear htk htk' ck c0 c1
    go_wp2_with fail
    go_region_held3 (fun w' => w'.cell? ⟨b, off + k, none⟩ = some (.slice ka bs[k].length kc) ∧ w'.cell? ⟨w1.heap.size, 0, none⟩ = some (.int .i64 x.id) ∧ w'.cell? ⟨w1.heap.size, 1, none⟩ = some (.slice na x.need.length nc))
      (first | exact KS.out _ (Ext.refl w3).drew | exact KS.out _ E4.out | fail)
      ((first
        | (go_at_call 45; refine (BestScore_any _ _ _ room bs[k] x _ (Hd3.out.1.1.ext (Ext.refl w3).drew) (Tk.out.ext (Ext.refl w3).drew) (Hd3.out.2.1.ext (Ext.refl w3).drew) (by have := Hbl.out k hkl; omega)).mono ?_; rintro e w4 ⟨rfl, hE⟩; have E4 := Lib.hid ((Ext.refl w3).drew.trans hE); clear hE)))
    all_goals
      have Hd4 := Lib.hid (Hd3.out.ext E4.out)
      have KB4 := Lib.hid (show ∀ w', Ext w4 w' → w'.cell? ⟨w1.heap.size, 0, none⟩ = some (.int .i64 x.id) ∧ w'.cell? ⟨w1.heap.size, 1, none⟩ = some (.slice na x.need.length nc) from fun w' h => KB.out _ (E3'.out.trans (E4.out.trans h)))
      have F4 := Lib.hid (F3.out.trans E4.out)
      generalize bestScoreI room bs[k] x = z0 at *
      go_wp2_with fail
      go_loopw [9] (fun i wr => ∃ i' : Nat, i' ≤ bs.length ∧ i = .int .i64 i' ∧ Ext w4 wr) (fun i _ => bs.length - (intOf i).toNat)
      case atStart => exact ⟨0, by omega, by go_num, Ext.refl _⟩
      case round =>
        obtain ⟨i, hi, rfl, hE⟩ := hrel
        have HE := Lib.hid hE
        obtain ⟨c0, c1⟩ := KB4.out _ hE
        clear hE
        by_cases hlt : i < bs.length
        · obtain ⟨b', off', nd, he, ci, hti⟩ := (Hd4.out.1.2.1.ext HE.out).at hlt
          simp only [Option.some.injEq, Addr.mk.injEq, and_true] at he
          obtain ⟨rfl, rfl⟩ := he
          obtain ⟨ia, ic, rfl, hti'⟩ := hti.open
          have Ti := Lib.hid hti'
          have KI' := Lib.hid (show ∀ w', Ext wr w' → w'.cell? ⟨b, off + i, none⟩ = some (.slice ia bs[i].length ic) ∧ w'.cell? ⟨w1.heap.size, 0, none⟩ = some (.int .i64 x.id) ∧ w'.cell? ⟨w1.heap.size, 1, none⟩ = some (.slice na x.need.length nc) from fun w' h => ⟨h.cell ci, h.cell c0, h.cell c1⟩)
          have j0 : (0 : Int) ≤ (i : Int) := by omega
          have j1 : (i : Int) < (bs.length : Int) := by omega
          have HQ := Lib.hid (HM.out i bs[i] (List.getElem?_eq_getElem hlt))
          clear hti hti' ci c0 c1
          go_wp2_with fail
          go_region_held3 (fun w' => w'.cell? ⟨b, off + i, none⟩ = some (.slice ia bs[i].length ic) ∧ w'.cell? ⟨w1.heap.size, 0, none⟩ = some (.int .i64 x.id) ∧ w'.cell? ⟨w1.heap.size, 1, none⟩ = some (.slice na x.need.length nc))
            (first | exact KI'.out _ (Ext.refl wr).drew | exact KI'.out _ E5.out | fail)
            ((first
              | (go_at_call 45; refine (BestScore_any _ _ _ room bs[i] x _ (Hd4.out.1.1.ext (HE.out.trans (Ext.refl wr).drew)) (Ti.out.ext (Ext.refl wr).drew) (Hd4.out.2.1.ext (HE.out.trans (Ext.refl wr).drew)) (by have := Hbl.out i hlt; omega)).mono ?_; rintro e w5 ⟨rfl, hE⟩; have E5 := Lib.hid ((Ext.refl wr).drew.trans hE); clear hE)))
          all_goals
            have E6 := Lib.hid (HE.out.trans E5.out)
            have hq1 := HQ.out.1
            have hq2 := HQ.out.2
            generalize bestScoreI room bs[i] x = zi at *
            by_cases hik : i < k
            · have g1 : (zi == z0) = false := beq_eq_false_iff_ne.2 (by have := hq2 hik; omega)
              have g2 : ¬ (z0 < zi) := by omega
              have g3 : (i : Int) < (k : Int) := by omega
              clear hq1 hq2 HQ hik
              go_wp2_with fail
              go_roundw
              case rel => exact ⟨i + 1, by omega, by go_num, E6.out⟩
              case measure => simp [intOf]; omega
            · have g2 : ¬ (z0 < zi) := by omega
              have g3 : ¬ ((i : Int) < (k : Int)) := by omega
              clear hq1 hq2 HQ hik
              go_wp2_with fail
              go_roundw
              case rel => exact ⟨i + 1, by omega, by go_num, E6.out⟩
              case measure => simp [intOf]; omega
        · have e : i = bs.length := by omega
          subst e
          have F := F4.out.trans HE.out
          have hp0 := HP.out
          go_wp2
          go_ret
          exact ⟨rfl, F⟩

theorem own : ownKnob Try.prog.godebug = none := by kernel_rfl
theorem laidOut : laidOutB Try.prog = true := by kernel_rfl

set_option maxRecDepth 100000 in
theorem lifted (os : Os) (started : os.Started) (H : Type) (enc : TypeId × Value → H) :
    ReturnsInHanded {} Try.checked os 8 .any (Rows.fnBestAtSpec.pre6 enc Try.prog Try.f8 Rows.fnBestAtRow.domain false) (Rows.fnBestAtSpec.post enc Try.prog Try.f8 false true false false) := by
  refine returnsInHanded_of_change (C := Try.checked) own started (by kernel_rfl) Try.func8
    (ChangeSpec.witness6 (enc := enc) (C := Try.checked) false ⟨#[], #[.slice none 0 0], []⟩ 8 (by kernel_rfl) (by kernel_rfl) (by kernel_rfl) (by kernel_rfl)) ?_
  intro W base args ds gs before hval0 hW hcnd _
  have hval : ∀ (j : Nat) t v, Try.f8.params[j]? = some t → args[j]? = some v → Value.okWide Try.prog W .any base t v := hval0
  have hW' := hW
  obtain ⟨p, q, hA0, hV, rfl, hfz, hnd⟩ := hW
  have hA : DataW.TrodAll enc Try.prog W 0 (fun _ => true) true Try.f8.params.toList args.toList ds p := hA0
  rw [Try.params8] at hA hval
  obtain ⟨v0, vs0, d0, ds0, p0, q0, hargs, rfl, rfl, h0, r0⟩ := trodAll_cons hA
  obtain ⟨rfl, rfl, rfl⟩ := trodAll_nil r0
  obtain rfl : args = #[v0] := by cases args; simp_all
  obtain ⟨rfl, rfl⟩ := trodVars_none hV
  have lt0 : ∀ x ∈ p0, x.block < W.heap.size := by obtain ⟨m, hm⟩ := h0; exact DataW.trod_lt m _ _ _ hm
  obtain ⟨x0, e0⟩ := argCode_of h0 (okWide_slice Try.underlying22 (hval 0 22 v0 rfl rfl))
  clear hA0 hval0
  refine (walk v0 x0 W e0).mono fun e W' ⟨he, bel⟩ => ?_
  subst he
  exact ⟨_, rfl, _, _, _, [], _, [], hW', trodAll_mk1 (shut_bool Try.underlying4 _), (trodAll_cons_mk (Below.trod laidOut (by kernel_rfl) (of_decide_eq_true (by kernel_rfl)) h0 bel lt0) trodAll_mk0), rfl, Below.frame bel _, fun h => by cases h⟩

theorem closed : joinedFacts Try.prog 8 Try.f8 Rows.fnBestAtSpec Rows.fnBestAtRow = true := by
  unfold joinedFacts
  rw [may_enter, lifts_final, make_cut]
  kernel_rfl

theorem proved : Rows.FnBestAtSaid :=
  OpenClaim.holds_of_wide 8 Try.f8 rfl rfl rfl rfl rfl rfl rfl ⟨rfl, rfl, rfl, rfl, rfl⟩ rfl rfl rfl rfl rfl (by kernel_rfl) Try.func8 closed
    (of_decide_eq_true (by kernel_rfl)) (by unfold Func.isWrapper; first | (rw [if_pos (by decide +kernel)]; kernel_rfl) | (rw [if_neg (by decide +kernel)]; exact ⟨rfl, rfl⟩))
    (fun os started H enc _ => lifted os started H enc)

end Go.Proofs.Ytipmoedflpjioaa.l31
