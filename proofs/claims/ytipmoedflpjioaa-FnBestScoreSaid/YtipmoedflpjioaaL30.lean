/- The law FnBestScore: whatever the code, a score is the product of the needs and what is left, and the task fits. No condition. -/
import Derived.Test.YtipmoedflpjioaaDr10
import Derived.Test.YtipmoedflpjioaaS11
import Derived.Test.YtipmoedflpjioaaI17
import Derived.Test.YtipmoedflpjioaaP3
import Derived.Test.YtipmoedflpjioaaReg
import Derived.Test.YtipmoedflpjioaaHead
import Derived.OpenShut
import Derived.ChangeOld
namespace Go.Proofs.Ytipmoedflpjioaa.l30
set_option maxRecDepth 100000
open Go.RowKit Go.ChangeShapes Go.WideShapes Go.ChangeAt

set_option linter.unusedSimpArgs false
theorem twoH {P : Program} {ops : Array Oper} {Q : Exit → Act → World → Prop} {md : Region.Mode} {S : World → Prop} {i j : Nat} {oi oj : Oper} {fuel : Nat} {listed : Array Bool} {a : Act} {w : World} (hr : Region.ready md ops listed = [i, j]) (hi : ops[i]? = some oi) (hj : ops[j]? = some oj)
    (hwi : Region.wanted oi (yielded ops a.tmps) = true) (hwj : Region.wanted oj (yielded ops a.tmps) = true)
    (h : ∀ K' : Act → World → Prop, Hid (∀ a w, S w → (S w → wpAnyH P md ops Q S fuel (listed.setIfInBounds i true) a w) → K' a w) → Oper.wp P oi a w K' Q)
    (h' : ∀ K' : Act → World → Prop, Hid (∀ a w, S w → (S w → wpAnyH P md ops Q S fuel (listed.setIfInBounds j true) a w) → K' a w) → Oper.wp P oj a w K' Q) : wpAnyH P md ops Q S (fuel + 1) listed a w :=
  wpAnyH_ready hr (by simp) (AllReadyH.cons hi (fun K hK => by rw [if_pos hwi]; exact h K (Lib.hid hK.out)) (AllReadyH.cons hj (fun K hK => by rw [if_pos hwj]; exact h' K (Lib.hid hK.out)) AllReadyH.nil))
theorem left_ok {l r : List Int} (h1 : VecOk l) (h2 : VecOk r) (h3 : fitsB l r = true) : VecOk (addL r l (-1)) := by
  obtain ⟨a, b, c, rfl, _⟩ := h1.three
  obtain ⟨p, q, s, rfl, _⟩ := h2.three
  rw [fitsB_three] at h3
  have h4 := of_decide_eq_true h3
  refine ⟨rfl, fun n hn => ?_⟩
  simp [addL] at hn
  omega
theorem score_law (room : List Int) (b : List T) (x : T) : bestScoreI room b x < 0 ∨ (bestScoreI room b x = dotI x.need (addL room (binLoadL room b) (-1)) ∧ vfitsB (binLoadL room b) room = true ∧ VecOk x.need ∧ VecOk (addL room (binLoadL room b) (-1)) ∧ binsB room [b ++ [x]] = true) := by
  unfold bestScoreI
  by_cases h : ok11 room [b] x = true
  · rw [if_pos h]
    unfold scoreI
    by_cases f : fits11 room b x = true
    · rw [if_pos f]
      right
      obtain ⟨h1, h2⟩ := ok11_one h
      have hT : TasksOk room b := by have := (binsOk_all.1 h1).1; simpa using this
      have hl : binLoadL room b = loadL b := by unfold binLoadL; rw [if_pos (tasksB_iff.2 hT)]
      have hv : vfitsB (loadL b) room = true := vfits_load hT ((binsOk_all.1 h1).2.2 b (by simp))
      obtain ⟨v1, v2, v3⟩ := vfitsB_iff.1 hv
      have hx : VecOk x.need := by
        have := (h2.2.2 b.length (by simp)).2.2
        rw [List.getElem_concat_length rfl] at this
        exact (vfitsB_iff.1 this).1
      rw [hl]
      refine ⟨rfl, hv, hx, left_ok v1 v2 v3, binsB_iff.2 (binsOk_all.2 ⟨by simpa using h2, by simp, fun c hc => ?_⟩)⟩
      simp only [List.mem_singleton] at hc
      subst hc
      rw [loadL_snoc]
      exact f
    · rw [if_neg f]; left; omega
  · rw [if_neg h]; left; omega

set_option maxHeartbeats 4000000 in
theorem walk (v : Value) (n : Nat) (w : World) (h : ArgCode w v n) :
    Calls Try.prog 7 #[v] w fun e w' => e = .returned (.bool true) ∧ Ext w w' := by
  have h2 := h
  obtain ⟨_, ac, cc, rfl, -⟩ := h2
  by_cases hbig : 1048576 < n
  · go_enter Try.func7, Try.ntmps7
    go_wp2
    go_ret
    exact ⟨rfl, Ext.refl _⟩
  have hsm : n ≤ 1048576 := by omega
  clear hbig
  go_enter Try.func7, Try.ntmps7
  go_wp2_with fail
  refine (DrawBestScore_any _ _ _ h).mono ?_
  rintro e w1 ⟨vr, vb, nx, room, b, x, rfl, hd, E1, na, nn, nc, rfl⟩
  obtain rfl : nn = x.need.length := hd.2.2.2.2.1.parts.1
  have Eb : Ext w1 (w1.alloc (.cells #[.int .i64 x.id, .slice na x.need.length nc] 38)) := (Ext.refl w1).alloc _
  have F1 := Lib.hid (E1.trans Eb)
  have Hd := Lib.hid (hd.ext Eb)
  have b0 : (w1.alloc (.cells #[.int .i64 x.id, .slice na x.need.length nc] 38)).cell? ⟨w1.heap.size, 0, none⟩ = some (.int .i64 x.id) := by rw [box_cell]; rfl
  have b1 : (w1.alloc (.cells #[.int .i64 x.id, .slice na x.need.length nc] 38)).cell? ⟨w1.heap.size, 1, none⟩ = some (.slice na x.need.length nc) := by rw [box_cell]; rfl
  clear hd E1 Eb
  go_wp2_with fail
  generalize w1.alloc (.cells #[.int .i64 x.id, .slice na x.need.length nc] 38) = W1 at *
  have KB := Lib.hid (show ∀ w', Ext W1 w' → w'.cell? ⟨w1.heap.size, 0, none⟩ = some (.int .i64 x.id) ∧ w'.cell? ⟨w1.heap.size, 1, none⟩ = some (.slice na x.need.length nc) from fun w' h => ⟨h.cell b0, h.cell b1⟩)
  have hb20 := Lib.hid Hd.out.2.2.2.1
  refine (BestScore_any _ _ _ room b x _ Hd.out.1 Hd.out.2.1 Hd.out.2.2.2.2.1 (by have := hb20.out; omega)).mono ?_
  clear b0 b1
  rintro e w2 ⟨rfl, E2⟩
  have E2' := Lib.hid E2
  obtain ⟨c0, c1⟩ := KB.out w2 E2
  clear E2
  go_wp2_with fail
  clear c0 c1
  have Hd2 := Lib.hid (Hd.out.ext E2'.out)
  refine (sBestScore_any _ _ _ room b x _ Hd2.out.1 Hd2.out.2.1 Hd2.out.2.2.2.2.1 (by have := hb20.out; omega)).mono ?_
  rintro e w3 ⟨rfl, E3⟩
  have F3 := Lib.hid (F1.out.trans (E2'.out.trans E3))
  have E3' := Lib.hid (E2'.out.trans E3)
  have Hd3 := Lib.hid (Hd.out.ext E3'.out)
  clear E3 F1 E2' Hd Hd2
  have HC := Lib.hid (score_law room b x)
  generalize bestScoreI room b x = z at *
  rcases HC.out with hz | ⟨hz, hv, hx, hL, hB⟩
  · clear HC
    have nz : decide (z < 0) = true := by simpa using hz
    go_wp2
    go_ret
    exact ⟨rfl, F3.out⟩
  · by_cases hn : z < 0
    · have nz : decide (z < 0) = true := by simpa using hn
      clear HC hz
      go_wp2
      go_ret
      exact ⟨rfl, F3.out⟩
    · have nz : decide (z < 0) = false := by simpa using hn
      have Hz := Lib.hid hz
      have Hv := Lib.hid hv
      have Hx := Lib.hid hx
      have HL := Lib.hid hL
      have HB := Lib.hid hB
      clear HC hz hv hx hL hB
      go_wp2_with fail
      refine (BinLoad_any _ _ room b _ Hd3.out.1 Hd3.out.2.1).mono ?_
      rintro e w4 ⟨vl, rfl, E4, hl⟩
      have hl' := Lib.hid hl
      have E4' := Lib.hid E4
      clear hl E4
      go_wp2_with fail
      refine (VecSub_yes _ _ _ _ _ (Hd3.out.1.ext E4'.out) hl'.out Hv.out).mono ?_
      rintro e w5 ⟨r, rfl, E5, hr⟩
      have Hr := Lib.hid hr
      have E5' := Lib.hid (E3'.out.trans (E4'.out.trans E5))
      have F5 := Lib.hid (F3.out.trans (E4'.out.trans E5))
      have Hd5 := Lib.hid (Hd3.out.ext (E4'.out.trans E5))
      obtain ⟨ba, bc, rfl, -⟩ := Hd5.out.2.1.open
      clear hr E5 E4' hl' Hd3 F3 E3'
      go_wp2_with fail
      have HD := Lib.hid (Hd5.out.ext (Ext.refl _).drew)
      have F := Lib.hid (Ext.trans F5.out (Ext.refl _).drew)
      have KW0 := KB.out _ (Ext.trans E5'.out (Ext.refl _).drew)
      have HR0 := Lib.hid (Hr.out.ext (Ext.refl _).drew)
      have hb := hb20.out
      refine wp_region_held_drew (S := fun w' => w'.cell? ⟨w1.heap.size, 0, none⟩ = some (.int .i64 x.id) ∧ w'.cell? ⟨w1.heap.size, 1, none⟩ = some (.slice na x.need.length nc)) (by kernel_rfl) (KB.out _ (Ext.trans E5'.out (Ext.refl _).drew)) (fun hHeld => ?_)
      clear F5 E5' Hr Hd5
      generalize w5.drew = W0 at *
      have KW := Lib.hid (show ∀ w', Ext W0 w' → w'.cell? ⟨w1.heap.size, 0, none⟩ = some (.int .i64 x.id) ∧ w'.cell? ⟨w1.heap.size, 1, none⟩ = some (.slice na x.need.length nc) from fun w' h => ⟨h.cell KW0.1, h.cell KW0.2⟩)
      clear KW0
      refine takeH (i := 0) (d := some 45) (v := ?_) rfl rfl (by kernel_rfl) (by kernel_rfl) (by kernel_rfl) (fun _ _ _ h => h) (by rfl) ?_ (by assumption) ?_
      rotate_left
      · intro w hSw; (try dsimp only at hSw); (try go_simp); (try with_reducible rfl)
      try simp only [Act.put, List.setIfInBounds_toArray, List.set_cons_zero, List.set_cons_succ]
      refine takeH (i := 1) (d := some 46) (v := ?_) rfl rfl (by kernel_rfl) (by kernel_rfl) (by kernel_rfl) (fun _ _ _ h => h) (by rfl) ?_ (by assumption) ?_
      rotate_left
      · intro w hSw; (try dsimp only at hSw); (try go_simp); (try with_reducible rfl)
      try simp only [Act.put, List.setIfInBounds_toArray, List.set_cons_zero, List.set_cons_succ]
      refine takeH (i := 2) (d := some 47) (v := ?_) rfl rfl (by kernel_rfl) (by kernel_rfl) (by kernel_rfl) (fun _ _ _ h => h) (by rfl) ?_ (by assumption) ?_
      rotate_left
      · intro w hSw; (try dsimp only at hSw); (try go_simp); (try with_reducible rfl)
      try simp only [Act.put, List.setIfInBounds_toArray, List.set_cons_zero, List.set_cons_succ]
      refine takeH (i := 3) (d := some 48) (v := ?_) rfl rfl (by kernel_rfl) (by kernel_rfl) (by kernel_rfl) (fun _ _ _ h => h) (by rfl) ?_ (by assumption) ?_
      rotate_left
      · intro w hSw; (try dsimp only at hSw); (try go_simp); (try with_reducible rfl)
      try simp only [Act.put, List.setIfInBounds_toArray, List.set_cons_zero, List.set_cons_succ]
      refine takeH (i := 4) (d := some 49) (v := ?_) rfl rfl (by kernel_rfl) (by kernel_rfl) (by kernel_rfl) (fun _ _ _ h => h) (by rfl) ?_ (by assumption) ?_
      rotate_left
      · intro w hSw; (try dsimp only at hSw); (try obtain ⟨l0, l1⟩ := hSw; go_simp); (try with_reducible rfl)
      try simp only [Act.put, List.setIfInBounds_toArray, List.set_cons_zero, List.set_cons_succ]
      refine takeH (i := 5) (d := some 50) (v := ?_) rfl rfl (by kernel_rfl) (by kernel_rfl) (by kernel_rfl) (fun _ _ _ h => h) (by rfl) ?_ (by assumption) ?_
      rotate_left
      · intro w hSw; (try dsimp only at hSw); (try go_simp); (try with_reducible rfl)
      try simp only [Act.put, List.setIfInBounds_toArray, List.set_cons_zero, List.set_cons_succ]
      refine oneH (i := 6) (by kernel_rfl) rfl (by rfl) (fun K hK => ?_)
      go_simp
      refine (VecDot_yes _ _ _ _ _ HD.out.2.2.2.2.1 HR0.out Hx.out HL.out).mono ?_
      rintro e w6 ⟨rfl, rfl⟩
      rw [← Hz.out]
      try dsimp only
      refine hK.out _ _ (hHeld) (fun hHeld => ?_)
      clear hK K
      try simp only [Act.put, List.setIfInBounds_toArray, List.set_cons_zero, List.set_cons_succ]
      refine takeH (i := 7) (d := some 52) (v := ?_) rfl rfl (by kernel_rfl) (by kernel_rfl) (by kernel_rfl) (fun _ _ _ h => h) (by rfl) ?_ (by assumption) ?_
      rotate_left
      · intro w hSw; (try dsimp only at hSw); (try go_simp); (try with_reducible rfl)
      try simp only [Act.put, List.setIfInBounds_toArray, List.set_cons_zero, List.set_cons_succ]
      refine takeH (i := 8) (d := some 53) (v := ?_) rfl rfl (by kernel_rfl) (by kernel_rfl) (by kernel_rfl) (fun _ _ _ h => h) (by rfl) ?_ (by assumption) ?_
      rotate_left
      · intro w hSw; (try dsimp only at hSw); (try go_simp); (try with_reducible rfl)
      try simp only [Act.put, List.setIfInBounds_toArray, List.set_cons_zero, List.set_cons_succ]
      refine takeH (i := 9) (d := some 54) (v := ?_) rfl rfl (by kernel_rfl) (by kernel_rfl) (by kernel_rfl) (fun _ _ _ h => h) (by rfl) ?_ (by assumption) ?_
      rotate_left
      · intro w hSw; (try dsimp only at hSw); (try go_simp); (try with_reducible rfl)
      try simp only [Act.put, List.setIfInBounds_toArray, List.set_cons_zero, List.set_cons_succ]
      refine takeH (i := 10) (d := some 55) (v := ?_) rfl rfl (by kernel_rfl) (by kernel_rfl) (by kernel_rfl) (fun _ _ _ h => h) (by rfl) ?_ (by assumption) ?_
      rotate_left
      · intro w hSw; (try dsimp only at hSw); (try go_simp); (try with_reducible rfl)
      try simp only [Act.put, List.setIfInBounds_toArray, List.set_cons_zero, List.set_cons_succ]
      refine takeH (i := 12) (d := some 57) (v := ?_) rfl rfl (by kernel_rfl) (by kernel_rfl) (by kernel_rfl) (fun _ _ _ h => h) (by rfl) ?_ (by assumption) ?_
      rotate_left
      · intro w hSw; (try dsimp only at hSw); (try go_simp); (try with_reducible rfl)
      try simp only [Act.put, List.setIfInBounds_toArray, List.set_cons_zero, List.set_cons_succ]
      refine takeH (i := 14) (d := some 59) (v := ?_) rfl rfl (by kernel_rfl) (by kernel_rfl) (by kernel_rfl) (fun _ _ _ h => h) (by rfl) ?_ (by assumption) ?_
      rotate_left
      · intro w hSw; (try dsimp only at hSw); (try obtain ⟨l0, l1⟩ := hSw; go_simp); (try with_reducible rfl)
      try simp only [Act.put, List.setIfInBounds_toArray, List.set_cons_zero, List.set_cons_succ]
      refine twoH (i := 11) (j := 15) (by kernel_rfl) rfl rfl (by rfl) (by rfl) (fun K hK => ?_) (fun K hK => ?_)
      · skip
        go_simp
        try dsimp only
        refine hK.out _ _ (KW.out _ ((Ext.refl W0).alloc _)) (fun hHeld => ?_)
        clear hK K
        try simp only [Act.put, List.setIfInBounds_toArray, List.set_cons_zero, List.set_cons_succ]
        refine twoH (i := 13) (j := 15) (by kernel_rfl) rfl rfl (by rfl) (by rfl) (fun K hK => ?_) (fun K hK => ?_)
        · skip
          refine wp_app2_tasks _ _ rfl W0.heap.size (.slice (some ⟨W0.heap.size, 0, none⟩) 0 0) [] (by rfl) (OwnTasks.lit0 W0 W0.heap.size (Nat.le_refl _)) (by simp <;> omega) _ _ _ b (by rfl) (HD.out.2.1.ext ((Ext.refl W0).alloc _)) (by unfold lim; simp; omega) ?_
          intro v4 w4 hown hg hk4
          have X4 := Lib.hid (Ext.of_grown ((Ext.refl W0).alloc _) hg (by simp))
          rw [List.nil_append] at hown
          have Ho := Lib.hid hown
          clear hown hg hk4
          try dsimp only
          refine hK.out _ _ (KW.out _ X4.out) (fun hHeld => ?_)
          clear hK K
          try simp only [Act.put, List.setIfInBounds_toArray, List.set_cons_zero, List.set_cons_succ]
          refine oneH (i := 15) (by kernel_rfl) rfl (by rfl) (fun K hK => ?_)
          go_simp
          try dsimp only
          refine hK.out _ _ (KW.out _ (X4.out.alloc _)) (fun hHeld => ?_)
          clear hK K
          try simp only [Act.put, List.setIfInBounds_toArray, List.set_cons_zero, List.set_cons_succ]
          refine oneH (i := 16) (by kernel_rfl) rfl (by rfl) (fun K hK => ?_)
          refine wp_app_tasks _ _ rfl W0.heap.size _ b (by rfl) (Ho.out.alloc _) ((X4.out.alloc _).le) _ _ _ [x] (by rfl) (Tasks.lit1 (HD.out.2.2.2.2.1.ext X4.out) 1) (by unfold lim; simp; omega) ?_
          intro v5 w5' hown hkt hbl5
          have X5 := Lib.hid (show Ext W0 w5' from Below.trans (X4.out.alloc _) hbl5)
          have Ho5 := Lib.hid hown
          clear hown hkt hbl5
          try dsimp only
          refine hK.out _ _ (KW.out _ X5.out) (fun hHeld => ?_)
          clear hK K
          try simp only [Act.put, List.setIfInBounds_toArray, List.set_cons_zero, List.set_cons_succ]
          obtain ⟨va, vc, rfl⟩ := Ho5.out.form
          have Hb := Lib.hid (Ho5.out.done (by unfold lim; simp; omega))
          have hts : (b ++ [x]).length ≤ 21 := by simp; omega
          have HBx := HB
          clear Ho5
          generalize b ++ [x] = ts at *
          refine oneH (i := 17) (by kernel_rfl) rfl (by rfl) (fun K hK => ?_)
          go_simp
          try dsimp only
          refine hK.out _ _ (KW.out _ (X5.out.alloc _)) (fun hHeld => ?_)
          clear hK K
          try simp only [Act.put, List.setIfInBounds_toArray, List.set_cons_zero, List.set_cons_succ]
          refine oneH (i := 18) (by kernel_rfl) rfl (by rfl) (fun K hK => ?_)
          go_simp
          refine (BinsValid_any _ _ room [ts] _ (HD.out.1.ext (X5.out.alloc _)) (Bins.lit1 Hb.out 1) (by simp; omega)).mono ?_
          rintro e w6 ⟨rfl, hE6⟩
          have E6 := Lib.hid ((X5.out.alloc _).trans hE6)
          clear hE6
          rw [HB.out]
          try dsimp only
          refine hK.out _ _ (KW.out _ E6.out) (fun hHeld => ?_)
          clear hK K
          try simp only [Act.put, List.setIfInBounds_toArray, List.set_cons_zero, List.set_cons_succ]
          refine takeH (i := 19) (d := some 64) (v := ?_) rfl rfl (by kernel_rfl) (by kernel_rfl) (by kernel_rfl) (fun _ _ _ h => h) (by rfl) ?_ (by assumption) ?_
          rotate_left
          · intro w hSw; (try dsimp only at hSw); (try go_simp); (try with_reducible rfl)
          try simp only [Act.put, List.setIfInBounds_toArray, List.set_cons_zero, List.set_cons_succ]
          refine takeH (i := 20) (d := some 2) (v := ?_) rfl rfl (by kernel_rfl) (by kernel_rfl) (by kernel_rfl) (fun _ _ _ h => h) (by rfl) ?_ (by assumption) ?_
          rotate_left
          · intro w hSw; (try dsimp only at hSw); (try go_simp); (try with_reducible rfl)
          try simp only [Act.put, List.setIfInBounds_toArray, List.set_cons_zero, List.set_cons_succ]
          refine wpAnyH_done (by kernel_rfl) ?_ _
          have F6 := F.out.trans E6.out
          go_wp2
          go_ret
          exact ⟨rfl, F6⟩
        · skip
          go_simp
          try dsimp only
          refine hK.out _ _ (KW.out _ (((Ext.refl W0).alloc _).alloc _)) (fun hHeld => ?_)
          clear hK K
          try simp only [Act.put, List.setIfInBounds_toArray, List.set_cons_zero, List.set_cons_succ]
          refine oneH (i := 13) (by kernel_rfl) rfl (by rfl) (fun K hK => ?_)
          refine wp_app2_tasks _ _ rfl W0.heap.size (.slice (some ⟨W0.heap.size, 0, none⟩) 0 0) [] (by rfl) ((OwnTasks.lit0 W0 W0.heap.size (Nat.le_refl _)).alloc _) (by simp <;> omega) _ _ _ b (by rfl) (HD.out.2.1.ext (((Ext.refl W0).alloc _).alloc _)) (by unfold lim; simp; omega) ?_
          intro v4 w4 hown hg hk4
          have X4 := Lib.hid (Ext.of_grown (((Ext.refl W0).alloc _).alloc _) hg (by simp))
          rw [List.nil_append] at hown
          have Ho := Lib.hid hown
          have LF := Lib.hid (Tasks.of_heap (c := 1) (grown_heap (w := (W0.alloc (.cells #[] 38)).alloc (.cells #[.int .i64 x.id, .slice na x.need.length nc] 38)) (g := W0.heap.size) (heap2 W0 (.cells #[] 38) (.cells #[.int .i64 x.id, .slice na x.need.length nc] 38)) hg (by omega)) (HD.out.2.2.2.2.1.ext X4.out))
          clear hown hg hk4
          try dsimp only
          refine hK.out _ _ (KW.out _ X4.out) (fun hHeld => ?_)
          clear hK K
          try simp only [Act.put, List.setIfInBounds_toArray, List.set_cons_zero, List.set_cons_succ]
          refine oneH (i := 16) (by kernel_rfl) rfl (by rfl) (fun K hK => ?_)
          refine wp_app_tasks _ _ rfl W0.heap.size _ b (by rfl) (Ho.out) (X4.out.le) _ _ _ [x] (by rfl) (LF.out) (by unfold lim; simp; omega) ?_
          intro v5 w5' hown hkt hbl5
          have X5 := Lib.hid (show Ext W0 w5' from Below.trans X4.out hbl5)
          have Ho5 := Lib.hid hown
          clear hown hkt hbl5
          try dsimp only
          refine hK.out _ _ (KW.out _ X5.out) (fun hHeld => ?_)
          clear hK K
          try simp only [Act.put, List.setIfInBounds_toArray, List.set_cons_zero, List.set_cons_succ]
          obtain ⟨va, vc, rfl⟩ := Ho5.out.form
          have Hb := Lib.hid (Ho5.out.done (by unfold lim; simp; omega))
          have hts : (b ++ [x]).length ≤ 21 := by simp; omega
          have HBx := HB
          clear Ho5
          generalize b ++ [x] = ts at *
          refine oneH (i := 17) (by kernel_rfl) rfl (by rfl) (fun K hK => ?_)
          go_simp
          try dsimp only
          refine hK.out _ _ (KW.out _ (X5.out.alloc _)) (fun hHeld => ?_)
          clear hK K
          try simp only [Act.put, List.setIfInBounds_toArray, List.set_cons_zero, List.set_cons_succ]
          refine oneH (i := 18) (by kernel_rfl) rfl (by rfl) (fun K hK => ?_)
          go_simp
          refine (BinsValid_any _ _ room [ts] _ (HD.out.1.ext (X5.out.alloc _)) (Bins.lit1 Hb.out 1) (by simp; omega)).mono ?_
          rintro e w6 ⟨rfl, hE6⟩
          have E6 := Lib.hid ((X5.out.alloc _).trans hE6)
          clear hE6
          rw [HB.out]
          try dsimp only
          refine hK.out _ _ (KW.out _ E6.out) (fun hHeld => ?_)
          clear hK K
          try simp only [Act.put, List.setIfInBounds_toArray, List.set_cons_zero, List.set_cons_succ]
          refine takeH (i := 19) (d := some 64) (v := ?_) rfl rfl (by kernel_rfl) (by kernel_rfl) (by kernel_rfl) (fun _ _ _ h => h) (by rfl) ?_ (by assumption) ?_
          rotate_left
          · intro w hSw; (try dsimp only at hSw); (try go_simp); (try with_reducible rfl)
          try simp only [Act.put, List.setIfInBounds_toArray, List.set_cons_zero, List.set_cons_succ]
          refine takeH (i := 20) (d := some 2) (v := ?_) rfl rfl (by kernel_rfl) (by kernel_rfl) (by kernel_rfl) (fun _ _ _ h => h) (by rfl) ?_ (by assumption) ?_
          rotate_left
          · intro w hSw; (try dsimp only at hSw); (try go_simp); (try with_reducible rfl)
          try simp only [Act.put, List.setIfInBounds_toArray, List.set_cons_zero, List.set_cons_succ]
          refine wpAnyH_done (by kernel_rfl) ?_ _
          have F6 := F.out.trans E6.out
          go_wp2
          go_ret
          exact ⟨rfl, F6⟩
      · skip
        go_simp
        try dsimp only
        refine hK.out _ _ (KW.out _ ((Ext.refl W0).alloc _)) (fun hHeld => ?_)
        clear hK K
        try simp only [Act.put, List.setIfInBounds_toArray, List.set_cons_zero, List.set_cons_succ]
        refine oneH (i := 11) (by kernel_rfl) rfl (by rfl) (fun K hK => ?_)
        go_simp
        try dsimp only
        refine hK.out _ _ (KW.out _ (((Ext.refl W0).alloc _).alloc _)) (fun hHeld => ?_)
        clear hK K
        try simp only [Act.put, List.setIfInBounds_toArray, List.set_cons_zero, List.set_cons_succ]
        refine oneH (i := 13) (by kernel_rfl) rfl (by rfl) (fun K hK => ?_)
        refine wp_app2_tasks _ _ rfl W0.heap.size (.slice (some ⟨W0.heap.size + 1, 0, none⟩) 0 0) [] (by rfl) (OwnTasks.lit0' (W0.alloc _) W0.heap.size (by simp) (W0.heap.size + 1) (by simp)) (by simp <;> omega) _ _ _ b (by rfl) (HD.out.2.1.ext (((Ext.refl W0).alloc _).alloc _)) (by unfold lim; simp; omega) ?_
        intro v4 w4 hown hg hk4
        have X4 := Lib.hid (Ext.of_grown (((Ext.refl W0).alloc _).alloc _) hg (by simp))
        rw [List.nil_append] at hown
        have Ho := Lib.hid hown
        have LF := Lib.hid (Tasks.of_heap (c := 1) (grown_heap (w := (W0.alloc (.cells #[.int .i64 x.id, .slice na x.need.length nc] 38)).alloc (.cells #[] 38)) (g := W0.heap.size + 1) (heap1 W0 (.cells #[.int .i64 x.id, .slice na x.need.length nc] 38) (.cells #[] 38)) hg (by omega)) (HD.out.2.2.2.2.1.ext X4.out))
        clear hown hg hk4
        try dsimp only
        refine hK.out _ _ (KW.out _ X4.out) (fun hHeld => ?_)
        clear hK K
        try simp only [Act.put, List.setIfInBounds_toArray, List.set_cons_zero, List.set_cons_succ]
        refine oneH (i := 16) (by kernel_rfl) rfl (by rfl) (fun K hK => ?_)
        refine wp_app_tasks _ _ rfl W0.heap.size _ b (by rfl) (Ho.out) (X4.out.le) _ _ _ [x] (by rfl) (LF.out) (by unfold lim; simp; omega) ?_
        intro v5 w5' hown hkt hbl5
        have X5 := Lib.hid (show Ext W0 w5' from Below.trans X4.out hbl5)
        have Ho5 := Lib.hid hown
        clear hown hkt hbl5
        try dsimp only
        refine hK.out _ _ (KW.out _ X5.out) (fun hHeld => ?_)
        clear hK K
        try simp only [Act.put, List.setIfInBounds_toArray, List.set_cons_zero, List.set_cons_succ]
        obtain ⟨va, vc, rfl⟩ := Ho5.out.form
        have Hb := Lib.hid (Ho5.out.done (by unfold lim; simp; omega))
        have hts : (b ++ [x]).length ≤ 21 := by simp; omega
        have HBx := HB
        clear Ho5
        generalize b ++ [x] = ts at *
        refine oneH (i := 17) (by kernel_rfl) rfl (by rfl) (fun K hK => ?_)
        go_simp
        try dsimp only
        refine hK.out _ _ (KW.out _ (X5.out.alloc _)) (fun hHeld => ?_)
        clear hK K
        try simp only [Act.put, List.setIfInBounds_toArray, List.set_cons_zero, List.set_cons_succ]
        refine oneH (i := 18) (by kernel_rfl) rfl (by rfl) (fun K hK => ?_)
        go_simp
        refine (BinsValid_any _ _ room [ts] _ (HD.out.1.ext (X5.out.alloc _)) (Bins.lit1 Hb.out 1) (by simp; omega)).mono ?_
        rintro e w6 ⟨rfl, hE6⟩
        have E6 := Lib.hid ((X5.out.alloc _).trans hE6)
        clear hE6
        rw [HB.out]
        try dsimp only
        refine hK.out _ _ (KW.out _ E6.out) (fun hHeld => ?_)
        clear hK K
        try simp only [Act.put, List.setIfInBounds_toArray, List.set_cons_zero, List.set_cons_succ]
        refine takeH (i := 19) (d := some 64) (v := ?_) rfl rfl (by kernel_rfl) (by kernel_rfl) (by kernel_rfl) (fun _ _ _ h => h) (by rfl) ?_ (by assumption) ?_
        rotate_left
        · intro w hSw; (try dsimp only at hSw); (try go_simp); (try with_reducible rfl)
        try simp only [Act.put, List.setIfInBounds_toArray, List.set_cons_zero, List.set_cons_succ]
        refine takeH (i := 20) (d := some 2) (v := ?_) rfl rfl (by kernel_rfl) (by kernel_rfl) (by kernel_rfl) (fun _ _ _ h => h) (by rfl) ?_ (by assumption) ?_
        rotate_left
        · intro w hSw; (try dsimp only at hSw); (try go_simp); (try with_reducible rfl)
        try simp only [Act.put, List.setIfInBounds_toArray, List.set_cons_zero, List.set_cons_succ]
        refine wpAnyH_done (by kernel_rfl) ?_ _
        have F6 := F.out.trans E6.out
        go_wp2
        go_ret
        exact ⟨rfl, F6⟩

theorem own : ownKnob Try.prog.godebug = none := by kernel_rfl
theorem laidOut : laidOutB Try.prog = true := by kernel_rfl

set_option maxRecDepth 100000 in
theorem lifted (os : Os) (started : os.Started) (H : Type) (enc : TypeId × Value → H) :
    ReturnsInHanded {} Try.checked os 7 .any (Rows.fnBestScoreSpec.pre6 enc Try.prog Try.f7 Rows.fnBestScoreRow.domain false) (Rows.fnBestScoreSpec.post enc Try.prog Try.f7 false true false false) := by
  refine returnsInHanded_of_change (C := Try.checked) own started (by kernel_rfl) Try.func7
    (ChangeSpec.witness6 (enc := enc) (C := Try.checked) false ⟨#[], #[.slice none 0 0], []⟩ 8 (by kernel_rfl) (by kernel_rfl) (by kernel_rfl) (by kernel_rfl)) ?_
  intro W base args ds gs before hval0 hW hcnd _
  have hval : ∀ (j : Nat) t v, Try.f7.params[j]? = some t → args[j]? = some v → Value.okWide Try.prog W .any base t v := hval0
  have hW' := hW
  obtain ⟨p, q, hA0, hV, rfl, hfz, hnd⟩ := hW
  have hA : DataW.TrodAll enc Try.prog W 0 (fun _ => true) true Try.f7.params.toList args.toList ds p := hA0
  rw [Try.params7] at hA hval
  obtain ⟨v0, vs0, d0, ds0, p0, q0, hargs, rfl, rfl, h0, r0⟩ := trodAll_cons hA
  obtain ⟨rfl, rfl, rfl⟩ := trodAll_nil r0
  obtain rfl : args = #[v0] := by cases args; simp_all
  obtain ⟨rfl, rfl⟩ := trodVars_none hV
  have lt0 : ∀ x ∈ p0, x.block < W.heap.size := by obtain ⟨m, hm⟩ := h0; exact DataW.trod_lt m _ _ _ hm
  obtain ⟨x0, e0⟩ := argCode_of h0 (okWide_slice Try.underlying22 (hval 0 22 v0 rfl rfl))
  clear hA0 hval0
  refine (walk v0 x0 W e0).mono fun e W' ⟨he, bel⟩ => ?_
  subst he
  exact ⟨_, rfl, _, _, _, [], _, [], hW', trodAll_mk1 (shut_bool Try.underlying4 _), (trodAll_cons_mk (Below.trod laidOut (by kernel_rfl) (of_decide_eq_true (by kernel_rfl)) h0 bel lt0) trodAll_mk0), rfl, Below.frame bel _, fun h => by cases h⟩

theorem closed : joinedFacts Try.prog 7 Try.f7 Rows.fnBestScoreSpec Rows.fnBestScoreRow = true := by
  unfold joinedFacts
  rw [may_enter, lifts_final, make_cut]
  kernel_rfl

theorem proved : Rows.FnBestScoreSaid :=
  OpenClaim.holds_of_wide 7 Try.f7 rfl rfl rfl rfl rfl rfl rfl ⟨rfl, rfl, rfl, rfl, rfl⟩ rfl rfl rfl rfl rfl (by kernel_rfl) Try.func7 closed
    (of_decide_eq_true (by kernel_rfl)) (by unfold Func.isWrapper; first | (rw [if_pos (by decide +kernel)]; kernel_rfl) | (rw [if_neg (by decide +kernel)]; exact ⟨rfl, rfl⟩))
    (fun os started H enc _ => lifted os started H enc)

end Go.Proofs.Ytipmoedflpjioaa.l30
