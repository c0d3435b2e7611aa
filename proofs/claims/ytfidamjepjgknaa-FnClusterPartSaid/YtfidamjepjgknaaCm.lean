/- Clusters: whether one is valid, by the program. No condition. -/
import Derived.Test.YtfidamjepjgknaaCl
namespace Go.Proofs.Ytfidamjepjgknaa
set_option maxRecDepth 100000
open Go.RowKit

def shutU (u : Un) : Bool := !okU u
set_option maxHeartbeats 1000000 in
theorem validF1_any (u : Un) (n : Value) (w : World) (h : Tasks w n u.ts) :
    Calls Try.prog 22 #[.agg #[.bool u.op, n]] w fun e w' => e = .returned (.bool (shutU u)) ∧ Ext w w' := by
  obtain ⟨ta, tc, rfl, ht⟩ := h.open
  have hl : u.ts.length ≤ 4194304 := ht.1
  have e0 : Ext w (w.alloc (Obj.cells #[.bool u.op, .slice ta u.ts.length tc] 31)) := (Ext.refl w).alloc _
  cases hop : u.op with
  | true =>
    have Hd : Hid (shutU u = false) := by show shutU u = false; simp [shutU, okU, hop]
    rw [hop] at e0
    go_enter Try.func22, Try.ntmps22
    go_wp2
    go_ret
    exact ⟨ret_bool Hd.out.symm, e0⟩
  | false =>
    rw [hop] at e0
    by_cases hz : u.ts.length = 0
    · have Hd : Hid (shutU u = false) := by show shutU u = false; simp [shutU, okU, hz]
      have hz2 : ¬ (0 < (u.ts.length : Int)) := by omega
      have hz3 : decide (0 < (u.ts.length : Int)) = false := by simp [hz]
      have Hz := Lib.hid (List.eq_nil_of_length_eq_zero hz)
      clear hz
      go_enter Try.func22, Try.ntmps22
      go_wp2
      go_ret
      exact ⟨by rw [Hd.out]; simp [Hz.out], e0⟩
    · have Hd : Hid (shutU u = true) := by show shutU u = true; simp [shutU, okU, hop, hz]
      have hz2 : 0 < u.ts.length := by omega
      clear hz
      go_enter Try.func22, Try.ntmps22
      go_wp2
      go_ret
      exact ⟨by first | exact ret_bool Hd.out.symm | (rw [Hd.out]; simp [hz2]) | (rw [Hd.out]; simp; omega), e0⟩

set_option maxHeartbeats 1000000 in
theorem indexFuncU_any (v : Value) (us : List Un) (w : World) (h : Units w v us) :
    Calls Try.prog 41 #[v, .func (.func 22) #[] #[]] w fun e w' => e = .returned (.int .i64 (nodeI (us.findIdx? shutU))) ∧ Ext w w' := by
  obtain ⟨a, cap, rfl, h⟩ := h.open
  have hl : us.length ≤ 4194304 := h.1
  go_enter Try.func41, Try.ntmps41
  go_wp2
  go_loopw [8] (fun i wr => ∃ k : Nat, k ≤ us.length ∧ i = .int .i64 k ∧ Ext w wr ∧ ∀ j (hj : j < us.length), j < k → shutU us[j] = false) (fun i _ => us.length - (intOf i).toNat)
  case atStart => exact ⟨0, by omega, rfl, Ext.refl _, fun _ _ h => by omega⟩
  case round =>
    obtain ⟨k, hk, rfl, hE, hg⟩ := hrel
    have Hg := Lib.hid hg
    clear hg
    by_cases hlt : k < us.length
    · obtain ⟨b, off, nd, rfl, c0, c1, ht⟩ := h.at hlt
      have c0' := hE.cell c0
      have c1' := hE.cell c1
      have Ht := Lib.hid (ht.ext hE)
      obtain ⟨ta, tc, rfl, -⟩ := Ht.out.open
      clear c0 c1 ht
      cases hb : shutU us[k] with
      | true =>
        have Hd := Lib.hid (find_some Hg.out hlt hb)
        go_wp2_with (go_at_call 22; have cc := validF1_any us[k] _ _ Ht.out; rw [hb] at cc; refine cc.mono ?_; clear cc; rintro e w1 ⟨rfl, hE1⟩)
        go_ret
        exact ⟨ret_int (by rw [Hd.out]; rfl), hE.trans hE1⟩
      | false =>
        have Hd : Hid (∀ j (hj : j < us.length), j < k + 1 → shutU us[j] = false) := by
          intro j hj hjk
          by_cases e : j = k
          · subst e; exact hb
          · exact Hg.out j hj (by omega)
        go_wp2_with (go_at_call 22; have cc := validF1_any us[k] _ _ Ht.out; rw [hb] at cc; refine cc.mono ?_; clear cc; rintro e w1 ⟨rfl, hE1⟩)
        have hE2 := hE.trans hE1
        clear hE hE1
        go_roundw
        case rel => exact ⟨k + 1, by omega, by go_num, hE2, Hd.out⟩
        case measure => simp [intOf]; omega
    · have e : k = us.length := by omega
      subst e
      have Hd := Lib.hid (find_none (p := shutU) fun j hj => Hg.out j hj hj)
      go_wp2
      go_ret
      exact ⟨ret_int (by rw [Hd.out]; rfl), hE⟩

set_option maxHeartbeats 400000 in
theorem containsFuncU_any (v : Value) (us : List Un) (w : World) (h : Units w v us) :
    Calls Try.prog 21 #[v, .func (.func 22) #[] #[]] w fun e w' => e = .returned (.bool (us.any shutU)) ∧ Ext w w' := by
  have Hd := Lib.hid (nodeI_some.trans (any_find shutU us))
  generalize hz : nodeI (us.findIdx? shutU) = z at *
  go_enter Try.func21, Try.ntmps21
  go_wp2_with fail
  have cc := indexFuncU_any _ _ _ h
  rw [hz] at cc
  clear hz
  refine cc.mono ?_
  clear cc
  rintro e w1 ⟨rfl, hE⟩
  go_wp2
  go_ret
  exact ⟨ret_bool Hd.out, hE⟩
theorem all_shut (us : List Un) : us.all okU = !us.any shutU := by
  induction us with
  | nil => rfl
  | cons u us ih => simp only [List.all_cons, List.any_cons, ih, shutU]; cases okU u <;> simp

set_option maxHeartbeats 4000000 in
theorem ClusterValid_any (v : Value) (c : C) (w : World) (h : Clu w v c) (hw : weighC c ≤ 2097152) :
    Calls Try.prog 7 #[v] w fun e w' => e = .returned (.bool (clusterB c)) ∧ Ext w w' := by
  have HF := Lib.hid (flatC hw)
  have hul : c.us.length ≤ 2097152 := by unfold weighC weighU at hw; omega
  obtain ⟨ra, rc, ua, uc, rfl, hr, hu⟩ := h.open
  have e0 : Ext w (w.alloc (Obj.cells #[.slice ra c.room.length rc, .slice ua c.us.length uc] 26)) := (Ext.refl w).alloc _
  have R0 := Lib.hid (heap_alloc_new w (Obj.cells #[.slice ra c.room.length rc, .slice ua c.us.length uc] 26))
  clear hw
  have Hcl : Hid (clusterB c = (!c.us.any shutU && (inB (c.us.length : Int) 1 10 && binsB c.room (binsC c.us)))) := by show clusterB c = _; unfold clusterB; rw [all_shut]
  go_enter Try.func7, Try.ntmps7
  cases hin : inB (c.us.length : Int) 1 10 with
  | false =>
    have Hd : Hid (clusterB c = false) := by show clusterB c = false; rw [Hcl.out, hin]; simp
    go_wp2_with fail
    generalize w.alloc (Obj.cells #[.slice ra c.room.length rc, .slice ua c.us.length uc] 26) = W at *
    have E0 := Lib.hid e0
    clear e0
    refine wp_region_held_drew (S := fun w' => w'.heap[w.heap.size]? = some (Obj.cells #[.slice ra c.room.length rc, .slice ua c.us.length uc] 26)) (by kernel_rfl) (R0.out) (fun hHeld => ?_)
    refine takeH (i := 0) (d := some 3) (v := ?_) rfl rfl (by kernel_rfl) (by kernel_rfl) (by kernel_rfl) (fun _ _ _ h => h) (by rfl) ?_ (by assumption) ?_
    rotate_left
    · intro w hSw; (try dsimp only at hSw); (try go_simp); (try with_reducible rfl)
    try simp only [Act.put, List.setIfInBounds_toArray, List.set_cons_zero, List.set_cons_succ]
    refine takeH (i := 1) (d := some 4) (v := ?_) rfl rfl (by kernel_rfl) (by kernel_rfl) (by kernel_rfl) (fun _ _ _ h => h) (by rfl) ?_ (by assumption) ?_
    rotate_left
    · intro w hSw; (try dsimp only at hSw); (try have l0 := cell_of_heap hSw 0; have l1 := cell_of_heap hSw 1; go_simp); (try with_reducible rfl)
    try simp only [Act.put, List.setIfInBounds_toArray, List.set_cons_zero, List.set_cons_succ]
    refine takeH (i := 2) (d := some 5) (v := ?_) rfl rfl (by kernel_rfl) (by kernel_rfl) (by kernel_rfl) (fun _ _ _ h => h) (by rfl) ?_ (by assumption) ?_
    rotate_left
    · intro w hSw; (try dsimp only at hSw); (try go_simp); (try with_reducible rfl)
    try simp only [Act.put, List.setIfInBounds_toArray, List.set_cons_zero, List.set_cons_succ]
    refine oneH (i := 3) (by kernel_rfl) rfl (by rfl) (fun K hK => ?_)
    go_simp
    have cc := within_any (c.us.length : Int) 1 10 W.drew; rw [hin] at cc; refine cc.mono ?_; clear cc; rintro e w1 ⟨rfl, rfl⟩
    try dsimp only
    refine hK.out _ _ (hHeld) (fun hHeld => ?_)
    clear hK K
    try simp only [Act.put, List.setIfInBounds_toArray, List.set_cons_zero, List.set_cons_succ]
    refine takeH (i := 4) (d := some 7) (v := ?_) rfl rfl (by kernel_rfl) (by kernel_rfl) (by kernel_rfl) (fun _ _ _ h => h) (by rfl) ?_ (by assumption) ?_
    rotate_left
    · intro w hSw; (try dsimp only at hSw); (try go_simp); (try with_reducible rfl)
    try simp only [Act.put, List.setIfInBounds_toArray, List.set_cons_zero, List.set_cons_succ]
    refine takeH (i := 5) (d := some 8) (v := ?_) rfl rfl (by kernel_rfl) (by kernel_rfl) (by kernel_rfl) (fun _ _ _ h => h) (by rfl) ?_ (by assumption) ?_
    rotate_left
    · intro w hSw; (try dsimp only at hSw); (try go_simp); (try with_reducible rfl)
    try simp only [Act.put, List.setIfInBounds_toArray, List.set_cons_zero, List.set_cons_succ]
    refine skipH (i := 6) (d := some 9) rfl rfl (by kernel_rfl) (by kernel_rfl) (by kernel_rfl) (fun _ _ _ h => h) (by rfl) (by assumption) ?_
    try simp only [Act.put, List.setIfInBounds_toArray, List.set_cons_zero, List.set_cons_succ]
    refine skipH (i := 7) (d := some 10) rfl rfl (by kernel_rfl) (by kernel_rfl) (by kernel_rfl) (fun _ _ _ h => h) (by rfl) (by assumption) ?_
    try simp only [Act.put, List.setIfInBounds_toArray, List.set_cons_zero, List.set_cons_succ]
    refine skipH (i := 8) (d := some 11) rfl rfl (by kernel_rfl) (by kernel_rfl) (by kernel_rfl) (fun _ _ _ h => h) (by rfl) (by assumption) ?_
    try simp only [Act.put, List.setIfInBounds_toArray, List.set_cons_zero, List.set_cons_succ]
    refine skipH (i := 9) (d := some 12) rfl rfl (by kernel_rfl) (by kernel_rfl) (by kernel_rfl) (fun _ _ _ h => h) (by rfl) (by assumption) ?_
    try simp only [Act.put, List.setIfInBounds_toArray, List.set_cons_zero, List.set_cons_succ]
    refine skipH (i := 10) (d := some 13) rfl rfl (by kernel_rfl) (by kernel_rfl) (by kernel_rfl) (fun _ _ _ h => h) (by rfl) (by assumption) ?_
    try simp only [Act.put, List.setIfInBounds_toArray, List.set_cons_zero, List.set_cons_succ]
    refine skipH (i := 11) (d := some 14) rfl rfl (by kernel_rfl) (by kernel_rfl) (by kernel_rfl) (fun _ _ _ h => h) (by rfl) (by assumption) ?_
    try simp only [Act.put, List.setIfInBounds_toArray, List.set_cons_zero, List.set_cons_succ]
    refine takeH (i := 12) (d := some 15) (v := ?_) rfl rfl (by kernel_rfl) (by kernel_rfl) (by kernel_rfl) (fun _ _ _ h => h) (by rfl) ?_ (by assumption) ?_
    rotate_left
    · intro w hSw; (try dsimp only at hSw); (try go_simp); (try with_reducible rfl)
    try simp only [Act.put, List.setIfInBounds_toArray, List.set_cons_zero, List.set_cons_succ]
    refine wpAnyH_done (by kernel_rfl) ?_ _
    go_wp2_with fail
    go_ret
    exact ⟨ret_bool Hd.out.symm, E0.out.drew⟩
  | true =>
    have ul := inB_iff.1 hin
    have ul10 : c.us.length ≤ 10 := by omega
    cases hbb : binsB c.room (binsC c.us) with
    | false =>
      have Hd : Hid (clusterB c = false) := by show clusterB c = false; rw [Hcl.out, hin, hbb]; simp
      go_wp2_with fail
      generalize w.alloc (Obj.cells #[.slice ra c.room.length rc, .slice ua c.us.length uc] 26) = W at *
      have E0 := Lib.hid e0
      have Hr := Lib.hid (hr.ext e0)
      have HC := Lib.hid (h.ext e0)
      clear e0
      refine wp_region_held_drew (S := fun w' => w'.heap[w.heap.size]? = some (Obj.cells #[.slice ra c.room.length rc, .slice ua c.us.length uc] 26)) (by kernel_rfl) (R0.out) (fun hHeld => ?_)
      refine takeH (i := 0) (d := some 3) (v := ?_) rfl rfl (by kernel_rfl) (by kernel_rfl) (by kernel_rfl) (fun _ _ _ h => h) (by rfl) ?_ (by assumption) ?_
      rotate_left
      · intro w hSw; (try dsimp only at hSw); (try go_simp); (try with_reducible rfl)
      try simp only [Act.put, List.setIfInBounds_toArray, List.set_cons_zero, List.set_cons_succ]
      refine takeH (i := 1) (d := some 4) (v := ?_) rfl rfl (by kernel_rfl) (by kernel_rfl) (by kernel_rfl) (fun _ _ _ h => h) (by rfl) ?_ (by assumption) ?_
      rotate_left
      · intro w hSw; (try dsimp only at hSw); (try have l0 := cell_of_heap hSw 0; have l1 := cell_of_heap hSw 1; go_simp); (try with_reducible rfl)
      try simp only [Act.put, List.setIfInBounds_toArray, List.set_cons_zero, List.set_cons_succ]
      refine takeH (i := 2) (d := some 5) (v := ?_) rfl rfl (by kernel_rfl) (by kernel_rfl) (by kernel_rfl) (fun _ _ _ h => h) (by rfl) ?_ (by assumption) ?_
      rotate_left
      · intro w hSw; (try dsimp only at hSw); (try go_simp); (try with_reducible rfl)
      try simp only [Act.put, List.setIfInBounds_toArray, List.set_cons_zero, List.set_cons_succ]
      refine oneH (i := 3) (by kernel_rfl) rfl (by rfl) (fun K hK => ?_)
      go_simp
      have cc := within_any (c.us.length : Int) 1 10 W.drew; rw [hin] at cc; refine cc.mono ?_; clear cc; rintro e w1 ⟨rfl, rfl⟩
      try dsimp only
      refine hK.out _ _ (hHeld) (fun hHeld => ?_)
      clear hK K
      try simp only [Act.put, List.setIfInBounds_toArray, List.set_cons_zero, List.set_cons_succ]
      refine takeH (i := 4) (d := some 7) (v := ?_) rfl rfl (by kernel_rfl) (by kernel_rfl) (by kernel_rfl) (fun _ _ _ h => h) (by rfl) ?_ (by assumption) ?_
      rotate_left
      · intro w hSw; (try dsimp only at hSw); (try go_simp); (try with_reducible rfl)
      try simp only [Act.put, List.setIfInBounds_toArray, List.set_cons_zero, List.set_cons_succ]
      refine takeH (i := 5) (d := some 8) (v := ?_) rfl rfl (by kernel_rfl) (by kernel_rfl) (by kernel_rfl) (fun _ _ _ h => h) (by rfl) ?_ (by assumption) ?_
      rotate_left
      · intro w hSw; (try dsimp only at hSw); (try go_simp); (try with_reducible rfl)
      try simp only [Act.put, List.setIfInBounds_toArray, List.set_cons_zero, List.set_cons_succ]
      refine takeH (i := 6) (d := some 9) (v := ?_) rfl rfl (by kernel_rfl) (by kernel_rfl) (by kernel_rfl) (fun _ _ _ h => h) (by rfl) ?_ (by assumption) ?_
      rotate_left
      · intro w hSw; (try dsimp only at hSw); (try go_simp); (try with_reducible rfl)
      try simp only [Act.put, List.setIfInBounds_toArray, List.set_cons_zero, List.set_cons_succ]
      refine takeH (i := 7) (d := some 10) (v := ?_) rfl rfl (by kernel_rfl) (by kernel_rfl) (by kernel_rfl) (fun _ _ _ h => h) (by rfl) ?_ (by assumption) ?_
      rotate_left
      · intro w hSw; (try dsimp only at hSw); (try have l0 := cell_of_heap hSw 0; have l1 := cell_of_heap hSw 1; go_simp); (try with_reducible rfl)
      try simp only [Act.put, List.setIfInBounds_toArray, List.set_cons_zero, List.set_cons_succ]
      refine takeH (i := 8) (d := some 11) (v := ?_) rfl rfl (by kernel_rfl) (by kernel_rfl) (by kernel_rfl) (fun _ _ _ h => h) (by rfl) ?_ (by assumption) ?_
      rotate_left
      · intro w hSw; (try dsimp only at hSw); (try have l0 := cell_of_heap hSw 0; have l1 := cell_of_heap hSw 1; go_simp); (try with_reducible rfl)
      try simp only [Act.put, List.setIfInBounds_toArray, List.set_cons_zero, List.set_cons_succ]
      refine oneH (i := 9) (by kernel_rfl) rfl (by rfl) (fun K hK => ?_)
      go_simp
      refine (bins_any _ c W.drew (HC.out.ext (Ext.refl W).drew) ul10).mono ?_; rintro e w2 ⟨rb, rfl, hE2, hb2⟩; have X1 := Lib.hid ((E0.out.drew).trans hE2); have Y1 := Lib.hid ((Ext.refl W).drew.trans hE2); have HB2 := Lib.hid (hb2.done (by rw [binsC_len]; unfold lim; omega)); obtain ⟨ba, bc, hbf, hb3⟩ := HB2.out.open; subst hbf; clear hE2 hb2 hb3
      try dsimp only
      refine hK.out _ _ ((Y1.out.block (lt_of_heap R0.out)).trans R0.out) (fun hHeld => ?_)
      clear hK K
      try simp only [Act.put, List.setIfInBounds_toArray, List.set_cons_zero, List.set_cons_succ]
      refine oneH (i := 10) (by kernel_rfl) rfl (by rfl) (fun K hK => ?_)
      go_simp
      have cc := BinsValid_any _ _ c.room (binsC c.us) _ (Hr.out.ext Y1.out) HB2.out HF.out; rw [hbb] at cc; refine cc.mono ?_; clear cc; rintro e w3 ⟨rfl, hE3⟩; have X2 := Lib.hid (X1.out.trans hE3); have Y2 := Lib.hid (Y1.out.trans hE3); clear hE3
      try dsimp only
      refine hK.out _ _ ((Y2.out.block (lt_of_heap R0.out)).trans R0.out) (fun hHeld => ?_)
      clear hK K
      try simp only [Act.put, List.setIfInBounds_toArray, List.set_cons_zero, List.set_cons_succ]
      refine takeH (i := 11) (d := some 14) (v := ?_) rfl rfl (by kernel_rfl) (by kernel_rfl) (by kernel_rfl) (fun _ _ _ h => h) (by rfl) ?_ (by assumption) ?_
      rotate_left
      · intro w hSw; (try dsimp only at hSw); (try go_simp); (try with_reducible rfl)
      try simp only [Act.put, List.setIfInBounds_toArray, List.set_cons_zero, List.set_cons_succ]
      refine takeH (i := 12) (d := some 15) (v := ?_) rfl rfl (by kernel_rfl) (by kernel_rfl) (by kernel_rfl) (fun _ _ _ h => h) (by rfl) ?_ (by assumption) ?_
      rotate_left
      · intro w hSw; (try dsimp only at hSw); (try go_simp); (try with_reducible rfl)
      try simp only [Act.put, List.setIfInBounds_toArray, List.set_cons_zero, List.set_cons_succ]
      refine wpAnyH_done (by kernel_rfl) ?_ _
      go_wp2_with fail
      go_ret
      exact ⟨ret_bool Hd.out.symm, X2.out⟩
    | true =>
      have Hd : Hid (clusterB c = !c.us.any shutU) := by show clusterB c = _; rw [Hcl.out, hin, hbb]; simp
      go_wp2_with fail
      generalize w.alloc (Obj.cells #[.slice ra c.room.length rc, .slice ua c.us.length uc] 26) = W at *
      have E0 := Lib.hid e0
      have Hr := Lib.hid (hr.ext e0)
      have HC := Lib.hid (h.ext e0)
      have Hu := Lib.hid (hu.ext e0)
      clear e0
      refine wp_region_held_drew (S := fun w' => w'.heap[w.heap.size]? = some (Obj.cells #[.slice ra c.room.length rc, .slice ua c.us.length uc] 26)) (by kernel_rfl) (R0.out) (fun hHeld => ?_)
      refine takeH (i := 0) (d := some 3) (v := ?_) rfl rfl (by kernel_rfl) (by kernel_rfl) (by kernel_rfl) (fun _ _ _ h => h) (by rfl) ?_ (by assumption) ?_
      rotate_left
      · intro w hSw; (try dsimp only at hSw); (try go_simp); (try with_reducible rfl)
      try simp only [Act.put, List.setIfInBounds_toArray, List.set_cons_zero, List.set_cons_succ]
      refine takeH (i := 1) (d := some 4) (v := ?_) rfl rfl (by kernel_rfl) (by kernel_rfl) (by kernel_rfl) (fun _ _ _ h => h) (by rfl) ?_ (by assumption) ?_
      rotate_left
      · intro w hSw; (try dsimp only at hSw); (try have l0 := cell_of_heap hSw 0; have l1 := cell_of_heap hSw 1; go_simp); (try with_reducible rfl)
      try simp only [Act.put, List.setIfInBounds_toArray, List.set_cons_zero, List.set_cons_succ]
      refine takeH (i := 2) (d := some 5) (v := ?_) rfl rfl (by kernel_rfl) (by kernel_rfl) (by kernel_rfl) (fun _ _ _ h => h) (by rfl) ?_ (by assumption) ?_
      rotate_left
      · intro w hSw; (try dsimp only at hSw); (try go_simp); (try with_reducible rfl)
      try simp only [Act.put, List.setIfInBounds_toArray, List.set_cons_zero, List.set_cons_succ]
      refine oneH (i := 3) (by kernel_rfl) rfl (by rfl) (fun K hK => ?_)
      go_simp
      have cc := within_any (c.us.length : Int) 1 10 W.drew; rw [hin] at cc; refine cc.mono ?_; clear cc; rintro e w1 ⟨rfl, rfl⟩
      try dsimp only
      refine hK.out _ _ (hHeld) (fun hHeld => ?_)
      clear hK K
      try simp only [Act.put, List.setIfInBounds_toArray, List.set_cons_zero, List.set_cons_succ]
      refine takeH (i := 4) (d := some 7) (v := ?_) rfl rfl (by kernel_rfl) (by kernel_rfl) (by kernel_rfl) (fun _ _ _ h => h) (by rfl) ?_ (by assumption) ?_
      rotate_left
      · intro w hSw; (try dsimp only at hSw); (try go_simp); (try with_reducible rfl)
      try simp only [Act.put, List.setIfInBounds_toArray, List.set_cons_zero, List.set_cons_succ]
      refine takeH (i := 5) (d := some 8) (v := ?_) rfl rfl (by kernel_rfl) (by kernel_rfl) (by kernel_rfl) (fun _ _ _ h => h) (by rfl) ?_ (by assumption) ?_
      rotate_left
      · intro w hSw; (try dsimp only at hSw); (try go_simp); (try with_reducible rfl)
      try simp only [Act.put, List.setIfInBounds_toArray, List.set_cons_zero, List.set_cons_succ]
      refine takeH (i := 6) (d := some 9) (v := ?_) rfl rfl (by kernel_rfl) (by kernel_rfl) (by kernel_rfl) (fun _ _ _ h => h) (by rfl) ?_ (by assumption) ?_
      rotate_left
      · intro w hSw; (try dsimp only at hSw); (try go_simp); (try with_reducible rfl)
      try simp only [Act.put, List.setIfInBounds_toArray, List.set_cons_zero, List.set_cons_succ]
      refine takeH (i := 7) (d := some 10) (v := ?_) rfl rfl (by kernel_rfl) (by kernel_rfl) (by kernel_rfl) (fun _ _ _ h => h) (by rfl) ?_ (by assumption) ?_
      rotate_left
      · intro w hSw; (try dsimp only at hSw); (try have l0 := cell_of_heap hSw 0; have l1 := cell_of_heap hSw 1; go_simp); (try with_reducible rfl)
      try simp only [Act.put, List.setIfInBounds_toArray, List.set_cons_zero, List.set_cons_succ]
      refine takeH (i := 8) (d := some 11) (v := ?_) rfl rfl (by kernel_rfl) (by kernel_rfl) (by kernel_rfl) (fun _ _ _ h => h) (by rfl) ?_ (by assumption) ?_
      rotate_left
      · intro w hSw; (try dsimp only at hSw); (try have l0 := cell_of_heap hSw 0; have l1 := cell_of_heap hSw 1; go_simp); (try with_reducible rfl)
      try simp only [Act.put, List.setIfInBounds_toArray, List.set_cons_zero, List.set_cons_succ]
      refine oneH (i := 9) (by kernel_rfl) rfl (by rfl) (fun K hK => ?_)
      go_simp
      refine (bins_any _ c W.drew (HC.out.ext (Ext.refl W).drew) ul10).mono ?_; rintro e w2 ⟨rb, rfl, hE2, hb2⟩; have X1 := Lib.hid ((E0.out.drew).trans hE2); have Y1 := Lib.hid ((Ext.refl W).drew.trans hE2); have HB2 := Lib.hid (hb2.done (by rw [binsC_len]; unfold lim; omega)); obtain ⟨ba, bc, hbf, hb3⟩ := HB2.out.open; subst hbf; clear hE2 hb2 hb3
      try dsimp only
      refine hK.out _ _ ((Y1.out.block (lt_of_heap R0.out)).trans R0.out) (fun hHeld => ?_)
      clear hK K
      try simp only [Act.put, List.setIfInBounds_toArray, List.set_cons_zero, List.set_cons_succ]
      refine oneH (i := 10) (by kernel_rfl) rfl (by rfl) (fun K hK => ?_)
      go_simp
      have cc := BinsValid_any _ _ c.room (binsC c.us) _ (Hr.out.ext Y1.out) HB2.out HF.out; rw [hbb] at cc; refine cc.mono ?_; clear cc; rintro e w3 ⟨rfl, hE3⟩; have X2 := Lib.hid (X1.out.trans hE3); have Y2 := Lib.hid (Y1.out.trans hE3); clear hE3
      try dsimp only
      refine hK.out _ _ ((Y2.out.block (lt_of_heap R0.out)).trans R0.out) (fun hHeld => ?_)
      clear hK K
      try simp only [Act.put, List.setIfInBounds_toArray, List.set_cons_zero, List.set_cons_succ]
      refine takeH (i := 11) (d := some 14) (v := ?_) rfl rfl (by kernel_rfl) (by kernel_rfl) (by kernel_rfl) (fun _ _ _ h => h) (by rfl) ?_ (by assumption) ?_
      rotate_left
      · intro w hSw; (try dsimp only at hSw); (try go_simp); (try with_reducible rfl)
      try simp only [Act.put, List.setIfInBounds_toArray, List.set_cons_zero, List.set_cons_succ]
      refine takeH (i := 12) (d := some 15) (v := ?_) rfl rfl (by kernel_rfl) (by kernel_rfl) (by kernel_rfl) (fun _ _ _ h => h) (by rfl) ?_ (by assumption) ?_
      rotate_left
      · intro w hSw; (try dsimp only at hSw); (try go_simp); (try with_reducible rfl)
      try simp only [Act.put, List.setIfInBounds_toArray, List.set_cons_zero, List.set_cons_succ]
      refine wpAnyH_done (by kernel_rfl) ?_ _
      have rz := (Y2.out.block (lt_of_heap R0.out)).trans R0.out
      have z1 := cell_of_heap rz 1
      go_wp2_with fail
      refine (containsFuncU_any _ _ _ (Hu.out.ext Y2.out)).mono ?_
      rintro e w4 ⟨rfl, hE4⟩
      go_wp2
      go_ret
      exact ⟨ret_bool Hd.out.symm, X2.out.trans hE4⟩


end Go.Proofs.Ytfidamjepjgknaa
