/- Clusters: the nodes' tasks, whether a cluster is valid, where a task is; by the program and by the reference. No condition. -/
import Derived.Test.YtfidamjepjgknaaUn
import Derived.Test.YtfidamjepjgknaaS9
import Derived.Test.YtfidamjepjgknaaReg
namespace Go.Proofs.Ytfidamjepjgknaa
set_option maxRecDepth 100000
open Go.RowKit

theorem Clu.open {w : World} {v : Value} {c : C} (h : Clu w v c) : ∃ ra rc ua uc, v = .agg #[.slice ra c.room.length rc, .slice ua c.us.length uc] ∧ Ints w (.slice ra c.room.length rc) c.room ∧ Units w (.slice ua c.us.length uc) c.us := by
  obtain ⟨r, u, rfl, hr, hu⟩ := h
  obtain ⟨ra, rc, rfl, hr⟩ := hr.open
  obtain ⟨ua, uc, rfl, hu⟩ := hu.open
  exact ⟨ra, rc, ua, uc, rfl, hr, hu⟩
theorem binsC_step {us : List Un} {k : Nat} (h : k < us.length) : binsC (us.take (k + 1)) = binsC (us.take k) ++ [us[k].ts] := by
  rw [binsC_take, binsC_take, List.take_succ_eq_append_getElem (by rw [binsC_len]; exact h), binsC_get h]
def okU (u : Un) : Bool := u.op || decide (u.ts.length = 0)
def clusterB (c : C) : Bool := c.us.all okU && (inB (c.us.length : Int) 1 10 && binsB c.room (binsC c.us))
theorem clu_bad {c : C} {k : Nat} (h : k < c.us.length) (hb : okU c.us[k] = false) : clusterB c = false := by
  unfold clusterB
  have : c.us.all okU = false := by
    rw [Bool.eq_false_iff]
    intro e
    rw [List.all_eq_true] at e
    have := e _ (List.getElem_mem h)
    rw [hb] at this; cases this
  rw [this]; rfl
theorem clu_all {c : C} (h : ∀ k (hk : k < c.us.length), okU c.us[k] = true) : c.us.all okU = true := by
  rw [List.all_eq_true]
  intro u hu
  obtain ⟨k, hk, rfl⟩ := List.getElem_of_mem hu
  exact h k hk
theorem flatC {c : C} (h : weighC c ≤ 2097152) : (binsC c.us).flatten.length ≤ 2097152 := by
  have := flat_le (binsC c.us)
  unfold weighC weighU at h
  omega

set_option maxHeartbeats 1000000 in
theorem l21Bins_any (v : Value) (c : C) (w : World) (h : Clu w v c) :
    Calls Try.prog 25 #[v] w fun e w' => ∃ r, e = .returned r ∧ Ext w w' ∧ OwnBins w' w.heap.size r (binsC c.us) := by
  obtain ⟨ra, rc, ua, uc, rfl, hr, hu⟩ := h.open
  have hul : c.us.length ≤ 4194304 := hu.1
  have e0 : Ext w (w.alloc (Obj.cells #[.slice ra c.room.length rc, .slice ua c.us.length uc] 26)) := (Ext.refl w).alloc _
  have R0 := Lib.hid (heap_alloc_new w (Obj.cells #[.slice ra c.room.length rc, .slice ua c.us.length uc] 26))
  go_enter Try.func25, Try.ntmps25
  go_wp2
  have sz : (w.alloc (Obj.cells #[.slice ra c.room.length rc, .slice ua c.us.length uc] 26)).heap.size = w.heap.size + 1 := by simp
  generalize w.alloc (Obj.cells #[.slice ra c.room.length rc, .slice ua c.us.length uc] 26) = W at *
  have E0 := Lib.hid e0
  have Hu := Lib.hid (hu.ext e0)
  have lw := e0.le
  clear e0 hr hu
  go_loopw [3, 4] (fun s i wr => ∃ k : Nat, k ≤ c.us.length ∧ i = .int .i64 k ∧ Ext W wr ∧ OwnBins wr W.heap.size s (binsC (c.us.take k))) (fun _ i _ => c.us.length - (intOf i).toNat)
  case atStart => exact ⟨0, by omega, rfl, (Ext.refl W).alloc _, by simpa [binsC] using OwnBins.lit0' W W.heap.size (Nat.le_refl _) _ sz.symm⟩
  case round =>
    obtain ⟨k, hk, rfl, hE, hs⟩ := hrel
    have r1 := (hE.block (lt_of_heap R0.out)).trans R0.out
    have x0 := cell_of_heap r1 0
    have x1 := cell_of_heap r1 1
    have Hs := Lib.hid hs
    clear hs r1
    by_cases hlt : k < c.us.length
    · obtain ⟨b, off, nd, rfl, -, c1, ht⟩ := Hu.out.at hlt
      have c1' := hE.cell c1
      obtain ⟨ta, tc, rfl, ht'⟩ := (ht.ext hE).open
      have Ht := Lib.hid ht'
      have Hst := Lib.hid (binsC_step hlt)
      have b0 : (0 : Int) ≤ (k : Int) := by omega
      have b1 : (k : Int) < (c.us.length : Int) := by omega
      have Tl := Lib.hid (show (binsC (c.us.take k)).length = k by rw [binsC_len, List.length_take]; omega)
      clear c1 ht ht'
      go_wp2_with (at_builtin; refine app_bins rfl _ _ rfl W.heap.size _ _ rfl (Hs.out.alloc _) (by have := hE.le; simp; omega) _ _ _ [c.us[k].ts] rfl (Bins.lit1 Ht.out 1) (by rw [Tl.out]; unfold lim; simp; omega) ?_; intro v' w1 hown hkt hbl)
      have hE1 := (hE.alloc _).below hbl
      have Ho := Lib.hid (show OwnBins w1 W.heap.size v' (binsC (c.us.take (k + 1))) by rw [Hst.out]; exact hown)
      clear hown hkt hbl hE
      go_roundw
      case rel => exact ⟨k + 1, by omega, by go_num, hE1, Ho.out⟩
      case measure => simp [intOf]; omega
    · have e : k = c.us.length := by omega
      subst e
      have Ho := Lib.hid (show OwnBins wr W.heap.size _ (binsC c.us) by have := Hs.out; rwa [List.take_length] at this)
      have b1 : ¬ ((c.us.length : Int) < (c.us.length : Int)) := by omega
      clear Hs
      go_wp2
      go_ret
      exact ⟨_, rfl, E0.out.trans hE, by obtain ⟨xs, o1, o2⟩ := Ho.out; exact ⟨xs, ownsRow_base o1 lw, o2⟩⟩

set_option maxHeartbeats 1000000 in
theorem bins_any (v : Value) (c : C) (w : World) (h : Clu w v c) (hl : c.us.length ≤ 10) :
    Calls Try.prog 20 #[v] w fun e w' => ∃ r, e = .returned r ∧ Ext w w' ∧ OwnBins w' w.heap.size r (binsC c.us) := by
  obtain ⟨ra, rc, ua, uc, rfl, hr, hu⟩ := h.open
  have e0 : Ext w (w.alloc (Obj.cells #[.slice ra c.room.length rc, .slice ua c.us.length uc] 26)) := (Ext.refl w).alloc _
  have R0 := Lib.hid (heap_alloc_new w (Obj.cells #[.slice ra c.room.length rc, .slice ua c.us.length uc] 26))
  obtain ⟨i0, hi, hz, hs, hby⟩ := info_parts info_bin
  go_enter Try.func20, Try.ntmps20
  have x0 := cell_of_heap R0.out 0
  have x1 := cell_of_heap R0.out 1
  go_wp2_with (at_make; refine wpList_make_own _ rfl _ _ 46 rfl w.heap.size 29 i0 (.slice none 0 0) 1 under_bins hi hz hs .i64 .i64 _ c.us.length rfl rfl rfl (by rw [hby]; omega) (by unfold maxLen; omega) (by simp) ?_; intro w1 hown hg; have hE1 : Ext (w.alloc (Obj.cells #[.slice ra c.room.length rc, .slice ua c.us.length uc] 26)) w1 := Below.grown (Below.refl _ _) hg (Nat.le_refl _) (by simp); have E1 := Lib.hid (e0.trans hE1); have r1 := (hE1.block (lt_of_heap R0.out)).trans R0.out; have y0 := cell_of_heap r1 0; have y1 := cell_of_heap r1 1)
  have Hu := Lib.hid hu
  have Ho := Lib.hid (show OwnBins w1 w.heap.size _ [] from ⟨[], hown, BinCells.nil _⟩)
  clear hown hg hE1 hi hz hs hby x0 x1 hr hu r1
  go_loopw [3, 13] (fun s i wr => ∃ k : Nat, k ≤ c.us.length ∧ i = .int .i64 k ∧ Ext w wr ∧ OwnBins wr w.heap.size s (binsC (c.us.take k))) (fun _ i _ => c.us.length - (intOf i).toNat)
  case atStart => exact ⟨0, by omega, rfl, E1.out, by simpa [binsC] using Ho.out⟩
  case round =>
    clear Ho E1 y0 y1
    obtain ⟨k, hk, rfl, hE, hs⟩ := hrel
    have Hs := Lib.hid hs
    clear hs
    by_cases hlt : k < c.us.length
    · obtain ⟨b, off, nd, rfl, c0, c1, ht⟩ := Hu.out.at hlt
      have c0' := hE.cell c0
      have c1' := hE.cell c1
      obtain ⟨ta, tc, rfl, ht'⟩ := (ht.ext hE).open
      have Ht := Lib.hid ht'
      have Hst := Lib.hid (binsC_step hlt)
      have Tl := Lib.hid (show (binsC (c.us.take k)).length = k by rw [binsC_len, List.length_take]; omega)
      have X1 := Lib.hid ((Ext.refl wr).alloc (Obj.cells #[.bool c.us[k].op, .slice ta c.us[k].ts.length tc] 31))
      have rb := heap_alloc_new wr (Obj.cells #[.bool c.us[k].op, .slice ta c.us[k].ts.length tc] 31)
      have u0 := cell_of_heap rb 0
      have u1 := cell_of_heap rb 1
      clear c0 c1 ht ht'
      go_wp2_with (at_builtin; refine app_bins rfl _ _ rfl w.heap.size _ _ rfl ((Hs.out.ext X1.out).alloc _) (by have := hE.le; simp; omega) _ _ _ [c.us[k].ts] rfl (Bins.lit1' (Ht.out.ext X1.out) 1 _ (by simp)) (by rw [Tl.out]; unfold lim; simp; omega) ?_; intro v' w2 hown hkt hbl)
      have hE2 : Ext w w2 := ((hE.trans X1.out).alloc _).below hbl
      have Ho := Lib.hid (show OwnBins w2 w.heap.size v' (binsC (c.us.take (k + 1))) by rw [Hst.out]; exact hown)
      clear hown hkt hbl hE
      go_roundw
      case rel => exact ⟨k + 1, by omega, by go_num, hE2, Ho.out⟩
      case measure => simp [intOf]; omega
    · have e : k = c.us.length := by omega
      subst e
      have Ho := Lib.hid (show OwnBins wr w.heap.size _ (binsC c.us) by have := Hs.out; rwa [List.take_length] at this)
      clear Hs
      go_wp2
      go_ret
      exact ⟨_, rfl, hE, Ho.out⟩


set_option maxHeartbeats 4000000 in
theorem sClusterValid_any (v : Value) (c : C) (w : World) (h : Clu w v c) (hw : weighC c ≤ 2097152) :
    Calls Try.prog 8 #[v] w fun e w' => e = .returned (.bool (clusterB c)) ∧ Ext w w' := by
  have HF := Lib.hid (flatC hw)
  have hul : c.us.length ≤ 2097152 := by unfold weighC weighU at hw; omega
  obtain ⟨ra, rc, ua, uc, rfl, hr, hu⟩ := h.open
  have e0 : Ext w (w.alloc (Obj.cells #[.slice ra c.room.length rc, .slice ua c.us.length uc] 26)) := (Ext.refl w).alloc _
  have R0 := Lib.hid (heap_alloc_new w (Obj.cells #[.slice ra c.room.length rc, .slice ua c.us.length uc] 26))
  clear hw
  go_enter Try.func8, Try.ntmps8
  go_wp2
  generalize w.alloc (Obj.cells #[.slice ra c.room.length rc, .slice ua c.us.length uc] 26) = W at *
  have E0 := Lib.hid e0
  have Hu := Lib.hid (hu.ext e0)
  have Hr := Lib.hid (hr.ext e0)
  have HC := Lib.hid (h.ext e0)
  clear e0 hr hu h
  go_loopw [3] (fun i wr => ∃ k : Nat, k ≤ c.us.length ∧ i = .int .i64 k ∧ Ext W wr ∧ ∀ j (hj : j < c.us.length), j < k → okU c.us[j] = true) (fun i _ => c.us.length - (intOf i).toNat)
  case atStart => exact ⟨0, by omega, rfl, Ext.refl _, fun _ _ h => by omega⟩
  case round =>
    obtain ⟨k, hk, rfl, hE, hg⟩ := hrel
    have r1 := (hE.block (lt_of_heap R0.out)).trans R0.out
    have x0 := cell_of_heap r1 0
    have x1 := cell_of_heap r1 1
    have Hg := Lib.hid hg
    clear hg
    by_cases hlt : k < c.us.length
    · obtain ⟨b, off, nd, rfl, c0, c1, ht⟩ := Hu.out.at hlt
      have c0' := hE.cell c0
      have c1' := hE.cell c1
      obtain ⟨ta, tc, rfl, -⟩ := (ht.ext hE).open
      have b0 : (0 : Int) ≤ (k : Int) := by omega
      have b1 : (k : Int) < (c.us.length : Int) := by omega
      have step : okU c.us[k] = true → Hid (∀ j (hj : j < c.us.length), j < k + 1 → okU c.us[j] = true) := fun ho j hj hjk => by
        by_cases e : j = k
        · subst e; exact ho
        · exact Hg.out j hj (by omega)
      clear c0 c1 ht r1
      cases hop : c.us[k].op with
      | true =>
        have Hn := step (by simp [okU, hop])
        rw [hop] at c0'
        go_wp2
        go_roundw
        case rel => exact ⟨k + 1, by omega, by go_num, hE, Hn.out⟩
        case measure => simp [intOf]; omega
      | false =>
        rw [hop] at c0'
        by_cases hz : c.us[k].ts.length = 0
        · have Hn := step (by simp [okU, hz])
          have hz' : decide (0 < (c.us[k].ts.length : Int)) = false := by simp [hz]
          have hz2 : ¬ (0 < (c.us[k].ts.length : Int)) := by omega
          clear hz
          go_wp2
          go_roundw
          case rel => exact ⟨k + 1, by omega, by go_num, hE, Hn.out⟩
          case measure => simp [intOf]; omega
        · have Hd := Lib.hid (clu_bad hlt (show okU c.us[k] = false by simp [okU, hop, hz]))
          have hz2 : 0 < c.us[k].ts.length := by omega
          clear hz
          go_wp2
          go_ret
          exact ⟨ret_bool Hd.out.symm, E0.out.trans hE⟩
    · have e : k = c.us.length := by omega
      subst e
      have HA := Lib.hid (clu_all fun k hk => Hg.out k hk hk)
      have b1 : ¬ ((c.us.length : Int) < (c.us.length : Int)) := by omega
      have R1 := Lib.hid r1
      have Hcl : Hid (clusterB c = (inB (c.us.length : Int) 1 10 && binsB c.room (binsC c.us))) := by show clusterB c = _; unfold clusterB; rw [HA.out]; rfl
      clear R0 r1
      have R0 := Lib.hid (show wr.drew.heap[w.heap.size]? = some (Obj.cells #[.slice ra c.room.length rc, .slice ua c.us.length uc] 26) from R1.out)
      cases hin : inB (c.us.length : Int) 1 10 with
      | false =>
        have Hd : Hid (clusterB c = false) := by show clusterB c = false; rw [Hcl.out, hin]; rfl
        go_wp2_with fail
        refine wp_region_held_drew (S := fun w' => w'.heap[w.heap.size]? = some (Obj.cells #[.slice ra c.room.length rc, .slice ua c.us.length uc] 26)) (by kernel_rfl) (R0.out) (fun hHeld => ?_)
        refine takeH (i := 0) (d := some 28) (v := ?_) rfl rfl (by kernel_rfl) (by kernel_rfl) (by kernel_rfl) (fun _ _ _ h => h) (by rfl) ?_ (by assumption) ?_
        rotate_left
        · intro w hSw; (try dsimp only at hSw); (try go_simp); (try with_reducible rfl)
        try simp only [Act.put, List.setIfInBounds_toArray, List.set_cons_zero, List.set_cons_succ]
        refine takeH (i := 1) (d := some 29) (v := ?_) rfl rfl (by kernel_rfl) (by kernel_rfl) (by kernel_rfl) (fun _ _ _ h => h) (by rfl) ?_ (by assumption) ?_
        rotate_left
        · intro w hSw; (try dsimp only at hSw); (try have l0 := cell_of_heap hSw 0; have l1 := cell_of_heap hSw 1; go_simp); (try with_reducible rfl)
        try simp only [Act.put, List.setIfInBounds_toArray, List.set_cons_zero, List.set_cons_succ]
        refine takeH (i := 2) (d := some 30) (v := ?_) rfl rfl (by kernel_rfl) (by kernel_rfl) (by kernel_rfl) (fun _ _ _ h => h) (by rfl) ?_ (by assumption) ?_
        rotate_left
        · intro w hSw; (try dsimp only at hSw); (try go_simp); (try with_reducible rfl)
        try simp only [Act.put, List.setIfInBounds_toArray, List.set_cons_zero, List.set_cons_succ]
        refine oneH (i := 3) (by kernel_rfl) rfl (by rfl) (fun K hK => ?_)
        go_simp
        have cc := l6In_any (c.us.length : Int) 1 10 wr.drew; rw [hin] at cc; refine cc.mono ?_; clear cc; rintro e w1 ⟨rfl, rfl⟩
        try dsimp only
        refine hK.out _ _ (hHeld) (fun hHeld => ?_)
        clear hK K
        try simp only [Act.put, List.setIfInBounds_toArray, List.set_cons_zero, List.set_cons_succ]
        refine takeH (i := 4) (d := some 32) (v := ?_) rfl rfl (by kernel_rfl) (by kernel_rfl) (by kernel_rfl) (fun _ _ _ h => h) (by rfl) ?_ (by assumption) ?_
        rotate_left
        · intro w hSw; (try dsimp only at hSw); (try go_simp); (try with_reducible rfl)
        try simp only [Act.put, List.setIfInBounds_toArray, List.set_cons_zero, List.set_cons_succ]
        refine skipH (i := 5) (d := some 33) rfl rfl (by kernel_rfl) (by kernel_rfl) (by kernel_rfl) (fun _ _ _ h => h) (by rfl) (by assumption) ?_
        try simp only [Act.put, List.setIfInBounds_toArray, List.set_cons_zero, List.set_cons_succ]
        refine skipH (i := 6) (d := some 34) rfl rfl (by kernel_rfl) (by kernel_rfl) (by kernel_rfl) (fun _ _ _ h => h) (by rfl) (by assumption) ?_
        try simp only [Act.put, List.setIfInBounds_toArray, List.set_cons_zero, List.set_cons_succ]
        refine skipH (i := 7) (d := some 35) rfl rfl (by kernel_rfl) (by kernel_rfl) (by kernel_rfl) (fun _ _ _ h => h) (by rfl) (by assumption) ?_
        try simp only [Act.put, List.setIfInBounds_toArray, List.set_cons_zero, List.set_cons_succ]
        refine skipH (i := 8) (d := some 36) rfl rfl (by kernel_rfl) (by kernel_rfl) (by kernel_rfl) (fun _ _ _ h => h) (by rfl) (by assumption) ?_
        try simp only [Act.put, List.setIfInBounds_toArray, List.set_cons_zero, List.set_cons_succ]
        refine skipH (i := 9) (d := some 37) rfl rfl (by kernel_rfl) (by kernel_rfl) (by kernel_rfl) (fun _ _ _ h => h) (by rfl) (by assumption) ?_
        try simp only [Act.put, List.setIfInBounds_toArray, List.set_cons_zero, List.set_cons_succ]
        refine takeH (i := 10) (d := some 38) (v := ?_) rfl rfl (by kernel_rfl) (by kernel_rfl) (by kernel_rfl) (fun _ _ _ h => h) (by rfl) ?_ (by assumption) ?_
        rotate_left
        · intro w hSw; (try dsimp only at hSw); (try go_simp); (try with_reducible rfl)
        try simp only [Act.put, List.setIfInBounds_toArray, List.set_cons_zero, List.set_cons_succ]
        refine takeH (i := 11) (d := some 2) (v := ?_) rfl rfl (by kernel_rfl) (by kernel_rfl) (by kernel_rfl) (fun _ _ _ h => h) (by rfl) ?_ (by assumption) ?_
        rotate_left
        · intro w hSw; (try dsimp only at hSw); (try go_simp); (try with_reducible rfl)
        try simp only [Act.put, List.setIfInBounds_toArray, List.set_cons_zero, List.set_cons_succ]
        refine wpAnyH_done (by kernel_rfl) ?_ _
        go_wp2_with fail
        go_ret
        exact ⟨ret_bool Hd.out.symm, E0.out.trans hE.drew⟩
      | true =>
        have ul := inB_iff.1 hin
        cases hbb : binsB c.room (binsC c.us) with
        | false =>
          have Hd : Hid (clusterB c = false) := by show clusterB c = false; rw [Hcl.out, hin, hbb]; rfl
          go_wp2_with fail
          refine wp_region_held_drew (S := fun w' => w'.heap[w.heap.size]? = some (Obj.cells #[.slice ra c.room.length rc, .slice ua c.us.length uc] 26)) (by kernel_rfl) (R0.out) (fun hHeld => ?_)
          refine takeH (i := 0) (d := some 28) (v := ?_) rfl rfl (by kernel_rfl) (by kernel_rfl) (by kernel_rfl) (fun _ _ _ h => h) (by rfl) ?_ (by assumption) ?_
          rotate_left
          · intro w hSw; (try dsimp only at hSw); (try go_simp); (try with_reducible rfl)
          try simp only [Act.put, List.setIfInBounds_toArray, List.set_cons_zero, List.set_cons_succ]
          refine takeH (i := 1) (d := some 29) (v := ?_) rfl rfl (by kernel_rfl) (by kernel_rfl) (by kernel_rfl) (fun _ _ _ h => h) (by rfl) ?_ (by assumption) ?_
          rotate_left
          · intro w hSw; (try dsimp only at hSw); (try have l0 := cell_of_heap hSw 0; have l1 := cell_of_heap hSw 1; go_simp); (try with_reducible rfl)
          try simp only [Act.put, List.setIfInBounds_toArray, List.set_cons_zero, List.set_cons_succ]
          refine takeH (i := 2) (d := some 30) (v := ?_) rfl rfl (by kernel_rfl) (by kernel_rfl) (by kernel_rfl) (fun _ _ _ h => h) (by rfl) ?_ (by assumption) ?_
          rotate_left
          · intro w hSw; (try dsimp only at hSw); (try go_simp); (try with_reducible rfl)
          try simp only [Act.put, List.setIfInBounds_toArray, List.set_cons_zero, List.set_cons_succ]
          refine oneH (i := 3) (by kernel_rfl) rfl (by rfl) (fun K hK => ?_)
          go_simp
          have cc := l6In_any (c.us.length : Int) 1 10 wr.drew; rw [hin] at cc; refine cc.mono ?_; clear cc; rintro e w1 ⟨rfl, rfl⟩
          try dsimp only
          refine hK.out _ _ (hHeld) (fun hHeld => ?_)
          clear hK K
          try simp only [Act.put, List.setIfInBounds_toArray, List.set_cons_zero, List.set_cons_succ]
          refine takeH (i := 4) (d := some 32) (v := ?_) rfl rfl (by kernel_rfl) (by kernel_rfl) (by kernel_rfl) (fun _ _ _ h => h) (by rfl) ?_ (by assumption) ?_
          rotate_left
          · intro w hSw; (try dsimp only at hSw); (try go_simp); (try with_reducible rfl)
          try simp only [Act.put, List.setIfInBounds_toArray, List.set_cons_zero, List.set_cons_succ]
          refine takeH (i := 5) (d := some 33) (v := ?_) rfl rfl (by kernel_rfl) (by kernel_rfl) (by kernel_rfl) (fun _ _ _ h => h) (by rfl) ?_ (by assumption) ?_
          rotate_left
          · intro w hSw; (try dsimp only at hSw); (try go_simp); (try with_reducible rfl)
          try simp only [Act.put, List.setIfInBounds_toArray, List.set_cons_zero, List.set_cons_succ]
          refine takeH (i := 6) (d := some 34) (v := ?_) rfl rfl (by kernel_rfl) (by kernel_rfl) (by kernel_rfl) (fun _ _ _ h => h) (by rfl) ?_ (by assumption) ?_
          rotate_left
          · intro w hSw; (try dsimp only at hSw); (try have l0 := cell_of_heap hSw 0; have l1 := cell_of_heap hSw 1; go_simp); (try with_reducible rfl)
          try simp only [Act.put, List.setIfInBounds_toArray, List.set_cons_zero, List.set_cons_succ]
          refine takeH (i := 7) (d := some 35) (v := ?_) rfl rfl (by kernel_rfl) (by kernel_rfl) (by kernel_rfl) (fun _ _ _ h => h) (by rfl) ?_ (by assumption) ?_
          rotate_left
          · intro w hSw; (try dsimp only at hSw); (try have l0 := cell_of_heap hSw 0; have l1 := cell_of_heap hSw 1; go_simp); (try with_reducible rfl)
          try simp only [Act.put, List.setIfInBounds_toArray, List.set_cons_zero, List.set_cons_succ]
          refine oneH (i := 8) (by kernel_rfl) rfl (by rfl) (fun K hK => ?_)
          go_simp
          refine (l21Bins_any _ c wr.drew (HC.out.ext (hE.drew))).mono ?_; rintro e w2 ⟨rb, rfl, hE2, hb2⟩; have X1 := Lib.hid ((hE.drew).trans hE2); have Y1 := Lib.hid hE2; have HB2 := Lib.hid (hb2.done (by rw [binsC_len]; unfold lim; omega)); obtain ⟨ba, bc, hbf, hb3⟩ := HB2.out.open; subst hbf; clear hE2 hb2 hb3
          try dsimp only
          refine hK.out _ _ ((Y1.out.block (lt_of_heap R0.out)).trans R0.out) (fun hHeld => ?_)
          clear hK K
          try simp only [Act.put, List.setIfInBounds_toArray, List.set_cons_zero, List.set_cons_succ]
          refine oneH (i := 9) (by kernel_rfl) rfl (by rfl) (fun K hK => ?_)
          go_simp
          have cc := sBinsValid_any _ _ c.room (binsC c.us) _ (Hr.out.ext X1.out) HB2.out HF.out; rw [hbb] at cc; refine cc.mono ?_; clear cc; rintro e w3 ⟨rfl, hE3⟩; have X2 := Lib.hid (X1.out.trans hE3); have Y2 := Lib.hid (Y1.out.trans hE3); clear hE3
          try dsimp only
          refine hK.out _ _ ((Y2.out.block (lt_of_heap R0.out)).trans R0.out) (fun hHeld => ?_)
          clear hK K
          try simp only [Act.put, List.setIfInBounds_toArray, List.set_cons_zero, List.set_cons_succ]
          refine takeH (i := 10) (d := some 38) (v := ?_) rfl rfl (by kernel_rfl) (by kernel_rfl) (by kernel_rfl) (fun _ _ _ h => h) (by rfl) ?_ (by assumption) ?_
          rotate_left
          · intro w hSw; (try dsimp only at hSw); (try go_simp); (try with_reducible rfl)
          try simp only [Act.put, List.setIfInBounds_toArray, List.set_cons_zero, List.set_cons_succ]
          refine takeH (i := 11) (d := some 2) (v := ?_) rfl rfl (by kernel_rfl) (by kernel_rfl) (by kernel_rfl) (fun _ _ _ h => h) (by rfl) ?_ (by assumption) ?_
          rotate_left
          · intro w hSw; (try dsimp only at hSw); (try go_simp); (try with_reducible rfl)
          try simp only [Act.put, List.setIfInBounds_toArray, List.set_cons_zero, List.set_cons_succ]
          refine wpAnyH_done (by kernel_rfl) ?_ _
          go_wp2_with fail
          go_ret
          exact ⟨ret_bool Hd.out.symm, E0.out.trans X2.out⟩
        | true =>
          have Hd : Hid (clusterB c = true) := by show clusterB c = true; rw [Hcl.out, hin, hbb]; rfl
          go_wp2_with fail
          refine wp_region_held_drew (S := fun w' => w'.heap[w.heap.size]? = some (Obj.cells #[.slice ra c.room.length rc, .slice ua c.us.length uc] 26)) (by kernel_rfl) (R0.out) (fun hHeld => ?_)
          refine takeH (i := 0) (d := some 28) (v := ?_) rfl rfl (by kernel_rfl) (by kernel_rfl) (by kernel_rfl) (fun _ _ _ h => h) (by rfl) ?_ (by assumption) ?_
          rotate_left
          · intro w hSw; (try dsimp only at hSw); (try go_simp); (try with_reducible rfl)
          try simp only [Act.put, List.setIfInBounds_toArray, List.set_cons_zero, List.set_cons_succ]
          refine takeH (i := 1) (d := some 29) (v := ?_) rfl rfl (by kernel_rfl) (by kernel_rfl) (by kernel_rfl) (fun _ _ _ h => h) (by rfl) ?_ (by assumption) ?_
          rotate_left
          · intro w hSw; (try dsimp only at hSw); (try have l0 := cell_of_heap hSw 0; have l1 := cell_of_heap hSw 1; go_simp); (try with_reducible rfl)
          try simp only [Act.put, List.setIfInBounds_toArray, List.set_cons_zero, List.set_cons_succ]
          refine takeH (i := 2) (d := some 30) (v := ?_) rfl rfl (by kernel_rfl) (by kernel_rfl) (by kernel_rfl) (fun _ _ _ h => h) (by rfl) ?_ (by assumption) ?_
          rotate_left
          · intro w hSw; (try dsimp only at hSw); (try go_simp); (try with_reducible rfl)
          try simp only [Act.put, List.setIfInBounds_toArray, List.set_cons_zero, List.set_cons_succ]
          refine oneH (i := 3) (by kernel_rfl) rfl (by rfl) (fun K hK => ?_)
          go_simp
          have cc := l6In_any (c.us.length : Int) 1 10 wr.drew; rw [hin] at cc; refine cc.mono ?_; clear cc; rintro e w1 ⟨rfl, rfl⟩
          try dsimp only
          refine hK.out _ _ (hHeld) (fun hHeld => ?_)
          clear hK K
          try simp only [Act.put, List.setIfInBounds_toArray, List.set_cons_zero, List.set_cons_succ]
          refine takeH (i := 4) (d := some 32) (v := ?_) rfl rfl (by kernel_rfl) (by kernel_rfl) (by kernel_rfl) (fun _ _ _ h => h) (by rfl) ?_ (by assumption) ?_
          rotate_left
          · intro w hSw; (try dsimp only at hSw); (try go_simp); (try with_reducible rfl)
          try simp only [Act.put, List.setIfInBounds_toArray, List.set_cons_zero, List.set_cons_succ]
          refine takeH (i := 5) (d := some 33) (v := ?_) rfl rfl (by kernel_rfl) (by kernel_rfl) (by kernel_rfl) (fun _ _ _ h => h) (by rfl) ?_ (by assumption) ?_
          rotate_left
          · intro w hSw; (try dsimp only at hSw); (try go_simp); (try with_reducible rfl)
          try simp only [Act.put, List.setIfInBounds_toArray, List.set_cons_zero, List.set_cons_succ]
          refine takeH (i := 6) (d := some 34) (v := ?_) rfl rfl (by kernel_rfl) (by kernel_rfl) (by kernel_rfl) (fun _ _ _ h => h) (by rfl) ?_ (by assumption) ?_
          rotate_left
          · intro w hSw; (try dsimp only at hSw); (try have l0 := cell_of_heap hSw 0; have l1 := cell_of_heap hSw 1; go_simp); (try with_reducible rfl)
          try simp only [Act.put, List.setIfInBounds_toArray, List.set_cons_zero, List.set_cons_succ]
          refine takeH (i := 7) (d := some 35) (v := ?_) rfl rfl (by kernel_rfl) (by kernel_rfl) (by kernel_rfl) (fun _ _ _ h => h) (by rfl) ?_ (by assumption) ?_
          rotate_left
          · intro w hSw; (try dsimp only at hSw); (try have l0 := cell_of_heap hSw 0; have l1 := cell_of_heap hSw 1; go_simp); (try with_reducible rfl)
          try simp only [Act.put, List.setIfInBounds_toArray, List.set_cons_zero, List.set_cons_succ]
          refine oneH (i := 8) (by kernel_rfl) rfl (by rfl) (fun K hK => ?_)
          go_simp
          refine (l21Bins_any _ c wr.drew (HC.out.ext (hE.drew))).mono ?_; rintro e w2 ⟨rb, rfl, hE2, hb2⟩; have X1 := Lib.hid ((hE.drew).trans hE2); have Y1 := Lib.hid hE2; have HB2 := Lib.hid (hb2.done (by rw [binsC_len]; unfold lim; omega)); obtain ⟨ba, bc, hbf, hb3⟩ := HB2.out.open; subst hbf; clear hE2 hb2 hb3
          try dsimp only
          refine hK.out _ _ ((Y1.out.block (lt_of_heap R0.out)).trans R0.out) (fun hHeld => ?_)
          clear hK K
          try simp only [Act.put, List.setIfInBounds_toArray, List.set_cons_zero, List.set_cons_succ]
          refine oneH (i := 9) (by kernel_rfl) rfl (by rfl) (fun K hK => ?_)
          go_simp
          have cc := sBinsValid_any _ _ c.room (binsC c.us) _ (Hr.out.ext X1.out) HB2.out HF.out; rw [hbb] at cc; refine cc.mono ?_; clear cc; rintro e w3 ⟨rfl, hE3⟩; have X2 := Lib.hid (X1.out.trans hE3); have Y2 := Lib.hid (Y1.out.trans hE3); clear hE3
          try dsimp only
          refine hK.out _ _ ((Y2.out.block (lt_of_heap R0.out)).trans R0.out) (fun hHeld => ?_)
          clear hK K
          try simp only [Act.put, List.setIfInBounds_toArray, List.set_cons_zero, List.set_cons_succ]
          refine takeH (i := 10) (d := some 38) (v := ?_) rfl rfl (by kernel_rfl) (by kernel_rfl) (by kernel_rfl) (fun _ _ _ h => h) (by rfl) ?_ (by assumption) ?_
          rotate_left
          · intro w hSw; (try dsimp only at hSw); (try go_simp); (try with_reducible rfl)
          try simp only [Act.put, List.setIfInBounds_toArray, List.set_cons_zero, List.set_cons_succ]
          refine takeH (i := 11) (d := some 2) (v := ?_) rfl rfl (by kernel_rfl) (by kernel_rfl) (by kernel_rfl) (fun _ _ _ h => h) (by rfl) ?_ (by assumption) ?_
          rotate_left
          · intro w hSw; (try dsimp only at hSw); (try go_simp); (try with_reducible rfl)
          try simp only [Act.put, List.setIfInBounds_toArray, List.set_cons_zero, List.set_cons_succ]
          refine wpAnyH_done (by kernel_rfl) ?_ _
          go_wp2_with fail
          go_ret
          exact ⟨ret_bool Hd.out.symm, E0.out.trans X2.out⟩


end Go.Proofs.Ytfidamjepjgknaa
