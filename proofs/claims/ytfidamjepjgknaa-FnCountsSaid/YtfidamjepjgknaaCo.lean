/- Clusters: the numbers of open nodes, of nodes with tasks and of tasks; by the program and by the reference. No condition. -/
import Derived.Test.YtfidamjepjgknaaCn
namespace Go.Proofs.Ytfidamjepjgknaa
set_option maxRecDepth 100000
open Go.RowKit

def openN (us : List Un) : Nat := (us.filter fun u => u.op).length
def busyN (us : List Un) : Nat := (us.filter fun u => decide (0 < u.ts.length)).length
def taskN (us : List Un) : Nat := (binsC us).flatten.length
theorem openN_step {us : List Un} {k : Nat} (h : k < us.length) : openN (us.take (k + 1)) = openN (us.take k) + if us[k].op = true then 1 else 0 := by
  unfold openN
  rw [List.take_succ_eq_append_getElem h, List.filter_append, List.length_append]
  congr 1
  simp only [List.filter_cons, List.filter_nil]
  split <;> rfl
theorem busyN_step {us : List Un} {k : Nat} (h : k < us.length) : busyN (us.take (k + 1)) = busyN (us.take k) + if 0 < us[k].ts.length then 1 else 0 := by
  unfold busyN
  rw [List.take_succ_eq_append_getElem h, List.filter_append, List.length_append]
  congr 1
  simp only [List.filter_cons, List.filter_nil, decide_eq_true_eq]
  split <;> rfl
theorem taskN_step {us : List Un} {k : Nat} (h : k < us.length) : taskN (us.take (k + 1)) = taskN (us.take k) + us[k].ts.length := by
  unfold taskN
  rw [binsC_step h, List.flatten_append, List.length_append]
  simp
theorem openN_le (us : List Un) : openN us ≤ us.length := List.length_filter_le _ _
theorem busyN_le (us : List Un) : busyN us ≤ us.length := List.length_filter_le _ _
def countsC (c : C) : List Int := if clusterB c = true then [(openN c.us : Int), (busyN c.us : Int), (taskN c.us : Int)] else []
theorem counts_lim (c : C) : (countsC c).length ≤ lim := by unfold countsC lim; split <;> simp
theorem taskN_take {us : List Un} (k : Nat) : taskN (us.take k) ≤ taskN us := by
  unfold taskN
  have h : binsC us = binsC (us.take k) ++ binsC (us.drop k) := by simp [binsC, List.take_append_drop]
  rw [h, List.flatten_append, List.length_append]
  omega
theorem make3i (w : World) : (Instr.makeSlice 23 (.int .i64 3) (.int .i64 3)).run Try.prog w = .ok (.slice (some ⟨w.heap.size, 0, none⟩) 3 3) (w.alloc (.cells #[.int .i64 0, .int .i64 0, .int .i64 0] 3)) := by kernel_rfl
theorem own3 {w : World} {B g : Nat} {x y z : Int} (h : w.heap[g]? = some (.cells #[.int .i64 x, .int .i64 y, .int .i64 z] 3 (0, 0))) (hB : B ≤ g) : OwnInts w B (.slice (some ⟨g, 0, none⟩) 3 3) [x, y, z] :=
  ⟨rfl, .inr ⟨g, 3, _, rfl, hB, h, Nat.le_refl _, by simp [maxLen], rfl, rfl⟩⟩

set_option maxHeartbeats 2000000 in
theorem sClusterCounts_any (v : Value) (c : C) (w : World) (h : Clu w v c) (hw : weighC c ≤ 2097152) :
    Calls Try.prog 14 #[v] w fun e w' => ∃ r, e = .returned r ∧ Ext w w' ∧ OwnInts w' w.heap.size r (countsC c) := by
  obtain ⟨ra, rc, ua, uc, rfl, -, hu⟩ := h.open
  have e0 : Ext w (w.alloc (Obj.cells #[.slice ra c.room.length rc, .slice ua c.us.length uc] 26)) := (Ext.refl w).alloc _
  have R0 := Lib.hid (heap_alloc_new w (Obj.cells #[.slice ra c.room.length rc, .slice ua c.us.length uc] 26))
  have HCc := Lib.hid (h.ext e0)
  have HW := Lib.hid hw
  have HFl := Lib.hid (flatC hw)
  clear h hw
  cases hb : clusterB c with
  | false =>
    have Hd : Hid (countsC c = []) := by show countsC c = []; simp [countsC, hb]
    go_enter Try.func14, Try.ntmps14
    go_wp2_with fail
    have cc := sClusterValid_any _ c _ HCc.out HW.out
    rw [hb] at cc
    refine cc.mono ?_
    clear cc
    rintro e w2 ⟨rfl, hE2⟩
    have F := Lib.hid ((e0.trans hE2).alloc (.cells #[] 3))
    have O := Lib.hid (OwnInts.lit0 w2 w.heap.size (e0.trans hE2).le)
    go_wp2
    go_ret
    exact ⟨_, rfl, F.out, by rw [Hd.out]; exact O.out⟩
  | true =>
    have Hd : Hid (countsC c = [(openN c.us : Int), (busyN c.us : Int), (taskN c.us : Int)]) := by show countsC c = _; simp [countsC, hb]
    have hl := clusterB_len hb
    go_enter Try.func14, Try.ntmps14
    go_wp2_with fail
    have cc := sClusterValid_any _ c _ HCc.out HW.out
    rw [hb] at cc
    refine cc.mono ?_
    clear cc
    rintro e w2 ⟨rfl, hE2⟩
    have r2 := (hE2.block (lt_of_heap R0.out)).trans R0.out
    have R2 := Lib.hid r2
    have E2 := Lib.hid (e0.trans hE2)
    have HC2 := Lib.hid (HCc.out.ext hE2)
    have x0 := cell_of_heap r2 0
    have x1 := cell_of_heap r2 1
    have hu2 := hu.ext E2.out
    clear hE2 r2 e0 hu
    go_wp2_with fail
    go_loopw [3, 4, 5] (fun p q i wr => ∃ k : Nat, k ≤ c.us.length ∧ i = .int .i64 (k : Int) ∧ p = .int .i64 ((openN (c.us.take k) : Nat) : Int) ∧ q = .int .i64 ((busyN (c.us.take k) : Nat) : Int) ∧ wr = w2) (fun _ _ i _ => c.us.length - (intOf i).toNat)
    case atStart => exact ⟨0, by omega, rfl, rfl, rfl, rfl⟩
    case round =>
      obtain ⟨k, hk, rfl, rfl, rfl, rfl⟩ := hrel
      by_cases hlt : k < c.us.length
      · obtain ⟨b, off, nd, rfl, c0, c1, ht⟩ := hu2.at hlt
        obtain ⟨ta, tc, rfl, -⟩ := ht.open
        have b0 : (0 : Int) ≤ (k : Int) := by omega
        have b1 : (k : Int) < (c.us.length : Int) := by omega
        have S1 := openN_step hlt
        have S2 := busyN_step hlt
        have o1 := openN_le (c.us.take k)
        have o2 := busyN_le (c.us.take k)
        rw [List.length_take] at o1 o2
        generalize openN (c.us.take k) = p at *
        generalize busyN (c.us.take k) = q at *
        clear ht
        cases hop : c.us[k].op with
        | true =>
          rw [hop] at c0
          rw [if_pos hop] at S1
          have T1 := Lib.hid S1
          by_cases hz : 0 < c.us[k].ts.length
          · rw [if_pos hz] at S2
            have T2 := Lib.hid S2
            clear S1 S2
            go_wp2
            go_roundw
            case rel => exact ⟨k + 1, by omega, by go_num, by rw [T1.out]; go_num, by rw [T2.out]; go_num, trivial⟩
            case measure => simp [intOf]; omega
          · rw [if_neg hz] at S2
            have T2 := Lib.hid S2
            have hz' : ¬ (0 < (c.us[k].ts.length : Int)) := by omega
            clear S1 S2 hz
            go_wp2
            go_roundw
            case rel => exact ⟨k + 1, by omega, by go_num, by rw [T1.out]; go_num, by rw [T2.out]; go_num, trivial⟩
            case measure => simp [intOf]; omega
        | false =>
          rw [hop] at c0
          rw [if_neg (by rw [hop]; simp)] at S1
          have T1 := Lib.hid S1
          by_cases hz : 0 < c.us[k].ts.length
          · rw [if_pos hz] at S2
            have T2 := Lib.hid S2
            clear S1 S2
            go_wp2
            go_roundw
            case rel => exact ⟨k + 1, by omega, by go_num, by rw [T1.out]; go_num, by rw [T2.out]; go_num, trivial⟩
            case measure => simp [intOf]; omega
          · rw [if_neg hz] at S2
            have T2 := Lib.hid S2
            have hz' : ¬ (0 < (c.us[k].ts.length : Int)) := by omega
            clear S1 S2 hz
            go_wp2
            go_roundw
            case rel => exact ⟨k + 1, by omega, by go_num, by rw [T1.out]; go_num, by rw [T2.out]; go_num, trivial⟩
            case measure => simp [intOf]; omega
      · have e : k = c.us.length := by omega
        subst e
        rw [List.take_length]
        have b1 : ¬ ((c.us.length : Int) < (c.us.length : Int)) := by omega
        go_wp2_with fail
        refine (l21Bins_any _ c _ HC2.out).mono ?_
        rintro e w3 ⟨r, rfl, hE3, hb3⟩
        have E3 := Lib.hid (E2.out.trans hE3)
        have HB := Lib.hid (hb3.done (by rw [binsC_len]; unfold lim; omega))
        clear hE3 hb3
        go_wp2_with fail
        refine (l2All_any _ _ _ HB.out HFl.out).mono ?_
        rintro e w4 ⟨r, rfl, hE4, ho⟩
        have E4 := Lib.hid (E3.out.trans hE4)
        obtain ⟨sa, sc, rfl⟩ := OwnTasks.form ho
        have tn : (binsC c.us).flatten.length = taskN c.us := rfl
        rw [tn]
        have EF := Lib.hid (E4.out.alloc (.cells #[.int .i64 (openN c.us : Int), .int .i64 (busyN c.us : Int), .int .i64 (taskN c.us : Int)] 3))
        have OF := Lib.hid (own3 (B := w.heap.size) (heap_alloc_new w4 (.cells #[.int .i64 (openN c.us : Int), .int .i64 (busyN c.us : Int), .int .i64 (taskN c.us : Int)] 3)) E4.out.le)
        clear ho hE4 tn
        generalize openN c.us = p at *
        generalize busyN c.us = q at *
        generalize taskN c.us = s at *
        go_wp2
        go_ret
        exact ⟨_, rfl, EF.out, by rw [Hd.out]; exact OF.out⟩

set_option maxHeartbeats 4000000 in
theorem ClusterCounts_any (v : Value) (c : C) (w : World) (h : Clu w v c) (hw : weighC c ≤ 2097152) :
    Calls Try.prog 13 #[v] w fun e w' => ∃ r, e = .returned r ∧ Ext w w' ∧ OwnInts w' w.heap.size r (countsC c) := by
  obtain ⟨ra, rc, ua, uc, rfl, -, hu⟩ := h.open
  have e0 : Ext w (w.alloc (Obj.cells #[.slice ra c.room.length rc, .slice ua c.us.length uc] 26)) := (Ext.refl w).alloc _
  have R0 := Lib.hid (heap_alloc_new w (Obj.cells #[.slice ra c.room.length rc, .slice ua c.us.length uc] 26))
  have HCc := Lib.hid (h.ext e0)
  have HW := Lib.hid hw
  have HFl := Lib.hid (flatC hw)
  clear h hw
  have hmk := make3i
  cases hb : clusterB c with
  | false =>
    have Hd : Hid (countsC c = []) := by show countsC c = []; simp [countsC, hb]
    go_enter Try.func13, Try.ntmps13
    go_wp2_with fail
    have cc := ClusterValid_any _ c _ HCc.out HW.out
    rw [hb] at cc
    refine cc.mono ?_
    clear cc
    rintro e w2 ⟨rfl, hE2⟩
    go_wp2
    go_ret
    exact ⟨_, rfl, e0.trans hE2, by rw [Hd.out]; exact OwnInts.nil _ _⟩
  | true =>
    have Hd : Hid (countsC c = [(openN c.us : Int), (busyN c.us : Int), (taskN c.us : Int)]) := by show countsC c = _; simp [countsC, hb]
    have hl := clusterB_len hb
    have htl : taskN c.us ≤ 2097152 := HFl.out
    go_enter Try.func13, Try.ntmps13
    go_wp2_with fail
    have cc := ClusterValid_any _ c _ HCc.out HW.out
    rw [hb] at cc
    refine cc.mono ?_
    clear cc
    rintro e w2 ⟨rfl, hE2⟩
    have r2 := (hE2.block (lt_of_heap R0.out)).trans R0.out
    have E2 := Lib.hid (e0.trans hE2)
    have r3 := heap_skip w2 (.cells #[.int .i64 0, .int .i64 0, .int .i64 0] 3) r2
    have x0 := cell_of_heap r3 0
    have x1 := cell_of_heap r3 1
    have Hu := Lib.hid hu
    have G3 := Lib.hid (heap_alloc_new w2 (.cells #[.int .i64 0, .int .i64 0, .int .i64 0] 3))
    have E3 := Lib.hid (E2.out.alloc (.cells #[.int .i64 0, .int .i64 0, .int .i64 0] 3))
    have lg := E2.out.le
    clear hE2 r2 r3 e0 hu
    go_wp2_with fail
    generalize w2.alloc (.cells #[.int .i64 0, .int .i64 0, .int .i64 0] 3) = w3 at *
    go_loopw [13] (fun i wr => ∃ (k : Nat) (p q s : Nat), k ≤ c.us.length ∧ i = .int .i64 (k : Int) ∧ Ext w wr ∧ wr.heap[w2.heap.size]? = some (.cells #[.int .i64 (p : Int), .int .i64 (q : Int), .int .i64 (s : Int)] 3 (0, 0)) ∧ p = openN (c.us.take k) ∧ q = busyN (c.us.take k) ∧ s = taskN (c.us.take k)) (fun i _ => c.us.length - (intOf i).toNat)
    case atStart => exact ⟨0, 0, 0, 0, by omega, rfl, E3.out, G3.out, rfl, rfl, rfl⟩
    case round =>
      clear x0 x1 G3 E3
      obtain ⟨k, p, q, s, hk, rfl, hE, hg, hp, hq, hs⟩ := hrel
      by_cases hlt : k < c.us.length
      · obtain ⟨b, off, nd, rfl, c0, c1, ht⟩ := Hu.out.at hlt
        have c0' := hE.cell c0
        have c1' := hE.cell c1
        obtain ⟨ta, tc, rfl, -⟩ := ht.open
        have S1 := openN_step hlt
        have S2 := busyN_step hlt
        have S3 := Lib.hid (taskN_step hlt)
        have o1 := openN_le (c.us.take k)
        have o2 := busyN_le (c.us.take k)
        have o3 := taskN_take (us := c.us) k
        have o4 := taskN_take (us := c.us) (k + 1)
        rw [taskN_step hlt] at o4
        rw [List.length_take] at o1 o2
        rw [← hp] at S1 o1
        rw [← hq] at S2 o2
        rw [← hs] at S3 o3 o4
        have pl : p ≤ 10 := by omega
        have ql : q ≤ 10 := by omega
        have sl : s ≤ 2097152 := by omega
        have tl : c.us[k].ts.length ≤ 2097152 := by omega
        have sl2 : s + c.us[k].ts.length ≤ 2097152 := by omega
        have hgl := lt_of_heap hg
        clear c0 c1 ht o1 o2 o3 o4 hp hq hs
        cases hop : c.us[k].op with
        | true =>
          rw [hop] at c0'
          rw [if_pos hop] at S1
          have T1 := Lib.hid S1
          by_cases hz : 0 < c.us[k].ts.length
          · rw [if_pos hz] at S2
            have T2 := Lib.hid S2
            clear S1 S2
            have hne : wr.heap.size ≠ w2.heap.size := by omega
            have a0 := heap_skip wr (Obj.cells #[.bool true, .slice ta c.us[k].ts.length tc] 31) hg
            have rb0 := heap_push wr (Obj.cells #[.bool true, .slice ta c.us[k].ts.length tc] 31) (n := wr.heap.size) (by simp)
            have u0_0 := cell_of_heap rb0 0
            have u0_1 := cell_of_heap rb0 1
            have g0_0 := cell_of_heap a0 0
            have f0_0 := frozen_of_heap a0 0
            have g0_1 := cell_of_heap a0 1
            have f0_1 := frozen_of_heap a0 1
            have g0_2 := cell_of_heap a0 2
            have f0_2 := frozen_of_heap a0 2
            have k1 := heap_setCell_same wr w2.heap.size 0 _ _ (.int .i64 ((p : Int) + 1)) hg
            have a1 := heap_skip (wr.setCell ⟨w2.heap.size, 0, none⟩ (.int .i64 ((p : Int) + 1))) (Obj.cells #[.bool true, .slice ta c.us[k].ts.length tc] 31) k1
            have rb1 := heap_push (wr.setCell ⟨w2.heap.size, 0, none⟩ (.int .i64 ((p : Int) + 1))) (Obj.cells #[.bool true, .slice ta c.us[k].ts.length tc] 31) (n := wr.heap.size) (by simp)
            have u1_0 := cell_of_heap rb1 0
            have u1_1 := cell_of_heap rb1 1
            have g1_0 := cell_of_heap a1 0
            have f1_0 := frozen_of_heap a1 0
            have g1_1 := cell_of_heap a1 1
            have f1_1 := frozen_of_heap a1 1
            have g1_2 := cell_of_heap a1 2
            have f1_2 := frozen_of_heap a1 2
            have k2 := heap_setCell_same (wr.setCell ⟨w2.heap.size, 0, none⟩ (.int .i64 ((p : Int) + 1))) w2.heap.size 1 _ _ (.int .i64 ((q : Int) + 1)) k1
            have a2 := heap_skip ((wr.setCell ⟨w2.heap.size, 0, none⟩ (.int .i64 ((p : Int) + 1))).setCell ⟨w2.heap.size, 1, none⟩ (.int .i64 ((q : Int) + 1))) (Obj.cells #[.bool true, .slice ta c.us[k].ts.length tc] 31) k2
            have rb2 := heap_push ((wr.setCell ⟨w2.heap.size, 0, none⟩ (.int .i64 ((p : Int) + 1))).setCell ⟨w2.heap.size, 1, none⟩ (.int .i64 ((q : Int) + 1))) (Obj.cells #[.bool true, .slice ta c.us[k].ts.length tc] 31) (n := wr.heap.size) (by simp)
            have u2_0 := cell_of_heap rb2 0
            have u2_1 := cell_of_heap rb2 1
            have g2_0 := cell_of_heap a2 0
            have f2_0 := frozen_of_heap a2 0
            have g2_1 := cell_of_heap a2 1
            have f2_1 := frozen_of_heap a2 1
            have g2_2 := cell_of_heap a2 2
            have f2_2 := frozen_of_heap a2 2
            have hL := heap_setCell_same ((wr.setCell ⟨w2.heap.size, 0, none⟩ (.int .i64 ((p : Int) + 1))).setCell ⟨w2.heap.size, 1, none⟩ (.int .i64 ((q : Int) + 1))) w2.heap.size 2 _ _ (.int .i64 ((s : Int) + (c.us[k].ts.length : Int))) k2
            have HL := Lib.hid (heap_skip (((wr.setCell ⟨w2.heap.size, 0, none⟩ (.int .i64 ((p : Int) + 1))).setCell ⟨w2.heap.size, 1, none⟩ (.int .i64 ((q : Int) + 1))).setCell ⟨w2.heap.size, 2, none⟩ (.int .i64 ((s : Int) + (c.us[k].ts.length : Int)))) (Obj.cells #[.bool true, .slice ta c.us[k].ts.length tc] 31) hL)
            have HE := Lib.hid (((((hE).setCell (p := ⟨w2.heap.size, 0, none⟩) lg (.int .i64 ((p : Int) + 1))).setCell (p := ⟨w2.heap.size, 1, none⟩) lg (.int .i64 ((q : Int) + 1))).setCell (p := ⟨w2.heap.size, 2, none⟩) lg (.int .i64 ((s : Int) + (c.us[k].ts.length : Int)))).alloc (Obj.cells #[.bool true, .slice ta c.us[k].ts.length tc] 31))
            clear hL hE hg k1 k2
            go_wp2
            go_region
            all_goals
              go_wp2_with fail
              go_roundw
              case rel => exact ⟨k + 1, p + 1, q + 1, s + c.us[k].ts.length, by omega, by go_num, HE.out.drew, by simpa using heap_drew _ HL.out, T1.out.symm, T2.out.symm, S3.out.symm⟩
              case measure => simp [intOf]; omega
          · rw [if_neg hz] at S2
            have T2 := Lib.hid S2
            have hz' : ¬ (0 < (c.us[k].ts.length : Int)) := by omega
            clear S1 S2 hz
            have hne : wr.heap.size ≠ w2.heap.size := by omega
            have a0 := heap_skip wr (Obj.cells #[.bool true, .slice ta c.us[k].ts.length tc] 31) hg
            have rb0 := heap_push wr (Obj.cells #[.bool true, .slice ta c.us[k].ts.length tc] 31) (n := wr.heap.size) (by simp)
            have u0_0 := cell_of_heap rb0 0
            have u0_1 := cell_of_heap rb0 1
            have g0_0 := cell_of_heap a0 0
            have f0_0 := frozen_of_heap a0 0
            have g0_1 := cell_of_heap a0 1
            have f0_1 := frozen_of_heap a0 1
            have g0_2 := cell_of_heap a0 2
            have f0_2 := frozen_of_heap a0 2
            have k1 := heap_setCell_same wr w2.heap.size 0 _ _ (.int .i64 ((p : Int) + 1)) hg
            have a1 := heap_skip (wr.setCell ⟨w2.heap.size, 0, none⟩ (.int .i64 ((p : Int) + 1))) (Obj.cells #[.bool true, .slice ta c.us[k].ts.length tc] 31) k1
            have rb1 := heap_push (wr.setCell ⟨w2.heap.size, 0, none⟩ (.int .i64 ((p : Int) + 1))) (Obj.cells #[.bool true, .slice ta c.us[k].ts.length tc] 31) (n := wr.heap.size) (by simp)
            have u1_0 := cell_of_heap rb1 0
            have u1_1 := cell_of_heap rb1 1
            have g1_0 := cell_of_heap a1 0
            have f1_0 := frozen_of_heap a1 0
            have g1_1 := cell_of_heap a1 1
            have f1_1 := frozen_of_heap a1 1
            have g1_2 := cell_of_heap a1 2
            have f1_2 := frozen_of_heap a1 2
            have hL := heap_setCell_same (wr.setCell ⟨w2.heap.size, 0, none⟩ (.int .i64 ((p : Int) + 1))) w2.heap.size 2 _ _ (.int .i64 ((s : Int) + (c.us[k].ts.length : Int))) k1
            have HL := Lib.hid (heap_skip ((wr.setCell ⟨w2.heap.size, 0, none⟩ (.int .i64 ((p : Int) + 1))).setCell ⟨w2.heap.size, 2, none⟩ (.int .i64 ((s : Int) + (c.us[k].ts.length : Int)))) (Obj.cells #[.bool true, .slice ta c.us[k].ts.length tc] 31) hL)
            have HE := Lib.hid ((((hE).setCell (p := ⟨w2.heap.size, 0, none⟩) lg (.int .i64 ((p : Int) + 1))).setCell (p := ⟨w2.heap.size, 2, none⟩) lg (.int .i64 ((s : Int) + (c.us[k].ts.length : Int)))).alloc (Obj.cells #[.bool true, .slice ta c.us[k].ts.length tc] 31))
            clear hL hE hg k1
            go_wp2
            go_region
            all_goals
              go_wp2_with fail
              go_roundw
              case rel => exact ⟨k + 1, p + 1, q, s + c.us[k].ts.length, by omega, by go_num, HE.out.drew, by simpa using heap_drew _ HL.out, T1.out.symm, T2.out.symm, S3.out.symm⟩
              case measure => simp [intOf]; omega
        | false =>
          rw [hop] at c0'
          rw [if_neg (by rw [hop]; simp)] at S1
          have T1 := Lib.hid S1
          by_cases hz : 0 < c.us[k].ts.length
          · rw [if_pos hz] at S2
            have T2 := Lib.hid S2
            clear S1 S2
            have hne : wr.heap.size ≠ w2.heap.size := by omega
            have a0 := heap_skip wr (Obj.cells #[.bool false, .slice ta c.us[k].ts.length tc] 31) hg
            have rb0 := heap_push wr (Obj.cells #[.bool false, .slice ta c.us[k].ts.length tc] 31) (n := wr.heap.size) (by simp)
            have u0_0 := cell_of_heap rb0 0
            have u0_1 := cell_of_heap rb0 1
            have g0_0 := cell_of_heap a0 0
            have f0_0 := frozen_of_heap a0 0
            have g0_1 := cell_of_heap a0 1
            have f0_1 := frozen_of_heap a0 1
            have g0_2 := cell_of_heap a0 2
            have f0_2 := frozen_of_heap a0 2
            have k2 := heap_setCell_same wr w2.heap.size 1 _ _ (.int .i64 ((q : Int) + 1)) hg
            have a2 := heap_skip (wr.setCell ⟨w2.heap.size, 1, none⟩ (.int .i64 ((q : Int) + 1))) (Obj.cells #[.bool false, .slice ta c.us[k].ts.length tc] 31) k2
            have rb2 := heap_push (wr.setCell ⟨w2.heap.size, 1, none⟩ (.int .i64 ((q : Int) + 1))) (Obj.cells #[.bool false, .slice ta c.us[k].ts.length tc] 31) (n := wr.heap.size) (by simp)
            have u2_0 := cell_of_heap rb2 0
            have u2_1 := cell_of_heap rb2 1
            have g2_0 := cell_of_heap a2 0
            have f2_0 := frozen_of_heap a2 0
            have g2_1 := cell_of_heap a2 1
            have f2_1 := frozen_of_heap a2 1
            have g2_2 := cell_of_heap a2 2
            have f2_2 := frozen_of_heap a2 2
            have hL := heap_setCell_same (wr.setCell ⟨w2.heap.size, 1, none⟩ (.int .i64 ((q : Int) + 1))) w2.heap.size 2 _ _ (.int .i64 ((s : Int) + (c.us[k].ts.length : Int))) k2
            have HL := Lib.hid (heap_skip ((wr.setCell ⟨w2.heap.size, 1, none⟩ (.int .i64 ((q : Int) + 1))).setCell ⟨w2.heap.size, 2, none⟩ (.int .i64 ((s : Int) + (c.us[k].ts.length : Int)))) (Obj.cells #[.bool false, .slice ta c.us[k].ts.length tc] 31) hL)
            have HE := Lib.hid ((((hE).setCell (p := ⟨w2.heap.size, 1, none⟩) lg (.int .i64 ((q : Int) + 1))).setCell (p := ⟨w2.heap.size, 2, none⟩) lg (.int .i64 ((s : Int) + (c.us[k].ts.length : Int)))).alloc (Obj.cells #[.bool false, .slice ta c.us[k].ts.length tc] 31))
            clear hL hE hg k2
            go_wp2
            go_region
            all_goals
              go_wp2_with fail
              go_roundw
              case rel => exact ⟨k + 1, p, q + 1, s + c.us[k].ts.length, by omega, by go_num, HE.out.drew, by simpa using heap_drew _ HL.out, T1.out.symm, T2.out.symm, S3.out.symm⟩
              case measure => simp [intOf]; omega
          · rw [if_neg hz] at S2
            have T2 := Lib.hid S2
            have hz' : ¬ (0 < (c.us[k].ts.length : Int)) := by omega
            clear S1 S2 hz
            have hne : wr.heap.size ≠ w2.heap.size := by omega
            have a0 := heap_skip wr (Obj.cells #[.bool false, .slice ta c.us[k].ts.length tc] 31) hg
            have rb0 := heap_push wr (Obj.cells #[.bool false, .slice ta c.us[k].ts.length tc] 31) (n := wr.heap.size) (by simp)
            have u0_0 := cell_of_heap rb0 0
            have u0_1 := cell_of_heap rb0 1
            have g0_0 := cell_of_heap a0 0
            have f0_0 := frozen_of_heap a0 0
            have g0_1 := cell_of_heap a0 1
            have f0_1 := frozen_of_heap a0 1
            have g0_2 := cell_of_heap a0 2
            have f0_2 := frozen_of_heap a0 2
            have hL := heap_setCell_same wr w2.heap.size 2 _ _ (.int .i64 ((s : Int) + (c.us[k].ts.length : Int))) hg
            have HL := Lib.hid (heap_skip (wr.setCell ⟨w2.heap.size, 2, none⟩ (.int .i64 ((s : Int) + (c.us[k].ts.length : Int)))) (Obj.cells #[.bool false, .slice ta c.us[k].ts.length tc] 31) hL)
            have HE := Lib.hid (((hE).setCell (p := ⟨w2.heap.size, 2, none⟩) lg (.int .i64 ((s : Int) + (c.us[k].ts.length : Int)))).alloc (Obj.cells #[.bool false, .slice ta c.us[k].ts.length tc] 31))
            clear hL hE hg
            go_wp2
            go_region
            all_goals
              go_wp2_with fail
              go_roundw
              case rel => exact ⟨k + 1, p, q, s + c.us[k].ts.length, by omega, by go_num, HE.out.drew, by simpa using heap_drew _ HL.out, T1.out.symm, T2.out.symm, S3.out.symm⟩
              case measure => simp [intOf]; omega
      · have e : k = c.us.length := by omega
        subst e
        rw [List.take_length] at hp hq hs
        have OF := Lib.hid (own3 (B := w.heap.size) hg lg)
        clear hg
        go_wp2
        go_ret
        exact ⟨_, rfl, hE, by rw [Hd.out, ← hp, ← hq, ← hs]; exact OF.out⟩

end Go.Proofs.Ytfidamjepjgknaa
