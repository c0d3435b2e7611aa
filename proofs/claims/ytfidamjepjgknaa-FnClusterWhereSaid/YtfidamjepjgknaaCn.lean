/- Clusters: where a task is, by the program and by the reference. No condition. -/
import Derived.Test.YtfidamjepjgknaaCm
namespace Go.Proofs.Ytfidamjepjgknaa
set_option maxRecDepth 100000
open Go.RowKit

def whereC (c : C) (id : Int) : Int := if clusterB c = true then nodeI (where0 (binsC c.us) id) else -1
theorem clusterB_len {c : C} (h : clusterB c = true) : c.us.length ≤ 10 := by
  unfold clusterB at h
  rw [Bool.and_eq_true, Bool.and_eq_true] at h
  have := inB_iff.1 h.2.1
  omega
theorem clusterB_bins {c : C} (h : clusterB c = true) : binsB c.room (binsC c.us) = true := by
  unfold clusterB at h
  rw [Bool.and_eq_true, Bool.and_eq_true] at h
  exact h.2.2

set_option maxHeartbeats 1000000 in
theorem sClusterWhere_any (v : Value) (c : C) (id : Int) (w : World) (h : Clu w v c) (hw : weighC c ≤ 2097152) :
    Calls Try.prog 11 #[v, .int .i64 id] w fun e w' => e = .returned (.int .i64 (whereC c id)) ∧ Ext w w' := by
  obtain ⟨ra, rc, ua, uc, rfl, -, -⟩ := h.open
  have e0 : Ext w (w.alloc (Obj.cells #[.slice ra c.room.length rc, .slice ua c.us.length uc] 26)) := (Ext.refl w).alloc _
  have R0 := Lib.hid (heap_alloc_new w (Obj.cells #[.slice ra c.room.length rc, .slice ua c.us.length uc] 26))
  have HCc := Lib.hid (h.ext e0)
  have HW := Lib.hid hw
  clear h hw
  cases hb : clusterB c with
  | false =>
    have Hd : Hid (whereC c id = -1) := by show whereC c id = -1; simp [whereC, hb]
    go_enter Try.func11, Try.ntmps11
    go_wp2_with fail
    have cc := sClusterValid_any _ c _ HCc.out HW.out
    rw [hb] at cc
    refine cc.mono ?_
    clear cc
    rintro e w2 ⟨rfl, hE2⟩
    go_wp2
    go_ret
    exact ⟨ret_int Hd.out.symm, e0.trans hE2⟩
  | true =>
    have Hd : Hid (whereC c id = nodeI (where0 (binsC c.us) id)) := by show whereC c id = _; simp [whereC, hb]
    have hl := clusterB_len hb
    go_enter Try.func11, Try.ntmps11
    go_wp2_with fail
    have cc := sClusterValid_any _ c _ HCc.out HW.out
    rw [hb] at cc
    refine cc.mono ?_
    clear cc
    rintro e w2 ⟨rfl, hE2⟩
    have r2 := (hE2.block (lt_of_heap R0.out)).trans R0.out
    have x0 := cell_of_heap r2 0
    have x1 := cell_of_heap r2 1
    have E2 := Lib.hid (e0.trans hE2)
    have HC2 := Lib.hid (HCc.out.ext hE2)
    clear hE2 r2 e0
    go_wp2_with fail
    refine (l21Bins_any _ c _ HC2.out).mono ?_
    rintro e w3 ⟨r, rfl, hE3, hb3⟩
    have E3 := Lib.hid (E2.out.trans hE3)
    have HB := Lib.hid (hb3.done (by rw [binsC_len]; unfold lim; omega))
    clear hE3 hb3
    go_wp2_with fail
    refine (l2Where_any _ _ id _ HB.out).mono ?_
    rintro e w4 ⟨rfl, hE4⟩
    go_wp2
    go_ret
    exact ⟨ret_int Hd.out.symm, E3.out.trans hE4⟩

set_option maxHeartbeats 1000000 in
theorem ClusterWhere_any (v : Value) (c : C) (id : Int) (w : World) (h : Clu w v c) (hw : weighC c ≤ 2097152) :
    Calls Try.prog 10 #[v, .int .i64 id] w fun e w' => e = .returned (.int .i64 (whereC c id)) ∧ Ext w w' := by
  obtain ⟨ra, rc, ua, uc, rfl, -, -⟩ := h.open
  have e0 : Ext w (w.alloc (Obj.cells #[.slice ra c.room.length rc, .slice ua c.us.length uc] 26)) := (Ext.refl w).alloc _
  have R0 := Lib.hid (heap_alloc_new w (Obj.cells #[.slice ra c.room.length rc, .slice ua c.us.length uc] 26))
  have HCc := Lib.hid (h.ext e0)
  have HW := Lib.hid hw
  clear h hw
  cases hb : clusterB c with
  | false =>
    have Hd : Hid (whereC c id = -1) := by show whereC c id = -1; simp [whereC, hb]
    go_enter Try.func10, Try.ntmps10
    go_wp2_with fail
    have cc := ClusterValid_any _ c _ HCc.out HW.out
    rw [hb] at cc
    refine cc.mono ?_
    clear cc
    rintro e w2 ⟨rfl, hE2⟩
    go_wp2
    go_ret
    exact ⟨ret_int Hd.out.symm, e0.trans hE2⟩
  | true =>
    have Hd : Hid (whereC c id = nodeI (where0 (binsC c.us) id)) := by show whereC c id = _; simp [whereC, hb]
    have hl := clusterB_len hb
    go_enter Try.func10, Try.ntmps10
    go_wp2_with fail
    have cc := ClusterValid_any _ c _ HCc.out HW.out
    rw [hb] at cc
    refine cc.mono ?_
    clear cc
    rintro e w2 ⟨rfl, hE2⟩
    have r2 := (hE2.block (lt_of_heap R0.out)).trans R0.out
    have x0 := cell_of_heap r2 0
    have x1 := cell_of_heap r2 1
    have E2 := Lib.hid (e0.trans hE2)
    have HC2 := Lib.hid (HCc.out.ext hE2)
    clear hE2 r2 e0
    go_wp2_with fail
    refine (bins_any _ c _ HC2.out hl).mono ?_
    rintro e w3 ⟨r, rfl, hE3, hb3⟩
    have E3 := Lib.hid (E2.out.trans hE3)
    have HB := Lib.hid (hb3.done (by rw [binsC_len]; unfold lim; omega))
    clear hE3 hb3
    go_wp2_with fail
    refine (whereOf_any _ _ id _ HB.out).mono ?_
    rintro e w4 ⟨rfl, hE4⟩
    go_wp2
    go_ret
    exact ⟨ret_int Hd.out.symm, E3.out.trans hE4⟩

end Go.Proofs.Ytfidamjepjgknaa
