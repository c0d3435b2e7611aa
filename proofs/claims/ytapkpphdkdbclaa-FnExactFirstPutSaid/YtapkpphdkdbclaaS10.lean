/- The reference: all tasks, may a task come, the first node, scores. -/
import Derived.Test.YtapkpphdkdbclaaS9
import Derived.Test.YtapkpphdkdbclaaI9
namespace Go.Proofs.Ytapkpphdkdbclaa
set_option maxRecDepth 100000
open Go.RowKit

set_option maxHeartbeats 1000000 in
theorem l11Ok_any (v u n : Value) (room : List Int) (bs : List (List T)) (x : T) (w : World) (hr : Ints w v room) (h : Bins w u bs) (hn : Ints w n x.need) (hf : bs.flatten.length ≤ 2097152) :
    Calls Try.prog 71 #[v, u, .agg #[.int .i64 x.id, n]] w fun e w' => e = .returned (.bool (ok11 room bs x)) ∧ Ext w w' := by
  obtain ⟨an, cn, rfl, hn⟩ := hn.open
  have Hf := Lib.hid hf
  clear hf
  cases hb : binsB room bs with
  | false =>
    have Hd : Hid (ok11 room bs x = false) := by show ok11 room bs x = false; simp [ok11, hb]
    have HB := Lib.hid hb
    clear hb
    go_enter Try.func71, Try.ntmps71
    go_wp2_with fail
    have hEx : Ext w _ := (Ext.refl w).alloc (Obj.cells #[.int .i64 x.id, .slice an x.need.length cn] 42)
    generalize w.alloc (Obj.cells #[.int .i64 x.id, .slice an x.need.length cn] 42) = W at *
    have Hr := Lib.hid (hr.ext hEx)
    have Ht := Lib.hid (h.ext hEx)
    clear hr hn h
    first | go_region_with ((go_at_call 32; have cc := sBinsValid_any _ _ _ _ _ (Hr.out.ext (Ext.refl W).drew) (Ht.out.ext (Ext.refl W).drew) Hf.out; rw [HB.out] at cc; refine cc.mono ?_; clear cc; rintro e w1 ⟨rfl, hE⟩)) | fail
    all_goals
      have hE1 := (Ext.refl W).drew.trans hE
      go_wp2
      go_ret
      exact ⟨ret_bool Hd.out.symm, hEx.trans hE1⟩
  | true =>
    have HB := Lib.hid hb
    have Hd : Hid (tasksB room (bs.flatten ++ [x]) = ok11 room bs x) := by show _ = ok11 room bs x; simp [ok11, hb]
    clear hb
    go_enter Try.func71, Try.ntmps71
    go_wp2_with fail
    have hEx : Ext w _ := (Ext.refl w).alloc (Obj.cells #[.int .i64 x.id, .slice an x.need.length cn] 42)
    have cx : (w.alloc (Obj.cells #[.int .i64 x.id, .slice an x.need.length cn] 42)).cell? ⟨w.heap.size, 0, none⟩ = some (.int .i64 x.id) := by rw [box_cell]; rfl
    have cy : (w.alloc (Obj.cells #[.int .i64 x.id, .slice an x.need.length cn] 42)).cell? ⟨w.heap.size, 1, none⟩ = some (.slice an x.need.length cn) := by rw [box_cell]; rfl
    generalize w.alloc (Obj.cells #[.int .i64 x.id, .slice an x.need.length cn] 42) = W at *
    have Hr := Lib.hid (hr.ext hEx)
    have Ht := Lib.hid (h.ext hEx)
    have Hn := Lib.hid (hn.ext hEx)
    have KS := Lib.hid (show ∀ w', Ext W w' → w'.cell? ⟨w.heap.size, 0, none⟩ = some (.int .i64 x.id) ∧ w'.cell? ⟨w.heap.size, 1, none⟩ = some (.slice an x.need.length cn) from fun w' h => ⟨h.cell cx, h.cell cy⟩)
    clear hr hn h
    go_region_held3 (fun w' => w'.cell? ⟨w.heap.size, 0, none⟩ = some (.int .i64 x.id) ∧ w'.cell? ⟨w.heap.size, 1, none⟩ = some (.slice an x.need.length cn))
      (first | exact KS.out _ (Ext.refl W).drew | exact KS.out _ hE1 | exact KS.out _ (hE1.alloc _) | exact KS.out _ hE2 | exact KS.out _ (hE2.alloc _) | exact KS.out _ hE3 | exact KS.out _ hE4)
      ((first
        | (go_at_call 32; have cc := sBinsValid_any _ _ _ _ _ (Hr.out.ext (Ext.refl W).drew) (Ht.out.ext (Ext.refl W).drew) Hf.out; rw [HB.out] at cc; refine cc.mono ?_; clear cc; rintro e w1 ⟨rfl, hE⟩; have hE1 := (Ext.refl W).drew.trans hE; clear hE)
        | (go_at_call 74; refine (l2All_any _ _ _ (Ht.out.ext hE1) Hf.out).mono ?_; rintro e w2 ⟨rc, rfl, hE, ho⟩; have hE2 := hE1.trans hE; have le2 := hE.le; have Ho := Lib.hid ho; clear ho hE)
        | (go_at_call 74; refine (l2All_any _ _ _ (Ht.out.ext (hE1.alloc _)) Hf.out).mono ?_; rintro e w2 ⟨rc, rfl, hE, ho⟩; have hEc := hE; have hE2 := (hE1.alloc (.cells #[.int .i64 x.id, .slice an x.need.length cn] 42)).trans hE; have le2 : w1.heap.size ≤ w2.heap.size := Nat.le_trans (by simp) hE.le; have Ho := Lib.hid (ho.base (show w1.heap.size ≤ _ by simp)); clear ho hE)
        | (refine stepg_app_tasks (by rfl) _ _ (by rfl) w1.heap.size _ bs.flatten (by rfl) (Ho.out.alloc _) (Nat.le_trans le2 (by simp)) _ _ _ [x] (by rfl) (Tasks.lit1 (Hn.out.ext hE2) 1) (by have := Hf.out; unfold lim; rw [List.length_singleton]; omega) ?_; intro v3 w3 hown hkt hbl; have hE3 : Ext W w3 := Below.trans (hE2.alloc _) (Below.mono hbl hE1.le); have Ho3 := Lib.hid (hown.done (by have := Hf.out; unfold lim; rw [List.length_append, List.length_singleton]; omega)); clear hown hkt hbl)
        | (refine stepg_app_tasks (by rfl) _ _ (by rfl) w1.heap.size _ bs.flatten (by rfl) Ho.out le2 _ _ _ [x] (by rfl) ((Tasks.lit1 (Hn.out.ext hE1) 1).ext hEc) (by have := Hf.out; unfold lim; rw [List.length_singleton]; omega) ?_; intro v3 w3 hown hkt hbl; have hE3 : Ext W w3 := Below.trans hE2 (Below.mono hbl hE1.le); have Ho3 := Lib.hid (hown.done (by have := Hf.out; unfold lim; rw [List.length_append, List.length_singleton]; omega)); clear hown hkt hbl)
        | (go_at_call 73; refine (sTasksValid_any _ _ _ _ _ (Hr.out.ext hE3) Ho3.out).mono ?_; rintro e w4 ⟨rfl, n4, rfl⟩; have hE4 := hE3.drewN n4)))
    all_goals
      rw [Hd.out]
      go_wp2
      go_ret
      exact ⟨rfl, hEx.trans hE4⟩


set_option maxHeartbeats 1000000 in
theorem sFirstAt_any (v u n : Value) (room : List Int) (bs : List (List T)) (x : T) (w : World) (hr : Ints w v room) (h : Bins w u bs) (hn : Ints w n x.need) (hf : bs.flatten.length ≤ 2097152) :
    Calls Try.prog 31 #[v, u, .agg #[.int .i64 x.id, n]] w fun e w' => e = .returned (.int .i64 (firstAtI room bs x)) ∧ Ext w w' := by
  obtain ⟨an, cn, rfl, hn⟩ := hn.open
  have E0 := Lib.hid ((Ext.refl w).alloc (Obj.cells #[.int .i64 x.id, .slice an x.need.length cn] 42))
  have C0 := Lib.hid (show (w.alloc (Obj.cells #[.int .i64 x.id, .slice an x.need.length cn] 42)).cell? ⟨w.heap.size, 0, none⟩ = some (.int .i64 x.id) by rw [box_cell]; rfl)
  have C1 := Lib.hid (show (w.alloc (Obj.cells #[.int .i64 x.id, .slice an x.need.length cn] 42)).cell? ⟨w.heap.size, 1, none⟩ = some (.slice an x.need.length cn) by rw [box_cell]; rfl)
  cases hb : ok11 room bs x with
  | false =>
    have Hd : Hid (firstAtI room bs x = -1) := by show firstAtI room bs x = -1; simp [firstAtI, hb]
    go_enter Try.func31, Try.ntmps31
    go_wp2_with fail
    have cc := l11Ok_any _ _ _ _ _ x _ (hr.ext E0.out) (h.ext E0.out) (hn.ext E0.out) hf
    rw [hb] at cc
    refine cc.mono ?_
    clear cc
    rintro e w2 ⟨rfl, hE2⟩
    go_wp2
    go_ret
    exact ⟨ret_int Hd.out.symm, E0.out.trans hE2⟩
  | true =>
    have Hd : Hid (firstAtI room bs x = nodeI (at11 room bs x)) := by show firstAtI room bs x = _; simp [firstAtI, hb]
    have HT := Lib.hid (show TasksOk room (bs.flatten ++ [x]) by unfold ok11 at hb; rw [Bool.and_eq_true] at hb; exact tasksB_iff.1 hb.2)
    have HO := Lib.hid (show BinsOk room bs by unfold ok11 at hb; rw [Bool.and_eq_true] at hb; exact binsB_iff.1 hb.1)
    go_enter Try.func31, Try.ntmps31
    go_wp2_with fail
    have cc := l11Ok_any _ _ _ _ _ x _ (hr.ext E0.out) (h.ext E0.out) (hn.ext E0.out) hf
    rw [hb] at cc
    clear hb
    refine cc.mono ?_
    clear cc
    rintro e w2 ⟨rfl, hE2⟩
    have E2 := Lib.hid (E0.out.trans hE2)
    have c0 := hE2.cell C0.out
    have c1 := hE2.cell C1.out
    clear hE2
    go_wp2_with fail
    refine (l11At_any _ _ _ _ _ x _ (hr.ext E2.out) (h.ext E2.out) (hn.ext E2.out) HO.out.1.1.1.1 HO.out.goodB (HT.out.good x (by simp))).mono ?_
    rintro e w3 ⟨rfl, hE3⟩
    go_wp2
    go_ret
    exact ⟨ret_int Hd.out.symm, E2.out.trans hE3⟩

theorem binsTasks_lim (room : List Int) (bs : List (List T)) : (binsTasksL room bs).length ≤ 1000 ∧ ∀ t ∈ binsTasksL room bs, t.need.length ≤ 1000 := by
  unfold binsTasksL
  split
  · rename_i hb
    have h1 := (binsB_iff.1 hb)
    exact ⟨by have := h1.1.2.1; omega, fun t ht => by have := h1.three t ht; omega⟩
  · simp

end Go.Proofs.Ytapkpphdkdbclaa
