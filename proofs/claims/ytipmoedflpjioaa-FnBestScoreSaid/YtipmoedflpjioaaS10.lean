/- The reference: all tasks, may a task come, the first node, scores. -/
import Derived.Test.YtipmoedflpjioaaS9
import Derived.Test.YtipmoedflpjioaaI9
namespace Go.Proofs.Ytipmoedflpjioaa
set_option maxRecDepth 100000
open Go.RowKit

set_option maxHeartbeats 1000000 in
theorem l11Ok_any (v u n : Value) (room : List Int) (bs : List (List T)) (x : T) (w : World) (hr : Ints w v room) (h : Bins w u bs) (hn : Ints w n x.need) (hf : bs.flatten.length ≤ 2097152) :
    Calls Try.prog 93 #[v, u, .agg #[.int .i64 x.id, n]] w fun e w' => e = .returned (.bool (ok11 room bs x)) ∧ Ext w w' := by
  obtain ⟨an, cn, rfl, hn⟩ := hn.open
  have Hf := Lib.hid hf
  clear hf
  cases hb : binsB room bs with
  | false =>
    have Hd : Hid (ok11 room bs x = false) := by show ok11 room bs x = false; simp [ok11, hb]
    have HB := Lib.hid hb
    clear hb
    go_enter Try.func93, Try.ntmps93
    go_wp2_with fail
    have hEx : Ext w _ := (Ext.refl w).alloc (Obj.cells #[.int .i64 x.id, .slice an x.need.length cn] 38)
    generalize w.alloc (Obj.cells #[.int .i64 x.id, .slice an x.need.length cn] 38) = W at *
    have Hr := Lib.hid (hr.ext hEx)
    have Ht := Lib.hid (h.ext hEx)
    clear hr hn h
    first | go_region_with ((go_at_call 23; have cc := sBinsValid_any _ _ _ _ _ (Hr.out.ext (Ext.refl W).drew) (Ht.out.ext (Ext.refl W).drew) Hf.out; rw [HB.out] at cc; refine cc.mono ?_; clear cc; rintro e w1 ⟨rfl, hE⟩)) | fail
    all_goals
      have hE1 := (Ext.refl W).drew.trans hE
      go_wp2
      go_ret
      exact ⟨ret_bool Hd.out.symm, hEx.trans hE1⟩
  | true =>
    have HB := Lib.hid hb
    have Hd : Hid (tasksB room (bs.flatten ++ [x]) = ok11 room bs x) := by show _ = ok11 room bs x; simp [ok11, hb]
    clear hb
    go_enter Try.func93, Try.ntmps93
    go_wp2_with fail
    have hEx : Ext w _ := (Ext.refl w).alloc (Obj.cells #[.int .i64 x.id, .slice an x.need.length cn] 38)
    have cx : (w.alloc (Obj.cells #[.int .i64 x.id, .slice an x.need.length cn] 38)).cell? ⟨w.heap.size, 0, none⟩ = some (.int .i64 x.id) := by rw [box_cell]; rfl
    have cy : (w.alloc (Obj.cells #[.int .i64 x.id, .slice an x.need.length cn] 38)).cell? ⟨w.heap.size, 1, none⟩ = some (.slice an x.need.length cn) := by rw [box_cell]; rfl
    generalize w.alloc (Obj.cells #[.int .i64 x.id, .slice an x.need.length cn] 38) = W at *
    have Hr := Lib.hid (hr.ext hEx)
    have Ht := Lib.hid (h.ext hEx)
    have Hn := Lib.hid (hn.ext hEx)
    have KS := Lib.hid (show ∀ w', Ext W w' → w'.cell? ⟨w.heap.size, 0, none⟩ = some (.int .i64 x.id) ∧ w'.cell? ⟨w.heap.size, 1, none⟩ = some (.slice an x.need.length cn) from fun w' h => ⟨h.cell cx, h.cell cy⟩)
    clear hr hn h
    go_region_held3 (fun w' => w'.cell? ⟨w.heap.size, 0, none⟩ = some (.int .i64 x.id) ∧ w'.cell? ⟨w.heap.size, 1, none⟩ = some (.slice an x.need.length cn))
      (first | exact KS.out _ (Ext.refl W).drew | exact KS.out _ hE1 | exact KS.out _ (hE1.alloc _) | exact KS.out _ hE2 | exact KS.out _ (hE2.alloc _) | exact KS.out _ hE3 | exact KS.out _ hE4)
      ((first
        | (go_at_call 23; have cc := sBinsValid_any _ _ _ _ _ (Hr.out.ext (Ext.refl W).drew) (Ht.out.ext (Ext.refl W).drew) Hf.out; rw [HB.out] at cc; refine cc.mono ?_; clear cc; rintro e w1 ⟨rfl, hE⟩; have hE1 := (Ext.refl W).drew.trans hE; clear hE)
        | (go_at_call 67; refine (l2All_any _ _ _ (Ht.out.ext hE1) Hf.out).mono ?_; rintro e w2 ⟨rc, rfl, hE, ho⟩; have hE2 := hE1.trans hE; have le2 := hE.le; have Ho := Lib.hid ho; clear ho hE)
        | (go_at_call 67; refine (l2All_any _ _ _ (Ht.out.ext (hE1.alloc _)) Hf.out).mono ?_; rintro e w2 ⟨rc, rfl, hE, ho⟩; have hEc := hE; have hE2 := (hE1.alloc (.cells #[.int .i64 x.id, .slice an x.need.length cn] 38)).trans hE; have le2 : w1.heap.size ≤ w2.heap.size := Nat.le_trans (by simp) hE.le; have Ho := Lib.hid (ho.base (show w1.heap.size ≤ _ by simp)); clear ho hE)
        | (refine stepg_app_tasks (by rfl) _ _ (by rfl) w1.heap.size _ bs.flatten (by rfl) (Ho.out.alloc _) (Nat.le_trans le2 (by simp)) _ _ _ [x] (by rfl) (Tasks.lit1 (Hn.out.ext hE2) 1) (by have := Hf.out; unfold lim; rw [List.length_singleton]; omega) ?_; intro v3 w3 hown hkt hbl; have hE3 : Ext W w3 := Below.trans (hE2.alloc _) (Below.mono hbl hE1.le); have Ho3 := Lib.hid (hown.done (by have := Hf.out; unfold lim; rw [List.length_append, List.length_singleton]; omega)); clear hown hkt hbl)
        | (refine stepg_app_tasks (by rfl) _ _ (by rfl) w1.heap.size _ bs.flatten (by rfl) Ho.out le2 _ _ _ [x] (by rfl) ((Tasks.lit1 (Hn.out.ext hE1) 1).ext hEc) (by have := Hf.out; unfold lim; rw [List.length_singleton]; omega) ?_; intro v3 w3 hown hkt hbl; have hE3 : Ext W w3 := Below.trans hE2 (Below.mono hbl hE1.le); have Ho3 := Lib.hid (hown.done (by have := Hf.out; unfold lim; rw [List.length_append, List.length_singleton]; omega)); clear hown hkt hbl)
        | (go_at_call 29; refine (sTasksValid_any _ _ _ _ _ (Hr.out.ext hE3) Ho3.out).mono ?_; rintro e w4 ⟨rfl, n4, rfl⟩; have hE4 := hE3.drewN n4)))
    all_goals
      rw [Hd.out]
      go_wp2
      go_ret
      exact ⟨rfl, hEx.trans hE4⟩


set_option maxHeartbeats 1000000 in
theorem sBinsTasks_any (v u : Value) (room : List Int) (bs : List (List T)) (w : World) (hr : Ints w v room) (h : Bins w u bs) (hf : bs.flatten.length ≤ 2097152) :
    Calls Try.prog 21 #[v, u] w fun e w' => ∃ r, e = .returned r ∧ Ext w w' ∧ OwnTasks w' w.heap.size r (binsTasksL room bs) := by
  cases hb : binsB room bs with
  | false =>
    have Hd : Hid (binsTasksL room bs = []) := by show binsTasksL room bs = []; simp [binsTasksL, hb]
    go_enter Try.func21, Try.ntmps21
    go_wp2_with fail
    refine (sBinsValid_any _ _ _ _ _ hr h hf).mono ?_
    rintro e w2 ⟨rfl, hE2⟩
    go_wp2
    go_ret
    exact ⟨_, rfl, hE2.alloc _, by rw [Hd.out]; exact OwnTasks.lit0 w2 w.heap.size hE2.le⟩
  | true =>
    have H3 := Lib.hid (show ∀ t ∈ bs.flatten, t.need.length ≤ 1000 from fun t ht => by have := (binsB_iff.1 hb).three t ht; omega)
    have Hd : Hid (binsTasksL room bs = bs.flatten) := by show binsTasksL room bs = _; simp [binsTasksL, hb]
    have Hf := Lib.hid hf
    clear hf
    go_enter Try.func21, Try.ntmps21
    go_wp2_with fail
    refine (sBinsValid_any _ _ _ _ _ hr h Hf.out).mono ?_
    rintro e w2 ⟨rfl, hE2⟩
    go_wp2_with fail
    refine (l2All_any _ _ _ (h.ext hE2) Hf.out).mono ?_
    rintro e w3 ⟨r, rfl, hE3, ho⟩
    have Ho := Lib.hid (ho.done (by have := Hf.out; unfold lim; omega))
    have F3 := hE2.trans hE3
    clear ho hE3 hE2
    go_wp2_with fail
    refine (l2Copy_any _ _ _ Ho.out H3.out).mono ?_
    rintro e w4 ⟨r4, rfl, hE4, ht⟩
    have Ht := Lib.hid (show OwnTasks w4 w.heap.size r4 (binsTasksL room bs) by rw [Hd.out]; exact ht.base F3.le)
    have F4 := F3.trans hE4
    clear ht hE4 F3
    go_wp2
    go_ret
    exact ⟨_, rfl, F4, Ht.out⟩
theorem binsTasks_lim (room : List Int) (bs : List (List T)) : (binsTasksL room bs).length ≤ 1000 ∧ ∀ t ∈ binsTasksL room bs, t.need.length ≤ 1000 := by
  unfold binsTasksL
  split
  · rename_i hb
    have h1 := (binsB_iff.1 hb)
    exact ⟨by have := h1.1.2.1; omega, fun t ht => by have := h1.three t ht; omega⟩
  · simp

end Go.Proofs.Ytipmoedflpjioaa
