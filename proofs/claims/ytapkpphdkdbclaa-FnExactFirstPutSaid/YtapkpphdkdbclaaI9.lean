/- The program: may a task come, has a node room. -/
import Derived.Test.YtapkpphdkdbclaaI8
import Derived.Test.YtapkpphdkdbclaaS8
import Derived.Deep.RegionHeld3
import Derived.Deep.RegionWith
namespace Go.Proofs.Ytapkpphdkdbclaa
set_option maxRecDepth 100000
open Go.RowKit

set_option maxHeartbeats 600000 in
theorem hasRoom_any (v u n : Value) (room : List Int) (b : List T) (x : T) (w : World) (hr : Ints w v room) (h : Tasks w u b) (hn : Ints w n x.need) (r3 : room.length = 3) (gb : Good b) (gx : Good1 x) :
    Calls Try.prog 117 #[v, u, .agg #[.int .i64 x.id, n]] w fun e w' => e = .returned (.bool (fits11 room b x)) ∧ Ext w w' := by
  obtain ⟨an, cn, rfl, hn⟩ := hn.open
  have R3 := Lib.hid r3
  have Gx := Lib.hid gx
  have Gl := Lib.hid (load_bd gb h.1)
  have Gb := Lib.hid gb
  clear r3 gx gb
  go_enter Try.func117, Try.ntmps117
  go_wp2_with fail
  have hEx : Ext w _ := (Ext.refl w).alloc (Obj.cells #[.int .i64 x.id, .slice an x.need.length cn] 42)
  have cx : (w.alloc (Obj.cells #[.int .i64 x.id, .slice an x.need.length cn] 42)).cell? ⟨w.heap.size, 1, none⟩ = some (.slice an x.need.length cn) := by rw [box_cell]; rfl
  generalize w.alloc (Obj.cells #[.int .i64 x.id, .slice an x.need.length cn] 42) = W at *
  have Hr := Lib.hid (hr.ext hEx)
  have Hn := Lib.hid (hn.ext hEx)
  have Ht := Lib.hid (h.ext hEx)
  clear hr hn h
  go_region_held3 (fun w' => w'.cell? ⟨w.heap.size, 1, none⟩ = some (.slice an x.need.length cn))
    (first | exact (Ext.refl W).drew.cell cx | exact hE1.cell cx | exact hE3.cell cx)
    (first
      | (go_at_call 79; refine (loadOf_any _ _ _ (Ht.out.ext (Ext.refl W).drew) Gb.out).mono ?_; rintro e w1 ⟨r, rfl, hE, hi⟩; have hE1 := (Ext.refl W).drew.trans hE; have Hi := Lib.hid hi; clear hi hE)
      | (go_at_call 112; refine (plus_any _ _ _ _ _ Hi.out (Hn.out.ext hE1) Gl.out.1 Gx.out.1 Gl.out.2 (good1_bd Gx.out)).mono ?_; rintro e w2 ⟨r2, rfl, hE2, hi2⟩; have hE3 := hE1.trans hE2; have Hi2 := Lib.hid hi2; clear hi2 hE2)
      | (go_at_call 80; refine (fits_any _ _ _ _ _ Hi2.out (Hr.out.ext hE3) (addL_get Gl.out.1 Gx.out.1).1 R3.out).mono ?_; rintro e w3 ⟨rfl, rfl⟩))
  go_wp2
  go_ret
  exact ⟨ret_bool rfl, hEx.trans hE3⟩

set_option maxHeartbeats 1000000 in
theorem canCome_any (v u n : Value) (room : List Int) (bs : List (List T)) (x : T) (w : World) (hr : Ints w v room) (h : Bins w u bs) (hn : Ints w n x.need) (hf : bs.flatten.length ≤ 2097152) :
    Calls Try.prog 69 #[v, u, .agg #[.int .i64 x.id, n]] w fun e w' => e = .returned (.bool (ok11 room bs x)) ∧ Ext w w' := by
  obtain ⟨an, cn, rfl, hn⟩ := hn.open
  have Hf := Lib.hid hf
  clear hf
  cases hb : binsB room bs with
  | false =>
    have Hd : Hid (ok11 room bs x = false) := by show ok11 room bs x = false; simp [ok11, hb]
    have HB := Lib.hid hb
    clear hb
    go_enter Try.func69, Try.ntmps69
    go_wp2_with fail
    have hEx : Ext w _ := (Ext.refl w).alloc (Obj.cells #[.int .i64 x.id, .slice an x.need.length cn] 42)
    generalize w.alloc (Obj.cells #[.int .i64 x.id, .slice an x.need.length cn] 42) = W at *
    have Hr := Lib.hid (hr.ext hEx)
    have Ht := Lib.hid (h.ext hEx)
    clear hr hn h
    first | go_region_with ((go_at_call 33; have cc := BinsValid_any _ _ _ _ _ (Hr.out.ext (Ext.refl W).drew) (Ht.out.ext (Ext.refl W).drew) Hf.out; rw [HB.out] at cc; refine cc.mono ?_; clear cc; rintro e w1 ⟨rfl, hE⟩)) | fail
    all_goals
      have hE1 := (Ext.refl W).drew.trans hE
      go_wp2
      go_ret
      exact ⟨ret_bool Hd.out.symm, hEx.trans hE1⟩
  | true =>
    have HB := Lib.hid hb
    have Hd : Hid (tasksB room (bs.flatten ++ [x]) = ok11 room bs x) := by show _ = ok11 room bs x; simp [ok11, hb]
    clear hb
    go_enter Try.func69, Try.ntmps69
    go_wp2_with fail
    have hEx : Ext w _ := (Ext.refl w).alloc (Obj.cells #[.int .i64 x.id, .slice an x.need.length cn] 42)
    have cx : (w.alloc (Obj.cells #[.int .i64 x.id, .slice an x.need.length cn] 42)).cell? ⟨w.heap.size, 0, none⟩ = some (.int .i64 x.id) := by rw [box_cell]; rfl
    have cy : (w.alloc (Obj.cells #[.int .i64 x.id, .slice an x.need.length cn] 42)).cell? ⟨w.heap.size, 1, none⟩ = some (.slice an x.need.length cn) := by rw [box_cell]; rfl
    generalize w.alloc (Obj.cells #[.int .i64 x.id, .slice an x.need.length cn] 42) = W at *
    have Hr := Lib.hid (hr.ext hEx)
    have Ht := Lib.hid (h.ext hEx)
    have Hn := Lib.hid (hn.ext hEx)
    have KS := Lib.hid (show ∀ w', Ext W w' → w'.cell? ⟨w.heap.size, 0, none⟩ = some (.int .i64 x.id) ∧ w'.cell? ⟨w.heap.size, 1, none⟩ = some (.slice an x.need.length cn) from fun w' h => ⟨h.cell cx, h.cell cy⟩)
    clear hr hn h
    go_region_held3 (fun w' => w'.cell? ⟨w.heap.size, 0, none⟩ = some (.int .i64 x.id) ∧ w'.cell? ⟨w.heap.size, 1, none⟩ = some (.slice an x.need.length cn))
      (first | exact KS.out _ (Ext.refl W).drew | exact KS.out _ hE1 | exact KS.out _ (hE1.alloc _) | exact KS.out _ hE2 | exact KS.out _ (hE2.alloc _) | exact KS.out _ hE3 | exact KS.out _ hE4)
      ((first
        | (go_at_call 33; have cc := BinsValid_any _ _ _ _ _ (Hr.out.ext (Ext.refl W).drew) (Ht.out.ext (Ext.refl W).drew) Hf.out; rw [HB.out] at cc; refine cc.mono ?_; clear cc; rintro e w1 ⟨rfl, hE⟩; have hE1 := (Ext.refl W).drew.trans hE; clear hE)
        | (go_at_call 78; refine (concat_any _ _ _ (Ht.out.ext hE1) Hf.out).mono ?_; rintro e w2 ⟨rc, rfl, hE, ho⟩; have hE2 := hE1.trans hE; have le2 := hE.le; have Ho := Lib.hid ho; clear ho hE)
        | (go_at_call 78; refine (concat_any _ _ _ (Ht.out.ext (hE1.alloc _)) Hf.out).mono ?_; rintro e w2 ⟨rc, rfl, hE, ho⟩; have hEc := hE; have hE2 := (hE1.alloc (.cells #[.int .i64 x.id, .slice an x.need.length cn] 42)).trans hE; have le2 : w1.heap.size ≤ w2.heap.size := Nat.le_trans (by simp) hE.le; have Ho := Lib.hid (ho.base (show w1.heap.size ≤ _ by simp)); clear ho hE)
        | (refine stepg_app_tasks (by rfl) _ _ (by rfl) w1.heap.size _ bs.flatten (by rfl) (Ho.out.alloc _) (Nat.le_trans le2 (by simp)) _ _ _ [x] (by rfl) (Tasks.lit1 (Hn.out.ext hE2) 1) (by have := Hf.out; unfold lim; rw [List.length_singleton]; omega) ?_; intro v3 w3 hown hkt hbl; have hE3 : Ext W w3 := Below.trans (hE2.alloc _) (Below.mono hbl hE1.le); have Ho3 := Lib.hid (hown.done (by have := Hf.out; unfold lim; rw [List.length_append, List.length_singleton]; omega)); clear hown hkt hbl)
        | (refine stepg_app_tasks (by rfl) _ _ (by rfl) w1.heap.size _ bs.flatten (by rfl) Ho.out le2 _ _ _ [x] (by rfl) ((Tasks.lit1 (Hn.out.ext hE1) 1).ext hEc) (by have := Hf.out; unfold lim; rw [List.length_singleton]; omega) ?_; intro v3 w3 hown hkt hbl; have hE3 : Ext W w3 := Below.trans hE2 (Below.mono hbl hE1.le); have Ho3 := Lib.hid (hown.done (by have := Hf.out; unfold lim; rw [List.length_append, List.length_singleton]; omega)); clear hown hkt hbl)
        | (go_at_call 77; refine (TasksValid_any _ _ _ _ _ (Hr.out.ext hE3) Ho3.out).mono ?_; rintro e w4 ⟨rfl, hE⟩; have hE4 := hE3.trans hE; clear hE)))
    all_goals
      rw [Hd.out]
      go_wp2
      go_ret
      exact ⟨rfl, hEx.trans hE4⟩

end Go.Proofs.Ytapkpphdkdbclaa
