/- The reference puts a task into a node; the row that it answers has room for its nodes. No condition. -/
import Derived.Test.YtjdhiabdcmindaaDoorS12
import Derived.Test.YtjdhiabdcmindaaDoorDr14
namespace Go.Proofs.YtjdhiabdcmindaaDoor
set_option maxRecDepth 100000
open Go.RowKit

set_option maxHeartbeats 2000000 in
theorem l11Put_oldc (u n : Value) (k : Nat) (bs : List (List T)) (x : T) (w : World) (h : Bins w u bs) (hn : Ints w n x.need) (h3 : x.need.length ≤ 1000) (hk : k < bs.length) (hl : bs.length ≤ 1000) (hb : ∀ b ∈ bs, b.length ≤ 1000 ∧ ∀ t ∈ b, t.need.length ≤ 1000) :
    Calls Tryd.prog 50 #[u, .int .i64 (k : Int), .agg #[.int .i64 x.id, n]] w fun e w' => ∃ a c, e = .returned (.slice a bs.length c) ∧ bs.length ≤ c ∧ Ext w w' ∧ Bins w' (.slice a bs.length c) (bs.set k (bs[k] ++ [x])) := by
  obtain ⟨an, cn, rfl, hn⟩ := hn.open
  have H3 := Lib.hid h3
  have HB := Lib.hid hb
  clear h3 hb
  go_enter Tryd.func50, Tryd.ntmps50
  go_wp2_with fail
  have hEx : Ext w _ := (Ext.refl w).alloc (Obj.cells #[.int .i64 x.id, .slice an x.need.length cn] 61)
  have q0 : (w.alloc (Obj.cells #[.int .i64 x.id, .slice an x.need.length cn] 61)).cell? ⟨w.heap.size, 0, none⟩ = some (.int .i64 x.id) := by rw [box_cell]; rfl
  have q1 : (w.alloc (Obj.cells #[.int .i64 x.id, .slice an x.need.length cn] 61)).cell? ⟨w.heap.size, 1, none⟩ = some (.slice an x.need.length cn) := by rw [box_cell]; rfl
  have hsz : (w.alloc (Obj.cells #[.int .i64 x.id, .slice an x.need.length cn] 61)).heap.size = w.heap.size + 1 := by simp
  generalize w.alloc (Obj.cells #[.int .i64 x.id, .slice an x.need.length cn] 61) = W0 at *
  have KS := Lib.hid (show ∀ w', Ext W0 w' → w'.cell? ⟨w.heap.size, 0, none⟩ = some (.int .i64 x.id) ∧ w'.cell? ⟨w.heap.size, 1, none⟩ = some (.slice an x.need.length cn) from fun w' h => ⟨h.cell q0, h.cell q1⟩)
  have Hn := Lib.hid (hn.ext hEx)
  have Hb := Lib.hid (h.ext hEx)
  have E0 := Lib.hid hEx
  clear hn h q0 q1 hEx
  refine (l2Bins_any _ bs _ Hb.out (fun b hb t ht => (HB.out b hb).2 t ht)).mono ?_
  rintro e W ⟨oa, oc, rfl, hE1, hN1⟩
  have E1 := Lib.hid hE1
  have HN := Lib.hid hN1
  have hw1 : W0.heap.size ≤ W.heap.size := hE1.le
  obtain ⟨bb, nd, rfl, -, -, cb, hot, fb⟩ := hN1.at hk
  obtain ⟨ia, ic, rfl⟩ := hot.form
  have CB := Lib.hid cb
  have Hot := Lib.hid hot
  have hbb : bb < W.heap.size := World.block_lt_of_cell? W ⟨bb, k, none⟩ cb
  have i0 : (0 : Int) ≤ (k : Int) := by omega
  have i1 : (k : Int) < (bs.length : Int) := by omega
  have hneg : ¬ ((k : Int) < 0) := by omega
  clear cb hot fb
  clear hE1 hN1
  go_wp2_with fail
  go_region_held3 (fun w' => w'.cell? ⟨w.heap.size, 0, none⟩ = some (.int .i64 x.id) ∧ w'.cell? ⟨w.heap.size, 1, none⟩ = some (.slice an x.need.length cn))
    (first | exact KS.out _ (E1.out.trans (Ext.refl W).drew) | exact KS.out _ (E1.out.trans ((Ext.refl W).alloc _).drew) | exact KS.out _ (E1.out.trans (((Ext.refl W).alloc _).alloc _).drew) | exact KS.out _ (E1.out.trans E2.out) | exact KS.out _ (E1.out.trans (E2.out.alloc _)) | exact KS.out _ (E1.out.trans Q.out.1) | fail)
    ((first
      | (refine step_app_ints (by rfl) _ _ (by rfl) W.heap.size _ [] (by rfl) ((OwnInts.lit0 W W.heap.size (Nat.le_refl _)).alloc _).drew (by simp <;> omega) _ _ _ x.need (by rfl) (Hn.out.ext (E1.out.trans (((Ext.refl W).alloc (.cells #[] 3)).alloc (.cells #[.int .i64 0, .slice none 0 0] 61)).drew)) (by have := H3.out; unfold lim; simp; omega) ?_; intro v1 w1 hown1 hkt1 hbl1; have E2 := Lib.hid ((((Ext.refl W).alloc (.cells #[] 3)).alloc (.cells #[.int .i64 0, .slice none 0 0] 61)).drew.below hbl1); rw [List.nil_append] at hown1; obtain ⟨va, vc, hv1, hi1⟩ := (hown1.done (by have := H3.out; unfold lim; omega)).open; subst hv1; have Hi := Lib.hid hi1; have HY := Lib.hid (show w1.heap[_]? = some (.cells #[.int .i64 0, .slice none 0 0] 61 (0, 0)) from (hkt1.2 _ _ _ _ (heap2 W (.cells #[] 3) (.cells #[.int .i64 0, .slice none 0 0] 61)) (by decide)).trans (heap2 W (.cells #[] 3) (.cells #[.int .i64 0, .slice none 0 0] 61))); have Q := Lib.hid (task_var (y := W.heap.size + 1) E2.out HY.out (by simp) x.id (.slice va x.need.length vc) Hi.out); have r0 := cell_of_heap HY.out 0; have r1 := cell_of_heap HY.out 1; have f0 := frozen_of_heap HY.out 0; have f1 := frozen_of_heap HY.out 1; clear hown1 hkt1 hbl1 hi1)
      | (refine step_app_ints (by rfl) _ _ (by rfl) W.heap.size _ [] (by rfl) (OwnInts.lit0' (W.alloc _) W.heap.size (by simp) (W.heap.size + 1) (by simp)).drew (by simp <;> omega) _ _ _ x.need (by rfl) (Hn.out.ext (E1.out.trans (((Ext.refl W).alloc (.cells #[.int .i64 0, .slice none 0 0] 61)).alloc (.cells #[] 3)).drew)) (by have := H3.out; unfold lim; simp; omega) ?_; intro v1 w1 hown1 hkt1 hbl1; have E2 := Lib.hid ((((Ext.refl W).alloc (.cells #[.int .i64 0, .slice none 0 0] 61)).alloc (.cells #[] 3)).drew.below hbl1); rw [List.nil_append] at hown1; obtain ⟨va, vc, hv1, hi1⟩ := (hown1.done (by have := H3.out; unfold lim; omega)).open; subst hv1; have Hi := Lib.hid hi1; have HY := Lib.hid (show w1.heap[_]? = some (.cells #[.int .i64 0, .slice none 0 0] 61 (0, 0)) from (hkt1.2 _ _ _ _ (heap1 W (.cells #[.int .i64 0, .slice none 0 0] 61) (.cells #[] 3)) (by decide)).trans (heap1 W (.cells #[.int .i64 0, .slice none 0 0] 61) (.cells #[] 3))); have Q := Lib.hid (task_var (y := W.heap.size) E2.out HY.out (by simp) x.id (.slice va x.need.length vc) Hi.out); have r0 := cell_of_heap HY.out 0; have r1 := cell_of_heap HY.out 1; have f0 := frozen_of_heap HY.out 0; have f1 := frozen_of_heap HY.out 1; clear hown1 hkt1 hbl1 hi1)
      | (refine step_app_ints (by rfl) _ _ (by rfl) W.heap.size _ [] (by rfl) (OwnInts.lit0 W W.heap.size (Nat.le_refl _)).drew (by simp <;> omega) _ _ _ x.need (by rfl) (Hn.out.ext (E1.out.trans ((Ext.refl W).alloc (.cells #[] 3)).drew)) (by have := H3.out; unfold lim; simp; omega) ?_; intro v1 w1 hown1 hkt1 hbl1; have E2 := Lib.hid (((Ext.refl W).alloc (.cells #[] 3)).drew.below hbl1); rw [List.nil_append] at hown1; obtain ⟨va, vc, hv1, hi1⟩ := (hown1.done (by have := H3.out; unfold lim; omega)).open; subst hv1; have Hi := Lib.hid hi1; have Q : Hid (Ext W (w1.alloc (.cells #[.int .i64 x.id, .slice va x.need.length vc] 61)) ∧ (w1.alloc (.cells #[.int .i64 x.id, .slice va x.need.length vc] 61)).heap[w1.heap.size]? = some (.cells #[.int .i64 x.id, .slice va x.need.length vc] 61 (0, 0)) ∧ Ints (w1.alloc (.cells #[.int .i64 x.id, .slice va x.need.length vc] 61)) (.slice va x.need.length vc) x.need) := Lib.hid ⟨E2.out.alloc _, heap_alloc_new w1 _, Hi.out.ext ((Ext.refl w1).alloc _)⟩; clear hown1 hkt1 hbl1 hi1)))
  all_goals
    have HI := Lib.hid Q.out.2.2
    have EF := Lib.hid Q.out.1
    have c0 := cell_of_heap Q.out.2.1 0
    have c1 := cell_of_heap Q.out.2.1 1
    simp only [List.getElem?_toArray, List.getElem?_cons_zero, List.getElem?_cons_succ] at c0 c1
    clear Q E2 Hi
    try clear HY r0 r1 f0 f1
    first
      | ((with_reducible (have hx : Hid (Ext W (w1.alloc (.cells #[.int .i64 x.id, .slice va x.need.length vc] 61))) := EF)); clear hx; generalize w1.alloc (.cells #[.int .i64 x.id, .slice va x.need.length vc] 61) = WF at *)
      | ((with_reducible (have hx : Hid (Ext W ((w1.setCell ⟨W.heap.size + 1, 0, none⟩ (.int .i64 x.id)).setCell ⟨W.heap.size + 1, 1, none⟩ (.slice va x.need.length vc))) := EF)); clear hx; generalize (w1.setCell ⟨W.heap.size + 1, 0, none⟩ (.int .i64 x.id)).setCell ⟨W.heap.size + 1, 1, none⟩ (.slice va x.need.length vc) = WF at *)
      | ((with_reducible (have hx : Hid (Ext W ((w1.setCell ⟨W.heap.size, 0, none⟩ (.int .i64 x.id)).setCell ⟨W.heap.size, 1, none⟩ (.slice va x.need.length vc))) := EF)); clear hx; generalize (w1.setCell ⟨W.heap.size, 0, none⟩ (.int .i64 x.id)).setCell ⟨W.heap.size, 1, none⟩ (.slice va x.need.length vc) = WF at *)
    have EX := Lib.hid (((Ext.refl WF).alloc (.cells #[.int .i64 x.id, .slice va x.need.length vc] 61)).drew)
    have Lit := Lib.hid (Tasks.lit1 (t := x) HI.out 1).drew
    have cb := EF.out.cell CB.out
    have cbx := EX.out.cell cb
    have NZ := Lib.hid (HN.out.ext (EF.out.trans EX.out))
    have Hz := Lib.hid (Hot.out.ext (EF.out.trans EX.out))
    have Sz := Lib.hid (Nat.le_trans hw1 (EF.out.trans EX.out).le)
    go_wp2_with fail
    go_region_law ((refine step_app2_tasks rfl _ _ rfl W0.heap.size _ bs[k] rfl Hz.out Sz.out _ _ _ [x] rfl Lit.out (by have := (HB.out _ (List.getElem_mem hk)).1; unfold lim; simp; omega) ?_; intro v' w9 hown hg hbk; obtain ⟨pa, pc, rfl⟩ := hown.form; obtain ⟨p1, p2, p3, p4, p5, p6, p7⟩ := Nest.push NZ.out hk cbx Sz.out hown hg hbk))
    all_goals
      have el : (bs[k] ++ [x]).length = bs[k].length + 1 := by simp
      rw [el] at p1 p3 p4
      obtain ⟨fa, fc, fe, hfc⟩ := nest_formc p1
      simp only [Value.slice.injEq, List.length_set, true_and] at fe
      obtain ⟨-, rfl⟩ := fe
      rw [List.length_set] at hfc
      have HR := Lib.hid (show Ext w _ ∧ Bins _ _ (bs.set k (bs[k] ++ [x])) from ⟨E0.out.trans (((E1.out.trans (EF.out.trans EX.out)).below p5).below p4), p1.done (by unfold lim; simp; omega) (fun b hb => by
        rcases List.mem_or_eq_of_mem_set hb with hb | hb
        · have := (HB.out b hb).1; unfold lim; omega
        · have := (HB.out _ (List.getElem_mem hk)).1; rw [hb, el]; unfold lim; omega)⟩)
      clear p1 p2 p3 p4 p5 p6 p7 hown hg hbk cbx cb c0 c1
      go_wp2
      go_ret
      exact ⟨_, _, rfl, hfc, HR.out.1, HR.out.2⟩

end Go.Proofs.YtjdhiabdcmindaaDoor
