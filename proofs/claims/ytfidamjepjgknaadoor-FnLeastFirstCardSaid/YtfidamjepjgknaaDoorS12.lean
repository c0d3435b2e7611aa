/- The reference: nodes that are copied; a task is put into a copy of nodes. -/
import Derived.Test.YtfidamjepjgknaaDoorI13
import Derived.Test.YtfidamjepjgknaaDoorS11
import Derived.Test.YtfidamjepjgknaaDoorDr4
import Derived.Test.YtfidamjepjgknaaDoorOwn
namespace Go.Proofs.YtfidamjepjgknaaDoor
set_option maxRecDepth 100000
open Go.RowKit

set_option maxHeartbeats 1000000 in
theorem l2Bins_any (v : Value) (bs : List (List T)) (w : World) (h : Bins w v bs) (h3 : ∀ b ∈ bs, ∀ t ∈ b, t.need.length ≤ 1000) :
    Calls Tryd.prog 47 #[v] w fun e w' => ∃ a c, e = .returned (.slice a bs.length c) ∧ Ext w w' ∧ Nest w' w.heap.size w.heap.size (.slice a bs.length c) bs := by
  obtain ⟨a, cap, rfl, h⟩ := h.open
  have hl : bs.length ≤ 4194304 := h.1
  have H3 := Lib.hid h3
  clear h3
  go_enter Tryd.func47, Tryd.ntmps47
  go_wp2
  go_loopw [3, 4] (fun s i wr => ∃ k : Nat, k ≤ bs.length ∧ i = .int .i64 k ∧ Ext w wr ∧ Nest wr w.heap.size w.heap.size s (bs.take k)) (fun _ i _ => bs.length - (intOf i).toNat)
  case atStart => exact ⟨0, by omega, rfl, (Ext.refl w).alloc _, Nest.lit0 w _ _ (Nat.le_refl _)⟩
  case round =>
    obtain ⟨k, hk, rfl, hE, hs⟩ := hrel
    by_cases hlt : k < bs.length
    · obtain ⟨b, off, nd, rfl, c0, ht⟩ := h.at hlt
      have c0' := hE.cell c0
      obtain ⟨na, nc, rfl, ht'⟩ := (ht.ext hE).open
      have Ht := Lib.hid ht'
      have N3 := Lib.hid (H3.out _ (List.getElem_mem hlt))
      have Hs := Lib.hid hs
      have HE := Lib.hid hE
      have Hst := Lib.hid (List.take_succ_eq_append_getElem hlt)
      have Tl := Lib.hid (show (bs.take k).length = k by simp; omega)
      have hwl := hE.le
      clear c0 ht ht' hE hs
      have b0 : (0 : Int) ≤ (k : Int) := by omega
      have b1 : (k : Int) < (bs.length : Int) := by omega
      go_wp2_with fail
      refine (l2Copy_any _ _ _ Ht.out N3.out).mono ?_
      rintro e w2 ⟨r, rfl, hE2, hs2⟩
      have E2 := Lib.hid hE2
      obtain ⟨ra, rc, rfl⟩ := hs2.form
      have EB := Lib.hid ((Ext.refl w2).alloc (Obj.cells #[.slice ra bs[k].length rc] 24))
      have P2 := Lib.hid (hs2.ext EB.out)
      have hF := Lib.hid (E2.out.trans EB.out)
      clear hE2 hs2
      go_wp2_with (at_builtin; refine app_nest rfl _ _ rfl w.heap.size _ _ rfl Hs.out hF.out hwl hwl _ _ _ bs[k] rfl (Row.lit w2 #[.slice ra bs[k].length rc] _) P2.out (by rw [Tl.out]; unfold lim; omega) ?_; intro v' w4 hN hkt hB)
      have HN := Lib.hid (show Nest w4 w.heap.size w.heap.size v' (bs.take (k + 1)) ∧ Ext w w4 from ⟨by rw [Hst.out]; exact hN, (HE.out.trans hF.out).below hB⟩)
      clear hN hB hkt
      go_roundw
      case rel => exact ⟨k + 1, by omega, by go_num, HN.out.2, HN.out.1⟩
      case measure => simp [intOf]; omega
    · have e : k = bs.length := by omega
      subst e
      rw [List.take_length] at hs
      have Hs := Lib.hid hs
      obtain ⟨sa, sc, rfl⟩ := hs.form
      clear hs
      go_wp2
      go_ret
      exact ⟨_, _, rfl, hE, Hs.out⟩

theorem OwnTasks.lit1 {w : World} {B : Nat} {t : T} {n : Value} (hn : Ints w n t.need) (hB : B ≤ w.heap.size) : OwnTasks (w.alloc (.cells #[.int .i64 t.id, n] 31)) B (.slice (some ⟨w.heap.size, 0, none⟩) 1 1) [t] :=
  ⟨[.int .i64 t.id, n], World.ownsRow_lit w #[.int .i64 t.id, n] 1 hB (by simp [maxLen]) rfl, by simpa using (TaskCells.nil _).snoc (hn.ext ((Ext.refl w).alloc _))⟩
theorem OwnInts.lit0' (w : World) (B : Nat) (h : B ≤ w.heap.size) (n : Nat) (hn : n = w.heap.size) : OwnInts (w.alloc (.cells #[] 3)) B (.slice (some ⟨n, 0, none⟩) 0 0) [] := by subst hn; exact OwnInts.lit0 w B h
/-- A task's variable is written: its number, and its need. -/
theorem task_var {W w : World} {y : Nat} (hE : Ext W w) (hy : w.heap[y]? = some (.cells #[.int .i64 0, .slice none 0 0] 31 (0, 0))) (hb : W.heap.size ≤ y) (id : Int) (nv : Value) {need : List Int} (hi : Ints w nv need) :
    Ext W ((w.setCell ⟨y, 0, none⟩ (.int .i64 id)).setCell ⟨y, 1, none⟩ nv) ∧ ((w.setCell ⟨y, 0, none⟩ (.int .i64 id)).setCell ⟨y, 1, none⟩ nv).heap[y]? = some (.cells #[.int .i64 id, nv] 31 (0, 0)) ∧ Ints ((w.setCell ⟨y, 0, none⟩ (.int .i64 id)).setCell ⟨y, 1, none⟩ nv) nv need := by
  have h1 := heap_put (k := 0) hy (.int .i64 id)
  have h2 := heap_put (k := 1) h1 nv
  exact ⟨(hE.setCell (p := ⟨y, 0, none⟩) hb _).setCell (p := ⟨y, 1, none⟩) hb _, by simpa using h2, (hi.kt (KT.put (p := ⟨y, 0, none⟩) hy _) (by decide)).kt (KT.put (p := ⟨y, 1, none⟩) h1 _) (by decide)⟩

set_option maxHeartbeats 2000000 in
theorem l11Put_new (u n : Value) (bs : List (List T)) (x : T) (w : World) (h : Bins w u bs) (hn : Ints w n x.need) (h3 : x.need.length ≤ 1000) (hl : bs.length ≤ 1000) (hb : ∀ b ∈ bs, b.length ≤ 1000 ∧ ∀ t ∈ b, t.need.length ≤ 1000) :
    Calls Tryd.prog 30 #[u, .int .i64 (-1), .agg #[.int .i64 x.id, n]] w fun e w' => ∃ a c, e = .returned (.slice a (bs.length + 1) c) ∧ Ext w w' ∧ Bins w' (.slice a (bs.length + 1) c) (bs ++ [[x]]) := by
  obtain ⟨an, cn, rfl, hn⟩ := hn.open
  have H3 := Lib.hid h3
  have HB := Lib.hid hb
  clear h3 hb
  go_enter Tryd.func30, Tryd.ntmps30
  go_wp2_with fail
  have hEx : Ext w _ := (Ext.refl w).alloc (Obj.cells #[.int .i64 x.id, .slice an x.need.length cn] 31)
  have q0 : (w.alloc (Obj.cells #[.int .i64 x.id, .slice an x.need.length cn] 31)).cell? ⟨w.heap.size, 0, none⟩ = some (.int .i64 x.id) := by rw [box_cell]; rfl
  have q1 : (w.alloc (Obj.cells #[.int .i64 x.id, .slice an x.need.length cn] 31)).cell? ⟨w.heap.size, 1, none⟩ = some (.slice an x.need.length cn) := by rw [box_cell]; rfl
  have hsz : (w.alloc (Obj.cells #[.int .i64 x.id, .slice an x.need.length cn] 31)).heap.size = w.heap.size + 1 := by simp
  generalize w.alloc (Obj.cells #[.int .i64 x.id, .slice an x.need.length cn] 31) = W0 at *
  have KS := Lib.hid (show ∀ w', Ext W0 w' → w'.cell? ⟨w.heap.size, 0, none⟩ = some (.int .i64 x.id) ∧ w'.cell? ⟨w.heap.size, 1, none⟩ = some (.slice an x.need.length cn) from fun w' h => ⟨h.cell q0, h.cell q1⟩)
  have Hn := Lib.hid (hn.ext hEx)
  have Hb := Lib.hid (h.ext hEx)
  have E0 := Lib.hid hEx
  clear hn h q0 q1 hEx
  refine (l2Bins_any _ bs _ Hb.out (fun b hb t ht => (HB.out b hb).2 t ht)).mono ?_
  rintro e W ⟨oa, oc, rfl, hE1, hN1⟩
  have E1 := Lib.hid hE1
  have HN := Lib.hid hN1
  have hw1 : W0.heap.size ≤ W.heap.size := hE1.le
  clear hE1 hN1
  go_wp2_with fail
  go_region_held3 (fun w' => w'.cell? ⟨w.heap.size, 0, none⟩ = some (.int .i64 x.id) ∧ w'.cell? ⟨w.heap.size, 1, none⟩ = some (.slice an x.need.length cn))
    (first | exact KS.out _ (E1.out.trans (Ext.refl W).drew) | exact KS.out _ (E1.out.trans ((Ext.refl W).alloc _).drew) | exact KS.out _ (E1.out.trans (((Ext.refl W).alloc _).alloc _).drew) | exact KS.out _ (E1.out.trans E2.out) | exact KS.out _ (E1.out.trans (E2.out.alloc _)) | exact KS.out _ (E1.out.trans Q.out.1) | fail)
    ((first
      | (refine step_app_ints (by rfl) _ _ (by rfl) W.heap.size _ [] (by rfl) ((OwnInts.lit0 W W.heap.size (Nat.le_refl _)).alloc _).drew (by simp <;> omega) _ _ _ x.need (by rfl) (Hn.out.ext (E1.out.trans (((Ext.refl W).alloc (.cells #[] 3)).alloc (.cells #[.int .i64 0, .slice none 0 0] 31)).drew)) (by have := H3.out; unfold lim; simp; omega) ?_; intro v1 w1 hown1 hkt1 hbl1; have E2 := Lib.hid ((((Ext.refl W).alloc (.cells #[] 3)).alloc (.cells #[.int .i64 0, .slice none 0 0] 31)).drew.below hbl1); rw [List.nil_append] at hown1; obtain ⟨va, vc, hv1, hi1⟩ := (hown1.done (by have := H3.out; unfold lim; omega)).open; subst hv1; have Hi := Lib.hid hi1; have HY := Lib.hid (show w1.heap[_]? = some (.cells #[.int .i64 0, .slice none 0 0] 31 (0, 0)) from (hkt1.2 _ _ _ _ (heap2 W (.cells #[] 3) (.cells #[.int .i64 0, .slice none 0 0] 31)) (by decide)).trans (heap2 W (.cells #[] 3) (.cells #[.int .i64 0, .slice none 0 0] 31))); have Q := Lib.hid (task_var (y := W.heap.size + 1) E2.out HY.out (by simp) x.id (.slice va x.need.length vc) Hi.out); have r0 := cell_of_heap HY.out 0; have r1 := cell_of_heap HY.out 1; have f0 := frozen_of_heap HY.out 0; have f1 := frozen_of_heap HY.out 1; clear hown1 hkt1 hbl1 hi1)
      | (refine step_app_ints (by rfl) _ _ (by rfl) W.heap.size _ [] (by rfl) (OwnInts.lit0' (W.alloc _) W.heap.size (by simp) (W.heap.size + 1) (by simp)).drew (by simp <;> omega) _ _ _ x.need (by rfl) (Hn.out.ext (E1.out.trans (((Ext.refl W).alloc (.cells #[.int .i64 0, .slice none 0 0] 31)).alloc (.cells #[] 3)).drew)) (by have := H3.out; unfold lim; simp; omega) ?_; intro v1 w1 hown1 hkt1 hbl1; have E2 := Lib.hid ((((Ext.refl W).alloc (.cells #[.int .i64 0, .slice none 0 0] 31)).alloc (.cells #[] 3)).drew.below hbl1); rw [List.nil_append] at hown1; obtain ⟨va, vc, hv1, hi1⟩ := (hown1.done (by have := H3.out; unfold lim; omega)).open; subst hv1; have Hi := Lib.hid hi1; have HY := Lib.hid (show w1.heap[_]? = some (.cells #[.int .i64 0, .slice none 0 0] 31 (0, 0)) from (hkt1.2 _ _ _ _ (heap1 W (.cells #[.int .i64 0, .slice none 0 0] 31) (.cells #[] 3)) (by decide)).trans (heap1 W (.cells #[.int .i64 0, .slice none 0 0] 31) (.cells #[] 3))); have Q := Lib.hid (task_var (y := W.heap.size) E2.out HY.out (by simp) x.id (.slice va x.need.length vc) Hi.out); have r0 := cell_of_heap HY.out 0; have r1 := cell_of_heap HY.out 1; have f0 := frozen_of_heap HY.out 0; have f1 := frozen_of_heap HY.out 1; clear hown1 hkt1 hbl1 hi1)
      | (refine step_app_ints (by rfl) _ _ (by rfl) W.heap.size _ [] (by rfl) (OwnInts.lit0 W W.heap.size (Nat.le_refl _)).drew (by simp <;> omega) _ _ _ x.need (by rfl) (Hn.out.ext (E1.out.trans ((Ext.refl W).alloc (.cells #[] 3)).drew)) (by have := H3.out; unfold lim; simp; omega) ?_; intro v1 w1 hown1 hkt1 hbl1; have E2 := Lib.hid (((Ext.refl W).alloc (.cells #[] 3)).drew.below hbl1); rw [List.nil_append] at hown1; obtain ⟨va, vc, hv1, hi1⟩ := (hown1.done (by have := H3.out; unfold lim; omega)).open; subst hv1; have Hi := Lib.hid hi1; have Q : Hid (Ext W (w1.alloc (.cells #[.int .i64 x.id, .slice va x.need.length vc] 31)) ∧ (w1.alloc (.cells #[.int .i64 x.id, .slice va x.need.length vc] 31)).heap[w1.heap.size]? = some (.cells #[.int .i64 x.id, .slice va x.need.length vc] 31 (0, 0)) ∧ Ints (w1.alloc (.cells #[.int .i64 x.id, .slice va x.need.length vc] 31)) (.slice va x.need.length vc) x.need) := Lib.hid ⟨E2.out.alloc _, heap_alloc_new w1 _, Hi.out.ext ((Ext.refl w1).alloc _)⟩; clear hown1 hkt1 hbl1 hi1)))
  all_goals
    have HI := Lib.hid Q.out.2.2
    have EF := Lib.hid Q.out.1
    have c0 := cell_of_heap Q.out.2.1 0
    have c1 := cell_of_heap Q.out.2.1 1
    simp only [List.getElem?_toArray, List.getElem?_cons_zero, List.getElem?_cons_succ] at c0 c1
    clear Q E2 Hi
    try clear HY r0 r1 f0 f1
    first
      | ((with_reducible (have hx : Hid (Ext W (w1.alloc (.cells #[.int .i64 x.id, .slice va x.need.length vc] 31))) := EF)); clear hx; generalize w1.alloc (.cells #[.int .i64 x.id, .slice va x.need.length vc] 31) = WF at *)
      | ((with_reducible (have hx : Hid (Ext W ((w1.setCell ⟨W.heap.size + 1, 0, none⟩ (.int .i64 x.id)).setCell ⟨W.heap.size + 1, 1, none⟩ (.slice va x.need.length vc))) := EF)); clear hx; generalize (w1.setCell ⟨W.heap.size + 1, 0, none⟩ (.int .i64 x.id)).setCell ⟨W.heap.size + 1, 1, none⟩ (.slice va x.need.length vc) = WF at *)
      | ((with_reducible (have hx : Hid (Ext W ((w1.setCell ⟨W.heap.size, 0, none⟩ (.int .i64 x.id)).setCell ⟨W.heap.size, 1, none⟩ (.slice va x.need.length vc))) := EF)); clear hx; generalize (w1.setCell ⟨W.heap.size, 0, none⟩ (.int .i64 x.id)).setCell ⟨W.heap.size, 1, none⟩ (.slice va x.need.length vc) = WF at *)
    have EX := Lib.hid ((Ext.refl WF).alloc (.cells #[.int .i64 x.id, .slice va x.need.length vc] 31))
    have P1 := Lib.hid (OwnTasks.lit1 (t := x) HI.out EF.out.le)
    have EB := Lib.hid ((Ext.refl (WF.alloc (.cells #[.int .i64 x.id, .slice va x.need.length vc] 31))).alloc (.cells #[.slice (some ⟨WF.heap.size, 0, none⟩) 1 1] 24))
    have RB := Row.lit (WF.alloc (.cells #[.int .i64 x.id, .slice va x.need.length vc] 31)) #[.slice (some ⟨WF.heap.size, 0, none⟩) 1 1] 24
    rw [World.size_alloc] at RB
    have RB := Lib.hid RB
    have hF := Lib.hid (EF.out.trans (EX.out.trans EB.out))
    have P2 := Lib.hid (P1.out.ext EB.out)
    go_wp2_with (at_builtin; refine app_nest rfl _ _ rfl W0.heap.size _ bs rfl HN.out hF.out hw1 hw1 _ _ _ [x] rfl RB.out P2.out (by unfold lim; omega) ?_; intro v' w4 hN hkt hB)
    obtain ⟨ra, rc, rfl⟩ := Nest.form hN
    have HR := Lib.hid (show Ext w w4 ∧ Bins w4 _ (bs ++ [[x]]) from ⟨E0.out.trans ((E1.out.trans hF.out).below hB), hN.done (by unfold lim; simp; omega) (fun b hb => by
      rcases List.mem_append.1 hb with hb | hb
      · have := (HB.out b hb).1; unfold lim; omega
      · simp at hb; subst hb; simp [lim])⟩)
    clear hN hkt hB c0 c1
    have e1 : (bs ++ [[x]]).length = bs.length + 1 := by simp
    rw [e1] at HR ⊢
    go_wp2
    go_ret
    exact ⟨_, _, rfl, HR.out.1, HR.out.2⟩

set_option maxHeartbeats 2000000 in
theorem l11Put_old (u n : Value) (k : Nat) (bs : List (List T)) (x : T) (w : World) (h : Bins w u bs) (hn : Ints w n x.need) (h3 : x.need.length ≤ 1000) (hk : k < bs.length) (hl : bs.length ≤ 1000) (hb : ∀ b ∈ bs, b.length ≤ 1000 ∧ ∀ t ∈ b, t.need.length ≤ 1000) :
    Calls Tryd.prog 30 #[u, .int .i64 (k : Int), .agg #[.int .i64 x.id, n]] w fun e w' => ∃ a c, e = .returned (.slice a bs.length c) ∧ Ext w w' ∧ Bins w' (.slice a bs.length c) (bs.set k (bs[k] ++ [x])) := by
  obtain ⟨an, cn, rfl, hn⟩ := hn.open
  have H3 := Lib.hid h3
  have HB := Lib.hid hb
  clear h3 hb
  go_enter Tryd.func30, Tryd.ntmps30
  go_wp2_with fail
  have hEx : Ext w _ := (Ext.refl w).alloc (Obj.cells #[.int .i64 x.id, .slice an x.need.length cn] 31)
  have q0 : (w.alloc (Obj.cells #[.int .i64 x.id, .slice an x.need.length cn] 31)).cell? ⟨w.heap.size, 0, none⟩ = some (.int .i64 x.id) := by rw [box_cell]; rfl
  have q1 : (w.alloc (Obj.cells #[.int .i64 x.id, .slice an x.need.length cn] 31)).cell? ⟨w.heap.size, 1, none⟩ = some (.slice an x.need.length cn) := by rw [box_cell]; rfl
  have hsz : (w.alloc (Obj.cells #[.int .i64 x.id, .slice an x.need.length cn] 31)).heap.size = w.heap.size + 1 := by simp
  generalize w.alloc (Obj.cells #[.int .i64 x.id, .slice an x.need.length cn] 31) = W0 at *
  have KS := Lib.hid (show ∀ w', Ext W0 w' → w'.cell? ⟨w.heap.size, 0, none⟩ = some (.int .i64 x.id) ∧ w'.cell? ⟨w.heap.size, 1, none⟩ = some (.slice an x.need.length cn) from fun w' h => ⟨h.cell q0, h.cell q1⟩)
  have Hn := Lib.hid (hn.ext hEx)
  have Hb := Lib.hid (h.ext hEx)
  have E0 := Lib.hid hEx
  clear hn h q0 q1 hEx
  refine (l2Bins_any _ bs _ Hb.out (fun b hb t ht => (HB.out b hb).2 t ht)).mono ?_
  rintro e W ⟨oa, oc, rfl, hE1, hN1⟩
  have E1 := Lib.hid hE1
  have HN := Lib.hid hN1
  have hw1 : W0.heap.size ≤ W.heap.size := hE1.le
  obtain ⟨bb, nd, rfl, -, -, cb, hot, fb⟩ := hN1.at hk
  obtain ⟨ia, ic, rfl⟩ := hot.form
  have CB := Lib.hid cb
  have Hot := Lib.hid hot
  have hbb : bb < W.heap.size := World.block_lt_of_cell? W ⟨bb, k, none⟩ cb
  have i0 : (0 : Int) ≤ (k : Int) := by omega
  have i1 : (k : Int) < (bs.length : Int) := by omega
  have hneg : ¬ ((k : Int) < 0) := by omega
  clear cb hot fb
  clear hE1 hN1
  go_wp2_with fail
  go_region_held3 (fun w' => w'.cell? ⟨w.heap.size, 0, none⟩ = some (.int .i64 x.id) ∧ w'.cell? ⟨w.heap.size, 1, none⟩ = some (.slice an x.need.length cn))
    (first | exact KS.out _ (E1.out.trans (Ext.refl W).drew) | exact KS.out _ (E1.out.trans ((Ext.refl W).alloc _).drew) | exact KS.out _ (E1.out.trans (((Ext.refl W).alloc _).alloc _).drew) | exact KS.out _ (E1.out.trans E2.out) | exact KS.out _ (E1.out.trans (E2.out.alloc _)) | exact KS.out _ (E1.out.trans Q.out.1) | fail)
    ((first
      | (refine step_app_ints (by rfl) _ _ (by rfl) W.heap.size _ [] (by rfl) ((OwnInts.lit0 W W.heap.size (Nat.le_refl _)).alloc _).drew (by simp <;> omega) _ _ _ x.need (by rfl) (Hn.out.ext (E1.out.trans (((Ext.refl W).alloc (.cells #[] 3)).alloc (.cells #[.int .i64 0, .slice none 0 0] 31)).drew)) (by have := H3.out; unfold lim; simp; omega) ?_; intro v1 w1 hown1 hkt1 hbl1; have E2 := Lib.hid ((((Ext.refl W).alloc (.cells #[] 3)).alloc (.cells #[.int .i64 0, .slice none 0 0] 31)).drew.below hbl1); rw [List.nil_append] at hown1; obtain ⟨va, vc, hv1, hi1⟩ := (hown1.done (by have := H3.out; unfold lim; omega)).open; subst hv1; have Hi := Lib.hid hi1; have HY := Lib.hid (show w1.heap[_]? = some (.cells #[.int .i64 0, .slice none 0 0] 31 (0, 0)) from (hkt1.2 _ _ _ _ (heap2 W (.cells #[] 3) (.cells #[.int .i64 0, .slice none 0 0] 31)) (by decide)).trans (heap2 W (.cells #[] 3) (.cells #[.int .i64 0, .slice none 0 0] 31))); have Q := Lib.hid (task_var (y := W.heap.size + 1) E2.out HY.out (by simp) x.id (.slice va x.need.length vc) Hi.out); have r0 := cell_of_heap HY.out 0; have r1 := cell_of_heap HY.out 1; have f0 := frozen_of_heap HY.out 0; have f1 := frozen_of_heap HY.out 1; clear hown1 hkt1 hbl1 hi1)
      | (refine step_app_ints (by rfl) _ _ (by rfl) W.heap.size _ [] (by rfl) (OwnInts.lit0' (W.alloc _) W.heap.size (by simp) (W.heap.size + 1) (by simp)).drew (by simp <;> omega) _ _ _ x.need (by rfl) (Hn.out.ext (E1.out.trans (((Ext.refl W).alloc (.cells #[.int .i64 0, .slice none 0 0] 31)).alloc (.cells #[] 3)).drew)) (by have := H3.out; unfold lim; simp; omega) ?_; intro v1 w1 hown1 hkt1 hbl1; have E2 := Lib.hid ((((Ext.refl W).alloc (.cells #[.int .i64 0, .slice none 0 0] 31)).alloc (.cells #[] 3)).drew.below hbl1); rw [List.nil_append] at hown1; obtain ⟨va, vc, hv1, hi1⟩ := (hown1.done (by have := H3.out; unfold lim; omega)).open; subst hv1; have Hi := Lib.hid hi1; have HY := Lib.hid (show w1.heap[_]? = some (.cells #[.int .i64 0, .slice none 0 0] 31 (0, 0)) from (hkt1.2 _ _ _ _ (heap1 W (.cells #[.int .i64 0, .slice none 0 0] 31) (.cells #[] 3)) (by decide)).trans (heap1 W (.cells #[.int .i64 0, .slice none 0 0] 31) (.cells #[] 3))); have Q := Lib.hid (task_var (y := W.heap.size) E2.out HY.out (by simp) x.id (.slice va x.need.length vc) Hi.out); have r0 := cell_of_heap HY.out 0; have r1 := cell_of_heap HY.out 1; have f0 := frozen_of_heap HY.out 0; have f1 := frozen_of_heap HY.out 1; clear hown1 hkt1 hbl1 hi1)
      | (refine step_app_ints (by rfl) _ _ (by rfl) W.heap.size _ [] (by rfl) (OwnInts.lit0 W W.heap.size (Nat.le_refl _)).drew (by simp <;> omega) _ _ _ x.need (by rfl) (Hn.out.ext (E1.out.trans ((Ext.refl W).alloc (.cells #[] 3)).drew)) (by have := H3.out; unfold lim; simp; omega) ?_; intro v1 w1 hown1 hkt1 hbl1; have E2 := Lib.hid (((Ext.refl W).alloc (.cells #[] 3)).drew.below hbl1); rw [List.nil_append] at hown1; obtain ⟨va, vc, hv1, hi1⟩ := (hown1.done (by have := H3.out; unfold lim; omega)).open; subst hv1; have Hi := Lib.hid hi1; have Q : Hid (Ext W (w1.alloc (.cells #[.int .i64 x.id, .slice va x.need.length vc] 31)) ∧ (w1.alloc (.cells #[.int .i64 x.id, .slice va x.need.length vc] 31)).heap[w1.heap.size]? = some (.cells #[.int .i64 x.id, .slice va x.need.length vc] 31 (0, 0)) ∧ Ints (w1.alloc (.cells #[.int .i64 x.id, .slice va x.need.length vc] 31)) (.slice va x.need.length vc) x.need) := Lib.hid ⟨E2.out.alloc _, heap_alloc_new w1 _, Hi.out.ext ((Ext.refl w1).alloc _)⟩; clear hown1 hkt1 hbl1 hi1)))
  all_goals
    have HI := Lib.hid Q.out.2.2
    have EF := Lib.hid Q.out.1
    have c0 := cell_of_heap Q.out.2.1 0
    have c1 := cell_of_heap Q.out.2.1 1
    simp only [List.getElem?_toArray, List.getElem?_cons_zero, List.getElem?_cons_succ] at c0 c1
    clear Q E2 Hi
    try clear HY r0 r1 f0 f1
    first
      | ((with_reducible (have hx : Hid (Ext W (w1.alloc (.cells #[.int .i64 x.id, .slice va x.need.length vc] 31))) := EF)); clear hx; generalize w1.alloc (.cells #[.int .i64 x.id, .slice va x.need.length vc] 31) = WF at *)
      | ((with_reducible (have hx : Hid (Ext W ((w1.setCell ⟨W.heap.size + 1, 0, none⟩ (.int .i64 x.id)).setCell ⟨W.heap.size + 1, 1, none⟩ (.slice va x.need.length vc))) := EF)); clear hx; generalize (w1.setCell ⟨W.heap.size + 1, 0, none⟩ (.int .i64 x.id)).setCell ⟨W.heap.size + 1, 1, none⟩ (.slice va x.need.length vc) = WF at *)
      | ((with_reducible (have hx : Hid (Ext W ((w1.setCell ⟨W.heap.size, 0, none⟩ (.int .i64 x.id)).setCell ⟨W.heap.size, 1, none⟩ (.slice va x.need.length vc))) := EF)); clear hx; generalize (w1.setCell ⟨W.heap.size, 0, none⟩ (.int .i64 x.id)).setCell ⟨W.heap.size, 1, none⟩ (.slice va x.need.length vc) = WF at *)
    have EX := Lib.hid (((Ext.refl WF).alloc (.cells #[.int .i64 x.id, .slice va x.need.length vc] 31)).drew)
    have Lit := Lib.hid (Tasks.lit1 (t := x) HI.out 1).drew
    have cb := EF.out.cell CB.out
    have cbx := EX.out.cell cb
    have NZ := Lib.hid (HN.out.ext (EF.out.trans EX.out))
    have Hz := Lib.hid (Hot.out.ext (EF.out.trans EX.out))
    have Sz := Lib.hid (Nat.le_trans hw1 (EF.out.trans EX.out).le)
    go_wp2_with fail
    go_region_law ((refine step_app2_tasks rfl _ _ rfl W0.heap.size _ bs[k] rfl Hz.out Sz.out _ _ _ [x] rfl Lit.out (by have := (HB.out _ (List.getElem_mem hk)).1; unfold lim; simp; omega) ?_; intro v' w9 hown hg hbk; obtain ⟨pa, pc, rfl⟩ := hown.form; obtain ⟨p1, p2, p3, p4, p5, p6, p7⟩ := Nest.push NZ.out hk cbx Sz.out hown hg hbk))
    all_goals
      have el : (bs[k] ++ [x]).length = bs[k].length + 1 := by simp
      rw [el] at p1 p3 p4
      have HR := Lib.hid (show Ext w _ ∧ Bins _ _ (bs.set k (bs[k] ++ [x])) from ⟨E0.out.trans (((E1.out.trans (EF.out.trans EX.out)).below p5).below p4), p1.done (by unfold lim; simp; omega) (fun b hb => by
        rcases List.mem_or_eq_of_mem_set hb with hb | hb
        · have := (HB.out b hb).1; unfold lim; omega
        · have := (HB.out _ (List.getElem_mem hk)).1; rw [hb, el]; unfold lim; omega)⟩)
      clear p1 p2 p3 p4 p5 p6 p7 hown hg hbk cbx cb c0 c1
      go_wp2
      go_ret
      exact ⟨_, _, rfl, HR.out.1, HR.out.2⟩

end Go.Proofs.YtfidamjepjgknaaDoor
