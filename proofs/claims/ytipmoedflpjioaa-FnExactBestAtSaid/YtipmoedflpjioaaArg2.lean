/- Copies of tasks that a law makes, each in memory of its own; and their comparison. -/
import Derived.Test.YtipmoedflpjioaaArg
namespace Go.Proofs.Ytipmoedflpjioaa
set_option maxRecDepth 100000
open Go.RowKit

set_option maxHeartbeats 600000 in
theorem toTask_any (id : Int) (n : Value) (need : List Int) (w : World) (h : ArgInts w n need) (hl : need.length ≤ 2097152) :
    Calls Try.prog 57 #[.agg #[.int .i64 id, n]] w fun e w' => ∃ g, e = .returned (.agg #[.int .i64 id, .slice (some ⟨g, 0, none⟩) need.length need.length]) ∧ Ext w w' ∧ NeedS w' w.heap.size g (.slice (some ⟨g, 0, none⟩) need.length need.length) need := by
  have h2 := h
  obtain ⟨_, a, cap, rfl, hh⟩ := h2
  clear hh
  go_enter Try.func57, Try.ntmps57
  go_wp2_with fail
  have hEx : Ext w _ := (((Ext.refl w).alloc (Obj.cells #[.int .i64 id, .slice a need.length cap] 61)).alloc (Obj.cells #[.int .i64 0, .slice none 0 0] 38)).alloc (Obj.cells #[.int .i64 id, .slice none 0 0] 38)
  have hb1 : (((w.alloc (Obj.cells #[.int .i64 id, .slice a need.length cap] 61)).alloc (Obj.cells #[.int .i64 0, .slice none 0 0] 38)).alloc (Obj.cells #[.int .i64 id, .slice none 0 0] 38)).heap[w.heap.size + 1]? = some (Obj.cells #[.int .i64 0, .slice none 0 0] 38) := by
    rw [Below.heap_alloc _ _ _ (by simp)]
    simpa using heap_alloc_new (w.alloc (Obj.cells #[.int .i64 id, .slice a need.length cap] 61)) (Obj.cells #[.int .i64 0, .slice none 0 0] 38)
  have hb2 : (((w.alloc (Obj.cells #[.int .i64 id, .slice a need.length cap] 61)).alloc (Obj.cells #[.int .i64 0, .slice none 0 0] 38)).alloc (Obj.cells #[.int .i64 id, .slice none 0 0] 38)).heap[w.heap.size + 1 + 1]? = some (Obj.cells #[.int .i64 id, .slice none 0 0] 38) := by
    simpa using heap_alloc_new ((w.alloc (Obj.cells #[.int .i64 id, .slice a need.length cap] 61)).alloc (Obj.cells #[.int .i64 0, .slice none 0 0] 38)) (Obj.cells #[.int .i64 id, .slice none 0 0] 38)
  have hsz : (((w.alloc (Obj.cells #[.int .i64 id, .slice a need.length cap] 61)).alloc (Obj.cells #[.int .i64 0, .slice none 0 0] 38)).alloc (Obj.cells #[.int .i64 id, .slice none 0 0] 38)).heap.size = w.heap.size + 3 := by simp
  generalize ((w.alloc (Obj.cells #[.int .i64 id, .slice a need.length cap] 61)).alloc (Obj.cells #[.int .i64 0, .slice none 0 0] 38)).alloc (Obj.cells #[.int .i64 id, .slice none 0 0] 38) = W3 at *
  refine (toIntS_any _ _ _ (h.ext hEx) hl).mono ?_
  rintro e w1 ⟨g, rfl, hE, ho, hg⟩
  have k1 := (hE.block (lt_of_heap hb1)).trans hb1
  have k2 := (hE.block (lt_of_heap hb2)).trans hb2
  have Hn : Hid (NeedS w1 w.heap.size g (.slice (some ⟨g, 0, none⟩) need.length need.length) need) := NeedS.base (L := W3.heap.size) ⟨⟨_, rfl⟩, ho⟩ (by omega)
  have hE1 := hEx.trans hE
  have c1 : w1.cell? ⟨w.heap.size + 1, 0, none⟩ = some (.int .i64 0) := by simp [World.cell?, k1]
  have c2 : w1.cell? ⟨w.heap.size + 1, 1, none⟩ = some (.slice none 0 0) := by simp [World.cell?, k1]
  have c3 : w1.cell? ⟨w.heap.size + 1 + 1, 0, none⟩ = some (.int .i64 id) := by simp [World.cell?, k2]
  have c4 : w1.cell? ⟨w.heap.size + 1 + 1, 1, none⟩ = some (.slice none 0 0) := by simp [World.cell?, k2]
  have f1 : w1.frozen? ⟨w.heap.size + 1, 0, none⟩ = false := by simp [World.frozen?, k1]
  have f2 : w1.frozen? ⟨w.heap.size + 1, 1, none⟩ = false := by simp [World.frozen?, k1]
  have f4 : w1.frozen? ⟨w.heap.size + 1 + 1, 1, none⟩ = false := by simp [World.frozen?, k2]
  have K1 := Lib.hid k1
  have K2 := Lib.hid k2
  clear hE hEx ho hb1 hb2 hsz k1 k2
  go_wp2_with fail
  have kt1 := KT.setCell (p := ⟨w.heap.size + 1 + 1, 1, none⟩) K2.out (.slice (some ⟨g, 0, none⟩) need.length need.length)
  have j1 := (Below.heap_setCell w1 ⟨w.heap.size + 1 + 1, 1, none⟩ (.slice (some ⟨g, 0, none⟩) need.length need.length) (w.heap.size + 1) (by simp)).trans K1.out
  have kt2 := KT.setCell (p := ⟨w.heap.size + 1, 0, none⟩) j1 (.int .i64 id)
  have j2 := heap_setCell_same _ (w.heap.size + 1) 0 _ _ (.int .i64 id) j1
  have kt3 := KT.setCell (p := ⟨w.heap.size + 1, 1, none⟩) j2 (.slice (some ⟨g, 0, none⟩) need.length need.length)
  have j3 := heap_setCell_same _ (w.heap.size + 1) 1 _ _ (.slice (some ⟨g, 0, none⟩) need.length need.length) j2
  refine bodyPost_ret (v := .agg #[.int .i64 id, .slice (some ⟨g, 0, none⟩) need.length need.length]) ?_ rfl ⟨g, rfl, ?_, Hn.out.kt (kt1.trans (kt2.trans kt3)) (by decide)⟩
  · simp [results, Try.results57, go_sem, c1, c2]
  · exact ((hE1.setCell (by simp; omega) _).setCell (by simp) _).setCell (by simp) _

theorem CellsS.step {w w1 w2 : World} {L g : Nat} {xs : List Value} {ts : List T} {nb : Nat → Nat} {k : Nat} {v : Value} (hk : k < ts.length) (hx : xs.length = ts.length * 2) (h : CellsS w L xs ts nb k) (hE : Ext w w1) (hkt : KT 38 w1 w2)
    (hn : NeedS w1 w.heap.size g v ts[k].need) (hL : L ≤ w.heap.size) : CellsS w2 L ((xs.set (k * 2) (.int .i64 ts[k].id)).set (k * 2 + 1) v) ts (fun j => if j = k then g else nb j) (k + 1) := by
  obtain ⟨h1, h2⟩ := h
  refine ⟨fun j hj hjm => ?_, fun i j hij hj hjm => ?_⟩
  · by_cases e : j = k
    · subst e
      refine ⟨?_, v, ?_, ?_⟩
      · rw [List.getElem?_set_ne (by omega), List.getElem?_set_self (by omega)]
      · rw [List.getElem?_set_self (by simp; omega)]
      · simpa using (hn.base hL).kt hkt (by decide)
    · obtain ⟨a, n, b, c⟩ := h1 j hj (by omega)
      refine ⟨?_, n, ?_, ?_⟩
      · rw [List.getElem?_set_ne (by omega), List.getElem?_set_ne (by omega), a]
      · rw [List.getElem?_set_ne (by omega), List.getElem?_set_ne (by omega), b]
      · simpa [e] using (c.ext hE).kt hkt (by decide)
  · have low : ∀ i, i < k → nb i < w.heap.size := fun i hi => by
      obtain ⟨_, n, _, c⟩ := h1 i (by omega) hi
      exact c.lt.2
    have hg := hn.lt.1
    by_cases e : j = k
    · have := low i (by omega)
      show (if i = k then g else nb i) ≠ (if j = k then g else nb j)
      rw [if_neg (by omega), if_pos e]
      omega
    · show (if i = k then g else nb i) ≠ (if j = k then g else nb j)
      rw [if_neg (by omega), if_neg e]
      exact h2 i j hij hj (by omega)

set_option maxHeartbeats 1000000 in
theorem toTaskS_any (v : Value) (ts : List T) (w : World) (h : ArgTasks w v ts) (hl : ts.length + needs ts ≤ 2097152) :
    Calls Try.prog 36 #[v] w fun e w' => ∃ g, e = .returned (.slice (some ⟨g, 0, none⟩) ts.length ts.length) ∧ Ext w w' ∧ TasksS w' w.heap.size (.slice (some ⟨g, 0, none⟩) ts.length ts.length) ts := by
  obtain ⟨_, a, cap, rfl, hc⟩ := h
  have Hc := Lib.hid hc
  clear hc
  obtain ⟨i0, hi, hz, hs, hby⟩ := info_parts info_task
  have HN := Lib.hid (fun k (hk : k < ts.length) => needs_le hk)
  go_enter Try.func36, Try.ntmps36
  go_wp2_with (at_make; refine wpList_make_full _ rfl _ _ 27 rfl w.heap.size 38 i0 (.agg #[.int .i64 0, .slice none 0 0]) 2 under_tasks hi hz hs .i64 .i64 _ _ ts.length rfl rfl rfl rfl (by rw [hby]; omega) (by unfold maxLen; omega) (Nat.le_refl _) ?_; intro w1 hown hg)
  have hE : Ext w w1 := Below.grown (Below.refl _ _) hg (Nat.le_refl _) (by simp)
  have hg1 : w.heap.size < w1.heap.size := (hown.lt _ rfl).2
  have Ho := Lib.hid hown
  clear hown hg hi hz hs hby
  go_loopw [4] (fun i wr => ∃ (k : Nat) (xs : List Value) (nb : Nat → Nat), k ≤ ts.length ∧ i = .int .i64 k ∧ Ext w wr ∧ wr.ownsRow w.heap.size 38 2 (.slice (some ⟨w.heap.size, 0, none⟩) ts.length ts.length) ts.length xs ∧ CellsS wr w.heap.size xs ts nb k) (fun i _ => ts.length - (intOf i).toNat)
  case atStart => exact ⟨0, _, fun _ => 0, by omega, rfl, hE, Ho.out, fun _ _ h => by omega, fun _ _ _ _ h => by omega⟩
  case round =>
    clear Ho hE hg1
    obtain ⟨k, xs, nb, hk, rfl, hE, hown, hcs⟩ := hrel
    by_cases hlt : k < ts.length
    · obtain ⟨b, off, rfl, hc⟩ := Hc.out (by omega)
      obtain ⟨c0, n, c1, hn⟩ := hc k hlt
      have c0' := hE.cell c0
      have c1' := hE.cell c1
      have Hn := Lib.hid (hn.ext hE)
      obtain ⟨an, cn, rfl, -⟩ := hn.2
      have hx := hown.1
      have hnl : ts[k].need.length ≤ 2097152 := by have := HN.out k hlt; omega
      have Hcs := Lib.hid hcs
      have Ho := Lib.hid hown
      clear c0 c1 hc hn hcs hown
      go_wp2_with fail
      refine (toTask_any _ _ _ _ Hn.out hnl).mono ?_
      rintro e w1 ⟨g, rfl, hE2, hns⟩
      have ho1 := ownsRow_ext Ho.out hE2
      have d0 := ho1.cellAt (k * 2) (by omega)
      have d1 := ho1.cellAt (k * 2 + 1) (by omega)
      rw [List.getElem?_eq_getElem (by omega)] at d0 d1
      have f0 := ho1.frozenAt (k * 2)
      have f1 := ho1.frozenAt (k * 2 + 1)
      have st0 := (World.ownsRow.stored ho1 (k * 2) (.int .i64 ts[k].id)).1
      have st1 := (World.ownsRow.stored st0 (k * 2 + 1) (.slice (some ⟨g, 0, none⟩) ts[k].need.length ts[k].need.length)).1
      obtain ⟨cs0, hb0⟩ : ∃ cs, w1.heap[w.heap.size]? = some (Obj.cells cs 38 (0, 0)) := by
        rcases ho1.2 with ⟨h', _⟩ | ⟨g', cap', cur, h', _, hg, _⟩
        · simp at h'
        · simp only [Value.slice.injEq, Option.some.injEq, Addr.mk.injEq, and_true, true_and] at h'
          obtain ⟨rfl, _⟩ := h'
          exact ⟨cur, hg⟩
      have kt1 := KT.setCell (p := ⟨w.heap.size, k * 2, none⟩) hb0 (.int .i64 ts[k].id)
      have kt2 := KT.setCell (p := ⟨w.heap.size, k * 2 + 1, none⟩) (heap_setCell_same _ w.heap.size (k * 2) _ _ (.int .i64 ts[k].id) hb0) (.slice (some ⟨g, 0, none⟩) ts[k].need.length ts[k].need.length)
      have Hc2 := Lib.hid (Hcs.out.step hlt hx hE2 (kt1.trans kt2) hns hE.le)
      have hE3 := ((hE.trans hE2).setCell (p := ⟨w.heap.size, k * 2, none⟩) (Nat.le_refl _) (.int .i64 ts[k].id)).setCell (p := ⟨w.heap.size, k * 2 + 1, none⟩) (Nat.le_refl _) (.slice (some ⟨g, 0, none⟩) ts[k].need.length ts[k].need.length)
      have St := Lib.hid st1
      clear kt1 kt2 st0 st1 hb0 hns ho1 hE hE2
      go_wp2_with fail
      go_roundw
      case rel => exact ⟨k + 1, _, _, by omega, by go_num, hE3, St.out, Hc2.out⟩
      case measure => simp [intOf]; omega
    · have e : k = ts.length := by omega
      subst e
      have Ho1 := Lib.hid (show TasksS wr w.heap.size (.slice (some ⟨w.heap.size, 0, none⟩) ts.length ts.length) ts from ⟨xs, nb, hown, hcs⟩)
      clear hown hcs
      go_wp2
      go_ret
      exact ⟨_, rfl, hE, Ho1.out⟩

end Go.Proofs.Ytipmoedflpjioaa
