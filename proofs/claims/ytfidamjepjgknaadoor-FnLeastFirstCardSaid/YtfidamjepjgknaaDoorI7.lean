/- The program's copies of tasks; where a task is; which nodes are empty. -/
import Derived.Test.YtfidamjepjgknaaDoorI4
import Derived.Test.YtfidamjepjgknaaDoorOwn
import Derived.Test.YtfidamjepjgknaaDoorP1
import Derived.Deep.RegionHeld3
namespace Go.Proofs.YtfidamjepjgknaaDoor
set_option maxRecDepth 100000
open Go.RowKit

theorem NeedS.of_own {w : World} {B : Nat} {v : Value} {xs : List Int} (h : OwnInts w B v xs) (h0 : 0 < xs.length) : ∃ g, NeedS w B g v xs := by
  obtain ⟨hl, h1⟩ := h
  rcases h1 with ⟨rfl, hn⟩ | ⟨g, cap, cur, rfl, r⟩
  · omega
  · exact ⟨g, ⟨cap, rfl⟩, hl, .inr ⟨g, cap, cur, rfl, r⟩⟩

set_option maxHeartbeats 400000 in
theorem clone_any (v : Value) (xs : List Int) (w : World) (h : Ints w v xs) (h3 : xs.length = 3) :
    Calls Tryd.prog 54 #[v] w fun e w' => ∃ g c, e = .returned (.slice (some ⟨g, 0, none⟩) xs.length c) ∧ Ext w w' ∧ NeedS w' w.heap.size g (.slice (some ⟨g, 0, none⟩) xs.length c) xs := by
  obtain ⟨a, cap, rfl, h⟩ := h.open
  obtain ⟨b, off, rfl, -⟩ := h.at (by omega)
  have H3 := Lib.hid h3
  clear h3
  have hnil : ∀ (w : World) (a : Option Addr) (n c n' c' : Nat), (binOp .eql 23 (.slice a n c) (.slice none n' c')).run Tryd.prog w = .ok (.bool a.isNone) w := fun w a n c n' c' => Lib.run_eql_slice_nil w _ _ a n c n' c' under_ints
  go_enter Tryd.func54, Tryd.ntmps54
  go_wp2_with (at_builtin; refine app_ints rfl _ _ rfl w.heap.size _ [] rfl (OwnInts.lit0 w w.heap.size (Nat.le_refl _)) (by simp) _ _ _ xs rfl (h.ext ((Ext.refl w).alloc _)) (by have := h.1; simpa using this) ?_; intro v' w1 hown hkt hbl)
  have hE : Ext w w1 := ((Ext.refl w).alloc _).below hbl
  rw [List.nil_append] at hown
  obtain ⟨g, hg⟩ := NeedS.of_own hown (by have := H3.out; omega)
  have Hg := Lib.hid hg
  obtain ⟨c, rfl⟩ := hg.1
  clear hown hkt hbl hg
  go_ret
  exact ⟨g, c, rfl, hE, Hg.out⟩

set_option maxHeartbeats 600000 in
theorem copyOf_any (id : Int) (n : Value) (xs : List Int) (w : World) (h : Ints w n xs) (h3 : xs.length = 3) :
    Calls Tryd.prog 39 #[.agg #[.int .i64 id, n]] w fun e w' => ∃ g c, e = .returned (.agg #[.int .i64 id, .slice (some ⟨g, 0, none⟩) xs.length c]) ∧ Ext w w' ∧ NeedS w' w.heap.size g (.slice (some ⟨g, 0, none⟩) xs.length c) xs := by
  obtain ⟨a, cap, rfl, h⟩ := h.open
  have H3 := Lib.hid h3
  clear h3
  go_enter Tryd.func39, Tryd.ntmps39
  go_wp2_with fail
  have hEx : Ext w _ := ((Ext.refl w).alloc (Obj.cells #[.int .i64 id, .slice a xs.length cap] 31)).alloc (Obj.cells #[.int .i64 0, .slice none 0 0] 31)
  have b1 : ((w.alloc (Obj.cells #[.int .i64 id, .slice a xs.length cap] 31)).alloc (Obj.cells #[.int .i64 0, .slice none 0 0] 31)).heap[w.heap.size]? = some (Obj.cells #[.int .i64 id, .slice a xs.length cap] 31) := by
    rw [Below.heap_alloc _ _ _ (by simp)]
    exact heap_alloc_new w _
  have b2 : ((w.alloc (Obj.cells #[.int .i64 id, .slice a xs.length cap] 31)).alloc (Obj.cells #[.int .i64 0, .slice none 0 0] 31)).heap[w.heap.size + 1]? = some (Obj.cells #[.int .i64 0, .slice none 0 0] 31) := by
    simpa using heap_alloc_new (w.alloc (Obj.cells #[.int .i64 id, .slice a xs.length cap] 31)) (Obj.cells #[.int .i64 0, .slice none 0 0] 31)
  generalize (w.alloc (Obj.cells #[.int .i64 id, .slice a xs.length cap] 31)).alloc (Obj.cells #[.int .i64 0, .slice none 0 0] 31) = W at *
  have c0 : W.cell? ⟨w.heap.size, 0, none⟩ = some (.int .i64 id) := cell_of_heap b1 0
  have c1 : W.cell? ⟨w.heap.size, 1, none⟩ = some (.slice a xs.length cap) := cell_of_heap b1 1
  have B2 := Lib.hid b2
  have Hn := Lib.hid (h.ext hEx)
  have Ex := Lib.hid hEx
  clear b1 b2 h hEx
  go_region_held3 (fun w' => w'.cell? ⟨w.heap.size, 0, none⟩ = some (.int .i64 id) ∧ w'.cell? ⟨w.heap.size, 1, none⟩ = some (.slice a xs.length cap))
    (first | exact ⟨(Ext.refl W).drew.cell c0, (Ext.refl W).drew.cell c1⟩ | exact ⟨hE1.cell c0, hE1.cell c1⟩ | exact ⟨cell_far (cell_far (hE1.cell c0) (by omega)) (by omega), cell_far (cell_far (hE1.cell c1) (by omega)) (by omega)⟩)
    (first
      | (go_at_call 54; refine (clone_any _ _ _ (Hn.out.ext (Ext.refl W).drew) H3.out).mono ?_; rintro e w1 ⟨g, c, rfl, hE, hs⟩; have hE1 := (Ext.refl W).drew.trans hE; have Hs := Lib.hid hs; have B3 := Lib.hid ((hE1.block (lt_of_heap B2.out)).trans B2.out); have r0 := cell_of_heap B3.out 0; have r1 := cell_of_heap B3.out 1; have f0 := frozen_of_heap B3.out 0; have f1 := frozen_of_heap B3.out 1; clear hs hE))
  have k1 := KT.put (p := ⟨w.heap.size + 1, 0, none⟩) B3.out (.int .i64 id)
  have k2 := KT.put (p := ⟨w.heap.size + 1, 1, none⟩) (heap_put (k := 0) B3.out (.int .i64 id)) (.slice (some ⟨g, 0, none⟩) xs.length c)
  have E2 := ((Ex.out.trans hE1).setCell (p := ⟨w.heap.size + 1, 0, none⟩) (by simp) (.int .i64 id)).setCell (p := ⟨w.heap.size + 1, 1, none⟩) (by simp) (.slice (some ⟨g, 0, none⟩) xs.length c)
  have N2 := ((Hs.out.base (Nat.le_trans Ex.out.le (by simp))).kt k1 (by decide)).kt k2 (by decide)
  have K1 := Lib.hid k1
  have K2 := Lib.hid k2
  have X2 := Lib.hid E2
  have M2 := Lib.hid N2
  clear k1 k2 E2 N2
  go_wp2_with fail
  refine bodyPost_ret (v := .agg #[.int .i64 id, .slice (some ⟨g, 0, none⟩) xs.length c]) ?_ rfl ⟨g, c, rfl, X2.out, M2.out⟩
  simp [results, Tryd.results39, go_sem, r0, r1]

section
variable {w : World} {ops : Array Oper} {rest : List Oper} {o : Oper} {a : Act} {Q : Exit → Act → World → Prop} {K : Act → World → Prop}

/-- One task more, its need in a new block. -/
theorem TasksS.snoc {w0 w w' : World} {L g : Nat} {v' : Value} {xs : List Value} {ts : List T} {nb : Nat → Nat} {t : T} {n : Value} (hc : CellsS w0 L xs ts nb ts.length) (hx : xs.length = ts.length * 2) (hE : Ext w0 w) (hL : L ≤ w0.heap.size) (hk : KT 31 w w')
    (hn : NeedS w w0.heap.size g n t.need) (ho : w'.ownsRow L 31 2 v' (ts.length + 1) (xs ++ [.int .i64 t.id, n])) : TasksS w' L v' (ts ++ [t]) := by
  refine ⟨_, fun k => if k = ts.length then g else nb k, by simpa using ho, fun k h hm => ?_, fun i j hij hj hjm => ?_⟩
  · simp only [List.length_append, List.length_singleton] at h
    dsimp only
    by_cases e : k = ts.length
    · subst e
      rw [List.getElem?_append_right (by omega), List.getElem?_append_right (by omega), hx, Nat.sub_self, show ts.length * 2 + 1 - ts.length * 2 = 1 by omega, List.getElem_append_right (Nat.le_refl _), if_pos rfl]
      simp only [Nat.sub_self, List.getElem_cons_zero]
      exact ⟨rfl, n, rfl, (hn.base hL).kt hk (by decide)⟩
    · obtain ⟨c0, n', c1, hn'⟩ := hc.1 k (by omega) (by omega)
      rw [List.getElem?_append_left (by omega), List.getElem?_append_left (by omega), List.getElem_append_left (by omega), if_neg e]
      exact ⟨c0, n', c1, (hn'.ext hE).kt hk (by decide)⟩
  · simp only [List.length_append, List.length_singleton] at hj
    dsimp only
    rw [if_neg (by omega : ¬ i = ts.length)]
    by_cases e : j = ts.length
    · rw [if_pos e]
      obtain ⟨_, n', _, hn'⟩ := hc.1 i (by omega) (by omega)
      have := hn'.lt
      have := hn.lt
      omega
    · rw [if_neg e]
      exact hc.2 i j hij (by omega) (by omega)
theorem app_copy (hgd : o.guard = none) (s x : Operand) (ho : o.op = .call { callee := .builtin .append, args := #[s, x], argTypes := #[24, 24] }) (L : Nat) (v : Value) (ts : List T) (hs : a.eval s = v) {w0 : World} (hts : TasksS w0 L v ts) (hE : Ext w0 w) (hL : L ≤ w0.heap.size)
    (src : Option Addr) (c : Nat) (t : T) (n : Value) (g : Nat) (hx : a.eval x = .slice src 1 c) (hrow : Row w 31 src [.int .i64 t.id, n]) (hn : NeedS w w0.heap.size g n t.need) (hl : ts.length + 1 ≤ lim)
    (h : ∀ v' w', TasksS w' L v' (ts ++ [t]) → KT 31 w w' → Below L w w' → wpList Tryd.prog ops Q rest (a.put o.dst v') w') : wpList Tryd.prog ops Q (o :: rest) a w := by
  obtain ⟨xs, nb, h1, h2⟩ := hts
  have hone : ∀ u ∈ [Value.int .i64 t.id, n], u.oneCell' = true := by
    obtain ⟨⟨c, rfl⟩, _⟩ := hn
    intro u hu
    simp at hu
    rcases hu with rfl | rfl <;> rfl
  unfold lim at hl
  exact wpList_plain hgd fun _ hK => wp_app elt_task s x ho L v ts.length xs hs (ownsRow_ext h1 hE) (Nat.le_trans hL hE.le) src 1 c [.int .i64 t.id, n] hx rfl _ hrow hone (by omega) (by unfold maxLen; omega)
    (fun v' w' k1 k2 k3 => hK _ _ (h v' w' (TasksS.snoc h2 h1.1 hE hL k2 hn k1) k2 k3))
end
theorem TasksS.form {w : World} {L : Nat} {v : Value} {ts : List T} (h : TasksS w L v ts) : ∃ a c, v = .slice a ts.length c := by
  obtain ⟨xs, nb, ⟨_, h1⟩, _⟩ := h
  rcases h1 with ⟨rfl, hn⟩ | ⟨g, cap, cur, rfl, _⟩
  · exact ⟨none, 0, by rw [hn]⟩
  · exact ⟨_, cap, rfl⟩
theorem TasksS.nil (w : World) (L : Nat) : TasksS w L (.slice none 0 0) [] := ⟨[], fun _ => 0, World.ownsRow_nil _ _ _ _, fun k h _ => by simp at h, fun _ _ _ h _ => by simp at h⟩

set_option maxHeartbeats 1000000 in
theorem copyTasks_any (v : Value) (ts : List T) (w : World) (h : Tasks w v ts) (h3 : ∀ t ∈ ts, t.need.length = 3) :
    Calls Tryd.prog 27 #[v] w fun e w' => ∃ r, e = .returned r ∧ Ext w w' ∧ TasksS w' w.heap.size r ts := by
  obtain ⟨a, cap, rfl, h⟩ := h.open
  have hl : ts.length ≤ 4194304 := h.1
  have H3 := Lib.hid h3
  clear h3
  obtain ⟨i0, hi, hz, hs, hby⟩ := info_parts info_task
  go_enter Tryd.func27, Tryd.ntmps27
  go_wp2_with (at_make; refine wpList_make_own _ rfl _ _ 24 rfl w.heap.size 31 i0 (.agg #[.int .i64 0, .slice none 0 0]) 2 under_tasks hi hz hs .i64 .i64 _ ts.length rfl rfl rfl (by rw [hby]; omega) (by unfold maxLen; omega) (Nat.le_refl _) ?_; intro w1 hown hg)
  have hE : Ext w w1 := Below.grown (Below.refl _ _) hg (Nat.le_refl _) (by simp)
  have Ho := Lib.hid (show TasksS w1 w.heap.size (.slice (some ⟨w.heap.size, 0, none⟩) 0 ts.length) [] from ⟨[], fun _ => 0, hown, fun k h _ => by simp at h, fun _ _ _ h _ => by simp at h⟩)
  clear hown hg hi hz hs hby
  go_loopw [3, 11] (fun s i wr => ∃ k : Nat, k ≤ ts.length ∧ i = .int .i64 k ∧ Ext w wr ∧ TasksS wr w.heap.size s (ts.take k)) (fun _ i _ => ts.length - (intOf i).toNat)
  case atStart => exact ⟨0, by omega, rfl, hE, by simpa using Ho.out⟩
  case round =>
    clear Ho hE
    obtain ⟨k, hk, rfl, hE, hs⟩ := hrel
    by_cases hlt : k < ts.length
    · obtain ⟨b, off, nd, rfl, c0, c1, hn⟩ := h.at hlt
      have c0' := hE.cell c0
      have c1' := hE.cell c1
      obtain ⟨na, nc, rfl, hn'⟩ := (hn.ext hE).open
      have n3 := H3.out _ (List.getElem_mem hlt)
      have Hn := Lib.hid hn'
      have N3 := Lib.hid n3
      have Hs := Lib.hid hs
      have Hst := Lib.hid (List.take_succ_eq_append_getElem hlt)
      have tl : (ts.take k).length = k := by simp; omega
      have Tl := Lib.hid tl
      clear c0 c1 hn hn' n3 hs tl
      have E1 := Lib.hid ((Ext.refl wr).alloc (Obj.cells #[.int .i64 ts[k].id, .slice na ts[k].need.length nc] 31))
      go_wp2_with fail
      refine (copyOf_any _ _ _ _ (Hn.out.ext E1.out) N3.out).mono ?_
      rintro e w2 ⟨g, c, rfl, hE2, hs2⟩
      have F2 := Lib.hid (E1.out.trans hE2)
      have F3 := Lib.hid (F2.out.alloc (.cells #[.int .i64 ts[k].id, .slice (some ⟨g, 0, none⟩) ts[k].need.length c] 31))
      have Ns := Lib.hid ((hs2.base E1.out.le).ext ((Ext.refl w2).alloc (.cells #[.int .i64 ts[k].id, .slice (some ⟨g, 0, none⟩) ts[k].need.length c] 31)))
      clear hE2 hs2
      go_wp2_with (at_builtin; refine app_copy rfl _ _ rfl w.heap.size _ _ rfl Hs.out F3.out hE.le _ _ ts[k] _ g rfl (Row.lit w2 #[.int .i64 ts[k].id, .slice (some ⟨g, 0, none⟩) ts[k].need.length c] _) Ns.out (by rw [Tl.out]; unfold lim; omega) ?_; intro v' w4 hts hkt hbl)
      have hE4 := (hE.trans F3.out).below hbl
      have Ht := Lib.hid hts
      clear hts hkt hbl hE
      go_roundw
      case rel => exact ⟨k + 1, by omega, by go_num, hE4, by rw [Hst.out]; exact Ht.out⟩
      case measure => simp [intOf]; omega
    · have e : k = ts.length := by omega
      subst e
      rw [List.take_length] at hs
      have Hs := Lib.hid hs
      obtain ⟨sa, sc, rfl⟩ := hs.form
      clear hs
      go_wp2
      go_ret
      exact ⟨_, rfl, hE, Hs.out⟩

/-- All tasks of the nodes, if the nodes are valid. -/
def binsTasksL (room : List Int) (bs : List (List T)) : List T := if binsB room bs = true then bs.flatten else []
theorem BinsOk.three {room : List Int} {bs : List (List T)} (h : BinsOk room bs) : ∀ t ∈ bs.flatten, t.need.length = 3 := fun t ht => (h.1.good t ht).1

end Go.Proofs.YtfidamjepjgknaaDoor
