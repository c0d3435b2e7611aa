/- Arguments as they come in, and the copies that a law makes of them. Copies of tasks that a law makes, each in memory of its own; and their comparison. The laws' comparisons. Nodes as they come in, and the copies that a law makes of them. No condition. -/
import Derived.Test.YtjdhiabdcmindaaS1
import Derived.Test.YtjdhiabdcmindaaOwn
namespace Go.Proofs.Ytjdhiabdcmindaa
section
set_option maxRecDepth 100000
open Go.RowKit

/-- A slice of numbers that came in. -/
def ArgInts (w : World) (v : Value) (xs : List Int) : Prop :=
  xs.length ≤ 9223372036854775807 ∧ ∃ a cap, v = .slice a xs.length cap ∧ (0 < xs.length → ∃ b off, a = some ⟨b, off, none⟩ ∧ ∀ k (hk : k < xs.length), w.cell? ⟨b, off + k, none⟩ = some (.int .i64 xs[k]))
theorem ArgInts.ext {w w' : World} {v : Value} {xs : List Int} (h : ArgInts w v xs) (k : Ext w w') : ArgInts w' v xs := by
  obtain ⟨hl, a, cap, hv, hc⟩ := h
  exact ⟨hl, a, cap, hv, fun h0 => let ⟨b, off, ha, hc⟩ := hc h0; ⟨b, off, ha, fun j hj => k.cell (hc j hj)⟩⟩
/-- A slice of the laws' tasks that came in. -/
def ArgTasks (w : World) (v : Value) (ts : List T) : Prop :=
  ts.length ≤ 9223372036854775807 ∧ ∃ a cap, v = .slice a ts.length cap ∧ (0 < ts.length → ∃ b off, a = some ⟨b, off, none⟩ ∧ ∀ k (hk : k < ts.length), w.cell? ⟨b, off + k * 2, none⟩ = some (.int .i64 ts[k].id) ∧ ∃ n, w.cell? ⟨b, off + k * 2 + 1, none⟩ = some n ∧ ArgInts w n ts[k].need)
theorem ArgTasks.ext {w w' : World} {v : Value} {ts : List T} (h : ArgTasks w v ts) (k : Ext w w') : ArgTasks w' v ts := by
  obtain ⟨hl, a, cap, hv, hc⟩ := h
  exact ⟨hl, a, cap, hv, fun h0 => let ⟨b, off, ha, hc⟩ := hc h0; ⟨b, off, ha, fun j hj => ⟨k.cell (hc j hj).1, let ⟨n, h1, h2⟩ := (hc j hj).2; ⟨n, k.cell h1, h2.ext k⟩⟩⟩⟩

/-- What a size function returns: -1, or what is left. -/
def Left1 (n : Nat) (left : Int) (P : Int → Prop) (w : World) (e : Ending) (w' : World) : Prop := ∃ r : Int, e = .returned (.int .i64 r) ∧ P r ∧ (0 ≤ r → r + n = left) ∧ Ext w w'

def SzPost (n : Nat) (left : Int) (w : World) (e : Ending) (w' : World) : Prop := ∃ r : Int, e = .returned (.int .i64 r) ∧ (r = -1 ∨ 0 ≤ r ∧ r + n = left) ∧ Ext w w'

set_option maxHeartbeats 400000 in
theorem szIntS_any (v : Value) (xs : List Int) (left : Int) (w : World) (h : ArgInts w v xs) (h0 : 0 ≤ left) (h1 : left ≤ 1048576) :
    Calls Try.prog 77 #[v, .int .i64 left] w (SzPost xs.length left w) := by
  obtain ⟨hl, a, cap, rfl, _⟩ := h
  by_cases hlt : left - xs.length < 0
  · go_enter Try.func77, Try.ntmps77
    go_wp2
    go_ret
    exact ⟨-1, rfl, .inl rfl, Ext.refl _⟩
  · go_enter Try.func77, Try.ntmps77
    go_wp2
    go_ret
    exact ⟨_, rfl, .inr ⟨by omega, by omega⟩, Ext.refl _⟩

set_option maxHeartbeats 400000 in
theorem szTask_any (id : Int) (n : Value) (need : List Int) (left : Int) (w : World) (h : ArgInts w n need) (h0 : 0 ≤ left) (h1 : left ≤ 1048576) :
    Calls Try.prog 62 #[.agg #[.int .i64 id, n], .int .i64 left] w (SzPost need.length left w) := by
  have h2 := h
  obtain ⟨hl, a, cap, rfl, hh⟩ := h2
  clear hh
  go_enter Try.func62, Try.ntmps62
  go_wp2_with fail
  have hEx : Ext w _ := (Ext.refl w).alloc (Obj.cells #[.int .i64 id, .slice a need.length cap] 92)
  refine (szIntS_any _ _ _ _ (h.ext hEx) h0 h1).mono ?_
  rintro e w1 ⟨r, rfl, hr, hE⟩
  have hE1 := hEx.trans hE
  clear hE hEx
  rcases hr with rfl | ⟨hr0, hr1⟩
  · go_wp2
    go_ret
    exact ⟨-1, rfl, .inl rfl, hE1⟩
  · have Hr1 := Lib.hid hr1
    clear hr1
    go_wp2
    go_ret
    exact ⟨r, rfl, .inr ⟨hr0, Hr1.out⟩, hE1⟩

set_option maxHeartbeats 600000 in
theorem szTaskS_any (v : Value) (ts : List T) (left : Int) (w : World) (h : ArgTasks w v ts) (h0 : 0 ≤ left) (h1 : left ≤ 1048576) :
    Calls Try.prog 35 #[v, .int .i64 left] w (SzPost (ts.length + needs ts) left w) := by
  obtain ⟨hl, a, cap, rfl, hc⟩ := h
  have Hc := Lib.hid hc
  clear hc
  by_cases hlt : left - ts.length < 0
  · go_enter Try.func35, Try.ntmps35
    go_wp2
    go_ret
    exact ⟨-1, rfl, .inl rfl, Ext.refl _⟩
  · go_enter Try.func35, Try.ntmps35
    go_wp2
    go_loopw [1, 5] (fun l i wr => ∃ (k : Nat) (m : Int), k ≤ ts.length ∧ i = .int .i64 k ∧ l = .int .i64 m ∧ 0 ≤ m ∧ m + (ts.length + needs (ts.take k) : Nat) = left ∧ Ext w wr) (fun _ i _ => ts.length - (intOf i).toNat)
    case atStart => exact ⟨0, left - ts.length, by omega, rfl, rfl, by omega, by simp [needs], Ext.refl _⟩
    case round =>
      obtain ⟨k, m, hk, rfl, rfl, hm0, hm, hE⟩ := hrel
      have Hm := Lib.hid hm
      have hm1 : m ≤ 1048576 := by omega
      clear hm
      by_cases hkl : k < ts.length
      · obtain ⟨b, off, rfl, hc⟩ := Hc.out (by omega)
        obtain ⟨c0, n, c1, hn⟩ := hc k hkl
        have c0' := hE.cell c0
        have c1' := hE.cell c1
        have Hn := Lib.hid (hn.ext hE)
        obtain ⟨an, cn, rfl, -⟩ := hn.2
        have Hst := Lib.hid (needs_step hkl)
        clear c0 c1 hc hn
        go_wp2_with fail
        refine (szTask_any _ _ _ _ _ Hn.out hm0 hm1).mono ?_
        rintro e w1 ⟨r, rfl, hr, hE2⟩
        have hE3 := hE.trans hE2
        clear hE hE2
        rcases hr with rfl | ⟨hr0, hr1⟩
        · go_wp2
          go_ret
          exact ⟨-1, rfl, .inl rfl, hE3⟩
        · have Hr1 := Lib.hid hr1
          clear hr1
          go_wp2
          go_roundw
          case rel => exact ⟨k + 1, r, by omega, by go_num, rfl, hr0, by have := Hr1.out; have := Hm.out; have := Hst.out; omega, hE3⟩
          case measure => simp [intOf]; omega
      · have e : k = ts.length := by omega
        subst e
        have Hm2 := Lib.hid (show m + (ts.length + needs ts : Nat) = left by have := Hm.out; rwa [List.take_length] at this)
        clear Hm
        go_wp2
        go_ret
        exact ⟨m, rfl, .inr ⟨hm0, Hm2.out⟩, hE⟩

/-- The first numbers are the argument's, the others are zeros. -/
def fillL (xs : List Int) (k : Nat) : List Int := xs.take k ++ List.replicate (xs.length - k) 0
theorem fillL_len (xs : List Int) {k : Nat} (h : k ≤ xs.length) : (fillL xs k).length = xs.length := by simp [fillL]; omega
theorem fillL_step {xs : List Int} {k : Nat} (h : k < xs.length) : (fillL xs k).set k xs[k] = fillL xs (k + 1) := by
  unfold fillL
  apply List.ext_getElem
  · simp; omega
  · intro i h1 h2
    rw [List.getElem_set]
    by_cases e : k = i
    · subst e
      rw [if_pos rfl, List.getElem_append_left (by rw [List.length_take]; omega)]
      simp
    · rw [if_neg e]
      by_cases hi : i < k
      · rw [List.getElem_append_left (by simp; omega), List.getElem_append_left (by simp; omega)]
        simp
      · rw [List.getElem_append_right (by simp; omega), List.getElem_append_right (by simp; omega)]
        simp

set_option maxHeartbeats 600000 in
theorem toIntS_any (v : Value) (xs : List Int) (w : World) (h : ArgInts w v xs) (hl : xs.length ≤ 2097152) :
    Calls Try.prog 13 #[v] w fun e w' => ∃ g, e = .returned (.slice (some ⟨g, 0, none⟩) xs.length xs.length) ∧ Ext w w' ∧ OwnInts w' w.heap.size (.slice (some ⟨g, 0, none⟩) xs.length xs.length) xs ∧ g < w'.heap.size := by
  obtain ⟨_, a, cap, rfl, hc⟩ := h
  have Hc := Lib.hid hc
  clear hc
  obtain ⟨i0, hi, hz, hs, hby⟩ := info_parts info_int
  go_enter Try.func13, Try.ntmps13
  go_wp2_with (at_make; refine wpList_make_full _ rfl _ _ 23 rfl w.heap.size 3 i0 (.int .i64 0) 1 under_ints hi hz hs .i64 .i64 _ _ xs.length rfl rfl rfl rfl (by rw [hby]; omega) (by unfold maxLen; omega) (Nat.le_refl _) ?_; intro w1 hown hg)
  have hE : Ext w w1 := Below.grown (Below.refl _ _) hg (Nat.le_refl _) (by simp)
  have hg1 : w.heap.size < w1.heap.size := (hown.lt _ rfl).2
  have Ho := Lib.hid (show w1.ownsRow w.heap.size 3 1 (.slice (some ⟨w.heap.size, 0, none⟩) xs.length xs.length) xs.length ((fillL xs 0).map (Value.int .i64)) from by
    have e : (madeCells (Value.int IntKind.i64 0).cells (xs.length * 1)).toList = (fillL xs 0).map (Value.int .i64) := by
      show (madeCells #[Value.int .i64 0] (xs.length * 1)).toList = _
      rw [toList_madeCells_one, Nat.mul_one]
      simp [fillL]
    rw [e] at hown
    exact hown)
  clear hown hg hi hz hs hby
  go_loopw [4] (fun i wr => ∃ k : Nat, k ≤ xs.length ∧ i = .int .i64 k ∧ Ext w wr ∧ w.heap.size < wr.heap.size ∧ wr.ownsRow w.heap.size 3 1 (.slice (some ⟨w.heap.size, 0, none⟩) xs.length xs.length) xs.length ((fillL xs k).map (Value.int .i64))) (fun i _ => xs.length - (intOf i).toNat)
  case atStart => exact ⟨0, by omega, rfl, hE, hg1, Ho.out⟩
  case round =>
    clear Ho hE hg1
    obtain ⟨k, hk, rfl, hE, hlt1, hown⟩ := hrel
    by_cases hlt : k < xs.length
    · obtain ⟨b, off, rfl, hc⟩ := Hc.out (by omega)
      have c0 := hE.cell (hc k hlt)
      have l3 : k < (fillL xs k).length := by rw [fillL_len xs hk]; exact hlt
      have c3 := hown.cellAt k (by omega)
      rw [List.getElem?_map, List.getElem?_eq_getElem l3, Option.map_some] at c3
      have f3 := hown.frozenAt k
      have Ho := Lib.hid hown
      have Hst := Lib.hid (fillL_step hlt)
      clear hc hown
      go_wp2
      have hE1 := hE.setCell (p := ⟨w.heap.size, k, none⟩) (Nat.le_refl _) (.int .i64 xs[k])
      have hlt2 : w.heap.size < (wr.setCell ⟨w.heap.size, k, none⟩ (.int .i64 xs[k])).heap.size := by simpa using hlt1
      have Ho1 := Lib.hid (show (wr.setCell ⟨w.heap.size, k, none⟩ (.int .i64 xs[k])).ownsRow w.heap.size 3 1 (.slice (some ⟨w.heap.size, 0, none⟩) xs.length xs.length) xs.length ((fillL xs (k + 1)).map (Value.int .i64)) from by
        have h1 := (World.ownsRow.stored Ho.out k (.int .i64 xs[k])).1
        rw [← Hst.out, List.map_set]
        exact h1)
      clear hE
      go_roundw
      case rel => exact ⟨k + 1, by omega, by go_num, hE1, hlt2, Ho1.out⟩
      case measure => simp [intOf]; omega
    · have e : k = xs.length := by omega
      subst e
      have Ho1 := Lib.hid (show OwnInts wr w.heap.size (.slice (some ⟨w.heap.size, 0, none⟩) xs.length xs.length) xs from by
        have e : fillL xs xs.length = xs := by simp [fillL]
        rw [e] at hown
        exact hown)
      clear hown
      go_wp2
      go_ret
      exact ⟨_, rfl, hE, Ho1.out, hlt1⟩
end

section
set_option maxRecDepth 100000
open Go.RowKit

set_option maxHeartbeats 600000 in
theorem toTask_any (id : Int) (n : Value) (need : List Int) (w : World) (h : ArgInts w n need) (hl : need.length ≤ 2097152) :
    Calls Try.prog 63 #[.agg #[.int .i64 id, n]] w fun e w' => ∃ g, e = .returned (.agg #[.int .i64 id, .slice (some ⟨g, 0, none⟩) need.length need.length]) ∧ Ext w w' ∧ NeedS w' w.heap.size g (.slice (some ⟨g, 0, none⟩) need.length need.length) need := by
  have h2 := h
  obtain ⟨_, a, cap, rfl, hh⟩ := h2
  clear hh
  go_enter Try.func63, Try.ntmps63
  go_wp2_with fail
  have hEx : Ext w _ := (((Ext.refl w).alloc (Obj.cells #[.int .i64 id, .slice a need.length cap] 92)).alloc (Obj.cells #[.int .i64 0, .slice none 0 0] 56)).alloc (Obj.cells #[.int .i64 id, .slice none 0 0] 56)
  have hb1 : (((w.alloc (Obj.cells #[.int .i64 id, .slice a need.length cap] 92)).alloc (Obj.cells #[.int .i64 0, .slice none 0 0] 56)).alloc (Obj.cells #[.int .i64 id, .slice none 0 0] 56)).heap[w.heap.size + 1]? = some (Obj.cells #[.int .i64 0, .slice none 0 0] 56) := by
    rw [Below.heap_alloc _ _ _ (by simp)]
    simpa using heap_alloc_new (w.alloc (Obj.cells #[.int .i64 id, .slice a need.length cap] 92)) (Obj.cells #[.int .i64 0, .slice none 0 0] 56)
  have hb2 : (((w.alloc (Obj.cells #[.int .i64 id, .slice a need.length cap] 92)).alloc (Obj.cells #[.int .i64 0, .slice none 0 0] 56)).alloc (Obj.cells #[.int .i64 id, .slice none 0 0] 56)).heap[w.heap.size + 1 + 1]? = some (Obj.cells #[.int .i64 id, .slice none 0 0] 56) := by
    simpa using heap_alloc_new ((w.alloc (Obj.cells #[.int .i64 id, .slice a need.length cap] 92)).alloc (Obj.cells #[.int .i64 0, .slice none 0 0] 56)) (Obj.cells #[.int .i64 id, .slice none 0 0] 56)
  have hsz : (((w.alloc (Obj.cells #[.int .i64 id, .slice a need.length cap] 92)).alloc (Obj.cells #[.int .i64 0, .slice none 0 0] 56)).alloc (Obj.cells #[.int .i64 id, .slice none 0 0] 56)).heap.size = w.heap.size + 3 := by simp
  generalize ((w.alloc (Obj.cells #[.int .i64 id, .slice a need.length cap] 92)).alloc (Obj.cells #[.int .i64 0, .slice none 0 0] 56)).alloc (Obj.cells #[.int .i64 id, .slice none 0 0] 56) = W3 at *
  refine (toIntS_any _ _ _ (h.ext hEx) hl).mono ?_
  rintro e w1 ⟨g, rfl, hE, ho, hg⟩
  have k1 := (hE.block (lt_of_heap hb1)).trans hb1
  have k2 := (hE.block (lt_of_heap hb2)).trans hb2
  have Hn : Hid (NeedS w1 w.heap.size g (.slice (some ⟨g, 0, none⟩) need.length need.length) need) := NeedS.base (L := W3.heap.size) ⟨⟨_, rfl⟩, ho⟩ (by omega)
  have hE1 := hEx.trans hE
  have c1 : w1.cell? ⟨w.heap.size + 1, 0, none⟩ = some (.int .i64 0) := by simp [World.cell?, k1]
  have c2 : w1.cell? ⟨w.heap.size + 1, 1, none⟩ = some (.slice none 0 0) := by simp [World.cell?, k1]
  have c3 : w1.cell? ⟨w.heap.size + 1 + 1, 0, none⟩ = some (.int .i64 id) := by simp [World.cell?, k2]
  have c4 : w1.cell? ⟨w.heap.size + 1 + 1, 1, none⟩ = some (.slice none 0 0) := by simp [World.cell?, k2]
  have f1 : w1.frozen? ⟨w.heap.size + 1, 0, none⟩ = false := by simp [World.frozen?, k1]
  have f2 : w1.frozen? ⟨w.heap.size + 1, 1, none⟩ = false := by simp [World.frozen?, k1]
  have f4 : w1.frozen? ⟨w.heap.size + 1 + 1, 1, none⟩ = false := by simp [World.frozen?, k2]
  have K1 := Lib.hid k1
  have K2 := Lib.hid k2
  clear hE hEx ho hb1 hb2 hsz k1 k2
  go_wp2_with fail
  have kt1 := KT.setCell (p := ⟨w.heap.size + 1 + 1, 1, none⟩) K2.out (.slice (some ⟨g, 0, none⟩) need.length need.length)
  have j1 := (Below.heap_setCell w1 ⟨w.heap.size + 1 + 1, 1, none⟩ (.slice (some ⟨g, 0, none⟩) need.length need.length) (w.heap.size + 1) (by simp)).trans K1.out
  have kt2 := KT.setCell (p := ⟨w.heap.size + 1, 0, none⟩) j1 (.int .i64 id)
  have j2 := heap_setCell_same _ (w.heap.size + 1) 0 _ _ (.int .i64 id) j1
  have kt3 := KT.setCell (p := ⟨w.heap.size + 1, 1, none⟩) j2 (.slice (some ⟨g, 0, none⟩) need.length need.length)
  have j3 := heap_setCell_same _ (w.heap.size + 1) 1 _ _ (.slice (some ⟨g, 0, none⟩) need.length need.length) j2
  refine bodyPost_ret (v := .agg #[.int .i64 id, .slice (some ⟨g, 0, none⟩) need.length need.length]) ?_ rfl ⟨g, rfl, ?_, Hn.out.kt (kt1.trans (kt2.trans kt3)) (by decide)⟩
  · simp [results, Try.results63, go_sem, c1, c2]
  · exact ((hE1.setCell (by simp; omega) _).setCell (by simp) _).setCell (by simp) _

theorem CellsS.step {w w1 w2 : World} {L g : Nat} {xs : List Value} {ts : List T} {nb : Nat → Nat} {k : Nat} {v : Value} (hk : k < ts.length) (hx : xs.length = ts.length * 2) (h : CellsS w L xs ts nb k) (hE : Ext w w1) (hkt : KT 56 w1 w2)
    (hn : NeedS w1 w.heap.size g v ts[k].need) (hL : L ≤ w.heap.size) : CellsS w2 L ((xs.set (k * 2) (.int .i64 ts[k].id)).set (k * 2 + 1) v) ts (fun j => if j = k then g else nb j) (k + 1) := by
  obtain ⟨h1, h2⟩ := h
  refine ⟨fun j hj hjm => ?_, fun i j hij hj hjm => ?_⟩
  · by_cases e : j = k
    · subst e
      refine ⟨?_, v, ?_, ?_⟩
      · rw [List.getElem?_set_ne (by omega), List.getElem?_set_self (by omega)]
      · rw [List.getElem?_set_self (by simp; omega)]
      · simpa using (hn.base hL).kt hkt (by decide)
    · obtain ⟨a, n, b, c⟩ := h1 j hj (by omega)
      refine ⟨?_, n, ?_, ?_⟩
      · rw [List.getElem?_set_ne (by omega), List.getElem?_set_ne (by omega), a]
      · rw [List.getElem?_set_ne (by omega), List.getElem?_set_ne (by omega), b]
      · simpa [e] using (c.ext hE).kt hkt (by decide)
  · have low : ∀ i, i < k → nb i < w.heap.size := fun i hi => by
      obtain ⟨_, n, _, c⟩ := h1 i (by omega) hi
      exact c.lt.2
    have hg := hn.lt.1
    by_cases e : j = k
    · have := low i (by omega)
      show (if i = k then g else nb i) ≠ (if j = k then g else nb j)
      rw [if_neg (by omega), if_pos e]
      omega
    · show (if i = k then g else nb i) ≠ (if j = k then g else nb j)
      rw [if_neg (by omega), if_neg e]
      exact h2 i j hij hj (by omega)

set_option maxHeartbeats 1000000 in
theorem toTaskS_any (v : Value) (ts : List T) (w : World) (h : ArgTasks w v ts) (hl : ts.length + needs ts ≤ 2097152) :
    Calls Try.prog 36 #[v] w fun e w' => ∃ g, e = .returned (.slice (some ⟨g, 0, none⟩) ts.length ts.length) ∧ Ext w w' ∧ TasksS w' w.heap.size (.slice (some ⟨g, 0, none⟩) ts.length ts.length) ts := by
  obtain ⟨_, a, cap, rfl, hc⟩ := h
  have Hc := Lib.hid hc
  clear hc
  obtain ⟨i0, hi, hz, hs, hby⟩ := info_parts info_task
  have HN := Lib.hid (fun k (hk : k < ts.length) => needs_le hk)
  go_enter Try.func36, Try.ntmps36
  go_wp2_with (at_make; refine wpList_make_full _ rfl _ _ 52 rfl w.heap.size 56 i0 (.agg #[.int .i64 0, .slice none 0 0]) 2 under_tasks hi hz hs .i64 .i64 _ _ ts.length rfl rfl rfl rfl (by rw [hby]; omega) (by unfold maxLen; omega) (Nat.le_refl _) ?_; intro w1 hown hg)
  have hE : Ext w w1 := Below.grown (Below.refl _ _) hg (Nat.le_refl _) (by simp)
  have hg1 : w.heap.size < w1.heap.size := (hown.lt _ rfl).2
  have Ho := Lib.hid hown
  clear hown hg hi hz hs hby
  go_loopw [4] (fun i wr => ∃ (k : Nat) (xs : List Value) (nb : Nat → Nat), k ≤ ts.length ∧ i = .int .i64 k ∧ Ext w wr ∧ wr.ownsRow w.heap.size 56 2 (.slice (some ⟨w.heap.size, 0, none⟩) ts.length ts.length) ts.length xs ∧ CellsS wr w.heap.size xs ts nb k) (fun i _ => ts.length - (intOf i).toNat)
  case atStart => exact ⟨0, _, fun _ => 0, by omega, rfl, hE, Ho.out, fun _ _ h => by omega, fun _ _ _ _ h => by omega⟩
  case round =>
    clear Ho hE hg1
    obtain ⟨k, xs, nb, hk, rfl, hE, hown, hcs⟩ := hrel
    by_cases hlt : k < ts.length
    · obtain ⟨b, off, rfl, hc⟩ := Hc.out (by omega)
      obtain ⟨c0, n, c1, hn⟩ := hc k hlt
      have c0' := hE.cell c0
      have c1' := hE.cell c1
      have Hn := Lib.hid (hn.ext hE)
      obtain ⟨an, cn, rfl, -⟩ := hn.2
      have hx := hown.1
      have hnl : ts[k].need.length ≤ 2097152 := by have := HN.out k hlt; omega
      have Hcs := Lib.hid hcs
      have Ho := Lib.hid hown
      clear c0 c1 hc hn hcs hown
      go_wp2_with fail
      refine (toTask_any _ _ _ _ Hn.out hnl).mono ?_
      rintro e w1 ⟨g, rfl, hE2, hns⟩
      have ho1 := ownsRow_ext Ho.out hE2
      have d0 := ho1.cellAt (k * 2) (by omega)
      have d1 := ho1.cellAt (k * 2 + 1) (by omega)
      rw [List.getElem?_eq_getElem (by omega)] at d0 d1
      have f0 := ho1.frozenAt (k * 2)
      have f1 := ho1.frozenAt (k * 2 + 1)
      have st0 := (World.ownsRow.stored ho1 (k * 2) (.int .i64 ts[k].id)).1
      have st1 := (World.ownsRow.stored st0 (k * 2 + 1) (.slice (some ⟨g, 0, none⟩) ts[k].need.length ts[k].need.length)).1
      obtain ⟨cs0, hb0⟩ : ∃ cs, w1.heap[w.heap.size]? = some (Obj.cells cs 56 (0, 0)) := by
        rcases ho1.2 with ⟨h', _⟩ | ⟨g', cap', cur, h', _, hg, _⟩
        · simp at h'
        · simp only [Value.slice.injEq, Option.some.injEq, Addr.mk.injEq, and_true, true_and] at h'
          obtain ⟨rfl, _⟩ := h'
          exact ⟨cur, hg⟩
      have kt1 := KT.setCell (p := ⟨w.heap.size, k * 2, none⟩) hb0 (.int .i64 ts[k].id)
      have kt2 := KT.setCell (p := ⟨w.heap.size, k * 2 + 1, none⟩) (heap_setCell_same _ w.heap.size (k * 2) _ _ (.int .i64 ts[k].id) hb0) (.slice (some ⟨g, 0, none⟩) ts[k].need.length ts[k].need.length)
      have Hc2 := Lib.hid (Hcs.out.step hlt hx hE2 (kt1.trans kt2) hns hE.le)
      have hE3 := ((hE.trans hE2).setCell (p := ⟨w.heap.size, k * 2, none⟩) (Nat.le_refl _) (.int .i64 ts[k].id)).setCell (p := ⟨w.heap.size, k * 2 + 1, none⟩) (Nat.le_refl _) (.slice (some ⟨g, 0, none⟩) ts[k].need.length ts[k].need.length)
      have St := Lib.hid st1
      clear kt1 kt2 st0 st1 hb0 hns ho1 hE hE2
      go_wp2_with fail
      go_roundw
      case rel => exact ⟨k + 1, _, _, by omega, by go_num, hE3, St.out, Hc2.out⟩
      case measure => simp [intOf]; omega
    · have e : k = ts.length := by omega
      subst e
      have Ho1 := Lib.hid (show TasksS wr w.heap.size (.slice (some ⟨w.heap.size, 0, none⟩) ts.length ts.length) ts from ⟨xs, nb, hown, hcs⟩)
      clear hown hcs
      go_wp2
      go_ret
      exact ⟨_, rfl, hE, Ho1.out⟩
end

section
set_option maxRecDepth 100000
open Go.RowKit

set_option maxHeartbeats 400000 in
theorem eqIntS_any (v u : Value) (xs ys : List Int) (w : World) (h : Ints w v xs) (h' : Ints w u ys) :
    Calls Try.prog 16 #[v, u] w fun e w' => e = .returned (.bool (xs == ys)) ∧ ∃ n, w' = w.drewN n := by
  obtain ⟨a, cap, rfl, h⟩ := h.open
  obtain ⟨a', cap', rfl, h'⟩ := h'.open
  have hx : xs.length ≤ 4194304 := h.1
  have hy : ys.length ≤ 4194304 := h'.1
  by_cases hl : xs.length = ys.length
  · have hb : (((xs.length : Nat) : Int) != (ys.length : Nat)) = false := by simp [hl]
    have HL := Lib.hid hl
    clear hl
    go_enter Try.func16, Try.ntmps16
    go_wp2
    go_loopw [5] (fun i wr => ∃ k n : Nat, k ≤ xs.length ∧ i = .int .i64 k ∧ wr = w.drewN n ∧ ∀ j (h1 : j < xs.length) (h2 : j < ys.length), j < k → xs[j] = ys[j]) (fun i _ => xs.length - (intOf i).toNat)
    case atStart => exact ⟨0, 0, by omega, rfl, rfl, fun _ _ _ h => by omega⟩
    case round =>
      obtain ⟨k, n, hk, rfl, rfl, hg⟩ := hrel
      have Hg := Lib.hid hg
      clear hg
      by_cases hlt : k < xs.length
      · have l2 : k < ys.length := by have := HL.out; omega
        obtain ⟨b, off, rfl, hc⟩ := h.at (by omega)
        obtain ⟨b', off', rfl, hc'⟩ := h'.at (by omega)
        have c1 := hc k hlt
        have c2 := hc' k l2
        clear hc hc'
        have b1 : (k : Int) < (xs.length : Int) := by omega
        have b1' : (k : Int) < (ys.length : Int) := by omega
        have b0 : (0 : Int) ≤ (k : Int) := by omega
        by_cases he : xs[k] = ys[k]
        · have hbb : (xs[k] != ys[k]) = false := by simp [he]
          have He := Lib.hid he
          clear he
          go_wp2
          go_quiet (fail)
          go_wp2
          go_roundw
          case rel => exact ⟨k + 1, n + nq, by omega, by go_num, by first | rfl | exact World.drewN_drewN _ _ _, fun j h1 h2 hj => by
            by_cases e : j = k
            · subst e; exact He.out
            · exact Hg.out j h1 h2 (by omega)⟩
          case measure => simp [intOf]; omega
        · have hbb : (xs[k] != ys[k]) = true := by simp [he]
          have Hr := Lib.hid (beq_lists_at hlt l2 he)
          clear he
          go_wp2
          go_quiet (fail)
          go_wp2
          go_ret
          exact ⟨ret_bool Hr.out.symm, n + nq, by first | rfl | exact World.drewN_drewN _ _ _⟩
      · have e : k = xs.length := by omega
        subst e
        have Hr := Lib.hid (beq_lists HL.out (fun j h1 h2 => Hg.out j h1 h2 h1))
        go_wp2
        go_ret
        exact ⟨ret_bool Hr.out.symm, n, rfl⟩
  · have hb : (((xs.length : Nat) : Int) != (ys.length : Nat)) = true := by simp; omega
    have Hr := Lib.hid (beq_lists_len hl)
    clear hl
    go_enter Try.func16, Try.ntmps16
    go_wp2
    go_ret
    exact ⟨ret_bool Hr.out.symm, 0, rfl⟩

set_option maxHeartbeats 400000 in
theorem eqTask_any (x y : T) (n1 n2 : Value) (w : World) (h1 : Ints w n1 x.need) (h2 : Ints w n2 y.need) :
    Calls Try.prog 64 #[.agg #[.int .i64 x.id, n1], .agg #[.int .i64 y.id, n2]] w fun e w' => e = .returned (.bool (sameT x y)) ∧ Ext w w' := by
  obtain ⟨a1, c1, rfl, h1⟩ := h1.open
  obtain ⟨a2, c2, rfl, h2⟩ := h2.open
  have hEx : Ext w _ := ((Ext.refl w).alloc (Obj.cells #[.int .i64 x.id, .slice a1 x.need.length c1] 56)).alloc (Obj.cells #[.int .i64 y.id, .slice a2 y.need.length c2] 56)
  by_cases he : x.id = y.id
  · have hb : (x.id != y.id) = false := by simp [he]
    have Hd : Hid (sameT x y = (x.need == y.need)) := by show sameT x y = _; simp [sameT, he]
    clear he
    cases hq : (x.need == y.need) with
    | true =>
      have Hq := Lib.hid hq
      go_enter Try.func64, Try.ntmps64
      go_wp2_with fail
      refine (eqIntS_any _ _ _ _ _ (h1.ext hEx) (h2.ext hEx)).mono ?_
      rintro e w1 ⟨rfl, m, rfl⟩
      have hE2 := hEx.drewN m
      clear hEx
      rw [hq]
      go_wp2_with fail
      go_ret
      exact ⟨ret_bool (by rw [Hd.out, Hq.out]), hE2⟩
    | false =>
      have Hq := Lib.hid hq
      go_enter Try.func64, Try.ntmps64
      go_wp2_with fail
      refine (eqIntS_any _ _ _ _ _ (h1.ext hEx) (h2.ext hEx)).mono ?_
      rintro e w1 ⟨rfl, m, rfl⟩
      have hE2 := hEx.drewN m
      clear hEx
      rw [hq]
      go_wp2_with fail
      go_ret
      exact ⟨ret_bool (by rw [Hd.out, Hq.out]), hE2⟩
  · have hb : (x.id != y.id) = true := by simp [he]
    have Hd : Hid (sameT x y = false) := by show sameT x y = _; simp [sameT, he]
    clear he
    go_enter Try.func64, Try.ntmps64
    go_wp2_with fail
    go_ret
    exact ⟨ret_bool Hd.out.symm, hEx⟩

set_option maxHeartbeats 600000 in
theorem eqTaskS_any (v u : Value) (xs ys : List T) (w : World) (h : Tasks w v xs) (h' : Tasks w u ys) :
    Calls Try.prog 37 #[v, u] w fun e w' => e = .returned (.bool (sameTs xs ys)) ∧ Ext w w' := by
  obtain ⟨a, cap, rfl, h⟩ := h.open
  obtain ⟨a', cap', rfl, h'⟩ := h'.open
  have hx : xs.length ≤ 4194304 := h.1
  have hy : ys.length ≤ 4194304 := h'.1
  by_cases hl : xs.length = ys.length
  · have hb : (((xs.length : Nat) : Int) != (ys.length : Nat)) = false := by simp [hl]
    have HL := Lib.hid hl
    clear hl
    go_enter Try.func37, Try.ntmps37
    go_wp2
    go_loopw [5] (fun i wr => ∃ k : Nat, k ≤ xs.length ∧ i = .int .i64 k ∧ Ext w wr ∧ ∀ j (h1 : j < xs.length) (h2 : j < ys.length), j < k → sameT xs[j] ys[j] = true) (fun i _ => xs.length - (intOf i).toNat)
    case atStart => exact ⟨0, by omega, rfl, Ext.refl _, fun _ _ _ h => by omega⟩
    case round =>
      obtain ⟨k, hk, rfl, hE, hg⟩ := hrel
      have Hg := Lib.hid hg
      clear hg
      by_cases hlt : k < xs.length
      · have l2 : k < ys.length := by have := HL.out; omega
        obtain ⟨b, off, nd, rfl, c0, c1, hn⟩ := h.at hlt
        obtain ⟨b', off', nd', rfl, d0, d1, hn2⟩ := h'.at l2
        obtain ⟨e1, f1, rfl, hn'⟩ := (hn.ext hE).open
        obtain ⟨e2, f2, rfl, hn2'⟩ := (hn2.ext hE).open
        have c0' := hE.cell c0
        have c1' := hE.cell c1
        have d0' := hE.cell d0
        have d1' := hE.cell d1
        have Hn := Lib.hid hn'
        have Hn2 := Lib.hid hn2'
        clear hn hn' hn2 hn2' c0 c1 d0 d1
        have b1 : (k : Int) < (xs.length : Int) := by omega
        have b1' : (k : Int) < (ys.length : Int) := by omega
        have b0 : (0 : Int) ≤ (k : Int) := by omega
        cases he : sameT xs[k] ys[k] with
        | true =>
          have Hd : Hid (∀ j (h1 : j < xs.length) (h2 : j < ys.length), j < k + 1 → sameT xs[j] ys[j] = true) := by
            intro j h1 h2 hj
            by_cases e : j = k
            · subst e; exact he
            · exact Hg.out j h1 h2 (by omega)
          go_wp2
          go_still_tail 8, (by kernel_rfl)
          change wpList _ _ _ _ _ wr.drew
          go_wp2_with fail
          refine (eqTask_any _ _ _ _ _ Hn.out.drew Hn2.out.drew).mono ?_
          rintro e w1 ⟨rfl, hE2⟩
          have hE3 := hE.drew.trans hE2
          clear hE hE2
          go_wp2_with fail
          go_roundw
          case rel => exact ⟨k + 1, by omega, by go_num, hE3, Hd.out⟩
          case measure => simp [intOf]; omega
        | false =>
          have Hr := Lib.hid (sameTs_at hlt l2 he)
          go_wp2
          go_still_tail 8, (by kernel_rfl)
          change wpList _ _ _ _ _ wr.drew
          go_wp2_with fail
          refine (eqTask_any _ _ _ _ _ Hn.out.drew Hn2.out.drew).mono ?_
          rintro e w1 ⟨rfl, hE2⟩
          have hE3 := hE.drew.trans hE2
          clear hE hE2
          go_wp2_with fail
          go_ret
          exact ⟨ret_bool Hr.out.symm, hE3⟩
      · have e : k = xs.length := by omega
        subst e
        have Hr := Lib.hid (sameTs_all HL.out (fun j h1 h2 => Hg.out j h1 h2 h1))
        go_wp2
        go_ret
        exact ⟨ret_bool Hr.out.symm, hE⟩
  · have hb : (((xs.length : Nat) : Int) != (ys.length : Nat)) = true := by simp; omega
    have Hr : Hid (sameTs xs ys = false) := by
      show sameTs xs ys = false
      rw [Bool.eq_false_iff]
      exact fun e => hl (by rw [sameTs_iff.1 e])
    clear hl
    go_enter Try.func37, Try.ntmps37
    go_wp2
    go_ret
    exact ⟨ret_bool Hr.out.symm, Ext.refl _⟩
end

section
set_option maxRecDepth 100000
open Go.RowKit

/-- A slice of slices of the laws' tasks that came in. -/
def ArgBins (w : World) (v : Value) (bs : List (List T)) : Prop :=
  bs.length ≤ 9223372036854775807 ∧ ∃ a cap, v = .slice a bs.length cap ∧ (0 < bs.length → ∃ b off, a = some ⟨b, off, none⟩ ∧ ∀ k (hk : k < bs.length), ∃ n, w.cell? ⟨b, off + k, none⟩ = some n ∧ ArgTasks w n bs[k])
theorem ArgBins.ext {w w' : World} {v : Value} {bs : List (List T)} (h : ArgBins w v bs) (k : Ext w w') : ArgBins w' v bs := by
  obtain ⟨hl, a, cap, hv, hc⟩ := h
  exact ⟨hl, a, cap, hv, fun h0 => let ⟨b, off, ha, hc⟩ := hc h0; ⟨b, off, ha, fun j hj => let ⟨n, h1, h2⟩ := hc j hj; ⟨n, k.cell h1, h2.ext k⟩⟩⟩

set_option maxHeartbeats 600000 in
theorem szTaskSS_any (v : Value) (bs : List (List T)) (left : Int) (w : World) (h : ArgBins w v bs) (h0 : 0 ≤ left) (h1 : left ≤ 1048576) :
    Calls Try.prog 12 #[v, .int .i64 left] w (SzPost (bs.length + weigh bs) left w) := by
  obtain ⟨hl, a, cap, rfl, hc⟩ := h
  have Hc := Lib.hid hc
  clear hc
  by_cases hlt : left - bs.length < 0
  · go_enter Try.func12, Try.ntmps12
    go_wp2
    go_ret
    exact ⟨-1, rfl, .inl rfl, Ext.refl _⟩
  · go_enter Try.func12, Try.ntmps12
    go_wp2
    go_loopw [1, 5] (fun l i wr => ∃ (k : Nat) (m : Int), k ≤ bs.length ∧ i = .int .i64 k ∧ l = .int .i64 m ∧ 0 ≤ m ∧ m + (bs.length + weigh (bs.take k) : Nat) = left ∧ Ext w wr) (fun _ i _ => bs.length - (intOf i).toNat)
    case atStart => exact ⟨0, left - bs.length, by omega, rfl, rfl, by omega, by simp [weigh], Ext.refl _⟩
    case round =>
      obtain ⟨k, m, hk, rfl, rfl, hm0, hm, hE⟩ := hrel
      have Hm := Lib.hid hm
      have hm1 : m ≤ 1048576 := by omega
      clear hm
      by_cases hkl : k < bs.length
      · obtain ⟨b, off, rfl, hc⟩ := Hc.out (by omega)
        obtain ⟨n, c1, hn⟩ := hc k hkl
        have c1' := hE.cell c1
        have Hn := Lib.hid (hn.ext hE)
        obtain ⟨an, cn, rfl, -⟩ := hn.2
        have Hst := Lib.hid (weigh_step hkl)
        clear c1 hc hn
        go_wp2_with fail
        refine (szTaskS_any _ _ _ _ Hn.out hm0 hm1).mono ?_
        rintro e w1 ⟨r, rfl, hr, hE2⟩
        have hE3 := hE.trans hE2
        clear hE hE2
        rcases hr with rfl | ⟨hr0, hr1⟩
        · go_wp2
          go_ret
          exact ⟨-1, rfl, .inl rfl, hE3⟩
        · have Hr1 := Lib.hid hr1
          clear hr1
          go_wp2
          go_roundw
          case rel => exact ⟨k + 1, r, by omega, by go_num, rfl, hr0, by have := Hr1.out; have := Hm.out; have := Hst.out; omega, hE3⟩
          case measure => simp [intOf]; omega
      · have e : k = bs.length := by omega
        subst e
        have Hm2 := Lib.hid (show m + (bs.length + weigh bs : Nat) = left by have := Hm.out; rwa [List.take_length] at this)
        clear Hm
        go_wp2
        go_ret
        exact ⟨m, rfl, .inr ⟨hm0, Hm2.out⟩, hE⟩

set_option maxHeartbeats 1000000 in
theorem toTaskSS_any (v : Value) (bs : List (List T)) (w : World) (h : ArgBins w v bs) (hl : bs.length + weigh bs ≤ 2097152) :
    Calls Try.prog 14 #[v] w fun e w' => ∃ g, e = .returned (.slice (some ⟨g, 0, none⟩) bs.length bs.length) ∧ Ext w w' ∧ BinsS w' w.heap.size (.slice (some ⟨g, 0, none⟩) bs.length bs.length) bs := by
  obtain ⟨_, a, cap, rfl, hc⟩ := h
  have Hc := Lib.hid hc
  clear hc
  obtain ⟨i0, hi, hz, hs, hby⟩ := info_parts info_bin
  have HN := Lib.hid (fun k (hk : k < bs.length) => weigh_le hk)
  go_enter Try.func14, Try.ntmps14
  go_wp2_with (at_make; refine wpList_make_full _ rfl _ _ 24 rfl w.heap.size 52 i0 (.slice none 0 0) 1 under_bins hi hz hs .i64 .i64 _ _ bs.length rfl rfl rfl rfl (by rw [hby]; omega) (by unfold maxLen; omega) (Nat.le_refl _) ?_; intro w1 hown hg)
  have hE : Ext w w1 := Below.grown (Below.refl _ _) hg (Nat.le_refl _) (by simp)
  have hg1 : w.heap.size < w1.heap.size := (hown.lt _ rfl).2
  have Ho := Lib.hid hown
  clear hown hg hi hz hs hby
  go_loopw [4] (fun i wr => ∃ (k : Nat) (xs : List Value), k ≤ bs.length ∧ i = .int .i64 k ∧ Ext w wr ∧ wr.ownsRow w.heap.size 52 1 (.slice (some ⟨w.heap.size, 0, none⟩) bs.length bs.length) bs.length xs ∧ ∀ j (h : j < bs.length), j < k → ∃ n, xs[j]? = some n ∧ TasksS wr w.heap.size n bs[j]) (fun i _ => bs.length - (intOf i).toNat)
  case atStart => exact ⟨0, _, by omega, rfl, hE, Ho.out, fun _ _ h => by omega⟩
  case round =>
    clear Ho hE hg1
    obtain ⟨k, xs, hk, rfl, hE, hown, hcs⟩ := hrel
    by_cases hlt : k < bs.length
    · obtain ⟨b, off, rfl, hc⟩ := Hc.out (by omega)
      obtain ⟨n, c1, hn⟩ := hc k hlt
      have c1' := hE.cell c1
      have Hn := Lib.hid (hn.ext hE)
      obtain ⟨an, cn, rfl, -⟩ := hn.2
      have hx := hown.1
      have hnl : bs[k].length + needs bs[k] ≤ 2097152 := by have := HN.out k hlt; omega
      have Hcs := Lib.hid hcs
      have Ho := Lib.hid hown
      clear c1 hc hn hcs hown
      go_wp2_with fail
      refine (toTaskS_any _ _ _ Hn.out hnl).mono ?_
      rintro e w1 ⟨g, rfl, hE2, hns⟩
      have ho1 := ownsRow_ext Ho.out hE2
      obtain ⟨p1, p2, p3, f1⟩ := ownsRow_put ho1 (k := k) (by omega) (.slice (some ⟨g, 0, none⟩) bs[k].length bs[k].length)
      have d0 := ho1.cellAt k (by omega)
      rw [List.getElem?_eq_getElem (by omega)] at d0
      have hE3 := (hE.trans hE2).below p3
      have St := Lib.hid p1
      have Hc2 : Hid (∀ j (h : j < bs.length), j < k + 1 → ∃ n, (xs.set k (.slice (some ⟨g, 0, none⟩) bs[k].length bs[k].length))[j]? = some n ∧ TasksS (w1.setCell ⟨w.heap.size, k, none⟩ (.slice (some ⟨g, 0, none⟩) bs[k].length bs[k].length)) w.heap.size n bs[j]) := by
        intro j hj hjk
        by_cases e : k = j
        · subst e
          exact ⟨_, by rw [List.getElem?_set_self (by omega)], (hns.base hE.le).kt p2 (by decide) (by decide)⟩
        · obtain ⟨n, hn, ht⟩ := Hcs.out j hj (by omega)
          exact ⟨n, by rw [List.getElem?_set_ne e, hn], (ht.ext hE2).kt p2 (by decide) (by decide)⟩
      clear p1 p2 p3 ho1 hns hE hE2
      go_wp2_with fail
      go_roundw
      case rel => exact ⟨k + 1, _, by omega, by go_num, hE3, St.out, Hc2.out⟩
      case measure => simp [intOf]; omega
    · have e : k = bs.length := by omega
      subst e
      have Ho1 := Lib.hid (show BinsS wr w.heap.size (.slice (some ⟨w.heap.size, 0, none⟩) bs.length bs.length) bs from ⟨xs, hown, fun j hj => hcs j hj hj⟩)
      clear hown hcs
      go_wp2
      go_ret
      exact ⟨_, rfl, hE, Ho1.out⟩

set_option maxHeartbeats 600000 in
theorem eqTaskSS_any (v u : Value) (xs ys : List (List T)) (w : World) (h : Bins w v xs) (h' : Bins w u ys) :
    Calls Try.prog 17 #[v, u] w fun e w' => e = .returned (.bool (sameBs xs ys)) ∧ Ext w w' := by
  obtain ⟨a, cap, rfl, h⟩ := h.open
  obtain ⟨a', cap', rfl, h'⟩ := h'.open
  have hx : xs.length ≤ 4194304 := h.1
  have hy : ys.length ≤ 4194304 := h'.1
  by_cases hl : xs.length = ys.length
  · have hb : (((xs.length : Nat) : Int) != (ys.length : Nat)) = false := by simp [hl]
    have HL := Lib.hid hl
    clear hl
    go_enter Try.func17, Try.ntmps17
    go_wp2
    go_loopw [5] (fun i wr => ∃ k : Nat, k ≤ xs.length ∧ i = .int .i64 k ∧ Ext w wr ∧ ∀ j (h1 : j < xs.length) (h2 : j < ys.length), j < k → sameTs xs[j] ys[j] = true) (fun i _ => xs.length - (intOf i).toNat)
    case atStart => exact ⟨0, by omega, rfl, Ext.refl _, fun _ _ _ h => by omega⟩
    case round =>
      obtain ⟨k, hk, rfl, hE, hg⟩ := hrel
      have Hg := Lib.hid hg
      clear hg
      by_cases hlt : k < xs.length
      · have l2 : k < ys.length := by have := HL.out; omega
        obtain ⟨b, off, nd, rfl, c1, hn⟩ := h.at hlt
        obtain ⟨b', off', nd', rfl, d1, hn2⟩ := h'.at l2
        obtain ⟨e1, f1, rfl, hn'⟩ := (hn.ext hE).open
        obtain ⟨e2, f2, rfl, hn2'⟩ := (hn2.ext hE).open
        have c1' := hE.cell c1
        have d1' := hE.cell d1
        have Hn := Lib.hid hn'
        have Hn2 := Lib.hid hn2'
        clear hn hn' hn2 hn2' c1 d1
        have b1 : (k : Int) < (xs.length : Int) := by omega
        have b1' : (k : Int) < (ys.length : Int) := by omega
        have b0 : (0 : Int) ≤ (k : Int) := by omega
        cases he : sameTs xs[k] ys[k] with
        | true =>
          have Hd : Hid (∀ j (h1 : j < xs.length) (h2 : j < ys.length), j < k + 1 → sameTs xs[j] ys[j] = true) := by
            intro j h1 h2 hj
            by_cases e : j = k
            · subst e; exact he
            · exact Hg.out j h1 h2 (by omega)
          go_wp2
          go_still_tail 8, (by kernel_rfl)
          change wpList _ _ _ _ _ wr.drew
          go_wp2_with fail
          refine (eqTaskS_any _ _ _ _ _ Hn.out.drew Hn2.out.drew).mono ?_
          rintro e w1 ⟨rfl, hE2⟩
          have hE3 := hE.drew.trans hE2
          clear hE hE2
          go_wp2_with fail
          go_roundw
          case rel => exact ⟨k + 1, by omega, by go_num, hE3, Hd.out⟩
          case measure => simp [intOf]; omega
        | false =>
          have Hr := Lib.hid (sameBs_at hlt l2 he)
          go_wp2
          go_still_tail 8, (by kernel_rfl)
          change wpList _ _ _ _ _ wr.drew
          go_wp2_with fail
          refine (eqTaskS_any _ _ _ _ _ Hn.out.drew Hn2.out.drew).mono ?_
          rintro e w1 ⟨rfl, hE2⟩
          have hE3 := hE.drew.trans hE2
          clear hE hE2
          go_wp2_with fail
          go_ret
          exact ⟨ret_bool Hr.out.symm, hE3⟩
      · have e : k = xs.length := by omega
        subst e
        have Hd := Lib.hid (sameBs_all HL.out fun j h1 h2 => Hg.out j h1 h2 h1)
        go_wp2
        go_ret
        exact ⟨ret_bool Hd.out.symm, hE⟩
  · have hb : (((xs.length : Nat) : Int) != (ys.length : Nat)) = true := by simp; omega
    have Hd : Hid (sameBs xs ys = false) := by
      show sameBs xs ys = false
      rw [Bool.eq_false_iff]
      intro e
      exact hl (by rw [sameBs_iff.1 e])
    clear hl
    go_enter Try.func17, Try.ntmps17
    go_wp2
    go_ret
    exact ⟨ret_bool Hd.out.symm, Ext.refl _⟩
end

end Go.Proofs.Ytjdhiabdcmindaa
