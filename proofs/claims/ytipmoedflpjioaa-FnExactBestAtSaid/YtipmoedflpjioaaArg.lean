/- Arguments as they come in, and the copies that a law makes of them. -/
import Derived.Test.YtipmoedflpjioaaS4
import Derived.Test.YtipmoedflpjioaaOwn2
namespace Go.Proofs.Ytipmoedflpjioaa
set_option maxRecDepth 100000
open Go.RowKit

/-- A slice of numbers that came in. -/
def ArgInts (w : World) (v : Value) (xs : List Int) : Prop :=
  xs.length ≤ 9223372036854775807 ∧ ∃ a cap, v = .slice a xs.length cap ∧ (0 < xs.length → ∃ b off, a = some ⟨b, off, none⟩ ∧ ∀ k (hk : k < xs.length), w.cell? ⟨b, off + k, none⟩ = some (.int .i64 xs[k]))
theorem ArgInts.ext {w w' : World} {v : Value} {xs : List Int} (h : ArgInts w v xs) (k : Ext w w') : ArgInts w' v xs := by
  obtain ⟨hl, a, cap, hv, hc⟩ := h
  exact ⟨hl, a, cap, hv, fun h0 => let ⟨b, off, ha, hc⟩ := hc h0; ⟨b, off, ha, fun j hj => k.cell (hc j hj)⟩⟩
/-- A slice of the laws' tasks that came in. -/
def ArgTasks (w : World) (v : Value) (ts : List T) : Prop :=
  ts.length ≤ 9223372036854775807 ∧ ∃ a cap, v = .slice a ts.length cap ∧ (0 < ts.length → ∃ b off, a = some ⟨b, off, none⟩ ∧ ∀ k (hk : k < ts.length), w.cell? ⟨b, off + k * 2, none⟩ = some (.int .i64 ts[k].id) ∧ ∃ n, w.cell? ⟨b, off + k * 2 + 1, none⟩ = some n ∧ ArgInts w n ts[k].need)
theorem ArgTasks.ext {w w' : World} {v : Value} {ts : List T} (h : ArgTasks w v ts) (k : Ext w w') : ArgTasks w' v ts := by
  obtain ⟨hl, a, cap, hv, hc⟩ := h
  exact ⟨hl, a, cap, hv, fun h0 => let ⟨b, off, ha, hc⟩ := hc h0; ⟨b, off, ha, fun j hj => ⟨k.cell (hc j hj).1, let ⟨n, h1, h2⟩ := (hc j hj).2; ⟨n, k.cell h1, h2.ext k⟩⟩⟩⟩

/-- What a size function returns: -1, or what is left. -/
def Left1 (n : Nat) (left : Int) (P : Int → Prop) (w : World) (e : Ending) (w' : World) : Prop := ∃ r : Int, e = .returned (.int .i64 r) ∧ P r ∧ (0 ≤ r → r + n = left) ∧ Ext w w'

def SzPost (n : Nat) (left : Int) (w : World) (e : Ending) (w' : World) : Prop := ∃ r : Int, e = .returned (.int .i64 r) ∧ (r = -1 ∨ 0 ≤ r ∧ r + n = left) ∧ Ext w w'

set_option maxHeartbeats 400000 in
theorem szIntS_any (v : Value) (xs : List Int) (left : Int) (w : World) (h : ArgInts w v xs) (h0 : 0 ≤ left) (h1 : left ≤ 1048576) :
    Calls Try.prog 101 #[v, .int .i64 left] w (SzPost xs.length left w) := by
  obtain ⟨hl, a, cap, rfl, _⟩ := h
  by_cases hlt : left - xs.length < 0
  · go_enter Try.func101, Try.ntmps101
    go_wp2
    go_ret
    exact ⟨-1, rfl, .inl rfl, Ext.refl _⟩
  · go_enter Try.func101, Try.ntmps101
    go_wp2
    go_ret
    exact ⟨_, rfl, .inr ⟨by omega, by omega⟩, Ext.refl _⟩

set_option maxHeartbeats 400000 in
theorem szTask_any (id : Int) (n : Value) (need : List Int) (left : Int) (w : World) (h : ArgInts w n need) (h0 : 0 ≤ left) (h1 : left ≤ 1048576) :
    Calls Try.prog 55 #[.agg #[.int .i64 id, n], .int .i64 left] w (SzPost need.length left w) := by
  have h2 := h
  obtain ⟨hl, a, cap, rfl, hh⟩ := h2
  clear hh
  go_enter Try.func55, Try.ntmps55
  go_wp2_with fail
  have hEx : Ext w _ := (Ext.refl w).alloc (Obj.cells #[.int .i64 id, .slice a need.length cap] 61)
  refine (szIntS_any _ _ _ _ (h.ext hEx) h0 h1).mono ?_
  rintro e w1 ⟨r, rfl, hr, hE⟩
  have hE1 := hEx.trans hE
  clear hE hEx
  rcases hr with rfl | ⟨hr0, hr1⟩
  · go_wp2
    go_ret
    exact ⟨-1, rfl, .inl rfl, hE1⟩
  · have Hr1 := Lib.hid hr1
    clear hr1
    go_wp2
    go_ret
    exact ⟨r, rfl, .inr ⟨hr0, Hr1.out⟩, hE1⟩

set_option maxHeartbeats 600000 in
theorem szTaskS_any (v : Value) (ts : List T) (left : Int) (w : World) (h : ArgTasks w v ts) (h0 : 0 ≤ left) (h1 : left ≤ 1048576) :
    Calls Try.prog 34 #[v, .int .i64 left] w (SzPost (ts.length + needs ts) left w) := by
  obtain ⟨hl, a, cap, rfl, hc⟩ := h
  have Hc := Lib.hid hc
  clear hc
  by_cases hlt : left - ts.length < 0
  · go_enter Try.func34, Try.ntmps34
    go_wp2
    go_ret
    exact ⟨-1, rfl, .inl rfl, Ext.refl _⟩
  · go_enter Try.func34, Try.ntmps34
    go_wp2
    go_loopw [1, 5] (fun l i wr => ∃ (k : Nat) (m : Int), k ≤ ts.length ∧ i = .int .i64 k ∧ l = .int .i64 m ∧ 0 ≤ m ∧ m + (ts.length + needs (ts.take k) : Nat) = left ∧ Ext w wr) (fun _ i _ => ts.length - (intOf i).toNat)
    case atStart => exact ⟨0, left - ts.length, by omega, rfl, rfl, by omega, by simp [needs], Ext.refl _⟩
    case round =>
      obtain ⟨k, m, hk, rfl, rfl, hm0, hm, hE⟩ := hrel
      have Hm := Lib.hid hm
      have hm1 : m ≤ 1048576 := by omega
      clear hm
      by_cases hkl : k < ts.length
      · obtain ⟨b, off, rfl, hc⟩ := Hc.out (by omega)
        obtain ⟨c0, n, c1, hn⟩ := hc k hkl
        have c0' := hE.cell c0
        have c1' := hE.cell c1
        have Hn := Lib.hid (hn.ext hE)
        obtain ⟨an, cn, rfl, -⟩ := hn.2
        have Hst := Lib.hid (needs_step hkl)
        clear c0 c1 hc hn
        go_wp2_with fail
        refine (szTask_any _ _ _ _ _ Hn.out hm0 hm1).mono ?_
        rintro e w1 ⟨r, rfl, hr, hE2⟩
        have hE3 := hE.trans hE2
        clear hE hE2
        rcases hr with rfl | ⟨hr0, hr1⟩
        · go_wp2
          go_ret
          exact ⟨-1, rfl, .inl rfl, hE3⟩
        · have Hr1 := Lib.hid hr1
          clear hr1
          go_wp2
          go_roundw
          case rel => exact ⟨k + 1, r, by omega, by go_num, rfl, hr0, by have := Hr1.out; have := Hm.out; have := Hst.out; omega, hE3⟩
          case measure => simp [intOf]; omega
      · have e : k = ts.length := by omega
        subst e
        have Hm2 := Lib.hid (show m + (ts.length + needs ts : Nat) = left by have := Hm.out; rwa [List.take_length] at this)
        clear Hm
        go_wp2
        go_ret
        exact ⟨m, rfl, .inr ⟨hm0, Hm2.out⟩, hE⟩

/-- The first numbers are the argument's, the others are zeros. -/
def fillL (xs : List Int) (k : Nat) : List Int := xs.take k ++ List.replicate (xs.length - k) 0
theorem fillL_len (xs : List Int) {k : Nat} (h : k ≤ xs.length) : (fillL xs k).length = xs.length := by simp [fillL]; omega
theorem fillL_step {xs : List Int} {k : Nat} (h : k < xs.length) : (fillL xs k).set k xs[k] = fillL xs (k + 1) := by
  unfold fillL
  apply List.ext_getElem
  · simp; omega
  · intro i h1 h2
    rw [List.getElem_set]
    by_cases e : k = i
    · subst e
      rw [if_pos rfl, List.getElem_append_left (by rw [List.length_take]; omega)]
      simp
    · rw [if_neg e]
      by_cases hi : i < k
      · rw [List.getElem_append_left (by simp; omega), List.getElem_append_left (by simp; omega)]
        simp
      · rw [List.getElem_append_right (by simp; omega), List.getElem_append_right (by simp; omega)]
        simp

set_option maxHeartbeats 600000 in
theorem toIntS_any (v : Value) (xs : List Int) (w : World) (h : ArgInts w v xs) (hl : xs.length ≤ 2097152) :
    Calls Try.prog 35 #[v] w fun e w' => ∃ g, e = .returned (.slice (some ⟨g, 0, none⟩) xs.length xs.length) ∧ Ext w w' ∧ OwnInts w' w.heap.size (.slice (some ⟨g, 0, none⟩) xs.length xs.length) xs ∧ g < w'.heap.size := by
  obtain ⟨_, a, cap, rfl, hc⟩ := h
  have Hc := Lib.hid hc
  clear hc
  obtain ⟨i0, hi, hz, hs, hby⟩ := info_parts info_int
  go_enter Try.func35, Try.ntmps35
  go_wp2_with (at_make; refine wpList_make_full _ rfl _ _ 23 rfl w.heap.size 3 i0 (.int .i64 0) 1 under_ints hi hz hs .i64 .i64 _ _ xs.length rfl rfl rfl rfl (by rw [hby]; omega) (by unfold maxLen; omega) (Nat.le_refl _) ?_; intro w1 hown hg)
  have hE : Ext w w1 := Below.grown (Below.refl _ _) hg (Nat.le_refl _) (by simp)
  have hg1 : w.heap.size < w1.heap.size := (hown.lt _ rfl).2
  have Ho := Lib.hid (show w1.ownsRow w.heap.size 3 1 (.slice (some ⟨w.heap.size, 0, none⟩) xs.length xs.length) xs.length ((fillL xs 0).map (Value.int .i64)) from by
    have e : (madeCells (Value.int IntKind.i64 0).cells (xs.length * 1)).toList = (fillL xs 0).map (Value.int .i64) := by
      show (madeCells #[Value.int .i64 0] (xs.length * 1)).toList = _
      rw [toList_madeCells_one, Nat.mul_one]
      simp [fillL]
    rw [e] at hown
    exact hown)
  clear hown hg hi hz hs hby
  go_loopw [4] (fun i wr => ∃ k : Nat, k ≤ xs.length ∧ i = .int .i64 k ∧ Ext w wr ∧ w.heap.size < wr.heap.size ∧ wr.ownsRow w.heap.size 3 1 (.slice (some ⟨w.heap.size, 0, none⟩) xs.length xs.length) xs.length ((fillL xs k).map (Value.int .i64))) (fun i _ => xs.length - (intOf i).toNat)
  case atStart => exact ⟨0, by omega, rfl, hE, hg1, Ho.out⟩
  case round =>
    clear Ho hE hg1
    obtain ⟨k, hk, rfl, hE, hlt1, hown⟩ := hrel
    by_cases hlt : k < xs.length
    · obtain ⟨b, off, rfl, hc⟩ := Hc.out (by omega)
      have c0 := hE.cell (hc k hlt)
      have l3 : k < (fillL xs k).length := by rw [fillL_len xs hk]; exact hlt
      have c3 := hown.cellAt k (by omega)
      rw [List.getElem?_map, List.getElem?_eq_getElem l3, Option.map_some] at c3
      have f3 := hown.frozenAt k
      have Ho := Lib.hid hown
      have Hst := Lib.hid (fillL_step hlt)
      clear hc hown
      go_wp2
      have hE1 := hE.setCell (p := ⟨w.heap.size, k, none⟩) (Nat.le_refl _) (.int .i64 xs[k])
      have hlt2 : w.heap.size < (wr.setCell ⟨w.heap.size, k, none⟩ (.int .i64 xs[k])).heap.size := by simpa using hlt1
      have Ho1 := Lib.hid (show (wr.setCell ⟨w.heap.size, k, none⟩ (.int .i64 xs[k])).ownsRow w.heap.size 3 1 (.slice (some ⟨w.heap.size, 0, none⟩) xs.length xs.length) xs.length ((fillL xs (k + 1)).map (Value.int .i64)) from by
        have h1 := (World.ownsRow.stored Ho.out k (.int .i64 xs[k])).1
        rw [← Hst.out, List.map_set]
        exact h1)
      clear hE
      go_roundw
      case rel => exact ⟨k + 1, by omega, by go_num, hE1, hlt2, Ho1.out⟩
      case measure => simp [intOf]; omega
    · have e : k = xs.length := by omega
      subst e
      have Ho1 := Lib.hid (show OwnInts wr w.heap.size (.slice (some ⟨w.heap.size, 0, none⟩) xs.length xs.length) xs from by
        have e : fillL xs xs.length = xs := by simp [fillL]
        rw [e] at hown
        exact hown)
      clear hown
      go_wp2
      go_ret
      exact ⟨_, rfl, hE, Ho1.out, hlt1⟩

end Go.Proofs.Ytipmoedflpjioaa
