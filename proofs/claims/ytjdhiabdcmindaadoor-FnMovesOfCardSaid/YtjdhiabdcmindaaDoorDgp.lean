/- Two lists of moves compared; a plan's question drawn. No condition. -/
import Derived.Test.YtjdhiabdcmindaaDoorDr14
import Derived.Test.YtjdhiabdcmindaaDoorMvR
namespace Go.Proofs.YtjdhiabdcmindaaDoor
set_option maxRecDepth 100000
open Go.RowKit

theorem part0' (x y : Int) (w : World) : (part 3 #[.int .i64 x, .int .i64 y] 0).run Tryd.prog w = .ok (.int .i64 x) w := by kernel_rfl
theorem part1' (x y : Int) (w : World) : (part 3 #[.int .i64 x, .int .i64 y] 1).run Tryd.prog w = .ok (.int .i64 y) w := by kernel_rfl
theorem eqIn_int' (d : Nat) (x : Int) (w : World) : (Op.equalIn (d + 1) 3 (.int .i64 x) (.int .i64 x)).run Tryd.prog w = .ok true w := by
  simp [Op.equalIn, run_underlying Tryd.underlying3]
theorem eqIn_move' (d : Nat) (x y : Int) (w : World) : (Op.equalIn (d + 2) 35 (.agg #[.int .i64 x, .int .i64 y]) (.agg #[.int .i64 x, .int .i64 y])).run Tryd.prog w = .ok true w := by
  rw [Op.equalIn]
  simp [run_underlying Tryd.underlying35, part0', part1', eqIn_int']
theorem move_neq' (x y : Int) (w : World) : (binOp .neq 35 (.agg #[.int .i64 x, .int .i64 y]) (.agg #[.int .i64 x, .int .i64 y])).run Tryd.prog w = .ok (.bool false) w := by
  simp [binOp, Op.equal, Op.maxDepth, show (10000 : Nat) = 9998 + 2 from rfl, eqIn_move']

set_option maxHeartbeats 2000000 in
theorem sameMoves_eq (v u : Value) (xs : List Pr) (w : World) (h : Twos 35 w v xs) (h' : Twos 35 w u xs) :
    Calls Tryd.prog 9 #[v, u] w fun e w' => e = .returned (.bool true) ∧ Ext w w' := by
  obtain ⟨a, cap, rfl, h⟩ := h.open
  obtain ⟨a', cap', rfl, h'⟩ := h'.open
  have hx : xs.length ≤ 4194304 := h.1
  go_enter Tryd.func9, Tryd.ntmps9
  go_wp2
  go_loopw [5] (fun i wr => ∃ k : Nat, k ≤ xs.length ∧ i = .int .i64 k ∧ Ext w wr) (fun i _ => xs.length - (intOf i).toNat)
  case atStart => exact ⟨0, by omega, rfl, Ext.refl _⟩
  case round =>
    obtain ⟨k, hk, rfl, hE⟩ := hrel
    by_cases hlt : k < xs.length
    · obtain ⟨b, off, rfl, c0, c1⟩ := h.at hlt
      obtain ⟨b', off', rfl, d0, d1⟩ := h'.at hlt
      have c0' := hE.cell c0
      have c1' := hE.cell c1
      have d0' := hE.cell d0
      have d1' := hE.cell d1
      clear c0 c1 d0 d1
      have b1 : (k : Int) < (xs.length : Int) := by omega
      have b0 : (0 : Int) ≤ (k : Int) := by omega
      have ne := move_neq'
      go_wp2_with fail
      go_region
      go_wp2_with fail
      go_roundw
      case rel => exact ⟨k + 1, by omega, by go_num, hE.drew⟩
      case measure => simp [intOf]; omega
    · have e : k = xs.length := by omega
      subst e
      go_wp2
      go_ret
      exact ⟨rfl, hE⟩

theorem lit3 {k : Nat} (hk : k < 3) : ∃ m : Int, (-1 ≤ m ∧ m ≤ 21) ∧ ∀ (w : World) (b : Nat), w.heap[b]? = some (.cells #[.int .i64 (-1), .int .i64 20, .int .i64 21] 3 (0, 0)) → w.cell? ⟨b, k, none⟩ = some (.int .i64 m) := by
  obtain rfl | rfl | rfl : k = 0 ∨ k = 1 ∨ k = 2 := by omega
  · exact ⟨-1, by omega, fun w b h => cell_of_heap h 0⟩
  · exact ⟨20, by omega, fun w b h => cell_of_heap h 1⟩
  · exact ⟨21, by omega, fun w b h => cell_of_heap h 2⟩

set_option maxHeartbeats 4000000 in
theorem DrawGatherPlan_any (v : Value) (n : Nat) (w : World) (h : ArgCode w v n) :
    Calls Tryd.prog 6 #[v] w fun e w' => ∃ vr a c room bs, ∃ most : Int, e = .returned (.tuple #[vr, .slice a bs.length c, .int .i64 most]) ∧ DrawnBins w' vr (.slice a bs.length c) room bs ∧ bs.length ≤ c ∧ (-1 ≤ most ∧ most ≤ 21) ∧ Ext w w' := by
  go_enter Tryd.func6, Tryd.ntmps6
  go_wp2_with fail
  refine (l6Open_any _ _ _ h).mono ?_
  rintro e w1 ⟨r, rfl, hE, hr⟩
  go_wp2_with fail
  refine (l91Bins_any _ _ _ _ hr (by omega)).mono ?_
  rintro e w2 ⟨vr, room, vb, bs, rfl, hi, hz, hd, h5, h11, dr⟩
  have E2 := Lib.hid (hE.below dr.bl)
  obtain ⟨a, c, rfl, hc⟩ := nest_formc hz
  have hb := Lib.hid (show DrawnBins w2 vr (.slice a bs.length c) room bs from ⟨hi, hz.bins (by omega) (by omega), hd, by omega, by omega⟩)
  have D2 := Lib.hid dr
  have LE := Lib.hid hE.le
  clear hi hz dr
  go_wp2_with fail
  refine (pick_any _ _ _ 16 _ D2.out.rd (by omega) (by omega) (by omega)).mono ?_
  rintro e w3 ⟨k3, rfl, b3, d3⟩
  have E3 := Lib.hid (E2.out.below d3.bl)
  have DB := Lib.hid (show ∀ w', KT 67 w3 w' → DrawnBins w' vr (.slice a bs.length c) room bs from fun w' k => ⟨(hb.out.1.kt d3.kt (by decide)).kt k (by decide), (hb.out.2.1.kt d3.kt (by decide) (by decide) (by decide)).kt k (by decide) (by decide) (by decide), hb.out.2.2⟩)
  have D3 := Lib.hid (D2.out.trans d3)
  clear hb d3 D2
  by_cases hk : k3 = 0
  · subst hk
    have h0 : (((0 : Nat) : Int) == 0) = true := rfl
    go_wp2_with fail
    go_region_with (first
      | (go_at_call 21
         refine (pick_any _ _ _ 3 _ (D3.out.ext (Ext.refl w3).drew).rd (by omega) (by omega) (by omega)).mono ?_
         rintro e w4 ⟨k4, rfl, b4, d4⟩
         obtain ⟨m, hm, hl⟩ := lit3 (k := k4) (by omega)
         have lm := hl (w4.alloc (.cells #[.int .i64 (-1), .int .i64 20, .int .i64 21] 3)) w4.heap.size (heap_alloc_new w4 _)
         have F := Lib.hid (show DrawnBins (w4.alloc (.cells #[.int .i64 (-1), .int .i64 20, .int .i64 21] 3)) vr (.slice a bs.length c) room bs ∧ (-1 ≤ m ∧ m ≤ 21) ∧ Ext w (w4.alloc (.cells #[.int .i64 (-1), .int .i64 20, .int .i64 21] 3)) from ⟨(DB.out w4 d4.kt).ext ((Ext.refl w4).alloc _), hm, (Ext.below (E3.out.trans (Ext.refl w3).drew) d4.bl).alloc _⟩)
         clear d4 hl hm)
      | (go_at_call 21
         refine (pick_any _ _ _ 3 _ (D3.out.ext ((Ext.refl w3).alloc (.cells #[.int .i64 (-1), .int .i64 20, .int .i64 21] 3)).drew).rd (by omega) (by omega) (by omega)).mono ?_
         rintro e w4 ⟨k4, rfl, b4, d4⟩
         have HL := d4.heap (heap_alloc_new w3 (.cells #[.int .i64 (-1), .int .i64 20, .int .i64 21] 3)) (by decide)
         obtain ⟨m, hm, hl⟩ := lit3 (k := k4) (by omega)
         have lm := hl w4 w3.heap.size HL
         have F := Lib.hid (show DrawnBins w4 vr (.slice a bs.length c) room bs ∧ (-1 ≤ m ∧ m ≤ 21) ∧ Ext w w4 from ⟨DB.out w4 (((Ext.refl w3).alloc (.cells #[.int .i64 (-1), .int .i64 20, .int .i64 21] 3)).drew.kt _ |>.trans d4.kt), hm, Ext.below (E3.out.trans ((Ext.refl w3).alloc (.cells #[.int .i64 (-1), .int .i64 20, .int .i64 21] 3)).drew) d4.bl⟩)
         clear HL d4 hl hm))
    all_goals
      have i0 : (0 : Int) ≤ (k4 : Int) := by omega
      go_wp2_with fail
      go_ret3
      exact ⟨_, a, c, room, bs, m, rfl, F.out.1, hc, F.out.2.1, F.out.2.2⟩
  · have h0 : ((k3 : Int) == 0) = false := beq_eq_false_iff_ne.2 (by omega)
    go_wp2_with fail
    refine (pick_any _ _ _ 12 _ D3.out.rd (by omega) (by omega) (by omega)).mono ?_
    rintro e w4 ⟨k4, rfl, b4, d4⟩
    have F := Lib.hid (show DrawnBins w4 vr (.slice a bs.length c) room bs ∧ (-1 ≤ (k4 : Int) ∧ (k4 : Int) ≤ 21) ∧ Ext w w4 from ⟨DB.out w4 d4.kt, by omega, E3.out.below d4.bl⟩)
    clear d4
    go_wp2_with fail
    go_ret3
    exact ⟨_, a, c, room, bs, (k4 : Int), rfl, F.out.1, hc, F.out.2.1, F.out.2.2⟩

end Go.Proofs.YtjdhiabdcmindaaDoor
