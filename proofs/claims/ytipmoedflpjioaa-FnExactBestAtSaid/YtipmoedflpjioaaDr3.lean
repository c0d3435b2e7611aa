/- A drawn task. No condition. -/
import Derived.Test.YtipmoedflpjioaaDr2
import Derived.Deep.RegionHeld3
namespace Go.Proofs.Ytipmoedflpjioaa
set_option maxRecDepth 100000
open Go.RowKit

theorem Dr.heap {B P : Nat} {r : Value} {w w1 : World} (h : Dr B r P w w1) {b : Nat} {cs : Array Value} {t : TypeId} {fz : Nat × Nat} (hb : w.heap[b]? = some (.cells cs t fz)) (ne : t ≠ 102) : w1.heap[b]? = some (.cells cs t fz) := (h.kt.2 _ _ _ _ hb ne).trans hb
theorem task_end {B P g : Nat} {r s : Value} {id : Int} {w wc : World} {ys : List Int} (hy : Ints wc s ys) (hn : Dn ys) (hr : wc.heap[w.heap.size]? = some (.cells #[.int .i64 0, .slice none 0 0] 38 (0, 0))) (hd : Dr B r P w wc) (hg : g = w.heap.size) (hs : ∀ g, s.ownBlock = some g → w.heap.size ≤ g) :
    ∃ n xs, Ending.returned (.agg #[.int .i64 id, s]) = .returned (.agg #[.int .i64 id, n]) ∧ Ints ((wc.setCell ⟨g, 0, none⟩ (.int .i64 id)).setCell ⟨g, 1, none⟩ s) n xs ∧ Dn xs ∧ (∀ g, n.ownBlock = some g → w.heap.size ≤ g) ∧ Dr B r P w ((wc.setCell ⟨g, 0, none⟩ (.int .i64 id)).setCell ⟨g, 1, none⟩ s) := by
  subst hg
  have k1 := KT.put (p := ⟨w.heap.size, 0, none⟩) hr (.int .i64 id)
  have k2 := KT.put (p := ⟨w.heap.size, 1, none⟩) (heap_put (k := 0) hr (.int .i64 id)) s
  exact ⟨s, ys, rfl, (hy.kt k1 (by decide)).kt k2 (by decide), hn, hs,
    (hd.own (Below.setCell (p := ⟨w.heap.size, 0, none⟩) (Below.refl _ _) (Nat.le_refl _) _) k1 (by decide)).own (Below.setCell (p := ⟨w.heap.size, 1, none⟩) (Below.refl _ _) (Nat.le_refl _) _) k2 (by decide)⟩

set_option maxHeartbeats 1000000 in
theorem l91Task_any (r : Value) (B P : Nat) (id : Int) (w : World) (h : Rdr w B r P) (hP : P ≤ 900000) :
    Calls Try.prog 121 #[r, .int .i64 id] w fun e w' => ∃ n xs, e = .returned (.agg #[.int .i64 id, n]) ∧ Ints w' n xs ∧ Dn xs ∧ (∀ g, n.ownBlock = some g → w.heap.size ≤ g) ∧ Dr B r (P + 7) w w' := by
  have S0 := Lib.hid (Dr.start h)
  clear h
  go_enter Try.func121, Try.ntmps121
  go_wp2_with fail
  have D0 := Lib.hid (S0.out.ext ((Ext.refl w).alloc (.cells #[.int .i64 0, .slice none 0 0] 38)))
  have R0 := Lib.hid (heap_alloc_new w (.cells #[.int .i64 0, .slice none 0 0] 38))
  generalize w.alloc (.cells #[.int .i64 0, .slice none 0 0] 38) = W0 at *
  clear S0
  refine (pick_any _ B _ 6 _ D0.out.rd (by omega) (by omega) (by omega)).mono ?_
  rintro e w1 ⟨k1, rfl, b1, d1⟩
  have R1 := Lib.hid (d1.heap R0.out (by decide))
  have D1 := Lib.hid (D0.out.trans d1)
  clear d1 D0 R0
  go_wp2_with fail
  refine (pick_any _ B _ 6 _ D1.out.rd (by omega) (by omega) (by omega)).mono ?_
  rintro e w2 ⟨k2, rfl, b2, d2⟩
  have R2 := Lib.hid (d2.heap R1.out (by decide))
  have D2 := Lib.hid (D1.out.trans d2)
  clear d2 D1 R1
  go_wp2_with fail
  refine (pick_any _ B _ 6 _ D2.out.rd (by omega) (by omega) (by omega)).mono ?_
  rintro e w3 ⟨k3, rfl, b3, d3⟩
  have R3 := Lib.hid (d3.heap R2.out (by decide))
  have D3 := Lib.hid (D2.out.trans d3)
  clear d3 D2 R2
  go_wp2_with fail
  have E4 := ((Ext.refl w3).alloc (.cells #[.int .i64 k1, .int .i64 k2, .int .i64 k3] 3)).alloc (.cells #[.int .i64 id, .slice (some ⟨w3.heap.size, 0, none⟩) 3 3] 38)
  have I4 := Lib.hid ((Ints.lit w3 #[.int .i64 k1, .int .i64 k2, .int .i64 k3] [(k1 : Int), (k2 : Int), (k3 : Int)] 3 3 rfl rfl (by simp [lim])).ext ((Ext.refl _).alloc (.cells #[.int .i64 id, .slice (some ⟨w3.heap.size, 0, none⟩) 3 3] 38)))
  have N4 : Hid (Dn [(k1 : Int), (k2 : Int), (k3 : Int)]) := ⟨rfl, fun n hn => by simp at hn; omega⟩
  have X4 := Lib.hid (heap_alloc_new (w3.alloc (.cells #[.int .i64 k1, .int .i64 k2, .int .i64 k3] 3)) (.cells #[.int .i64 id, .slice (some ⟨w3.heap.size, 0, none⟩) 3 3] 38))
  have R4 := Lib.hid ((E4.block (lt_of_heap R3.out)).trans R3.out)
  have D4 := Lib.hid (D3.out.ext E4)
  rw [World.size_alloc] at X4
  have L4 := Lib.hid D3.out.size
  generalize [(k1 : Int), (k2 : Int), (k3 : Int)] = xs at *
  generalize (w3.alloc (.cells #[.int .i64 k1, .int .i64 k2, .int .i64 k3] 3)).alloc (.cells #[.int .i64 id, .slice (some ⟨w3.heap.size, 0, none⟩) 3 3] 38) = W4 at *
  clear E4 D3 R3
  refine (pick_any _ B _ 3 _ D4.out.rd (by omega) (by omega) (by omega)).mono ?_
  rintro e w5 ⟨k5, rfl, b5, d5⟩
  have R5 := Lib.hid (d5.heap R4.out (by decide))
  have X5 := Lib.hid (d5.heap X4.out (by decide))
  have I5 := Lib.hid (I4.out.kt d5.kt (by decide))
  have D5 := Lib.hid (D4.out.trans d5)
  clear d5 D4 R4 X4 I4
  by_cases h5 : k5 = 0
  · subst h5
    have cx := cell_of_heap X5.out 1
    go_upto_region 3 with fail
    go_cut [] from 18 to 26 (fun wx => ∃ ys, Ints wx (.slice (some ⟨w3.heap.size, 0, none⟩) 3 3) ys ∧ Dn ys ∧ wx.heap[w.heap.size]? = some (.cells #[.int .i64 0, .slice none 0 0] 38 (0, 0)) ∧ wx.heap[w3.heap.size + 1]? = some (.cells #[.int .i64 id, .slice (some ⟨w3.heap.size, 0, none⟩) 3 3] 38 (0, 0)) ∧ Dr B r (P + 7) w wx)
    case first =>
      have Dd := Lib.hid (D5.out.ext (Ext.refl w5).drew)
      have cd := (Ext.refl w5).drew.cell cx
      go_region_held3 (fun w' => w'.cell? ⟨w3.heap.size + 1, 1, none⟩ = some (.slice (some ⟨w3.heap.size, 0, none⟩) 3 3))
        (first | exact cd | exact ce | exact cf | exact cg _)
        (first
          | (go_at_call 89
             refine (pick_any _ B _ 3 _ Dd.out.rd (by omega) (by omega) (by omega)).mono ?_
             rintro e w6 ⟨k6, rfl, b6, d6⟩
             have De := Lib.hid (Dd.out.trans d6)
             have Xe := Lib.hid (d6.heap (((Ext.refl w5).drew.block (lt_of_heap X5.out)).trans X5.out) (by decide))
             have Re := Lib.hid (d6.heap (((Ext.refl w5).drew.block (lt_of_heap R5.out)).trans R5.out) (by decide))
             have Ie := Lib.hid ((I5.out.ext (Ext.refl w5).drew).kt d6.kt (by decide))
             have ce := cell_of_heap Xe.out 1
             clear d6 Dd)
          | (go_at_call 89
             refine (pick_any _ B _ 4 _ De.out.rd (by omega) (by omega) (by omega)).mono ?_
             rintro e w7 ⟨k7, rfl, b7, d7⟩
             have Df := Lib.hid (De.out.trans d7)
             have Xf := Lib.hid (d7.heap Xe.out (by decide))
             have Rf := Lib.hid (d7.heap Re.out (by decide))
             have If := Lib.hid (Ie.out.kt d7.kt (by decide))
             have cf := cell_of_heap Xf.out 1
             obtain ⟨g1, o1, cs1, hg1, hb1, hc1, hf1⟩ := If.out.blk (by rw [N4.out.1]; omega)
             simp only [Option.some.injEq, Addr.mk.injEq, and_true] at hg1
             obtain ⟨rfl, rfl⟩ := hg1
             have fr := hf1 k6
             have old := hc1 k6 (by rw [N4.out.1]; omega)
             simp only [Nat.zero_add] at old
             have cg : ∀ u, (w7.setCell ⟨w3.heap.size, k6, none⟩ u).cell? ⟨w3.heap.size + 1, 1, none⟩ = some (.slice (some ⟨w3.heap.size, 0, none⟩) 3 3) := by
               intro u
               rw [World.cell?_of_block (w := w7) (a := ⟨w3.heap.size + 1, 1, none⟩) (Below.heap_setCell w7 _ _ _ (by simp))]
               exact cf
             clear d7 De hc1 hf1))
      all_goals
        rw [IntWalk.i64_in (4 + (k7 : Int)) (by omega)]
        obtain ⟨ys, hy, hyl, hym⟩ := If.out.put (k := k6) hb1 (4 + (k7 : Int))
        have Ny := N4.out.edit (by omega) (by omega) hyl hym
        have kt := KT.put (p := ⟨w3.heap.size, k6, none⟩) hb1 (.int .i64 (4 + (k7 : Int)))
        have D9 := Df.out.own (Below.setCell (p := ⟨w3.heap.size, k6, none⟩) (Below.refl _ _) (by have := L4.out; have := World.size_alloc w; simp; omega) (.int .i64 (4 + (k7 : Int)))) kt (by decide)
        have r1 := (kt.2 _ _ _ _ Rf.out (by decide)).trans Rf.out
        have x1 := (kt.2 _ _ _ _ Xf.out (by decide)).trans Xf.out
        go_wp2_with fail
        go_meet
        exact ⟨ys, hy, Ny, r1, x1, D9.mono (by omega)⟩
    case rest =>
      obtain ⟨ys, hy, hn, hr, hx, hd⟩ := hcut
      have c0 := cell_of_heap hx 0
      have c1 := cell_of_heap hx 1
      have r0 := cell_of_heap hr 0
      have r1 := cell_of_heap hr 1
      have f0 := frozen_of_heap hr 0
      have f1 := frozen_of_heap hr 1
      have Hy := Lib.hid hy
      have Hn := Lib.hid hn
      have Hd := Lib.hid hd
      have Hr := Lib.hid hr
      have Hx := Lib.hid hx
      clear hy hn hr hx hd
      go_wp2_with fail
      refine bodyPost_ret (v := .agg #[.int .i64 id, .slice (some ⟨w3.heap.size, 0, none⟩) 3 3]) ?_ rfl (task_end Hy.out Hn.out Hr.out Hd.out rfl (fun g hg => by simp only [Value.ownBlock, Option.some.injEq] at hg; have := L4.out; omega))
      simp [results, Try.results121, go_sem, r0, r1]
  · have h5' : (((k5 : Nat) : Int) == 0) = false := by simp; omega
    have c0 := cell_of_heap X5.out 0
    have c1 := cell_of_heap X5.out 1
    have r0 := cell_of_heap R5.out 0
    have r1 := cell_of_heap R5.out 1
    have f0 := frozen_of_heap R5.out 0
    have f1 := frozen_of_heap R5.out 1
    go_wp2_with fail
    refine bodyPost_ret (v := .agg #[.int .i64 id, .slice (some ⟨w3.heap.size, 0, none⟩) 3 3]) ?_ rfl (task_end I5.out N4.out R5.out (D5.out.mono (by omega)) rfl (fun g hg => by simp only [Value.ownBlock, Option.some.injEq] at hg; have := L4.out; omega))
    simp [results, Try.results121, go_sem, r0, r1]

end Go.Proofs.Ytipmoedflpjioaa
