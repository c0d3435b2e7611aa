/- Drawn nodes with a further task. No condition. -/
import Derived.Test.YtipmoedflpjioaaDr7
namespace Go.Proofs.Ytipmoedflpjioaa
set_option maxRecDepth 100000
open Go.RowKit

set_option maxHeartbeats 400000 in
theorem DrawBinsTasks_any (v : Value) (n : Nat) (w : World) (h : ArgCode w v n) :
    Calls Try.prog 19 #[v] w fun e w' => ∃ vr vb room bs, e = .returned (.tuple #[vr, vb]) ∧ DrawnBins w' vr vb room bs ∧ Ext w w' := by
  go_enter Try.func19, Try.ntmps19
  go_wp2_with fail
  refine (l6Open_any _ _ _ h).mono ?_
  rintro e w1 ⟨r, rfl, hE, hr⟩
  go_wp2_with fail
  refine (l91Bins_any _ _ _ _ hr (by omega)).mono ?_
  rintro e w2 ⟨vr, room, vb, bs, rfl, hi, hz, hd, h5, h11, dr⟩
  have E2 := hE.below dr.bl
  have hb := Lib.hid (show DrawnBins w2 vr vb room bs from ⟨hi, hz.bins (by omega) (by omega), hd, by omega, by omega⟩)
  clear hi hz dr
  go_wp2
  go_ret2
  exact ⟨_, _, room, bs, rfl, hb.out, E2⟩

/-- A write to a block that lies before all rows of the nodes. -/
theorem nest_far {w : World} {B C g k : Nat} {v : Value} {bs : List (List T)} {cs : Array Value} {fz : Nat × Nat} (h : Nest w B C v bs) (hg : w.heap[g]? = some (.cells cs 38 fz)) (hC : g < C) (u : Value) : Nest (w.setCell ⟨g, k, none⟩ u) B C v bs := by
  have kt := KT.put (p := ⟨g, k, none⟩) hg u
  obtain ⟨xs, h1, h2, h3, h4⟩ := h
  refine ⟨xs, ownsRow_kt h1 kt (by decide), h2, fun j hj => ?_, h4⟩
  obtain ⟨n, hn, ys, ho, hc⟩ := h3 j hj
  refine ⟨n, hn, ys, ?_, hc.kt kt (by decide)⟩
  obtain ⟨hl, ho⟩ := ho
  refine ⟨hl, ?_⟩
  rcases ho with ho | ⟨g', cap, cur, hv, hB', hh, r⟩
  · exact .inl ho
  · refine .inr ⟨g', cap, cur, hv, hB', ?_, r⟩
    rw [Below.heap_setCell w ⟨g, k, none⟩ u g' (by simp; omega)]
    exact hh

/-- A drawn room with nodes and a further task. -/
def DrawnNew (w : World) (vr vb n : Value) (room : List Int) (bs : List (List T)) (x : T) : Prop := DrawnBins w vr vb room bs ∧ Ints w n x.need ∧ Dn x.need
theorem DrawnNew.ext {w w' : World} {vr vb n : Value} {room : List Int} {bs : List (List T)} {x : T} (h : DrawnNew w vr vb n room bs x) (k : Ext w w') : DrawnNew w' vr vb n room bs x := ⟨h.1.ext k, h.2.1.ext k, h.2.2⟩

/-- The same, the nodes' rows behind a block. -/
def NewN (w : World) (b0 : Nat) (vr vb n : Value) (room : List Int) (bs : List (List T)) (x : T) : Prop := Ints w vr room ∧ Nest w b0 b0 vb bs ∧ DnB bs ∧ bs.length ≤ 5 ∧ bs.flatten.length ≤ 11 ∧ Ints w n x.need ∧ Dn x.need
theorem NewN.drawn {w : World} {b0 : Nat} {vr vb n : Value} {room : List Int} {bs : List (List T)} {x : T} (h : NewN w b0 vr vb n room bs x) : DrawnNew w vr vb n room bs x := by
  obtain ⟨h1, h2, h3, h4, h5, h6, h7⟩ := h
  exact ⟨⟨h1, h2.bins (by omega) (by omega), h3, by omega, by omega⟩, h6, h7⟩
theorem NewN.drew {w : World} {b0 : Nat} {vr vb n : Value} {room : List Int} {bs : List (List T)} {x : T} (h : NewN w b0 vr vb n room bs x) : NewN w.drew b0 vr vb n room bs x := ⟨h.1.drew, h.2.1.drew, h.2.2.1, h.2.2.2.1, h.2.2.2.2.1, h.2.2.2.2.2.1.drew, h.2.2.2.2.2.2⟩
theorem NewN.put {w : World} {b0 g : Nat} {vr vb n : Value} {room : List Int} {bs : List (List T)} {x : T} (h : NewN w b0 vr vb n room bs x) {cs : Array Value} (hR : w.heap[g]? = some (.cells cs 38 (0, 0))) (hg : g < b0) (u u' : Value) :
    NewN ((w.setCell ⟨g, 0, none⟩ u).setCell ⟨g, 1, none⟩ u') b0 vr vb n room bs x := by
  obtain ⟨h1, h2, h3, h4, h5, h6, h7⟩ := h
  have k1 := KT.put (p := ⟨g, 0, none⟩) hR u
  have hR2 := heap_put (k := 0) hR u
  have k2 := KT.put (p := ⟨g, 1, none⟩) hR2 u'
  exact ⟨(h1.kt k1 (by decide)).kt k2 (by decide), nest_far (k := 1) (nest_far (k := 0) h2 hR hg u) hR2 hg u', h3, h4, h5, (h6.kt k1 (by decide)).kt k2 (by decide), h7⟩
theorem new_end {B P g b0 : Nat} {r vr vb n : Value} {room : List Int} {bs : List (List T)} {x : T} {w wc : World} (hn : NewN wc b0 vr vb n room bs x) (h0 : w.heap.size < b0)
    (hR : wc.heap[w.heap.size]? = some (.cells #[.int .i64 0, .slice none 0 0] 38 (0, 0))) (hd : Dr B r P w wc) (hg : g = w.heap.size) :
    NewN ((wc.setCell ⟨g, 0, none⟩ (.int .i64 x.id)).setCell ⟨g, 1, none⟩ n) b0 vr vb n room bs x ∧ Dr B r P w ((wc.setCell ⟨g, 0, none⟩ (.int .i64 x.id)).setCell ⟨g, 1, none⟩ n) := by
  subst hg
  have k1 := KT.put (p := ⟨w.heap.size, 0, none⟩) hR (.int .i64 x.id)
  have hR2 := heap_put (k := 0) hR (.int .i64 x.id)
  have k2 := KT.put (p := ⟨w.heap.size, 1, none⟩) hR2 n
  exact ⟨hn.put hR h0 _ _, (hd.own (Below.setCell (p := ⟨w.heap.size, 0, none⟩) (Below.refl _ _) (Nat.le_refl _) _) k1 (by decide)).own (Below.setCell (p := ⟨w.heap.size, 1, none⟩) (Below.refl _ _) (Nat.le_refl _) _) k2 (by decide)⟩

set_option maxHeartbeats 2000000 in
theorem l91New_any (r : Value) (B P : Nat) (w : World) (h : Rdr w B r P) (hP : P ≤ 50000) :
    Calls Try.prog 88 #[r] w fun e w' => ∃ (vr vb n : Value) (room : List Int) (bs : List (List T)) (x : T) (b0 : Nat), e = .returned (.tuple #[vr, vb, .agg #[.int .i64 x.id, n]]) ∧ NewN w' b0 vr vb n room bs x ∧ w.heap.size < b0 ∧ Dr B r (P + 300) w w' ∧ ∃ a m c, n = .slice a m c := by
  have S0 := Lib.hid (Dr.start h)
  clear h
  go_enter Try.func88, Try.ntmps88
  go_wp2_with fail
  have D0 := Lib.hid (S0.out.ext ((Ext.refl w).alloc (.cells #[.int .i64 0, .slice none 0 0] 38)))
  have R0 := Lib.hid (heap_alloc_new w (.cells #[.int .i64 0, .slice none 0 0] 38))
  have sz : (w.alloc (.cells #[.int .i64 0, .slice none 0 0] 38)).heap.size = w.heap.size + 1 := by simp
  generalize w.alloc (.cells #[.int .i64 0, .slice none 0 0] 38) = W0 at *
  have Sz := Lib.hid (show w.heap.size < W0.heap.size by omega)
  clear S0 sz
  refine (l91Bins_any _ B _ _ D0.out.rd (by omega)).mono ?_
  rintro e w2 ⟨vr, room, vb, bs, rfl, hi, hz, hdb, h5, h11, d2⟩
  obtain ⟨ar, cr, rfl, hi⟩ := hi.open
  obtain ⟨ab, cb, rfl⟩ := hz.form
  have I2 := Lib.hid hi
  have Z2 := Lib.hid hz
  have HB := Lib.hid hdb
  have R2 := Lib.hid (d2.heap R0.out (by decide))
  have D2 := Lib.hid (D0.out.trans d2)
  clear hi hz hdb d2 D0 R0
  go_wp2_with fail
  refine (pick_any _ B _ 10 _ D2.out.rd (by omega) (by omega) (by omega)).mono ?_
  rintro e w3 ⟨k3, rfl, b3, d3⟩
  have I3 := Lib.hid (I2.out.kt d3.kt (by decide))
  have Z3 := Lib.hid (Z2.out.kt d3.kt (by decide) (by decide) (by decide))
  have R3 := Lib.hid (d3.heap R2.out (by decide))
  have D3 := Lib.hid (D2.out.trans d3)
  clear d3 I2 Z2 R2 D2
  go_wp2_with fail
  refine (l91Task_any _ B _ _ _ D3.out.rd (by omega)).mono ?_
  rintro e w4 ⟨n, xs, rfl, hx, hxn, -, d4⟩
  obtain ⟨na, nc, rfl, hx⟩ := hx.open
  have I4 := Lib.hid (I3.out.kt d4.kt (by decide))
  have Z4 := Lib.hid (Z3.out.kt d4.kt (by decide) (by decide) (by decide))
  have R4 := Lib.hid (d4.heap R3.out (by decide))
  have D4 := Lib.hid (D3.out.trans d4)
  have HX := Lib.hid hx
  have HN := Lib.hid hxn
  have L4 := Lib.hid (lt_of_heap R4.out)
  clear d4 I3 Z3 R3 D3 hx hxn
  generalize hid0 : (30 + (k3 : Int)) = id0 at *
  clear hid0
  go_wp2_with fail
  have E5 := Lib.hid ((Ext.refl w4).alloc (.cells #[.int .i64 id0, .slice na xs.length nc] 38))
  have X5 := Lib.hid (heap_alloc_new w4 (.cells #[.int .i64 id0, .slice na xs.length nc] 38))
  have D5 := Lib.hid (D4.out.ext E5.out)
  have K5 := Lib.hid (E5.out.kt 102)
  generalize w4.alloc (.cells #[.int .i64 id0, .slice na xs.length nc] 38) = w5 at *
  clear E5 D4
  refine (pick_any _ B _ 24 _ D5.out.rd (by omega) (by omega) (by omega)).mono ?_
  rintro e w6 ⟨k6, rfl, b6, d6⟩
  have X6 := Lib.hid (d6.heap X5.out (by decide))
  have K6 := Lib.hid (K5.out.trans d6.kt)
  have D6 := Lib.hid (D5.out.trans d6)
  clear d6 X5 K5 D5
  have fin : ∀ (wc : World) (id : Int), KT 102 w4 wc → Dr B r (P + 300) w wc → NewN ((wc.setCell ⟨w.heap.size, 0, none⟩ (.int .i64 id)).setCell ⟨w.heap.size, 1, none⟩ (.slice na xs.length nc)) W0.heap.size (.slice ar room.length cr) (.slice ab bs.length cb) (.slice na xs.length nc) room bs ⟨id, xs⟩ ∧ Dr B r (P + 300) w ((wc.setCell ⟨w.heap.size, 0, none⟩ (.int .i64 id)).setCell ⟨w.heap.size, 1, none⟩ (.slice na xs.length nc)) := fun wc id hk hd =>
    new_end (x := ⟨id, xs⟩) ⟨I4.out.kt hk (by decide), Z4.out.kt hk (by decide) (by decide) (by decide), HB.out, h5, h11, HX.out.kt hk (by decide), HN.out⟩ Sz.out ((hk.2 _ _ _ _ R4.out (by decide)).trans R4.out) hd rfl
  have Fin := Lib.hid fin
  have KR := Lib.hid (show ∀ wc, KT 102 w4 wc → wc.heap[w.heap.size]? = some (.cells #[.int .i64 0, .slice none 0 0] 38 (0, 0)) from fun wc hk => (hk.2 _ _ _ _ R4.out (by decide)).trans R4.out)
  have B6 := Lib.hid ((Z4.out.kt K6.out (by decide) (by decide) (by decide)).bins (by omega) (by omega))
  clear fin I4 Z4 HX HN HB R4
  by_cases h6 : k6 = 0
  · subst h6
    go_wp2_with fail
    refine (l91Id_any _ _ _ _ _ _ D6.out.rd (by omega) B6.out (by omega)).mono ?_
    rintro e w7 ⟨id, rfl, d7⟩
    have X7 := Lib.hid (d7.heap X6.out (by decide))
    have K7 := Lib.hid (K6.out.trans d7.kt)
    have D7 := Lib.hid (D6.out.trans d7)
    clear d7 X6 K6 D6 B6
    have y0 := cell_of_heap X7.out 0
    have g0 := frozen_of_heap X7.out 0
    have kx := KT.put (p := ⟨w4.heap.size, 0, none⟩) X7.out (.int .i64 id)
    have X8 := Lib.hid (heap_put (k := 0) X7.out (.int .i64 id))
    have K8 := Lib.hid (KT.below K7.out (Below.setCell (p := ⟨w4.heap.size, 0, none⟩) (Below.refl _ w7) (Nat.le_refl _) (.int .i64 id)))
    have D8 := Lib.hid (D7.out.own (Below.setCell (p := ⟨w4.heap.size, 0, none⟩) (Below.refl _ w7) (Nat.le_of_lt L4.out) (.int .i64 id)) kx (by decide))
    clear kx X7 K7 D7
    go_upto_region 5 with fail
    generalize w7.setCell ⟨w4.heap.size, 0, none⟩ (.int .i64 id) = w8 at *
    clear y0 g0
    have x0 : w8.cell? ⟨w4.heap.size, 0, none⟩ = some (.int .i64 id) := by rw [cell_of_heap X8.out 0]; simp
    have x1 : w8.cell? ⟨w4.heap.size, 1, none⟩ = some (.slice na xs.length nc) := by rw [cell_of_heap X8.out 1]; simp
    have r0 := cell_of_heap (KR.out _ K8.out) 0
    have r1 := cell_of_heap (KR.out _ K8.out) 1
    have f0 := frozen_of_heap (KR.out _ K8.out) 0
    have f1 := frozen_of_heap (KR.out _ K8.out) 1
    have F := Lib.hid (Fin.out w8 id K8.out (D8.out.mono (by omega)))
    go_region
    go_wp2_with fail
    refine bodyPost_ret (v := .tuple #[.slice ar room.length cr, .slice ab bs.length cb, .agg #[.int .i64 id, .slice na xs.length nc]]) ?_ rfl ⟨_, _, _, room, bs, ⟨id, xs⟩, _, rfl, F.out.1.drew, Sz.out, F.out.2.ext (Ext.refl _).drew, _, _, _, rfl⟩
    simp [results, Try.results88, go_sem, r0, r1]
  · have h6' : (((k6 : Nat) : Int) == 0) = false := beq_eq_false_iff_ne.2 (by omega)
    have x0 := cell_of_heap X6.out 0
    have x1 := cell_of_heap X6.out 1
    have r0 := cell_of_heap (KR.out _ K6.out) 0
    have r1 := cell_of_heap (KR.out _ K6.out) 1
    have f0 := frozen_of_heap (KR.out _ K6.out) 0
    have f1 := frozen_of_heap (KR.out _ K6.out) 1
    have F := Lib.hid (Fin.out w6 id0 K6.out (D6.out.mono (by omega)))
    go_wp2_with fail
    go_region
    go_wp2_with fail
    refine bodyPost_ret (v := .tuple #[.slice ar room.length cr, .slice ab bs.length cb, .agg #[.int .i64 id0, .slice na xs.length nc]]) ?_ rfl ⟨_, _, _, room, bs, ⟨id0, xs⟩, _, rfl, F.out.1.drew, Sz.out, F.out.2.ext (Ext.refl _).drew, _, _, _, rfl⟩
    simp [results, Try.results88, go_sem, r0, r1]

end Go.Proofs.Ytipmoedflpjioaa
