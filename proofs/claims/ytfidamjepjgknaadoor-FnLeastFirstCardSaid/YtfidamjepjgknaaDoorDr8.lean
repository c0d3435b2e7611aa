/- Drawn nodes with a further task. No condition. -/
import Derived.Test.YtfidamjepjgknaaDoorDr7
namespace Go.Proofs.YtfidamjepjgknaaDoor
set_option maxRecDepth 100000
open Go.RowKit

/-- A write to a block that lies before all rows of the nodes. -/
theorem nest_far {w : World} {B C g k : Nat} {v : Value} {bs : List (List T)} {cs : Array Value} {fz : Nat × Nat} (h : Nest w B C v bs) (hg : w.heap[g]? = some (.cells cs 31 fz)) (hC : g < C) (u : Value) : Nest (w.setCell ⟨g, k, none⟩ u) B C v bs := by
  have kt := KT.put (p := ⟨g, k, none⟩) hg u
  obtain ⟨xs, h1, h2, h3, h4⟩ := h
  refine ⟨xs, ownsRow_kt h1 kt (by decide), h2, fun j hj => ?_, h4⟩
  obtain ⟨n, hn, ys, ho, hc⟩ := h3 j hj
  refine ⟨n, hn, ys, ?_, hc.kt kt (by decide)⟩
  obtain ⟨hl, ho⟩ := ho
  refine ⟨hl, ?_⟩
  rcases ho with ho | ⟨g', cap, cur, hv, hB', hh, r⟩
  · exact .inl ho
  · refine .inr ⟨g', cap, cur, hv, hB', ?_, r⟩
    rw [Below.heap_setCell w ⟨g, k, none⟩ u g' (by simp; omega)]
    exact hh

/-- A drawn room with nodes and a further task. -/
def DrawnNew (w : World) (vr vb n : Value) (room : List Int) (bs : List (List T)) (x : T) : Prop := DrawnBins w vr vb room bs ∧ Ints w n x.need ∧ Dn x.need
theorem DrawnNew.ext {w w' : World} {vr vb n : Value} {room : List Int} {bs : List (List T)} {x : T} (h : DrawnNew w vr vb n room bs x) (k : Ext w w') : DrawnNew w' vr vb n room bs x := ⟨h.1.ext k, h.2.1.ext k, h.2.2⟩

/-- The same, the nodes' rows behind a block. -/
def NewN (w : World) (b0 : Nat) (vr vb n : Value) (room : List Int) (bs : List (List T)) (x : T) : Prop := Ints w vr room ∧ Nest w b0 b0 vb bs ∧ DnB bs ∧ bs.length ≤ 5 ∧ bs.flatten.length ≤ 11 ∧ Ints w n x.need ∧ Dn x.need
theorem NewN.drawn {w : World} {b0 : Nat} {vr vb n : Value} {room : List Int} {bs : List (List T)} {x : T} (h : NewN w b0 vr vb n room bs x) : DrawnNew w vr vb n room bs x := by
  obtain ⟨h1, h2, h3, h4, h5, h6, h7⟩ := h
  exact ⟨⟨h1, h2.bins (by omega) (by omega), h3, by omega, by omega⟩, h6, h7⟩
theorem NewN.drew {w : World} {b0 : Nat} {vr vb n : Value} {room : List Int} {bs : List (List T)} {x : T} (h : NewN w b0 vr vb n room bs x) : NewN w.drew b0 vr vb n room bs x := ⟨h.1.drew, h.2.1.drew, h.2.2.1, h.2.2.2.1, h.2.2.2.2.1, h.2.2.2.2.2.1.drew, h.2.2.2.2.2.2⟩
theorem NewN.put {w : World} {b0 g : Nat} {vr vb n : Value} {room : List Int} {bs : List (List T)} {x : T} (h : NewN w b0 vr vb n room bs x) {cs : Array Value} (hR : w.heap[g]? = some (.cells cs 31 (0, 0))) (hg : g < b0) (u u' : Value) :
    NewN ((w.setCell ⟨g, 0, none⟩ u).setCell ⟨g, 1, none⟩ u') b0 vr vb n room bs x := by
  obtain ⟨h1, h2, h3, h4, h5, h6, h7⟩ := h
  have k1 := KT.put (p := ⟨g, 0, none⟩) hR u
  have hR2 := heap_put (k := 0) hR u
  have k2 := KT.put (p := ⟨g, 1, none⟩) hR2 u'
  exact ⟨(h1.kt k1 (by decide)).kt k2 (by decide), nest_far (k := 1) (nest_far (k := 0) h2 hR hg u) hR2 hg u', h3, h4, h5, (h6.kt k1 (by decide)).kt k2 (by decide), h7⟩
theorem new_end {B P g b0 : Nat} {r vr vb n : Value} {room : List Int} {bs : List (List T)} {x : T} {w wc : World} (hn : NewN wc b0 vr vb n room bs x) (h0 : w.heap.size < b0)
    (hR : wc.heap[w.heap.size]? = some (.cells #[.int .i64 0, .slice none 0 0] 31 (0, 0))) (hd : Dr B r P w wc) (hg : g = w.heap.size) :
    NewN ((wc.setCell ⟨g, 0, none⟩ (.int .i64 x.id)).setCell ⟨g, 1, none⟩ n) b0 vr vb n room bs x ∧ Dr B r P w ((wc.setCell ⟨g, 0, none⟩ (.int .i64 x.id)).setCell ⟨g, 1, none⟩ n) := by
  subst hg
  have k1 := KT.put (p := ⟨w.heap.size, 0, none⟩) hR (.int .i64 x.id)
  have hR2 := heap_put (k := 0) hR (.int .i64 x.id)
  have k2 := KT.put (p := ⟨w.heap.size, 1, none⟩) hR2 n
  exact ⟨hn.put hR h0 _ _, (hd.own (Below.setCell (p := ⟨w.heap.size, 0, none⟩) (Below.refl _ _) (Nat.le_refl _) _) k1 (by decide)).own (Below.setCell (p := ⟨w.heap.size, 1, none⟩) (Below.refl _ _) (Nat.le_refl _) _) k2 (by decide)⟩

end Go.Proofs.YtfidamjepjgknaaDoor
