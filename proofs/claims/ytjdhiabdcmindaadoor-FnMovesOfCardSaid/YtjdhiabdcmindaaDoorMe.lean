/- The program's moves of nodes that came in: what is handed back where the move is possible. Under: the variable of the error holds some error ('ErrW'). -/
import Derived.Test.YtjdhiabdcmindaaDoorMd
import Derived.Test.YtjdhiabdcmindaaDoorP1
import Derived.LaidEql
namespace Go.Proofs.YtjdhiabdcmindaaDoor
set_option maxRecDepth 100000
open Go.RowKit

/-- The variable of the error that a move is not possible holds some error. -/
def ErrW (w : World) : Prop := ∃ t a, w.cell? ⟨0, 0, none⟩ = some (.iface t (.pointer (some a)))
theorem ErrW.ext {w w' : World} (h : ErrW w) (k : Ext w w') : ErrW w' := let ⟨t, a, hc⟩ := h; ⟨t, a, k.cell hc⟩

set_option maxHeartbeats 1000000 in
theorem isNil_any (t : TypeId) (a : Addr) (w : World) :
    Calls Tryd.prog 35 #[.nilIface, .iface t (.pointer (some a))] w fun e w' => e = .returned (.bool false) ∧ Ext w w' := by
  have he := run_eql_iface_nil_left (P := Tryd.prog) w t (.pointer (some a)) Tryd.underlying58
  go_enter Tryd.func35, Tryd.ntmps35
  go_wp2
  go_ret
  exact ⟨rfl, Ext.refl _⟩

set_option maxHeartbeats 4000000 in
theorem MoveDo_ok (v : Value) (room : List Int) (bs : List (List T)) (id : Int) (k i to c : Nat) (a : Option Addr) (w : World) (hr : Ints w v room) (h : Bins w (.slice a bs.length c) bs) (hE : ErrW w) (hbin : binsB room bs = true)
    (hk : k < bs.length) (hto : to < bs.length) (hne : to ≠ k) (hi : i < bs[k].length) (hw : where0 bs id = some k) (hfi : bs[k].findIdx? (isId id) = some i) (hf : fits11 room bs[to] bs[k][i] = true) :
    Calls Tryd.prog 15 #[v, .slice a bs.length c, .agg #[.int .i64 id, .int .i64 (to : Int)]] w fun e w' => ∃ a' c', e = .returned (.tuple #[.slice a' bs.length c', .bool true]) ∧ Ext w w' := by
  obtain ⟨ra, rc, rfl, hr⟩ := hr.open
  have ok := binsB_iff.1 hbin
  have okT := ok.1
  have R3 := Lib.hid ok.1.1.1.1
  have GB := Lib.hid (show GoodB bs from fun b hb => Good.flat ok.1.good hb)
  have hf14 : bs.flatten.length ≤ 14 := ok.1.2.1
  have hl : bs.length ≤ 1000 := by have := ok.2.1; omega
  have hlb : ∀ b ∈ bs, b.length ≤ 1000 := fun b hb => by have := (sub_flat hb).length_le; omega
  have G3 := Lib.hid (show ∀ b ∈ bs, ∀ t ∈ b, t.need.length = 3 from fun b hb t ht => (GB.out b hb t ht).1)
  have E0 := Lib.hid ((Ext.refl w).alloc (.cells #[.int .i64 id, .int .i64 (to : Int)] 35))
  have H0 := Lib.hid (heap_alloc_new w (.cells #[.int .i64 id, .int .i64 (to : Int)] 35))
  have Hr := Lib.hid hr
  have Hb := Lib.hid h
  obtain ⟨et, ea, hge⟩ := hE
  have HGE := Lib.hid hge
  have HBN := Lib.hid hbin
  clear hr h ok okT hge hbin
  go_enter Tryd.func15, Tryd.ntmps15
  go_wp2_with fail
  generalize w.alloc (.cells #[.int .i64 id, .int .i64 (to : Int)] 35) = W0 at *
  have cc := BinsValid_any _ _ room bs W0 (Hr.out.ext E0.out) (Hb.out.ext E0.out) (by omega)
  rw [HBN.out] at cc
  refine cc.mono ?_
  clear cc
  rintro e w1 ⟨rfl, hE1⟩
  have E1 := Lib.hid (E0.out.trans hE1)
  have H1 := Lib.hid ((hE1.block (lt_of_heap H0.out)).trans H0.out)
  clear hE1 E0 H0
  go_wp2_with fail
  refine (copyBins_any _ bs w1 (Hb.out.ext E1.out) G3.out).mono ?_
  rintro e w2 ⟨oa, oc, rfl, hE2, hN2⟩
  have E12 := Lib.hid hE2
  have N2 := Lib.hid (hN2.nest (fun b hb t ht => by rw [G3.out b hb t ht]; unfold lim; omega))
  have HR2 := Lib.hid (Hr.out.ext (E1.out.trans hE2))
  have hle : w1.heap.size ≤ w2.heap.size := hE2.le
  have M0 := Lib.hid (show w1.cell? ⟨w.heap.size, 0, none⟩ = some (.int .i64 id) from cell_of_heap H1.out 0)
  have M1 := Lib.hid (show w1.cell? ⟨w.heap.size, 1, none⟩ = some (.int .i64 (to : Int)) from cell_of_heap H1.out 1)
  have GE := Lib.hid (E1.out.cell HGE.out)
  have m0 := hE2.cell M0.out
  have m1 := hE2.cell M1.out
  have ge := hE2.cell GE.out
  clear hE2 hN2 H1 HGE Hb Hr HBN
  go_wp2_with fail
  refine wp_region_held_drew (S := fun w' => w'.cell? ⟨w.heap.size, 0, none⟩ = some (.int .i64 id) ∧ w'.cell? ⟨w.heap.size, 1, none⟩ = some (.int .i64 (to : Int)) ∧ w'.cell? ⟨0, 0, none⟩ = some (.iface et (.pointer (some ea)))) (by kernel_rfl) ⟨m0, m1, ge⟩ (fun hHeld => ?_)
  refine takeH (i := 0) (d := some 15) (v := ?_) rfl rfl (by kernel_rfl) (by kernel_rfl) (by kernel_rfl) (fun _ _ _ h => h) (by rfl) ?_ (by assumption) ?_
  rotate_left
  · intro w hSw; (try dsimp only at hSw); (try have l0 := hSw.1; have l1 := hSw.2.1; have l2 := hSw.2.2; go_simp); (try with_reducible rfl)
  try simp only [Act.put, List.setIfInBounds_toArray, List.set_cons_zero, List.set_cons_succ]
  refine takeH (i := 1) (d := some 16) (v := ?_) rfl rfl (by kernel_rfl) (by kernel_rfl) (by kernel_rfl) (fun _ _ _ h => h) (by rfl) ?_ (by assumption) ?_
  rotate_left
  · intro w hSw; (try dsimp only at hSw); (try have l0 := hSw.1; have l1 := hSw.2.1; have l2 := hSw.2.2; go_simp); (try with_reducible rfl)
  try simp only [Act.put, List.setIfInBounds_toArray, List.set_cons_zero, List.set_cons_succ]
  refine takeH (i := 2) (d := some 17) (v := ?_) rfl rfl (by kernel_rfl) (by kernel_rfl) (by kernel_rfl) (fun _ _ _ h => h) (by rfl) ?_ (by assumption) ?_
  rotate_left
  · intro w hSw; (try dsimp only at hSw); (try have l0 := hSw.1; have l1 := hSw.2.1; have l2 := hSw.2.2; go_simp); (try with_reducible rfl)
  try simp only [Act.put, List.setIfInBounds_toArray, List.set_cons_zero, List.set_cons_succ]
  refine takeH (i := 4) (d := some 19) (v := ?_) rfl rfl (by kernel_rfl) (by kernel_rfl) (by kernel_rfl) (fun _ _ _ h => h) (by rfl) ?_ (by assumption) ?_
  rotate_left
  · intro w hSw; (try dsimp only at hSw); (try have l0 := hSw.1; have l1 := hSw.2.1; have l2 := hSw.2.2; go_simp); (try with_reducible rfl)
  try simp only [Act.put, List.setIfInBounds_toArray, List.set_cons_zero, List.set_cons_succ]
  refine oneH (i := 3) (by kernel_rfl) rfl (by rfl) (fun K hK => ?_)
  go_simp
  refine (move_any _ room bs id k i to w1.heap.size oc oa _ (HR2.out.ext (Ext.refl w2).drew) N2.out.drew hle R3.out GB.out hl hlb hk hto hne hi hw hfi hf).mono ?_; rintro e w3 ⟨rfl, hB3, -⟩; have X3 := Lib.hid (show Ext w1 w3 from Below.trans (Ext.drew E12.out) hB3); clear hB3
  try dsimp only
  refine hK.out _ _ (⟨X3.out.cell M0.out, X3.out.cell M1.out, X3.out.cell GE.out⟩) (fun hHeld => ?_)
  clear hK K
  try simp only [Act.put, List.setIfInBounds_toArray, List.set_cons_zero, List.set_cons_succ]
  refine oneH (i := 5) (by kernel_rfl) rfl (by rfl) (fun K hK => ?_)
  go_simp
  refine (isNil_any et ea _).mono ?_; rintro e w4 ⟨rfl, hE4⟩; have X4 := Lib.hid (X3.out.trans hE4); clear hE4
  try dsimp only
  refine hK.out _ _ (⟨X4.out.cell M0.out, X4.out.cell M1.out, X4.out.cell GE.out⟩) (fun hHeld => ?_)
  clear hK K
  try simp only [Act.put, List.setIfInBounds_toArray, List.set_cons_zero, List.set_cons_succ]
  refine wpAnyH_done (by kernel_rfl) ?_ _
  have F := Lib.hid (E1.out.trans X4.out)
  clear hHeld m0 m1 ge N2 HR2 X3 X4
  go_wp2_with fail
  go_ret2
  exact ⟨_, _, rfl, F.out⟩

end Go.Proofs.YtjdhiabdcmindaaDoor
