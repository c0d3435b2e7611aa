/- The reference: what fits a node, the first node, where a task is. -/
import Derived.Test.YtfidamjepjgknaaDoorS5
import Derived.Test.YtfidamjepjgknaaDoorP1
import Derived.Test.YtfidamjepjgknaaDoorOwn
import Derived.Deep.RegionHeld3
import Derived.StillTailTactics
namespace Go.Proofs.YtfidamjepjgknaaDoor
set_option maxRecDepth 100000
open Go.RowKit

theorem load_bd {b : List T} (hg : Good b) (hl : b.length ≤ 4194304) : (loadL b).length = 3 ∧ Bd 1000000000000000 (loadL b) := ⟨(loadL_good b hg).1, (loadL_good b hg).2.mono (by omega)⟩
theorem good1_bd {x : T} (h : Good1 x) : Bd 1000000000000000 x.need := h.2.mono (by omega)

set_option maxHeartbeats 600000 in
theorem l11Fits_any (v u n : Value) (room : List Int) (b : List T) (x : T) (w : World) (hr : Ints w v room) (h : Tasks w u b) (hn : Ints w n x.need) (r3 : room.length = 3) (gb : Good b) (gx : Good1 x) :
    Calls Tryd.prog 29 #[v, u, .agg #[.int .i64 x.id, n]] w fun e w' => e = .returned (.bool (fits11 room b x)) ∧ Ext w w' := by
  obtain ⟨an, cn, rfl, hn⟩ := hn.open
  have R3 := Lib.hid r3
  have Gx := Lib.hid gx
  have Gl := Lib.hid (load_bd gb h.1)
  have Gb := Lib.hid gb
  clear r3 gx gb
  go_enter Tryd.func29, Tryd.ntmps29
  go_wp2_with fail
  have hEx : Ext w _ := (Ext.refl w).alloc (Obj.cells #[.int .i64 x.id, .slice an x.need.length cn] 31)
  have cx : (w.alloc (Obj.cells #[.int .i64 x.id, .slice an x.need.length cn] 31)).cell? ⟨w.heap.size, 1, none⟩ = some (.slice an x.need.length cn) := by rw [box_cell]; rfl
  generalize w.alloc (Obj.cells #[.int .i64 x.id, .slice an x.need.length cn] 31) = W at *
  have Hr := Lib.hid (hr.ext hEx)
  have Hn := Lib.hid (hn.ext hEx)
  have Ht := Lib.hid (h.ext hEx)
  clear hr hn h
  go_region_held3 (fun w' => Ext W w' ∧ w'.cell? ⟨w.heap.size, 1, none⟩ = some (.slice an x.need.length cn))
    (first | exact ⟨(Ext.refl W).drew, (Ext.refl W).drew.cell cx⟩ | exact ⟨hE1, hE1.cell cx⟩ | exact ⟨hE3, hE3.cell cx⟩ | exact ⟨hE4, hE4.cell cx⟩)
    (first
      | (go_at_call 46; refine (l2Load_any _ _ _ (Ht.out.ext (Ext.refl W).drew) Gb.out).mono ?_; rintro e w1 ⟨r, rfl, hE, hi⟩; have hE1 := (Ext.refl W).drew.trans hE; have Hi := Lib.hid hi; clear hi hE)
      | (go_at_call 45; refine (l1Add_any _ _ _ _ 1 _ Hi.out (Hn.out.ext hE1) Gl.out.1 Gx.out.1 (.inl rfl) Gl.out.2 (good1_bd Gx.out)).mono ?_; rintro e w2 ⟨r2, rfl, hE2, hi2⟩; have hE3 := hE1.trans hE2; have Hi2 := Lib.hid hi2; clear hi2 hE2)
      | (go_at_call 44; refine (l1Fits_any _ _ _ _ _ Hi2.out (Hr.out.ext hE3) (addL_get Gl.out.1 Gx.out.1).1 R3.out).mono ?_; rintro e w3 ⟨rfl, m, rfl⟩; have hE4 := hE3.drewN m))
  go_wp2
  go_ret
  exact ⟨ret_bool rfl, hEx.trans hE4⟩

/-- Good nodes. -/
def GoodB (bs : List (List T)) : Prop := ∀ b ∈ bs, Good b
theorem BinsOk.goodB {room : List Int} {bs : List (List T)} (h : BinsOk room bs) : GoodB bs := fun b hb t ht => h.1.good t (List.mem_flatten.2 ⟨b, hb, ht⟩)
theorem at11_skip {room : List Int} {bs : List (List T)} {x : T} {k : Nat} (h : ∀ j (h : j < bs.length), j < k → fits11 room bs[j] x = false) (hk : k < bs.length) (hf : fits11 room bs[k] x = true) : at11 room bs x = some k := by
  unfold at11
  rw [List.findIdx?_eq_some_iff_getElem]
  exact ⟨hk, hf, fun j hj => by simp [h j (by omega) hj]⟩
theorem at11_none {room : List Int} {bs : List (List T)} {x : T} (h : ∀ j (h : j < bs.length), fits11 room bs[j] x = false) : at11 room bs x = none := by
  unfold at11
  rw [List.findIdx?_eq_none_iff]
  intro b hb
  obtain ⟨j, hj, rfl⟩ := List.getElem_of_mem hb
  exact h j hj

end Go.Proofs.YtfidamjepjgknaaDoor
