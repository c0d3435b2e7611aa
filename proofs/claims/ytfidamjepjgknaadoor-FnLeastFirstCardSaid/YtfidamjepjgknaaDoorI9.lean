/- The program: may a task come, has a node room. -/
import Derived.Test.YtfidamjepjgknaaDoorI8
import Derived.Test.YtfidamjepjgknaaDoorS8
import Derived.Deep.RegionHeld3
import Derived.Deep.RegionWith
namespace Go.Proofs.YtfidamjepjgknaaDoor
set_option maxRecDepth 100000
open Go.RowKit

set_option maxHeartbeats 600000 in
theorem hasRoom_any (v u n : Value) (room : List Int) (b : List T) (x : T) (w : World) (hr : Ints w v room) (h : Tasks w u b) (hn : Ints w n x.need) (r3 : room.length = 3) (gb : Good b) (gx : Good1 x) :
    Calls Tryd.prog 13 #[v, u, .agg #[.int .i64 x.id, n]] w fun e w' => e = .returned (.bool (fits11 room b x)) ∧ Ext w w' := by
  obtain ⟨an, cn, rfl, hn⟩ := hn.open
  have R3 := Lib.hid r3
  have Gx := Lib.hid gx
  have Gl := Lib.hid (load_bd gb h.1)
  have Gb := Lib.hid gb
  clear r3 gx gb
  go_enter Tryd.func13, Tryd.ntmps13
  go_wp2_with fail
  have hEx : Ext w _ := (Ext.refl w).alloc (Obj.cells #[.int .i64 x.id, .slice an x.need.length cn] 31)
  have cx : (w.alloc (Obj.cells #[.int .i64 x.id, .slice an x.need.length cn] 31)).cell? ⟨w.heap.size, 1, none⟩ = some (.slice an x.need.length cn) := by rw [box_cell]; rfl
  generalize w.alloc (Obj.cells #[.int .i64 x.id, .slice an x.need.length cn] 31) = W at *
  have Hr := Lib.hid (hr.ext hEx)
  have Hn := Lib.hid (hn.ext hEx)
  have Ht := Lib.hid (h.ext hEx)
  clear hr hn h
  go_region_held3 (fun w' => w'.cell? ⟨w.heap.size, 1, none⟩ = some (.slice an x.need.length cn))
    (first | exact (Ext.refl W).drew.cell cx | exact hE1.cell cx | exact hE3.cell cx)
    (first
      | (go_at_call 23; refine (loadOf_any _ _ _ (Ht.out.ext (Ext.refl W).drew) Gb.out).mono ?_; rintro e w1 ⟨r, rfl, hE, hi⟩; have hE1 := (Ext.refl W).drew.trans hE; have Hi := Lib.hid hi; clear hi hE)
      | (go_at_call 26; refine (plus_any _ _ _ _ _ Hi.out (Hn.out.ext hE1) Gl.out.1 Gx.out.1 Gl.out.2 (good1_bd Gx.out)).mono ?_; rintro e w2 ⟨r2, rfl, hE2, hi2⟩; have hE3 := hE1.trans hE2; have Hi2 := Lib.hid hi2; clear hi2 hE2)
      | (go_at_call 25; refine (fits_any _ _ _ _ _ Hi2.out (Hr.out.ext hE3) (addL_get Gl.out.1 Gx.out.1).1 R3.out).mono ?_; rintro e w3 ⟨rfl, rfl⟩))
  go_wp2
  go_ret
  exact ⟨ret_bool rfl, hEx.trans hE3⟩

end Go.Proofs.YtfidamjepjgknaaDoor
