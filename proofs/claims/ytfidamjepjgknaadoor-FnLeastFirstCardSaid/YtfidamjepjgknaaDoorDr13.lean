/- The reference's drawing of a room and few tasks. No condition. -/
import Derived.Test.YtfidamjepjgknaaDoorDr9
namespace Go.Proofs.YtfidamjepjgknaaDoor
set_option maxRecDepth 100000
open Go.RowKit

set_option maxHeartbeats 1000000 in
theorem l91Few_any (r : Value) (B P : Nat) (w : World) (h : Rdr w B r P) (hP : P ≤ 1000) :
    Calls Tryd.prog 9 #[r] w fun e w' => ∃ vr vb room ts, e = .returned (.tuple #[vr, vb]) ∧ DrawnTasks w' vr vb room ts ∧ Below B w w' := by
  have HR := Lib.hid h
  clear h
  go_enter Tryd.func9, Tryd.ntmps9
  go_wp2_with fail
  refine (l91Room_any _ _ _ _ HR.out (by omega)).mono ?_
  rintro e w2 ⟨vr, room, rfl, hi, hd, dr⟩
  have D2 := Lib.hid dr
  obtain ⟨ra, rc, rfl, -⟩ := hi.open
  have HI := Lib.hid hi
  clear hi dr
  go_wp2_with fail
  refine (pick_any _ B _ 16 _ D2.out.rd (by omega) (by omega) (by omega)).mono ?_
  rintro e w3 ⟨k1, rfl, b1, dr3⟩
  have D3 := Lib.hid (D2.out.trans dr3)
  have I3 := Lib.hid (HI.out.kt dr3.kt (by decide))
  clear dr3
  by_cases h0 : k1 = 0
  · have hb : (((k1 : Nat) : Int) == 0) = true := by simp [h0]
    clear h0 b1
    go_wp2_with fail
    refine (pick_any _ B _ 2 _ D3.out.rd (by omega) (by omega) (by omega)).mono ?_
    rintro e w4 ⟨k2, rfl, b2, d4⟩
    have D4 := Lib.hid (D3.out.trans d4)
    have I4 := Lib.hid (I3.out.kt d4.kt (by decide))
    clear d4 hb
    go_wp2_with fail
    try rw [show (7 : Int) + (k2 : Int) = ((7 + k2 : Nat) : Int) by omega]
    refine (l91Tasks_any _ _ _ (7 + k2) _ D4.out.rd (by omega) (by omega)).mono ?_
    rintro e w5 ⟨vt, ts, rfl, ho, hdt, hl, dr5⟩
    have D5 := Lib.hid (D4.out.trans dr5)
    have HD := Lib.hid (show DrawnTasks w5 (.slice ra room.length rc) vt room ts from ⟨I4.out.kt dr5.kt (by decide), ho.done (by unfold lim; omega), hdt, by omega, ho.formc⟩)
    obtain ⟨ta, tc, rfl⟩ := ho.form
    clear dr5 ho
    go_wp2
    go_ret2
    exact ⟨_, _, room, ts, rfl, HD.out, D5.out.bl⟩
  · have hb : (((k1 : Nat) : Int) == 0) = false := by simp [h0]
    clear h0 b1
    go_wp2_with fail
    refine (pick_any _ B _ 7 _ D3.out.rd (by omega) (by omega) (by omega)).mono ?_
    rintro e w4 ⟨k2, rfl, b2, d4⟩
    have D4 := Lib.hid (D3.out.trans d4)
    have I4 := Lib.hid (I3.out.kt d4.kt (by decide))
    clear d4 hb
    go_wp2_with fail
    refine (l91Tasks_any _ _ _ k2 _ D4.out.rd (by omega) (by omega)).mono ?_
    rintro e w5 ⟨vt, ts, rfl, ho, hdt, hl, dr5⟩
    have D5 := Lib.hid (D4.out.trans dr5)
    have HD := Lib.hid (show DrawnTasks w5 (.slice ra room.length rc) vt room ts from ⟨I4.out.kt dr5.kt (by decide), ho.done (by unfold lim; omega), hdt, by omega, ho.formc⟩)
    obtain ⟨ta, tc, rfl⟩ := ho.form
    clear dr5 ho
    go_wp2
    go_ret2
    exact ⟨_, _, room, ts, rfl, HD.out, D5.out.bl⟩

set_option maxHeartbeats 400000 in
theorem DrawLeastAll_any (v : Value) (n : Nat) (w : World) (h : ArgCode w v n) :
    Calls Tryd.prog 4 #[v] w fun e w' => ∃ vr vb room ts, e = .returned (.tuple #[vr, vb]) ∧ DrawnTasks w' vr vb room ts ∧ Ext w w' := by
  go_enter Tryd.func4, Tryd.ntmps4
  go_wp2_with fail
  refine (l6Open_any _ _ _ h).mono ?_
  rintro e w1 ⟨r, rfl, hE, hr⟩
  have E1 := Lib.hid hE
  have HR := Lib.hid hr
  clear hE hr
  go_wp2_with fail
  refine (l91Few_any _ _ _ _ HR.out (by omega)).mono ?_
  rintro e w2 ⟨vr, vb, room, ts, rfl, hd, hbl⟩
  have HD := Lib.hid hd
  have F := Lib.hid (E1.out.below hbl)
  obtain ⟨ra, rc, rfl, -⟩ := hd.1.open
  obtain ⟨ta, tc, rfl, -⟩ := hd.2.2.2.2
  clear hd hbl
  go_wp2
  go_ret2
  exact ⟨_, _, room, ts, rfl, HD.out, F.out⟩

end Go.Proofs.YtfidamjepjgknaaDoor
