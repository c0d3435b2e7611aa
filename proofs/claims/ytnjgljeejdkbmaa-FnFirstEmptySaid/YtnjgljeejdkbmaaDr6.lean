/- What the exported drawing functions give. No condition. -/
import Derived.Test.YtnjgljeejdkbmaaDr5
import Derived.Test.YtnjgljeejdkbmaaCode
namespace Go.Proofs.Ytnjgljeejdkbmaa
set_option maxRecDepth 100000
open Go.RowKit

/-- A drawn room with nodes. -/
def DrawnBins (w : World) (vr vb : Value) (room : List Int) (bs : List (List T)) : Prop := Ints w vr room ∧ Bins w vb bs ∧ DnB bs ∧ bs.length ≤ 10 ∧ bs.flatten.length ≤ 20
theorem DrawnBins.ext {w w' : World} {vr vb : Value} {room : List Int} {bs : List (List T)} (h : DrawnBins w vr vb room bs) (k : Ext w w') : DrawnBins w' vr vb room bs := ⟨h.1.ext k, h.2.1.ext k, h.2.2⟩

set_option maxHeartbeats 400000 in
theorem DrawBinsValid_any (v : Value) (n : Nat) (w : World) (h : ArgCode w v n) :
    Calls Try.prog 26 #[v] w fun e w' => ∃ vr vb room bs, e = .returned (.tuple #[vr, vb]) ∧ DrawnBins w' vr vb room bs ∧ Ext w w' := by
  go_enter Try.func26, Try.ntmps26
  go_wp2_with fail
  refine (l6Open_any _ _ _ h).mono ?_
  rintro e w1 ⟨r, rfl, hE, hr⟩
  go_wp2_with fail
  refine (l91Bins_any _ _ _ _ hr (by omega)).mono ?_
  rintro e w2 ⟨vr, room, vb, bs, rfl, hi, hz, hd, h5, h11, dr⟩
  have E2 := hE.below dr.bl
  have hb := Lib.hid (show DrawnBins w2 vr vb room bs from ⟨hi, hz.bins (by omega) (by omega), hd, by omega, by omega⟩)
  clear hi hz dr
  go_wp2
  go_ret2
  exact ⟨_, _, room, bs, rfl, hb.out, E2⟩

end Go.Proofs.Ytnjgljeejdkbmaa
