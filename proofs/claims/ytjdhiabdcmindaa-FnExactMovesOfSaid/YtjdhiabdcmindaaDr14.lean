/- The reference's drawing of a room and nodes, for the moves. No condition. -/
import Derived.Test.YtjdhiabdcmindaaDr4
namespace Go.Proofs.Ytjdhiabdcmindaa
set_option maxRecDepth 100000
open Go.RowKit

theorem nest_formc {w : World} {B C : Nat} {v : Value} {bs : List (List T)} (h : Nest w B C v bs) : ∃ a c, v = .slice a bs.length c ∧ bs.length ≤ c := by
  obtain ⟨xs, ⟨_, h1⟩, _⟩ := h
  rcases h1 with ⟨rfl, hn⟩ | ⟨g, cap, cur, rfl, _, _, r, _⟩
  · exact ⟨Option.none, 0, by rw [hn], by omega⟩
  · exact ⟨_, _, rfl, r⟩

set_option maxHeartbeats 400000 in
theorem DrawGatherNext_any (v : Value) (n : Nat) (w : World) (h : ArgCode w v n) :
    Calls Try.prog 6 #[v] w fun e w' => ∃ vr a c room bs, e = .returned (.tuple #[vr, .slice a bs.length c]) ∧ DrawnBins w' vr (.slice a bs.length c) room bs ∧ bs.length ≤ c ∧ Ext w w' := by
  go_enter Try.func6, Try.ntmps6
  go_wp2_with fail
  refine (l6Open_any _ _ _ h).mono ?_
  rintro e w1 ⟨r, rfl, hE, hr⟩
  go_wp2_with fail
  refine (l91Bins_any _ _ _ _ hr (by omega)).mono ?_
  rintro e w2 ⟨vr, room, vb, bs, rfl, hi, hz, hd, h5, h11, dr⟩
  have E2 := hE.below dr.bl
  obtain ⟨a, c, rfl, hc⟩ := nest_formc hz
  have hb := Lib.hid (show DrawnBins w2 vr (.slice a bs.length c) room bs from ⟨hi, hz.bins (by omega) (by omega), hd, by omega, by omega⟩)
  clear hi hz dr
  go_wp2
  go_ret2
  exact ⟨_, a, c, room, bs, rfl, hb.out, hc, E2⟩
end Go.Proofs.Ytjdhiabdcmindaa
