/- The bits of a set of at most seven tasks: how many there are, and the lowest one, by math/bits' own text; what the program's bit operations make of them. Under: math/bits' table of trailing zeros lies as its initialiser lays it ('TabW'). -/
import Derived.Test.YtfidamjepjgknaaDoorP8
import Derived.Test.YtfidamjepjgknaaDoorOwn
import Derived.Laws.BitsAllLaws
import Derived.Lib.TrailingZeros
namespace Go.Proofs.YtfidamjepjgknaaDoor
set_option maxRecDepth 100000
open Go.RowKit

/-- The table in its variable. -/
def TabW (w : World) : Prop := ∀ j, j < 64 → w.cell? ⟨1, j, none⟩ = some (.int .u8 (Lib.deBruijn64tab.getD j 0))
theorem TabW.ext {w w' : World} (h : TabW w) (k : Ext w w') : TabW w' := fun j hj => k.cell (h j hj)
theorem TabW.drew {w : World} (h : TabW w) : TabW w.drew := h.ext (Ext.refl w).drew

theorem low_ctz : ∀ s, s < 128 → s ≠ 0 → Lib.ctz 64 s = lowB s := by decide +kernel
theorem bit_key (x a : Nat) (hx : x < 18446744073709551616) (hx0 : x ≠ 0) (hlow : x &&& (18446744073709551616 - x) = a) :
    IntKind.u64.wrap (bits BinOp.and IntKind.u64 (x : Int) (IntKind.u64.wrap (-(x : Int))) * 285870213051353865) / 288230376151711744 = ((a * 285870213051353865 % 18446744073709551616 / 288230376151711744 : Nat) : Int) := by
  have e1 : IntKind.u64.wrap (-(x : Int)) = ((18446744073709551616 - x : Nat) : Int) := by rw [IntKind.wrap_u64]; omega
  rw [e1, u64_and_nat x _ hx (by omega), hlow, IntKind.wrap_u64]
  omega
set_option maxHeartbeats 1000000 in
theorem tz64_core (x k idx : Nat) (w : World) (hx0 : ((x : Int) == 0) = false)
    (key : IntKind.u64.wrap (bits BinOp.and IntKind.u64 (x : Int) (IntKind.u64.wrap (-(x : Int))) * 285870213051353865) / 288230376151711744 = (idx : Int))
    (hi : idx < 64) (hk : k < 64) (hcell : w.cell? ⟨1, idx, none⟩ = some (.int .u8 k)) :
    Calls Tryd.prog 53 #[.int .u64 x] w fun e w' => e = .returned (.int .i64 k) ∧ w' = w := by
  go_enter Tryd.func53, Tryd.ntmps53
  go_wp2_with (simp only [key])
  go_ret
  exact ⟨rfl, rfl⟩
theorem tz64_any (s : Nat) (hs : s < 128) (h0 : s ≠ 0) (w : World) (ht : TabW w) :
    Calls Tryd.prog 53 #[.int .u64 s] w fun e w' => e = .returned (.int .i64 (lowB s)) ∧ w' = w := by
  obtain ⟨hlow, hk⟩ := Lib.lowest_bit 64 s h0 (by omega)
  rw [low_ctz s hs h0] at hlow hk
  obtain ⟨hi, htab⟩ := Lib.deBruijn64_at _ hk
  have hcell := ht _ hi
  rw [htab] at hcell
  exact tz64_core s _ _ w (by simp; omega) (bit_key s _ (by omega) h0 hlow) hi hk hcell
theorem TrailingZeros_any (s : Nat) (hs : s < 128) (h0 : s ≠ 0) (w : World) (ht : TabW w) :
    Calls Tryd.prog 38 #[.int .u64 s] w fun e w' => e = .returned (.int .i64 (lowB s)) ∧ w' = w := by
  go_enter Tryd.func38, Tryd.ntmps38
  go_wp2_with fail
  refine (tz64_any s hs h0 w ht).mono ?_
  rintro e w1 ⟨rfl, rfl⟩
  go_wp2
  go_ret
  exact ⟨rfl, rfl⟩

set_option maxHeartbeats 1000000 in
theorem OnesCount64_any (s : Nat) (hs : s < 128) (w : World) :
    Calls Tryd.prog 36 #[.int .u64 s] w fun e w' => e = .returned (.int .i64 ((bitsL s).length : Int)) ∧ w' = w := by
  go_enter Tryd.func36, Tryd.ntmps36
  go_wp2
  go_ret
  refine ⟨ret_int ?_, rfl⟩
  clear w
  revert s
  decide +kernel
theorem OnesCount_any (s : Nat) (hs : s < 128) (w : World) :
    Calls Tryd.prog 22 #[.int .u64 s] w fun e w' => e = .returned (.int .i64 ((bitsL s).length : Int)) ∧ w' = w := by
  go_enter Tryd.func22, Tryd.ntmps22
  go_wp2_with fail
  refine (OnesCount64_any s hs w).mono ?_
  rintro e w1 ⟨rfl, rfl⟩
  go_wp2
  go_ret
  exact ⟨rfl, rfl⟩

theorem and_sub {s : Nat} (hs : s < 128) (h0 : s ≠ 0) : bits .and .u64 (s : Int) ((s : Int) - 1) = ((s &&& (s - 1) : Nat) : Int) := by
  rw [show (s : Int) - 1 = ((s - 1 : Nat) : Int) by omega]
  exact u64_and_nat s (s - 1) (by omega) (by omega)
theorem sub_and {s p : Nat} (hs : s < 128) (hp : p < 128) (h0 : p ≠ 0) : bits .and .u64 ((p : Int) - 1) (s : Int) = (((p - 1) &&& s : Nat) : Int) := by
  rw [show (p : Int) - 1 = ((p - 1 : Nat) : Int) by omega]
  exact u64_and_nat (p - 1) s (by omega) (by omega)
theorem sub_not : ∀ s, s < 128 → ∀ p, p < 128 → p &&& s = p → s &&& (18446744073709551615 - p) = s - p := by decide +kernel
theorem and_not {s p : Nat} (hs : s < 128) (hp : p &&& s = p) : bits .andNot .u64 (s : Int) (p : Int) = ((s - p : Nat) : Int) := by
  have hp' : p < 128 := by have := Nat.and_le_right (n := p) (m := s); omega
  rw [u64_andNot_nat s p (by omega) (by omega), sub_not s hs p hp' hp]
theorem bits_len : ∀ s, s < 128 → (bitsL s).length ≤ 7 := by decide +kernel

end Go.Proofs.YtfidamjepjgknaaDoor
