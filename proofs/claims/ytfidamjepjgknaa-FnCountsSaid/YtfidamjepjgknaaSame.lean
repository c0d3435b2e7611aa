/- The laws' own comparisons. No condition. -/
import Derived.Test.YtfidamjepjgknaaOwn
import Derived.StillTailTactics
namespace Go.Proofs.Ytfidamjepjgknaa
set_option maxRecDepth 100000
open Go.RowKit

set_option maxHeartbeats 400000 in
theorem sameInts_any (v u : Value) (xs ys : List Int) (w : World) (h : Ints w v xs) (h' : Ints w u ys) :
    Calls Try.prog 15 #[v, u] w fun e w' => e = .returned (.bool (xs == ys)) ∧ ∃ n, w' = w.drewN n := by
  obtain ⟨a, cap, rfl, h⟩ := h.open
  obtain ⟨a', cap', rfl, h'⟩ := h'.open
  have hx : xs.length ≤ 4194304 := h.1
  have hy : ys.length ≤ 4194304 := h'.1
  by_cases hl : xs.length = ys.length
  · have hb : (((xs.length : Nat) : Int) != (ys.length : Nat)) = false := by simp [hl]
    have HL := Lib.hid hl
    clear hl
    go_enter Try.func15, Try.ntmps15
    go_wp2
    go_loopw [5] (fun i wr => ∃ k n : Nat, k ≤ xs.length ∧ i = .int .i64 k ∧ wr = w.drewN n ∧ ∀ j (h1 : j < xs.length) (h2 : j < ys.length), j < k → xs[j] = ys[j]) (fun i _ => xs.length - (intOf i).toNat)
    case atStart => exact ⟨0, 0, by omega, rfl, rfl, fun _ _ _ h => by omega⟩
    case round =>
      obtain ⟨k, n, hk, rfl, rfl, hg⟩ := hrel
      have Hg := Lib.hid hg
      clear hg
      by_cases hlt : k < xs.length
      · have l2 : k < ys.length := by have := HL.out; omega
        obtain ⟨b, off, rfl, hc⟩ := h.at (by omega)
        obtain ⟨b', off', rfl, hc'⟩ := h'.at (by omega)
        have c1 := hc k hlt
        have c2 := hc' k l2
        clear hc hc'
        have b1 : (k : Int) < (xs.length : Int) := by omega
        have b1' : (k : Int) < (ys.length : Int) := by omega
        have b0 : (0 : Int) ≤ (k : Int) := by omega
        by_cases he : xs[k] = ys[k]
        · have hbb : (xs[k] != ys[k]) = false := by simp [he]
          have He := Lib.hid he
          clear he
          go_wp2
          go_quiet (fail)
          go_wp2
          go_roundw
          case rel => exact ⟨k + 1, n + nq, by omega, by go_num, by first | rfl | exact World.drewN_drewN _ _ _, fun j h1 h2 hj => by
            by_cases e : j = k
            · subst e; exact He.out
            · exact Hg.out j h1 h2 (by omega)⟩
          case measure => simp [intOf]; omega
        · have hbb : (xs[k] != ys[k]) = true := by simp [he]
          have Hr := Lib.hid (beq_lists_at hlt l2 he)
          clear he
          go_wp2
          go_quiet (fail)
          go_wp2
          go_ret
          exact ⟨ret_bool Hr.out.symm, n + nq, by first | rfl | exact World.drewN_drewN _ _ _⟩
      · have e : k = xs.length := by omega
        subst e
        have Hr := Lib.hid (beq_lists HL.out (fun j h1 h2 => Hg.out j h1 h2 h1))
        go_wp2
        go_ret
        exact ⟨ret_bool Hr.out.symm, n, rfl⟩
  · have hb : (((xs.length : Nat) : Int) != (ys.length : Nat)) = true := by simp; omega
    have Hr := Lib.hid (beq_lists_len hl)
    clear hl
    go_enter Try.func15, Try.ntmps15
    go_wp2
    go_ret
    exact ⟨ret_bool Hr.out.symm, 0, rfl⟩

end Go.Proofs.Ytfidamjepjgknaa
