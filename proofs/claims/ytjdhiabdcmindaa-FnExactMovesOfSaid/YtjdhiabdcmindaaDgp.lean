/- Two lists of moves compared; a plan's question drawn. No condition. -/
import Derived.Test.YtjdhiabdcmindaaDr14
import Derived.Test.YtjdhiabdcmindaaMvR
namespace Go.Proofs.Ytjdhiabdcmindaa
set_option maxRecDepth 100000
open Go.RowKit

theorem part0' (x y : Int) (w : World) : (part 3 #[.int .i64 x, .int .i64 y] 0).run Try.prog w = .ok (.int .i64 x) w := by kernel_rfl
theorem part1' (x y : Int) (w : World) : (part 3 #[.int .i64 x, .int .i64 y] 1).run Try.prog w = .ok (.int .i64 y) w := by kernel_rfl
theorem eqIn_int' (d : Nat) (x : Int) (w : World) : (Op.equalIn (d + 1) 3 (.int .i64 x) (.int .i64 x)).run Try.prog w = .ok true w := by
  simp [Op.equalIn, run_underlying Try.underlying3]
theorem eqIn_move' (d : Nat) (x y : Int) (w : World) : (Op.equalIn (d + 2) 28 (.agg #[.int .i64 x, .int .i64 y]) (.agg #[.int .i64 x, .int .i64 y])).run Try.prog w = .ok true w := by
  rw [Op.equalIn]
  simp [run_underlying Try.underlying28, part0', part1', eqIn_int']
theorem move_neq' (x y : Int) (w : World) : (binOp .neq 28 (.agg #[.int .i64 x, .int .i64 y]) (.agg #[.int .i64 x, .int .i64 y])).run Try.prog w = .ok (.bool false) w := by
  simp [binOp, Op.equal, Op.maxDepth, show (10000 : Nat) = 9998 + 2 from rfl, eqIn_move']

theorem lit3 {k : Nat} (hk : k < 3) : ∃ m : Int, (-1 ≤ m ∧ m ≤ 21) ∧ ∀ (w : World) (b : Nat), w.heap[b]? = some (.cells #[.int .i64 (-1), .int .i64 20, .int .i64 21] 3 (0, 0)) → w.cell? ⟨b, k, none⟩ = some (.int .i64 m) := by
  obtain rfl | rfl | rfl : k = 0 ∨ k = 1 ∨ k = 2 := by omega
  · exact ⟨-1, by omega, fun w b h => cell_of_heap h 0⟩
  · exact ⟨20, by omega, fun w b h => cell_of_heap h 1⟩
  · exact ⟨21, by omega, fun w b h => cell_of_heap h 2⟩

end Go.Proofs.Ytjdhiabdcmindaa
