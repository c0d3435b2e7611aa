/- A task's copy under marks: its box, and the mark of its needs. No condition. -/
import Derived.Test.YtapkpphdkdbclaaMark
namespace Go.Proofs.Ytapkpphdkdbclaa
set_option maxRecDepth 100000
open Go.RowKit

/-- A task that lies in a box of its own. -/
def BoxAt (w : World) (b : Nat) (id : Int) (v : Value) : Prop := b < w.heap.size ∧ w.cell? ⟨b, 0, none⟩ = some (.int .i64 id) ∧ w.cell? ⟨b, 1, none⟩ = some v
theorem BoxAt.ext {w w' : World} {b : Nat} {id : Int} {v : Value} (h : BoxAt w b id v) (k : Ext w w') : BoxAt w' b id v := ⟨Nat.lt_of_lt_of_le h.1 k.le, k.cell h.2.1, k.cell h.2.2⟩
theorem BoxAt.chg {L U : Nat} {w w' : World} {b : Nat} {id : Int} {v : Value} (h : BoxAt w b id v) (k : Chg L U w w') (hd : b < L ∨ U ≤ b) : BoxAt w' b id v :=
  ⟨Nat.lt_of_lt_of_le h.1 k.size, by rw [World.cell?_of_block (w := w) (a := ⟨b, 0, none⟩) (k.block b h.1 hd)]; exact h.2.1, by rw [World.cell?_of_block (w := w) (a := ⟨b, 1, none⟩) (k.block b h.1 hd)]; exact h.2.2⟩

set_option maxHeartbeats 1000000 in
theorem markTask_any (id : Int) (n : Value) (x : T) (k : Int) (A B : Nat) (w : World) (h : IntsU w A B n x.need) (h0 : 0 ≤ k) (h1 : k ≤ 1000000000) (hl : x.need.length ≤ 4194304) :
    Calls Try.prog 56 #[.agg #[.int .i64 id, n], .int .i64 k] w fun e w' => e = .returned (.int .i64 (k + (x.need.length : Int))) ∧ IntsU w' A B n (seqI k x.need.length) ∧ Chg A B w w' ∧ True := by
  obtain ⟨a, c, rfl⟩ := h.form
  have E0 := Lib.hid ((Ext.refl w).alloc (Obj.cells #[.int .i64 id, .slice a x.need.length c] 42))
  have HU := Lib.hid (h.ext E0.out)
  have C1 : (w.alloc (Obj.cells #[.int .i64 id, .slice a x.need.length c] 42)).cell? ⟨w.heap.size, 1, none⟩ = some (.slice a x.need.length c) := by rw [box_cell]; rfl
  clear h
  go_enter Try.func56, Try.ntmps56
  go_wp2_with fail
  generalize w.alloc (Obj.cells #[.int .i64 id, .slice a x.need.length c] 42) = W at *
  refine (markIntS_any _ x.need k A B _ HU.out h0 h1 hl).mono ?_
  rintro e w1 ⟨rfl, hU, hC, -⟩
  have HF := Lib.hid (show IntsU w1 A B (.slice a x.need.length c) (seqI k x.need.length) ∧ Chg A B w w1 from ⟨hU, ⟨hC.os.trans E0.out.os, hC.tape.trans E0.out.tape, hC.output.trans E0.out.output, Nat.le_trans E0.out.le hC.size, fun b hb hd => (hC.block b (Nat.lt_of_lt_of_le hb E0.out.le) hd).trans (E0.out.block hb)⟩⟩)
  clear hU hC C1
  go_wp2
  go_ret
  exact ⟨rfl, HF.out.1, HF.out.2, trivial⟩

end Go.Proofs.Ytapkpphdkdbclaa
