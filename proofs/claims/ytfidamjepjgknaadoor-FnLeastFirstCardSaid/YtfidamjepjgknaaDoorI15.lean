/- The program: all tasks are put where a chooser tells: first fit and best fit; a task is put into nodes that are copied. -/
import Derived.Test.YtfidamjepjgknaaDoorI14
import Derived.Test.YtfidamjepjgknaaDoorI10
namespace Go.Proofs.YtfidamjepjgknaaDoor
set_option maxRecDepth 100000
open Go.RowKit

/-- A function that tells the node for a task. -/
def Tells (F : Nat) (room : List Int) (ts : List T) (c : List (List T) → T → Option Nat) : Prop :=
  ∀ (v u n : Value) (bs : List (List T)) (x : T) (w : World), x ∈ ts → (∀ b ∈ bs, ∀ t ∈ b, t ∈ ts) → bs.flatten.length ≤ 50 → Ints w v room → Bins w u bs → Ints w n x.need →
    Calls Tryd.prog F #[v, u, .agg #[.int .i64 x.id, n]] w fun e w' => e = .returned (.int .i64 (nodeI (c bs x))) ∧ Ext w w'
/-- The nodes that hold the first tasks. -/
theorem allL_small {room : List Int} {c : List (List T) → T → Option Nat} (hc : Chooses room c) {ts : List T} (hT : TasksOk room ts) (k : Nat) : (allL c (ts.take k)).length ≤ 14 ∧ (allL c (ts.take k)).flatten.length ≤ 14 ∧ (∀ b ∈ allL c (ts.take k), ∀ t ∈ b, t ∈ ts) ∧ (∀ b ∈ allL c (ts.take k), b.length ≤ 14 ∧ ∀ t ∈ b, t.need.length ≤ 14) := by
  obtain ⟨h1, h2, h3⟩ := allL_perm hc (ts.take k)
  have hl := hT.2.1
  have ht : (ts.take k).length ≤ ts.length := by simp; omega
  have hm : ∀ b ∈ allL c (ts.take k), ∀ t ∈ b, t ∈ ts := fun b hb t ht => (List.take_subset k ts) (h1.subset (List.mem_flatten.2 ⟨b, hb, ht⟩))
  have hf : (allL c (ts.take k)).flatten.length ≤ 14 := by rw [h1.length_eq]; omega
  exact ⟨by omega, hf, hm, fun b hb => ⟨by have := (sub_flat hb).length_le; omega, fun t ht => by have := (hT.good t (hm b hb t ht)).1; omega⟩⟩

/-- All tasks put by first fit, by best fit. -/
def firstAllL (room : List Int) (ts : List T) : List (List T) := if tasksB room ts = true then allL (at11 room) ts else []
def bestAllL (room : List Int) (ts : List T) : List (List T) := if tasksB room ts = true then allL (best12 room) ts else []

end Go.Proofs.YtfidamjepjgknaaDoor
