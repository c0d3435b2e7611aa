/- The program: the nodes with room, one after the other; the first of them. -/
import Derived.Test.YtfidamjepjgknaaDoorI9
import Derived.Deep.Slices
import Derived.RangeFuncNested
import Derived.RangeFuncBound
import Derived.RangeFuncCalls
import Derived.RangeFuncLeaves
import Derived.RangeFuncBox
import Derived.Shelf.Abstract
import Derived.Shelf.RegionOpen
import Derived.OwnWalkIn
import Derived.TacticsInMore
import Derived.LoopNIn
import Derived.LoopIn
namespace Go.Proofs.YtfidamjepjgknaaDoor
set_option maxRecDepth 100000
open Go.RowKit Go.Shelf
attribute [local go_sem] Oper.semAt_some

/-- The nodes with room among the first k: their places and their slices. -/
def cameL (V : Nat → Value) (p : Nat → Bool) : Nat → List (Nat × Value)
  | 0 => []
  | k + 1 => if p k then cameL V p k ++ [(k, V k)] else cameL V p k
theorem cameL_len (V : Nat → Value) (p : Nat → Bool) (k : Nat) : (cameL V p k).length ≤ k := by
  induction k with
  | zero => simp [cameL]
  | succ k ih =>
    unfold cameL
    split
    · rw [List.length_append, List.length_singleton]; omega
    · omega
theorem Ext.grown {w w' : World} (h : Ext w w') : w.grownBy w' none := ⟨h.os, h.tape, h.output, h.le, fun _ hk _ => h.block hk⟩

/-- What the iterator reads: the nodes, the room and the task in their boxes. -/
structure RoomIt (w : World) (pb pr px : Nat) (a : Option Addr) (cap : Nat) (vr : Value) (nxa : Option Addr) (nxc : Nat) (room : List Int) (bs : List (List T)) (x : T) (V : Nat → Value) : Prop where
  cbins : w.cell? ⟨pb, 0, none⟩ = some (.slice a bs.length cap)
  croom : w.cell? ⟨pr, 0, none⟩ = some vr
  cid : w.cell? ⟨px, 0, none⟩ = some (.int .i64 x.id)
  cneed : w.cell? ⟨px, 1, none⟩ = some (.slice nxa x.need.length nxc)
  len : bs.length ≤ 4194304
  row : ∀ k (hk : k < bs.length), ∃ b off, a = some ⟨b, off, none⟩ ∧ w.cell? ⟨b, off + k, none⟩ = some (V k) ∧ Tasks w (V k) bs[k]
  rroom : Ints w vr room
  rneed : Ints w (.slice nxa x.need.length nxc) x.need
  three : room.length = 3
  good : GoodB bs
  good1 : Good1 x
theorem RoomIt.ext {w w' : World} {pb pr px : Nat} {a : Option Addr} {cap : Nat} {vr : Value} {nxa : Option Addr} {nxc : Nat} {room : List Int} {bs : List (List T)} {x : T} {V : Nat → Value} (h : RoomIt w pb pr px a cap vr nxa nxc room bs x V) (k : Ext w w') : RoomIt w' pb pr px a cap vr nxa nxc room bs x V :=
  ⟨k.cell h.cbins, k.cell h.croom, k.cell h.cid, k.cell h.cneed, h.len, fun j hj => let ⟨b, off, e, c, t⟩ := h.row j hj; ⟨b, off, e, k.cell c, t.ext k⟩, h.rroom.ext k, h.rneed.ext k, h.three, h.good, h.good1⟩
/-- The nodes with room before place k. -/
def cameR (room : List Int) (bs : List (List T)) (x : T) (V : Nat → Value) (k : Nat) : List (Nat × Value) := cameL V (fun k => fits11 room (bs.getD k []) x) k

theorem cameR_none {room : List Int} {bs : List (List T)} {x : T} {V : Nat → Value} {k : Nat} (h : cameR room bs x V k = []) : ∀ j, j < k → fits11 room (bs.getD j []) x = false := by
  induction k with
  | zero => intro j hj; omega
  | succ k ih =>
    unfold cameR at h
    rw [cameL] at h
    split at h
    · simp at h
    · rename_i hk
      intro j hj
      by_cases e : j = k
      · subst e; simpa using hk
      · exact ih h j (by omega)

end Go.Proofs.YtfidamjepjgknaaDoor
