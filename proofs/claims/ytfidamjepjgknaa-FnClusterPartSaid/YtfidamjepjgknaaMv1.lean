/- The next move: which it is; the reference's way to it. No condition. -/
import Derived.Test.YtfidamjepjgknaaS10
import Derived.Test.YtfidamjepjgknaaI10
import Derived.Test.YtfidamjepjgknaaPut
import Derived.Test.YtfidamjepjgknaaReg
import Derived.Test.YtfidamjepjgknaaMvR
namespace Go.Proofs.Ytfidamjepjgknaa
set_option maxRecDepth 100000
open Go.RowKit

/-- A task of node i and the first earlier node in which it has room. -/
def tryO (room : List Int) (bs : List (List T)) (i : Nat) (x : T) : Option (Int × Nat) := (at11 room (bs.take i) x).map fun k => (x.id, k)
/-- The move of the first task of the last of the nodes below m that can go to an earlier node. -/
def nextR (room : List Int) (bs : List (List T)) : Nat → Option (Int × Nat)
  | 0 => none
  | m + 1 => ((bs.getD m []).findSome? (tryO room bs m)).or (nextR room bs m)
def nextO (room : List Int) (bs : List (List T)) : Option (Int × Nat) := nextR room bs bs.length
theorem at11_nil (room : List Int) (x : T) : at11 room [] x = none := rfl
theorem nextR_one (room : List Int) (bs : List (List T)) {m : Nat} (h : m ≤ 1) : nextR room bs m = none := by
  match m, h with
  | 0, _ => rfl
  | 1, _ =>
    show ((bs.getD 0 []).findSome? (tryO room bs 0)).or none = none
    have : (bs.getD 0 []).findSome? (tryO room bs 0) = none := by
      rw [List.findSome?_eq_none_iff]
      intro x _
      simp [tryO, at11_nil]
    rw [this]; rfl
theorem nextR_succ (room : List Int) (bs : List (List T)) {j : Nat} (h : j < bs.length) : nextR room bs (j + 1) = ((bs[j].drop 0).findSome? (tryO room bs j)).or (nextR room bs j) := by
  show ((bs.getD j []).findSome? (tryO room bs j)).or (nextR room bs j) = _
  rw [List.getD_eq_getElem?_getD, List.getElem?_eq_getElem h]; rfl
theorem next_step {room : List Int} {bs : List (List T)} {j q : Nat} {b : List T} (hq : q < b.length) (r : Option (Int × Nat)) :
    ((b.drop q).findSome? (tryO room bs j)).or r = match at11 room (bs.take j) b[q] with | some k => some (b[q].id, k) | none => ((b.drop (q + 1)).findSome? (tryO room bs j)).or r := by
  rw [List.drop_eq_getElem_cons hq, List.findSome?_cons]
  unfold tryO
  cases at11 room (bs.take j) b[q] <;> rfl
/-- What the function answers. -/
def nextV (o : Option (Int × Nat)) : Value := match o with
  | some (id, k) => .tuple #[.agg #[.int .i64 id, .int .i64 (k : Int)], .bool true]
  | none => .tuple #[.agg #[.int .i64 0, .int .i64 0], .bool false]
theorem at11_le {room : List Int} {bs : List (List T)} {x : T} {k : Nat} (h : at11 room bs x = some k) : k < bs.length := (List.findIdx?_eq_some_iff_getElem.1 h).1

theorem next_end {w wr : World} {id k : Int} {g : Nat} {o : Option (Int × Nat)} {j : Nat} (hg : g = w.heap.size) (hk : k = (j : Int)) (ho : o = some (id, j)) (hE : Ext w wr) : Ending.returned (.tuple #[.agg #[.int .i64 id, .int .i64 k], .bool true]) = .returned (nextV o) ∧ Ext w ((wr.setCell ⟨g, 0, none⟩ (.int .i64 id)).setCell ⟨g, 1, none⟩ (.int .i64 k)) := by
  subst hg hk ho
  exact ⟨rfl, (hE.setCell (p := ⟨w.heap.size, 0, none⟩) (Nat.le_refl _) _).setCell (p := ⟨w.heap.size, 1, none⟩) (Nat.le_refl _) _⟩
theorem next_none {w wr : World} {g : Nat} {o : Option (Int × Nat)} (hg : g = w.heap.size) (ho : o = none) (hE : Ext w wr) : Ending.returned (.tuple #[.agg #[.int .i64 0, .int .i64 0], .bool false]) = .returned (nextV o) ∧ Ext w ((wr.setCell ⟨g, 0, none⟩ (.int .i64 0)).setCell ⟨g, 1, none⟩ (.int .i64 0)) := by
  subst hg ho
  exact ⟨rfl, (hE.setCell (p := ⟨w.heap.size, 0, none⟩) (Nat.le_refl _) _).setCell (p := ⟨w.heap.size, 1, none⟩) (Nat.le_refl _) _⟩

def gatherO (room : List Int) (bs : List (List T)) : Option (Int × Nat) := if binsB room bs = true then nextO room bs else none

end Go.Proofs.Ytfidamjepjgknaa
