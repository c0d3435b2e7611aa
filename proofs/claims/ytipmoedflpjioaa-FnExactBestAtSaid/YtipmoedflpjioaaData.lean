/- What the program computes, as plain functions on lists of numbers and tasks. No condition. -/
import Derived.Test.YtipmoedflpjioaaRep
namespace Go.Proofs.Ytipmoedflpjioaa
set_option maxRecDepth 100000

theorem ret_bool {a b : Bool} (h : a = b) : Ending.returned (.bool a) = .returned (.bool b) := by rw [h]
theorem ret_int {k : IntKind} {a b : Int} (h : a = b) : Ending.returned (.int k a) = .returned (.int k b) := by rw [h]

/-- Does a number lie between two others? -/
def inB (n lo hi : Int) : Bool := decide (lo ≤ n ∧ n ≤ hi)
theorem inB_true {n lo hi : Int} (h1 : lo ≤ n) (h2 : n ≤ hi) : inB n lo hi = true := by simp [inB, h1, h2]
theorem inB_false {n lo hi : Int} (h : ¬ (lo ≤ n ∧ n ≤ hi)) : inB n lo hi = false := by simpa [inB] using h
theorem inB_iff {n lo hi : Int} : inB n lo hi = true ↔ lo ≤ n ∧ n ≤ hi := by simp [inB]

/-- A vector: three numbers from 0 to 20. -/
def VecOk (xs : List Int) : Prop := xs.length = 3 ∧ ∀ n ∈ xs, 0 ≤ n ∧ n ≤ 20
instance (xs : List Int) : Decidable (VecOk xs) := by unfold VecOk; infer_instance
def vecB (xs : List Int) : Bool := decide (VecOk xs)
theorem vecB_iff {xs : List Int} : vecB xs = true ↔ VecOk xs := by simp [vecB]
theorem VecOk.three {xs : List Int} (h : VecOk xs) : ∃ x y z, xs = [x, y, z] ∧ 0 ≤ x ∧ x ≤ 20 ∧ 0 ≤ y ∧ y ≤ 20 ∧ 0 ≤ z ∧ z ≤ 20 := by
  obtain ⟨hl, hm⟩ := h
  match xs, hl with
  | [x, y, z], _ =>
    have h1 := hm x (by simp)
    have h2 := hm y (by simp)
    have h3 := hm z (by simp)
    exact ⟨x, y, z, rfl, h1.1, h1.2, h2.1, h2.2, h3.1, h3.2⟩

/-- Is no number greater? -/
def fitsB (xs ys : List Int) : Bool := (List.zip xs ys).all fun p => decide (p.1 ≤ p.2)
theorem fitsB_three (a b c x y z : Int) : fitsB [a, b, c] [x, y, z] = decide (a ≤ x ∧ b ≤ y ∧ c ≤ z) := by
  simp [fitsB, Bool.decide_and]

def vfitsB (xs ys : List Int) : Bool := vecB xs && vecB ys && fitsB xs ys

/-- A vector plus another one, some times. -/
def addL (xs ys : List Int) (t : Int) : List Int := List.zipWith (fun x y => x + t * y) xs ys

/-- What tasks need together. -/
def loadL (ts : List T) : List Int := ts.foldl (fun s t => addL s t.need 1) [0, 0, 0]

/-- A room: a vector without zeros. -/
def RoomOk (xs : List Int) : Prop := VecOk xs ∧ ∀ n ∈ xs, 1 ≤ n
instance (xs : List Int) : Decidable (RoomOk xs) := by unfold RoomOk; infer_instance
def roomB (xs : List Int) : Bool := decide (RoomOk xs)
theorem roomB_iff {xs : List Int} : roomB xs = true ↔ RoomOk xs := by simp [roomB]

/-- Does one of the first tasks have a number? -/
def hasB (ts : List T) (many : Nat) (id : Int) : Bool := (ts.take many).any fun t => t.id == id

/-- Tasks are valid. -/
def TasksOk (room : List Int) (ts : List T) : Prop :=
  RoomOk room ∧ ts.length ≤ 14 ∧ ∀ k (h : k < ts.length), (1 ≤ ts[k].id ∧ ts[k].id ≤ 40) ∧ hasB ts k ts[k].id = false ∧ vfitsB ts[k].need room = true
instance (room : List Int) (ts : List T) : Decidable (TasksOk room ts) := by unfold TasksOk; infer_instance
def tasksB (room : List Int) (ts : List T) : Bool := decide (TasksOk room ts)
theorem tasksB_iff {room : List Int} {ts : List T} : tasksB room ts = true ↔ TasksOk room ts := by simp [tasksB]

end Go.Proofs.Ytipmoedflpjioaa
