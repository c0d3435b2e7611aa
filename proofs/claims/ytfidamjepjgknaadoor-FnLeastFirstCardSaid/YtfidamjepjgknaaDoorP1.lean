/- Plain laws of valid tasks and nodes: no program in sight. No condition. -/
import Derived.Test.YtfidamjepjgknaaDoorI4
namespace Go.Proofs.YtfidamjepjgknaaDoor
set_option maxRecDepth 100000

theorem hasB_iff {ts : List T} {k : Nat} {id : Int} : hasB ts k id = true ↔ ∃ t ∈ ts.take k, t.id = id := by
  unfold hasB
  simp
/-- Valid tasks, said without places. -/
theorem tasksOk_iff {room : List Int} {ts : List T} :
    TasksOk room ts ↔ RoomOk room ∧ ts.length ≤ 14 ∧ (∀ t ∈ ts, (1 ≤ t.id ∧ t.id ≤ 40) ∧ vfitsB t.need room = true) ∧ (ts.map T.id).Nodup := by
  unfold TasksOk
  refine and_congr_right fun _ => and_congr_right fun _ => ⟨fun h => ⟨fun t ht => ?_, ?_⟩, fun h k hk => ⟨(h.1 _ (List.getElem_mem hk)).1, ?_, (h.1 _ (List.getElem_mem hk)).2⟩⟩
  · obtain ⟨k, hk, rfl⟩ := List.getElem_of_mem ht
    exact ⟨(h k hk).1, (h k hk).2.2⟩
  · rw [List.Nodup, List.pairwise_iff_getElem]
    intro i j hi hj hij e
    simp only [List.length_map] at hi hj
    have h1 := (h j hj).2.1
    rw [Bool.eq_false_iff] at h1
    refine h1 (hasB_iff.2 ⟨ts[i], ?_, by simpa using e⟩)
    rw [List.mem_take_iff_getElem]
    exact ⟨i, by omega, rfl⟩
  · rw [Bool.eq_false_iff]
    intro x
    obtain ⟨t, ht, e⟩ := hasB_iff.1 x
    rw [List.mem_take_iff_getElem] at ht
    obtain ⟨j, hj, rfl⟩ := ht
    have h2 := h.2
    rw [List.Nodup, List.pairwise_iff_getElem] at h2
    exact h2 j k (by simp; omega) (by simpa using hk) (by omega) (by simpa using e)
theorem tasksOk_perm {room : List Int} {ts us : List T} (h : ts.Perm us) (k : TasksOk room ts) : TasksOk room us := by
  rw [tasksOk_iff] at *
  exact ⟨k.1, by rw [← h.length_eq]; exact k.2.1, fun t ht => k.2.2.1 t (h.mem_iff.2 ht), (h.map T.id).nodup_iff.1 k.2.2.2⟩
theorem tasksOk_sub {room : List Int} {ts us : List T} (h : us.Sublist ts) (k : TasksOk room ts) : TasksOk room us := by
  rw [tasksOk_iff] at *
  exact ⟨k.1, Nat.le_trans h.length_le k.2.1, fun t ht => k.2.2.1 t (h.subset ht), (h.map T.id).nodup k.2.2.2⟩
theorem sub_flat {α : Type} {bs : List (List α)} {b : List α} (h : b ∈ bs) : b.Sublist bs.flatten := by
  induction bs with
  | nil => cases h
  | cons c r ih =>
    rw [List.flatten_cons]
    rcases List.mem_cons.1 h with rfl | h
    · exact List.sublist_append_left _ _
    · exact (ih h).trans (List.sublist_append_right _ _)
theorem binsOk_all {room : List Int} {bs : List (List T)} : BinsOk room bs ↔ TasksOk room bs.flatten ∧ bs.length ≤ 14 ∧ ∀ b ∈ bs, fitsB (loadL b) room = true := by
  unfold BinsOk
  refine and_congr_right fun _ => and_congr_right fun _ => ⟨fun h b hb => ?_, fun h k hk => h _ (List.getElem_mem hk)⟩
  obtain ⟨k, hk, rfl⟩ := List.getElem_of_mem hb
  exact h k hk
theorem binsOk_perm {room : List Int} {bs cs : List (List T)} (h : bs.Perm cs) (k : BinsOk room bs) : BinsOk room cs := by
  rw [binsOk_all] at *
  exact ⟨tasksOk_perm h.flatten k.1, by rw [← h.length_eq]; exact k.2.1, fun b hb => k.2.2 b (h.mem_iff.2 hb)⟩
theorem fits_le {xs ys : List Int} (hx : xs.length = 3) (hy : ys.length = 3) (h : fitsB xs ys = true) : ∀ (k : Nat) (h1 : k < xs.length) (h2 : k < ys.length), xs[k] ≤ ys[k] := by
  match xs, hx, ys, hy with
  | [a, b, c], _, [x, y, z], _ =>
    rw [fitsB_three] at h
    simp only [decide_eq_true_eq] at h
    intro k h1 h2
    simp at h1
    match k, h1 with
    | 0, _ => exact h.1
    | 1, _ => exact h.2.1
    | 2, _ => exact h.2.2
/-- The load of a node whose tasks fit is a vector. -/
theorem vfits_load {room : List Int} {ts : List T} (hT : TasksOk room ts) (hf : fitsB (loadL ts) room = true) : vfitsB (loadL ts) room = true := by
  rw [vfitsB_iff]
  have hr := hT.1
  have hl := (loadL_good ts hT.good).1
  refine ⟨⟨hl, fun n hn => ?_⟩, hr.1, hf⟩
  refine ⟨loadL_nonneg ts hT.nonneg n hn, ?_⟩
  obtain ⟨k, hk, rfl⟩ := List.getElem_of_mem hn
  have h1 := fits_le hl hr.1.1 hf k hk (by have := hr.1.1; omega)
  have h2 := (hr.1.2 _ (List.getElem_mem (by have := hr.1.1; omega : k < room.length))).2
  omega

/-- Does a task fit a node beside its tasks? -/
def fits11 (room : List Int) (b : List T) (x : T) : Bool := fitsB (addL (loadL b) x.need 1) room
def at11 (room : List Int) (bs : List (List T)) (x : T) : Option Nat := bs.findIdx? fun b => fits11 room b x
def ok11 (room : List Int) (bs : List (List T)) (x : T) : Bool := binsB room bs && tasksB room (bs.flatten ++ [x])
def nodeI (o : Option Nat) : Int := match o with | some i => (i : Int) | none => -1
def firstAtI (room : List Int) (bs : List (List T)) (x : T) : Int := if ok11 room bs x = true then nodeI (at11 room bs x) else -1
def where0 (bs : List (List T)) (id : Int) : Option Nat := bs.findIdx? fun b => b.any fun t => t.id == id
def whereI (room : List Int) (bs : List (List T)) (id : Int) : Int := if binsB room bs = true then nodeI (where0 bs id) else -1
def emptyL (bs : List (List T)) : List Int := ((List.range bs.length).filter fun i => (bs.getD i []).isEmpty).map fun (i : Nat) => (i : Int)
def emptiesL (room : List Int) (bs : List (List T)) : List Int := if binsB room bs = true then emptyL bs else []
theorem nodeI_nonneg {o : Option Nat} : 0 ≤ nodeI o ↔ o.isSome = true := by cases o <;> simp [nodeI] <;> omega

theorem bins_one {room : List Int} {b : List T} : binsB room [b] = (tasksB room b && fitsB (loadL b) room) := by
  rw [Bool.eq_iff_iff, Bool.and_eq_true, binsB_iff, binsOk_all, tasksB_iff]
  simp
/-- A node with one task more is valid where the task fits. -/
theorem bins_more {room : List Int} {bs : List (List T)} {x : T} (h : TasksOk room (bs.flatten ++ [x])) {b : List T} (hb : b ∈ bs) : binsB room [b ++ [x]] = fits11 room b x := by
  rw [bins_one, loadL_snoc, tasksB_iff.2 (tasksOk_sub ((sub_flat hb).append (List.Sublist.refl _)) h)]
  simp [fits11]
theorem addL_zero {xs : List Int} (h : xs.length = 3) : addL [0, 0, 0] xs 1 = xs := by
  match xs, h with
  | [a, b, c], _ => simp [addL]
/-- A task that is valid fits an empty node. -/
theorem fits_empty {room : List Int} {ts : List T} {x : T} (h : TasksOk room (ts ++ [x])) : fits11 room [] x = true := by
  have h1 := ((tasksOk_iff.1 h).2.2.1 x (by simp)).2
  rw [vfitsB_iff] at h1
  unfold fits11
  rw [show loadL [] = [0, 0, 0] from rfl, addL_zero h1.1.1]
  exact h1.2.2
/-- Nodes with the task alone in a further one. -/
theorem bins_new {room : List Int} {bs : List (List T)} {x : T} (h : BinsOk room (bs ++ [[x]])) : ok11 room bs x = true ∧ TasksOk room (bs.flatten ++ [x]) := by
  rw [binsOk_all] at h
  have h1 : TasksOk room (bs.flatten ++ [x]) := by simpa using h.1
  refine ⟨?_, h1⟩
  unfold ok11
  rw [Bool.and_eq_true, binsB_iff, binsOk_all, tasksB_iff]
  refine ⟨⟨tasksOk_sub (List.sublist_append_left _ _) h1, by have := h.2.1; simp at this; omega, fun b hb => h.2.2 b (by simp [hb])⟩, h1⟩

end Go.Proofs.YtfidamjepjgknaaDoor
