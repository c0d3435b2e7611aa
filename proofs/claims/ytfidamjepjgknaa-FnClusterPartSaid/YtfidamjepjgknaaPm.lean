/- Plain laws of moves: where a task is; what the next move is. No program in sight. No condition. -/
import Derived.Test.YtfidamjepjgknaaMv1
import Derived.Test.YtfidamjepjgknaaP1
import Derived.Test.YtfidamjepjgknaaI8
namespace Go.Proofs.Ytfidamjepjgknaa
set_option maxRecDepth 100000

theorem flat_three {α : Type} (bs : List (List α)) {k : Nat} (hk : k < bs.length) : bs.flatten = (bs.take k).flatten ++ (bs[k] ++ (bs.drop (k + 1)).flatten) := by
  conv => lhs; rw [← List.take_append_drop k bs, List.flatten_append, List.drop_eq_getElem_cons hk, List.flatten_cons]
theorem where_at {room : List Int} {bs : List (List T)} (h : TasksOk room bs.flatten) {k i : Nat} (hk : k < bs.length) (hi : i < bs[k].length) : where0 bs bs[k][i].id = some k := by
  have nd := (tasksOk_iff.1 h).2.2.2
  rw [flat_three bs hk, List.map_append, List.map_append] at nd
  have ap := (List.nodup_append.1 nd).2.2
  unfold where0
  rw [List.findIdx?_eq_some_iff_getElem]
  refine ⟨hk, ?_, fun j hj => ?_⟩
  · rw [List.any_eq_true]
    exact ⟨bs[k][i], List.getElem_mem hi, by simp⟩
  · rw [Bool.not_eq_true, List.any_eq_false]
    intro t ht e
    have e := beq_iff_eq.1 e
    have hjk : j < (bs.take k).length := by simp; omega
    have m1 : t.id ∈ (bs.take k).flatten.map T.id := List.mem_map_of_mem (List.mem_flatten.2 ⟨(bs.take k)[j], List.getElem_mem hjk, by rw [List.getElem_take]; exact ht⟩)
    have m2 : bs[k][i].id ∈ bs[k].map T.id ++ ((bs.drop (k + 1)).flatten).map T.id := List.mem_append.2 (.inl (List.mem_map_of_mem (List.getElem_mem hi)))
    exact ap _ m1 _ m2 e
theorem find_at {room : List Int} {ts : List T} (h : TasksOk room ts) {i : Nat} (hi : i < ts.length) : ts.findIdx? (isId ts[i].id) = some i := by
  have nd := (tasksOk_iff.1 h).2.2.2
  rw [List.Nodup, List.pairwise_iff_getElem] at nd
  rw [List.findIdx?_eq_some_iff_getElem]
  refine ⟨hi, by simp [isId], fun j hj => ?_⟩
  have := nd j i (by simp; omega) (by simpa using hi) hj
  simp only [List.getElem_map] at this
  simpa [isId] using this
theorem nextR_spec {room : List Int} {bs : List (List T)} {id : Int} {to : Nat} : ∀ {m : Nat}, m ≤ bs.length → nextR room bs m = some (id, to) → ∃ (k i : Nat) (hk : k < bs.length) (hi : i < bs[k].length), id = bs[k][i].id ∧ at11 room (bs.take k) bs[k][i] = some to := by
  intro m
  induction m with
  | zero => intro _ h; simp [nextR] at h
  | succ m ih =>
    intro hm h
    rw [nextR, Option.or_eq_some_iff] at h
    rcases h with h | ⟨_, h⟩
    · obtain ⟨x, hx, h⟩ := List.exists_of_findSome?_eq_some h
      have hmb : m < bs.length := by omega
      rw [List.getD_eq_getElem?_getD, List.getElem?_eq_getElem hmb, Option.getD_some] at hx
      obtain ⟨i, hi, rfl⟩ := List.getElem_of_mem hx
      unfold tryO at h
      obtain ⟨q, hq, e⟩ := Option.map_eq_some_iff.1 h
      simp only [Prod.mk.injEq] at e
      obtain ⟨rfl, rfl⟩ := e
      exact ⟨m, i, hmb, hi, rfl, hq⟩
    · exact ih (by omega) h
/-- A move that is possible. -/
structure CanL (room : List Int) (bs : List (List T)) (id : Int) (k i to : Nat) : Prop where
  hk : k < bs.length
  hi : i < bs[k].length
  hto : to < bs.length
  ne : to ≠ k
  ids : id = bs[k][i].id
  wh : where0 bs id = some k
  fd : bs[k].findIdx? (isId id) = some i
  fit : fits11 room bs[to] bs[k][i] = true
theorem canL_of {room : List Int} {bs : List (List T)} (h : TasksOk room bs.flatten) {k i to : Nat} (hk : k < bs.length) (hi : i < bs[k].length) (hto : to < bs.length) (ne : to ≠ k) (fit : fits11 room bs[to] bs[k][i] = true) : CanL room bs bs[k][i].id k i to :=
  ⟨hk, hi, hto, ne, rfl, where_at h hk hi, find_at (tasksOk_sub (sub_flat (List.getElem_mem hk)) h) hi, fit⟩
theorem next_can {room : List Int} {bs : List (List T)} (h : binsB room bs = true) {id : Int} {to : Nat} (hn : nextO room bs = some (id, to)) : ∃ k i, to < k ∧ CanL room bs id k i to := by
  obtain ⟨k, i, hk, hi, rfl, ha⟩ := nextR_spec (Nat.le_refl _) hn
  obtain ⟨h1, h2, -⟩ := List.findIdx?_eq_some_iff_getElem.1 ha
  simp only [List.length_take] at h1
  rw [List.getElem_take] at h2
  exact ⟨k, i, by omega, canL_of (binsOk_all.1 (binsB_iff.1 h)).1 hk hi (by omega) (by omega) h2⟩

end Go.Proofs.Ytfidamjepjgknaa
