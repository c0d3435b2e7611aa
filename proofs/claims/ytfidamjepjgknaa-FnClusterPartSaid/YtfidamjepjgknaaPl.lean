/- Plain laws of a plan: moves one after another; what a move leaves is valid. No condition. -/
import Derived.Test.YtfidamjepjgknaaPm
import Derived.Test.YtfidamjepjgknaaP2
import Derived.Test.YtfidamjepjgknaaMd
namespace Go.Proofs.Ytfidamjepjgknaa
set_option maxRecDepth 100000

/-- The nodes without a task's number; the last task with it. -/
def restL (bs : List (List T)) (id : Int) : List (List T) := bs.map fun b => b.filter fun t => !(t.id == id)
def foundL (id : Int) (l : List T) (d : T) : T := l.foldl (fun d t => if t.id = id then t else d) d
theorem foundL_app (id : Int) (l m : List T) (d : T) : foundL id (l ++ m) d = foundL id m (foundL id l d) := by simp [foundL]
theorem found_none {id : Int} {l : List T} (h : ∀ t ∈ l, t.id ≠ id) (d : T) : foundL id l d = d := by
  induction l generalizing d with
  | nil => rfl
  | cons t r ih =>
    show foundL id r (if t.id = id then t else d) = d
    rw [if_neg (h t (by simp))]
    exact ih (fun u hu => h u (by simp [hu])) d
theorem found_mem {id : Int} {l : List T} (h : ∃ t ∈ l, t.id = id) (d : T) : foundL id l d ∈ l ∧ (foundL id l d).id = id := by
  induction l generalizing d with
  | nil => obtain ⟨t, h, _⟩ := h; cases h
  | cons t r ih =>
    show foundL id r (if t.id = id then t else d) ∈ t :: r ∧ (foundL id r (if t.id = id then t else d)).id = id
    by_cases hr : ∃ u ∈ r, u.id = id
    · obtain ⟨h1, h2⟩ := ih hr (if t.id = id then t else d)
      exact ⟨List.mem_cons_of_mem _ h1, h2⟩
    · have hn : ∀ u ∈ r, u.id ≠ id := fun u hu e => hr ⟨u, hu, e⟩
      obtain ⟨u, hu, e⟩ := h
      rcases List.mem_cons.1 hu with rfl | hu
      · rw [found_none hn, if_pos e]; exact ⟨by simp, e⟩
      · exact absurd e (hn u hu)
theorem only_at {room : List Int} {bs : List (List T)} {id : Int} {k i to : Nat} (h : TasksOk room bs.flatten) (c : CanL room bs id k i to) {j : Nat} (hj : j < bs.length) {l : Nat} (hl : l < bs[j].length) (e : bs[j][l].id = id) : j = k ∧ (j = k → l = i) := by
  have w1 := where_at h hj hl
  rw [e, c.wh] at w1
  simp only [Option.some.injEq] at w1
  refine ⟨w1.symm, fun ej => ?_⟩
  subst ej
  have f1 := find_at (tasksOk_sub (sub_flat (List.getElem_mem hj)) h) hl
  rw [e, c.fd] at f1
  simp only [Option.some.injEq] at f1
  exact f1.symm
theorem found_can {room : List Int} {bs : List (List T)} {id : Int} {k i to : Nat} (h : TasksOk room bs.flatten) (c : CanL room bs id k i to) (d : T) : foundL id bs.flatten d = (bs[k]'c.hk)[i]'c.hi := by
  have hk := c.hk
  have hi := c.hi
  obtain ⟨h1, h2⟩ := found_mem (l := bs.flatten) (id := id) ⟨bs[k][i], List.mem_flatten.2 ⟨bs[k], List.getElem_mem hk, List.getElem_mem hi⟩, c.ids.symm⟩ d
  obtain ⟨b, hb, hm⟩ := List.mem_flatten.1 h1
  obtain ⟨j, hj, rfl⟩ := List.getElem_of_mem hb
  obtain ⟨l, hl, el⟩ := List.getElem_of_mem hm
  rw [← el] at h2 ⊢
  obtain ⟨rfl, h4⟩ := only_at h c hj hl h2
  have := h4 rfl
  subst this
  rfl
theorem rest_can {room : List Int} {bs : List (List T)} {id : Int} {k i to : Nat} (h : TasksOk room bs.flatten) (c : CanL room bs id k i to) : restL bs id = bs.set k ((bs.getD k []).take i ++ (bs.getD k []).drop (i + 1)) := by
  have hk := c.hk
  have hi := c.hi
  rw [getD_at hk]
  refine List.ext_getElem (by simp [restL]) fun j h1 h2 => ?_
  have hj : j < bs.length := by simpa [restL] using h1
  rw [List.getElem_set]
  have e1 : (restL bs id)[j] = bs[j].filter fun t => !(t.id == id) := by simp [restL]
  rw [e1]
  split
  · rename_i e
    subst e
    have cut : bs[k] = bs[k].take i ++ bs[k][i] :: bs[k].drop (i + 1) := by
      conv => lhs; rw [← List.take_append_drop i bs[k], List.drop_eq_getElem_cons hi]
    conv => lhs; rw [cut]
    rw [List.filter_append, List.filter_cons_of_neg (by simp [c.ids])]
    congr 1
    · rw [List.filter_eq_self]
      intro t ht
      obtain ⟨l, hl, rfl⟩ := List.getElem_of_mem ht
      have hl2 : l < bs[k].length := by simp at hl; omega
      rw [List.getElem_take]
      simp only [Bool.not_eq_true', beq_eq_false_iff_ne]
      intro e
      have := (only_at h c hk hl2 e).2 rfl
      simp at hl; omega
    · rw [List.filter_eq_self]
      intro t ht
      obtain ⟨l, hl, rfl⟩ := List.getElem_of_mem ht
      have hl2 : i + 1 + l < bs[k].length := by simp at hl; omega
      rw [List.getElem_drop]
      simp only [Bool.not_eq_true', beq_eq_false_iff_ne]
      intro e
      have := (only_at h c hk hl2 e).2 rfl
      omega
  · rename_i e
    rw [List.filter_eq_self]
    intro t ht
    obtain ⟨l, hl, rfl⟩ := List.getElem_of_mem ht
    simp only [Bool.not_eq_true', beq_eq_false_iff_ne]
    intro e'
    exact e (only_at h c hj hl e').1.symm

theorem getD_set_ne {bs : List (List T)} {k to : Nat} (u : List T) (ne : to ≠ k) (h : to < bs.length) : (bs.set k u).getD to [] = bs[to] := by
  rw [getD_at (by simpa using h), List.getElem_set_ne (fun e => ne e.symm)]
/-- What the reference builds is the nodes after the move. -/
theorem do_can {room : List Int} {bs : List (List T)} {id : Int} {k i to : Nat} (h : TasksOk room bs.flatten) (c : CanL room bs id k i to) : (restL bs id).set to ((restL bs id).getD to [] ++ [foundL id bs.flatten ⟨0, []⟩]) = movL bs k i to ((bs[k]'c.hk)[i]'c.hi) := by
  rw [found_can h c, rest_can h c, getD_set_ne _ c.ne c.hto]
  unfold movL
  rw [getD_at c.hto]

theorem flat_set {α : Type} {bs : List (List α)} {k i : Nat} (hk : k < bs.length) (hi : i < bs[k].length) : ((bs.set k (bs[k].take i ++ bs[k].drop (i + 1))).flatten ++ [bs[k][i]]).Perm bs.flatten := by
  induction bs generalizing k with
  | nil => simp at hk
  | cons b r ih =>
    cases k with
    | zero =>
      simp only [List.set_cons_zero, List.getElem_cons_zero, List.flatten_cons] at hi ⊢
      refine (List.perm_append_comm (l₂ := [b[i]])).trans ?_
      rw [← List.append_assoc]
      refine List.Perm.append_right _ ?_
      have : b.Perm (b[i] :: (b.take i ++ b.drop (i + 1))) := by
        conv => lhs; rw [← List.take_append_drop i b, List.drop_eq_getElem_cons hi]
        exact List.perm_middle
      exact this.symm
    | succ k =>
      simp only [List.set_cons_succ, List.getElem_cons_succ, List.flatten_cons, List.append_assoc] at hi ⊢
      exact List.Perm.append_left b (ih (by simpa using hk) hi)
theorem mov_perm {room : List Int} {bs : List (List T)} {id : Int} {k i to : Nat} (c : CanL room bs id k i to) : (movL bs k i to ((bs[k]'c.hk)[i]'c.hi)).flatten.Perm bs.flatten := by
  have hk := c.hk
  have hi := c.hi
  have hto : to < (bs.set k (bs[k].take i ++ bs[k].drop (i + 1))).length := by simpa using c.hto
  have e : (bs.set k (bs[k].take i ++ bs[k].drop (i + 1)))[to] = bs[to]'c.hto := List.getElem_set_ne (fun e => c.ne e.symm) _
  have p := set_flat hto bs[k][i]
  rw [e] at p
  unfold movL
  rw [getD_at hk, getD_at c.hto]
  exact p.trans (flat_set hk hi)
theorem mov_len (bs : List (List T)) (k i to : Nat) (x : T) : (movL bs k i to x).length = bs.length := by simp [movL]
theorem mov_ok {room : List Int} {bs : List (List T)} {id : Int} {k i to : Nat} (h : binsB room bs = true) (c : CanL room bs id k i to) : binsB room (movL bs k i to ((bs[k]'c.hk)[i]'c.hi)) = true := by
  have hk := c.hk
  have hi := c.hi
  rw [binsB_iff, binsOk_all] at h ⊢
  obtain ⟨h1, h2, h3⟩ := h
  have h1' := tasksOk_perm (mov_perm c).symm h1
  refine ⟨h1', by rw [mov_len]; exact h2, fun b hb => ?_⟩
  have g : Ge0 bs[k] := (h1.ge0).sub fun t ht => List.mem_flatten.2 ⟨_, List.getElem_mem hk, ht⟩
  unfold movL at hb
  rw [getD_at hk, getD_at c.hto] at hb
  rcases List.mem_or_eq_of_mem_set hb with hb | rfl
  · rcases List.mem_or_eq_of_mem_set hb with hb | rfl
    · exact h3 b hb
    · refine fits_sub h1.1.1.1 ?_ g (h3 _ (List.getElem_mem hk))
      conv => rhs; rw [← List.take_append_drop i bs[k], List.drop_eq_getElem_cons hi]
      exact (List.Sublist.refl _).append (List.sublist_cons_self _ _)
  · have := c.fit
    rw [fits11_load] at this
    exact this

/-- The nodes after a move that is told by its number and its node. -/
def stepL (bs : List (List T)) (id : Int) (to : Nat) : List (List T) :=
  match where0 bs id with
  | none => bs
  | some k => match (bs.getD k []).findIdx? (isId id) with
    | none => bs
    | some i => movL bs k i to ((bs.getD k []).getD i ⟨0, []⟩)
theorem step_can {room : List Int} {bs : List (List T)} {id : Int} {k i to : Nat} (c : CanL room bs id k i to) : stepL bs id to = movL bs k i to ((bs[k]'c.hk)[i]'c.hi) := by
  have hk := c.hk
  have hi := c.hi
  unfold stepL
  rw [c.wh]
  simp only [getD_at hk, c.fd]
  congr 1
  simp [List.getD_eq_getElem?_getD, List.getElem?_eq_getElem hi]
/-- The plan: at most n moves. -/
def planL (room : List Int) : Nat → List (List T) → List Pr
  | 0, _ => []
  | n + 1, bs => match nextO room bs with
    | none => []
    | some (id, to) => ⟨id, (to : Int)⟩ :: planL room n (stepL bs id to)
theorem plan_len (room : List Int) : ∀ (n : Nat) (bs : List (List T)), (planL room n bs).length ≤ n := by
  intro n
  induction n with
  | zero => intro bs; simp [planL]
  | succ n ih =>
    intro bs
    unfold planL
    cases nextO room bs with
    | none => simp
    | some p => have := ih (stepL bs p.1 p.2); simp; omega
theorem plan_take (room : List Int) : ∀ (k n : Nat) (bs : List (List T)), k ≤ n → planL room k bs = (planL room n bs).take k := by
  intro k
  induction k with
  | zero => intro n bs _; simp [planL]
  | succ k ih =>
    intro n bs h
    obtain ⟨m, rfl⟩ : ∃ m, n = m + 1 := ⟨n - 1, by omega⟩
    unfold planL
    cases nextO room bs with
    | none => simp
    | some p => simp [ih m (stepL bs p.1 p.2) (by omega)]
/-- What the program and the reference answer. -/
def gplanL (room : List Int) (bs : List (List T)) (most : Int) : List Pr := if binsB room bs && inB most 0 20 then planL room most.toNat bs else []

end Go.Proofs.Ytfidamjepjgknaa
