/- Plain laws: a search with a stack of places finds the first way; each node's first task in the order of the tasks. No program in sight. No condition. -/
import Derived.Test.YtfidamjepjgknaaDoorP9
namespace Go.Proofs.YtfidamjepjgknaaDoor
set_option maxRecDepth 100000

/-- A task goes into a node, or into a new one behind all. -/
def placeL (bs : List (List T)) (i : Nat) (x : T) : List (List T) := if i < bs.length then putL bs (some i) x else putL bs none x
/-- What one place gives. -/
def stepAt (room : List Int) (most : Nat) (r : List T) (bs : List (List T)) (x : T) (i : Nat) : Option (List (List T)) :=
  if i < bs.length then (if fits11 room (bs.getD i []) x = true then tryL room most r (putL bs (some i) x) else none) else if bs.length < most then tryL room most r (putL bs none x) else none
/-- The first way among those with the next task in a place from some one on. -/
def fromL (room : List Int) (most : Nat) : List T → List (List T) → Nat → Option (List (List T))
  | [], bs, _ => some bs
  | x :: r, bs, n => ((List.range (bs.length + 1)).drop n).findSome? (stepAt room most r bs x)
theorem findSome_congr {α β : Type} {f g : α → Option β} : ∀ {l : List α}, (∀ a ∈ l, f a = g a) → l.findSome? f = l.findSome? g
  | [], _ => rfl
  | a :: l, h => by
    rw [List.findSome?_cons, List.findSome?_cons, h a (by simp), findSome_congr fun b hb => h b (by simp [hb])]
theorem from_zero (room : List Int) (most : Nat) : ∀ (xs : List T) (bs : List (List T)), fromL room most xs bs 0 = tryL room most xs bs
  | [], _ => rfl
  | x :: r, bs => by
    rw [fromL, List.drop_zero, List.range_succ, List.findSome?_append, tryL]
    congr 1
    · refine findSome_congr fun i hi => ?_
      rw [List.mem_range] at hi
      rw [stepAt, if_pos hi]
    · rw [List.findSome?_cons, List.findSome?_nil, stepAt, if_neg (Nat.lt_irrefl _)]
      cases (if bs.length < most then tryL room most r (putL bs none x) else none) <;> rfl
theorem from_cons (room : List Int) (most : Nat) (x : T) (r : List T) (bs : List (List T)) {n : Nat} (h : n ≤ bs.length) : fromL room most (x :: r) bs n = (stepAt room most r bs x n).or (fromL room most (x :: r) bs (n + 1)) := by
  rw [fromL, fromL, List.drop_eq_getElem_cons (by simp; omega), List.findSome?_cons, List.getElem_range]
  cases stepAt room most r bs x n <;> rfl
theorem from_skip {room : List Int} {most : Nat} {x : T} {r : List T} {bs : List (List T)} {n : Nat} (h : n < bs.length) (hf : fits11 room (bs.getD n []) x = false) : fromL room most (x :: r) bs n = fromL room most (x :: r) bs (n + 1) := by
  rw [from_cons room most x r bs (Nat.le_of_lt h), stepAt, if_pos h, if_neg (by rw [hf]; decide)]
  rfl
theorem from_end {room : List Int} {most : Nat} {x : T} {r : List T} {bs : List (List T)} {n : Nat} (h : bs.length < n ∨ (n = bs.length ∧ ¬ bs.length < most)) : fromL room most (x :: r) bs n = none := by
  have far : ∀ m, bs.length < m → fromL room most (x :: r) bs m = none := fun m hm => by
    rw [fromL, List.drop_eq_nil_of_le (by simp; omega)]; rfl
  rcases h with h | ⟨rfl, h⟩
  · exact far n h
  · rw [from_cons room most x r bs (Nat.le_refl _), stepAt, if_neg (Nat.lt_irrefl _), if_neg h, far _ (Nat.lt_succ_self _)]
    rfl
theorem from_take {room : List Int} {most : Nat} {x : T} {r : List T} {bs : List (List T)} {n : Nat} (h : (n < bs.length ∧ fits11 room (bs.getD n []) x = true) ∨ (n = bs.length ∧ bs.length < most)) :
    fromL room most (x :: r) bs n = (fromL room most r (placeL bs n x) 0).or (fromL room most (x :: r) bs (n + 1)) := by
  rw [from_zero]
  rcases h with ⟨h, hf⟩ | ⟨rfl, h⟩
  · rw [from_cons room most x r bs (Nat.le_of_lt h), stepAt, if_pos h, if_pos hf, placeL, if_pos h]
  · rw [from_cons room most x r bs (Nat.le_refl _), stepAt, if_neg (Nat.lt_irrefl _), if_pos h, placeL, if_neg (Nat.lt_irrefl _)]

/-- The nodes where the tasks are put into some places (the last one first). -/
def putR (ts : List T) : List Nat → List (List T)
  | [] => []
  | a :: rs => placeL (putR ts rs) a (ts.getD rs.length ⟨0, []⟩)
/-- What the search comes to where the last place gives something or nothing. -/
def overL (room : List Int) (most : Nat) (ts : List T) : List Nat → Option (List (List T)) → Option (List (List T))
  | [], o => o
  | a :: rs, o => overL room most ts rs (o.or (fromL room most (ts.drop rs.length) (putR ts rs) (a + 1)))
theorem over_some (room : List Int) (most : Nat) (ts : List T) (b : List (List T)) : ∀ rs, overL room most ts rs (some b) = some b
  | [] => rfl
  | a :: rs => by rw [overL, Option.some_or]; exact over_some room most ts b rs
/-- Where the search stands: the places so far, and the next one to try. -/
def nowL (room : List Int) (most : Nat) (ts : List T) (rs : List Nat) (n : Nat) : Option (List (List T)) := overL room most ts rs (fromL room most (ts.drop rs.length) (putR ts rs) n)
theorem now_start (room : List Int) (most : Nat) (ts : List T) : nowL room most ts [] 0 = tryL room most ts [] := by
  rw [nowL, overL, putR]; exact from_zero room most ts []
theorem now_skip {room : List Int} {most : Nat} {ts : List T} {rs : List Nat} {n : Nat} (hr : rs.length < ts.length) (h : n < (putR ts rs).length) (hf : fits11 room ((putR ts rs).getD n []) ts[rs.length] = false) : nowL room most ts rs n = nowL room most ts rs (n + 1) := by
  rw [nowL, nowL, List.drop_eq_getElem_cons hr, from_skip h hf]
theorem now_push {room : List Int} {most : Nat} {ts : List T} {rs : List Nat} {n : Nat} (hr : rs.length < ts.length) (h : (n < (putR ts rs).length ∧ fits11 room ((putR ts rs).getD n []) ts[rs.length] = true) ∨ (n = (putR ts rs).length ∧ (putR ts rs).length < most)) :
    nowL room most ts rs n = nowL room most ts (n :: rs) 0 := by
  have e : ts.getD rs.length ⟨0, []⟩ = ts[rs.length] := by rw [List.getD_eq_getElem?_getD, List.getElem?_eq_getElem hr]; rfl
  rw [nowL, nowL, overL, List.drop_eq_getElem_cons hr, from_take h, List.length_cons, putR, e]
theorem now_pop {room : List Int} {most : Nat} {ts : List T} {a : Nat} {rs : List Nat} {n : Nat} (hr : rs.length + 1 < ts.length) (h : (putR ts (a :: rs)).length < n ∨ (n = (putR ts (a :: rs)).length ∧ ¬ (putR ts (a :: rs)).length < most)) :
    nowL room most ts (a :: rs) n = nowL room most ts rs (a + 1) := by
  rw [nowL, nowL, overL, List.length_cons, List.drop_eq_getElem_cons hr, from_end h, Option.none_or]
theorem now_none {room : List Int} {most : Nat} {ts : List T} {n : Nat} (hr : 0 < ts.length) (h : (putR ts []).length < n ∨ (n = (putR ts []).length ∧ ¬ (putR ts []).length < most)) : nowL room most ts [] n = none := by
  rw [nowL, overL, List.length_nil, List.drop_eq_getElem_cons hr, from_end h]
theorem now_done {room : List Int} {most : Nat} {ts : List T} {rs : List Nat} {n : Nat} (hr : rs.length = ts.length) : nowL room most ts rs n = some (putR ts rs) := by
  rw [nowL, hr, List.drop_length, fromL, over_some]

theorem place_some {bs : List (List T)} {i : Nat} (h : i < bs.length) (x : T) : placeL bs i x = bs.set i (bs[i] ++ [x]) := by rw [placeL, if_pos h, putL_some h]
theorem place_new (bs : List (List T)) (x : T) : placeL bs bs.length x = bs ++ [[x]] := by rw [placeL, if_neg (Nat.lt_irrefl _), putL_none]
/-- The places are among the nodes, or just behind them. -/
def PlacesOk (ts : List T) : List Nat → Prop
  | [] => True
  | a :: rs => PlacesOk ts rs ∧ a ≤ (putR ts rs).length
theorem putR_ok {ts : List T} : ∀ {rs : List Nat}, PlacesOk ts rs → rs.length ≤ ts.length → (∀ b ∈ putR ts rs, b ≠ [] ∧ b.length ≤ rs.length ∧ ∀ y ∈ b, y ∈ ts) ∧ (putR ts rs).length ≤ rs.length
  | [], _, _ => ⟨fun b hb => (by cases hb), Nat.le_refl _⟩
  | a :: rs, h, hl => by
    simp only [List.length_cons] at hl
    obtain ⟨ih, ih2⟩ := putR_ok h.1 (by omega)
    have e : ts.getD rs.length ⟨0, []⟩ ∈ ts := by
      rw [List.getD_eq_getElem?_getD, List.getElem?_eq_getElem (by omega)]; exact List.getElem_mem _
    rw [putR]
    generalize ts.getD rs.length ⟨0, []⟩ = x at *
    have ha := h.2
    rcases Nat.lt_or_ge a (putR ts rs).length with hlt | hge
    · rw [place_some hlt]
      refine ⟨fun b hb => ?_, by simp; omega⟩
      rcases List.mem_or_eq_of_mem_set hb with hb | rfl
      · have := ih b hb
        exact ⟨this.1, by simp; omega, this.2.2⟩
      · have := ih _ (List.getElem_mem hlt)
        refine ⟨by simp, by simp; omega, fun y hy => ?_⟩
        rcases List.mem_append.1 hy with hy | hy
        · exact this.2.2 y hy
        · simp at hy; subst hy; exact e
    · have e2 : a = (putR ts rs).length := by omega
      subst e2
      rw [place_new]
      refine ⟨fun b hb => ?_, by simp; omega⟩
      rcases List.mem_append.1 hb with hb | hb
      · have := ih b hb
        exact ⟨this.1, by simp; omega, this.2.2⟩
      · simp at hb; subst hb
        exact ⟨by simp, by simp, fun y hy => by simp at hy; subst hy; exact e⟩

theorem place_len (bs : List (List T)) (i : Nat) (x : T) : bs.length ≤ (placeL bs i x).length := by
  unfold placeL
  split
  · rename_i h; rw [putL_some h]; simp
  · rw [putL_none]; simp
/-- What is left where the last task is taken out of its node again. -/
theorem pop_form {ts : List T} {a : Nat} {rs : List Nat} (h : PlacesOk ts (a :: rs)) (hl : rs.length ≤ ts.length) : ∃ (ha : a < (putR ts (a :: rs)).length) (b : List T) (y : T), (putR ts (a :: rs))[a] = b ++ [y] ∧
    ((b ≠ [] ∧ (putR ts (a :: rs)).set a b = putR ts rs) ∨ (b = [] ∧ ((putR ts (a :: rs)).set a b).take a = putR ts rs)) := by
  have hok := putR_ok h.1 hl
  have e : putR ts (a :: rs) = placeL (putR ts rs) a (ts.getD rs.length ⟨0, []⟩) := rfl
  have ha := h.2
  generalize ts.getD rs.length ⟨0, []⟩ = y at e
  rcases Nat.lt_or_ge a (putR ts rs).length with hlt | hge
  · rw [place_some hlt] at e
    refine ⟨by rw [e]; simpa using hlt, (putR ts rs)[a], y, ?_, .inl ⟨(hok.1 _ (List.getElem_mem hlt)).1, ?_⟩⟩
    · simp only [e, List.getElem_set_self]
    · rw [e, List.set_set, List.set_getElem_self]
  · have e2 : a = (putR ts rs).length := by omega
    have e3 : putR ts (a :: rs) = putR ts rs ++ [[y]] := by rw [e, e2, place_new]
    refine ⟨by rw [e3, e2]; simp, [], y, ?_, .inr ⟨rfl, ?_⟩⟩
    · simp only [e3]
      rw [List.getElem_append_right (by omega)]
      simp [e2]
    · rw [e3, List.set_append_right _ _ (by omega), e2]
      simp

/-- The steps that are left, at most: the next places to try as the digits of a number, the last one first. -/
def remL : List Nat → Nat
  | [] => 0
  | n :: rest => remL rest + (10 - n) * 11 ^ (7 - rest.length)
theorem rem_pop {n a : Nat} (rest : List Nat) (h : n ≤ 9) : remL (a :: rest) < remL (n :: a :: rest) := by
  rw [show remL (n :: a :: rest) = remL (a :: rest) + (10 - n) * 11 ^ (7 - (a :: rest).length) from rfl]
  have : 0 < 11 ^ (7 - (a :: rest).length) := Nat.pow_pos (by omega)
  have := Nat.mul_le_mul (show 1 ≤ 10 - n by omega) (Nat.le_refl (11 ^ (7 - (a :: rest).length)))
  omega
theorem rem_push {n i : Nat} (rest : List Nat) (h : n ≤ i) (h9 : i ≤ 9) (hr : rest.length ≤ 6) : remL (0 :: (i + 1) :: rest) < remL (n :: rest) := by
  rw [remL, remL, remL]
  have e : 7 - rest.length = (6 - rest.length) + 1 := by omega
  have e2 : 7 - ((i + 1) :: rest).length = 6 - rest.length := by rw [List.length_cons]; omega
  rw [e2, e, Nat.pow_succ]
  have hp : 0 < 11 ^ (6 - rest.length) := Nat.pow_pos (by omega)
  generalize 11 ^ (6 - rest.length) = q at *
  have h1 : (10 - (i + 1)) * (q * 11) + q * 11 ≤ (10 - n) * (q * 11) := by
    have := Nat.mul_le_mul (show 10 - (i + 1) + 1 ≤ 10 - n by omega) (Nat.le_refl (q * 11))
    rwa [Nat.add_mul, Nat.one_mul] at this
  omega
/-- Each node begins with what it was before; the firsts of the new ones are in the order of the tasks. -/
theorem try_ext {room : List Int} {most : Nat} : ∀ (xs : List T) (bs out : List (List T)), tryL room most xs bs = some out →
    bs.length ≤ out.length ∧ (∀ i (h : i < bs.length) (h' : i < out.length), ∃ s, out[i] = bs[i] ++ s) ∧ ∃ fs : List T, fs.Sublist xs ∧ bs.length + fs.length = out.length ∧ ∀ i (h : i < fs.length) (h' : bs.length + i < out.length), ∃ s, out[bs.length + i] = fs[i] :: s := by
  intro xs
  induction xs with
  | nil =>
    intro bs out h
    simp only [tryL, Option.some.injEq] at h
    subst h
    exact ⟨Nat.le_refl _, fun i h _ => ⟨[], by simp⟩, [], List.Sublist.refl _, by simp, fun i h => by simp at h⟩
  | cons x r ih =>
    intro bs out h
    rw [tryL, Option.or_eq_some_iff] at h
    rcases h with h | ⟨_, h⟩
    · obtain ⟨i, hi, h⟩ := List.exists_of_findSome?_eq_some h
      rw [List.mem_range] at hi
      split at h
      · rw [putL_some hi] at h
        obtain ⟨h1, h2, fs, h3, h4, h5⟩ := ih _ _ h
        simp only [List.length_set] at h1 h2 h4 h5
        refine ⟨h1, fun j hj hj' => ?_, fs, h3.cons x, h4, h5⟩
        obtain ⟨s, hs⟩ := h2 j hj hj'
        by_cases e : i = j
        · subst e
          rw [List.getElem_set_self] at hs
          exact ⟨[x] ++ s, by rw [hs, List.append_assoc]⟩
        · rw [List.getElem_set_ne e] at hs
          exact ⟨s, hs⟩
      · cases h
    · split at h
      · rw [putL_none] at h
        obtain ⟨h1, h2, fs, h3, h4, h5⟩ := ih _ _ h
        simp only [List.length_append, List.length_singleton] at h1 h2 h4 h5
        refine ⟨by omega, fun j hj hj' => ?_, x :: fs, h3.cons_cons x, by simp; omega, fun j hj hj' => ?_⟩
        · obtain ⟨s, hs⟩ := h2 j (by omega) hj'
          rw [List.getElem_append_left hj] at hs
          exact ⟨s, hs⟩
        · cases j with
          | zero =>
            obtain ⟨s, hs⟩ := h2 bs.length (by omega) (by omega)
            rw [List.getElem_append_right (Nat.le_refl _)] at hs
            simp only [Nat.sub_self, List.getElem_cons_zero] at hs
            exact ⟨s, by simpa using hs⟩
          | succ j =>
            simp only [List.length_cons] at hj
            obtain ⟨s, hs⟩ := h5 j (by omega) (by omega)
            refine ⟨s, ?_⟩
            rw [List.getElem_cons_succ, ← hs]
            congr 1
            omega
      · cases h
/-- The first tasks of the nodes are in the order of the tasks; the first task is in the first node. -/
theorem least_firsts {room : List Int} {ts : List T} (h : TasksOk room ts) : ∃ fs : List T, fs.Sublist ts ∧ fs.length = (leastW room ts).length ∧ (∀ i (h : i < fs.length) (h' : i < (leastW room ts).length), ∃ s, (leastW room ts)[i] = fs[i] :: s) ∧
    ∀ (h0 : 0 < (leastW room ts).length), ∃ (h1 : 0 < ts.length) (s : List T), (leastW room ts)[0] = ts[0] :: s := by
  have hs := (leastW_spec h).1
  obtain ⟨-, -, fs, h3, h4, h5⟩ := try_ext _ _ _ hs
  refine ⟨fs, h3, by simpa using h4, fun i hi hi' => ?_, fun h0 => ?_⟩
  · obtain ⟨s, hs⟩ := h5 i hi (by simpa using hi')
    exact ⟨s, by rw [← hs]; congr 1; simp⟩
  · cases ts with
    | nil =>
      simp only [tryL, Option.some.injEq] at hs
      rw [← hs] at h0
      simp at h0
    | cons x r =>
      refine ⟨by simp, ?_⟩
      rw [tryL] at hs
      simp only [List.length_nil, List.range_zero, List.findSome?_nil, Option.none_or] at hs
      split at hs
      · rw [putL_none, List.nil_append] at hs
        obtain ⟨_, h2, _⟩ := try_ext _ _ _ hs
        obtain ⟨s, hs⟩ := h2 0 (by simp) h0
        exact ⟨s, by simpa using hs⟩
      · cases hs
/-- A first that is not the task here lies behind it. -/
theorem sub_skip {f : T} {fs ts : List T} {k : Nat} (h : (f :: fs).Sublist (ts.drop k)) : k < ts.length ∧ ∀ (hk : k < ts.length), ts[k].id ≠ f.id → (f :: fs).Sublist (ts.drop (k + 1)) := by
  have hk : k < ts.length := by
    rcases Nat.lt_or_ge k ts.length with h1 | h1
    · exact h1
    · rw [List.drop_eq_nil_of_le h1] at h; cases h
  refine ⟨hk, fun _ hne => ?_⟩
  rw [List.drop_eq_getElem_cons hk] at h
  cases h with
  | cons _ h => exact h
  | cons_cons _ h => exact absurd rfl hne
theorem drop_firsts {fs ts : List T} {i k : Nat} (h : (fs.drop i).Sublist (ts.drop k)) (hi : i < fs.length) : (fs[i] :: fs.drop (i + 1)).Sublist (ts.drop k) := by
  rwa [List.drop_eq_getElem_cons hi] at h

end Go.Proofs.YtfidamjepjgknaaDoor
