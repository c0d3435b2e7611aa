/- Plain laws: tasks put one after the other, where a chooser tells. No program in sight. No condition. -/
import Derived.Test.YtfidamjepjgknaaDoorI11
namespace Go.Proofs.YtfidamjepjgknaaDoor
set_option maxRecDepth 100000

/-- What tasks need in one dimension. -/
def cmp (k : Nat) (ts : List T) : Int := (ts.map fun t => t.need.getD k 0).sum
theorem cmp_nil (k : Nat) : cmp k [] = 0 := rfl
theorem cmp_cons (k : Nat) (t : T) (ts : List T) : cmp k (t :: ts) = t.need.getD k 0 + cmp k ts := by simp [cmp]
theorem cmp_app (k : Nat) (xs ys : List T) : cmp k (xs ++ ys) = cmp k xs + cmp k ys := by
  induction xs with
  | nil => simp [cmp_nil]
  | cons t r ih => rw [List.cons_append, cmp_cons, cmp_cons, ih]; omega
theorem cmp_perm {k : Nat} {xs ys : List T} (h : xs.Perm ys) : cmp k xs = cmp k ys := by
  induction h with
  | nil => rfl
  | cons t _ ih => rw [cmp_cons, cmp_cons, ih]
  | swap a b l => rw [cmp_cons, cmp_cons, cmp_cons, cmp_cons]; omega
  | trans _ _ h1 h2 => exact h1.trans h2
/-- Needs: three numbers, none less than 0. -/
def Ge0 (ts : List T) : Prop := ∀ t ∈ ts, t.need.length = 3 ∧ ∀ n ∈ t.need, 0 ≤ n
theorem Ge0.get {ts : List T} (h : Ge0 ts) {t : T} (ht : t ∈ ts) (k : Nat) : 0 ≤ t.need.getD k 0 := by
  rw [List.getD_eq_getElem?_getD]
  by_cases hk : k < t.need.length
  · rw [List.getElem?_eq_getElem hk]; exact (h t ht).2 _ (List.getElem_mem hk)
  · rw [List.getElem?_eq_none (by omega)]; exact Int.le_refl 0
theorem Ge0.sub {xs ys : List T} (h : Ge0 ys) (k : ∀ t ∈ xs, t ∈ ys) : Ge0 xs := fun t ht => h t (k t ht)
theorem Ge0.app {xs ys : List T} (h : Ge0 xs) (k : Ge0 ys) : Ge0 (xs ++ ys) := fun t ht => (List.mem_append.1 ht).elim (h t) (k t)
theorem TasksOk.ge0 {room : List Int} {ts : List T} (h : TasksOk room ts) : Ge0 ts := fun t ht => ⟨(h.good t ht).1, h.nonneg t ht⟩
theorem cmp_nonneg {k : Nat} {ts : List T} (h : Ge0 ts) : 0 ≤ cmp k ts := by
  induction ts with
  | nil => exact Int.le_refl 0
  | cons t r ih =>
    rw [cmp_cons]
    have h1 := h.get (t := t) (by simp) k
    have h2 := ih (h.sub fun u hu => by simp [hu])
    omega
theorem cmp_sub {k : Nat} {xs ys : List T} (h : xs.Sublist ys) (g : Ge0 ys) : cmp k xs ≤ cmp k ys := by
  induction h with
  | slnil => exact Int.le_refl _
  | cons a _ ih =>
    rw [cmp_cons]
    have h1 := g.get (t := a) (by simp) k
    have h2 := ih (g.sub fun u hu => by simp [hu])
    omega
  | cons_cons a _ ih =>
    rw [cmp_cons, cmp_cons]
    have h2 := ih (g.sub fun u hu => by simp [hu])
    omega
theorem fold_cmp (ts : List T) (h : ∀ t ∈ ts, t.need.length = 3) : ∀ a b c : Int, ts.foldl (fun s t => addL s t.need 1) [a, b, c] = [a + cmp 0 ts, b + cmp 1 ts, c + cmp 2 ts] := by
  induction ts with
  | nil => intro a b c; simp [cmp_nil]
  | cons t r ih =>
    intro a b c
    have h3 := h t (by simp)
    rw [List.foldl_cons, cmp_cons, cmp_cons, cmp_cons]
    obtain ⟨id, need⟩ := t
    match need, h3 with
    | [x, y, z], _ =>
      have e1 : addL [a, b, c] [x, y, z] 1 = [a + x, b + y, c + z] := by simp [addL]
      rw [e1, ih fun u hu => h u (by simp [hu])]
      simp only [List.getD_cons_zero, List.getD_cons_succ, Int.add_assoc]
theorem load_cmp {ts : List T} (h : ∀ t ∈ ts, t.need.length = 3) : loadL ts = [cmp 0 ts, cmp 1 ts, cmp 2 ts] := by
  unfold loadL
  rw [fold_cmp ts h]
  simp
theorem Ge0.three {ts : List T} (h : Ge0 ts) : ∀ t ∈ ts, t.need.length = 3 := fun t ht => (h t ht).1
theorem fits_cmp {room : List Int} {ts : List T} (hr : room.length = 3) (h : ∀ t ∈ ts, t.need.length = 3) : fitsB (loadL ts) room = true ↔ ∀ k, k < 3 → cmp k ts ≤ room.getD k 0 := by
  match room, hr with
  | [x, y, z], _ =>
    rw [load_cmp h, fitsB_three, decide_eq_true_iff]
    constructor
    · rintro ⟨h0, h1, h2⟩ k hk
      match k, hk with
      | 0, _ => simpa using h0
      | 1, _ => simpa using h1
      | 2, _ => simpa using h2
    · intro hh
      exact ⟨by simpa using hh 0 (by omega), by simpa using hh 1 (by omega), by simpa using hh 2 (by omega)⟩
theorem fits_sub {room : List Int} {xs ys : List T} (hr : room.length = 3) (h : xs.Sublist ys) (g : Ge0 ys) (k : fitsB (loadL ys) room = true) : fitsB (loadL xs) room = true := by
  rw [fits_cmp hr g.three] at k
  rw [fits_cmp hr (g.sub fun t ht => h.subset ht).three]
  exact fun j hj => Int.le_trans (cmp_sub h g) (k j hj)
theorem fits_perm {room : List Int} {xs ys : List T} (hr : room.length = 3) (h : xs.Perm ys) (g : Ge0 ys) : fitsB (loadL xs) room = fitsB (loadL ys) room := by
  rw [Bool.eq_iff_iff, fits_cmp hr g.three, fits_cmp hr (g.sub fun t ht => h.subset ht).three]
  exact ⟨fun k j hj => by rw [← cmp_perm h]; exact k j hj, fun k j hj => by rw [cmp_perm h]; exact k j hj⟩
theorem fits11_load (room : List Int) (b : List T) (x : T) : fits11 room b x = fitsB (loadL (b ++ [x])) room := by
  unfold fits11
  rw [loadL_snoc]
/-- A task that does not fit beside some tasks does not fit beside more. -/
theorem fits11_sub {room : List Int} {a b : List T} {x : T} (hr : room.length = 3) (h : a.Sublist b) (g : Ge0 (b ++ [x])) (k : fits11 room a x = false) : fits11 room b x = false := by
  rw [Bool.eq_false_iff] at *
  intro e
  rw [fits11_load] at *
  exact k (fits_sub hr (h.append (List.Sublist.refl _)) g e)

/-- A task is put into a node, or alone into a further one. -/
def putL (bs : List (List T)) (o : Option Nat) (x : T) : List (List T) :=
  match o with
  | none => bs ++ [[x]]
  | some i => bs.set i (bs.getD i [] ++ [x])
/-- All tasks are put where a chooser tells. -/
def allL (c : List (List T) → T → Option Nat) (ts : List T) : List (List T) := ts.foldl (fun bs x => putL bs (c bs x) x) []
theorem allL_nil (c : List (List T) → T → Option Nat) : allL c [] = [] := rfl
theorem allL_snoc (c : List (List T) → T → Option Nat) (ts : List T) (x : T) : allL c (ts ++ [x]) = putL (allL c ts) (c (allL c ts) x) x := by simp [allL]
theorem allL_step (c : List (List T) → T → Option Nat) {ts : List T} {k : Nat} (h : k < ts.length) : allL c (ts.take (k + 1)) = putL (allL c (ts.take k)) (c (allL c (ts.take k)) ts[k]) ts[k] := by
  rw [List.take_succ_eq_append_getElem h, allL_snoc]
/-- A chooser tells a node that has room, or that none has. -/
def Chooses (room : List Int) (c : List (List T) → T → Option Nat) : Prop :=
  ∀ bs x, (c bs x = none ∧ ∀ b ∈ bs, fits11 room b x = false) ∨ ∃ k, ∃ h : k < bs.length, c bs x = some k ∧ fits11 room bs[k] x = true
theorem putL_none (bs : List (List T)) (x : T) : putL bs none x = bs ++ [[x]] := rfl
theorem putL_some {bs : List (List T)} {k : Nat} (h : k < bs.length) (x : T) : putL bs (some k) x = bs.set k (bs[k] ++ [x]) := by
  simp [putL, List.getD_eq_getElem?_getD, List.getElem?_eq_getElem h]
theorem set_flat {α : Type} {bs : List (List α)} {k : Nat} (h : k < bs.length) (x : α) : (bs.set k (bs[k] ++ [x])).flatten.Perm (bs.flatten ++ [x]) := by
  induction bs generalizing k with
  | nil => simp at h
  | cons b r ih =>
    cases k with
    | zero =>
      simp only [List.set_cons_zero, List.getElem_cons_zero, List.flatten_cons, List.append_assoc]
      exact List.Perm.append_left b List.perm_append_comm
    | succ k =>
      simp only [List.set_cons_succ, List.getElem_cons_succ, List.flatten_cons, List.append_assoc]
      exact List.Perm.append_left b (ih (by simpa using h))
theorem putL_perm {room : List Int} {c : List (List T) → T → Option Nat} (hc : Chooses room c) (bs : List (List T)) (x : T) : (putL bs (c bs x) x).flatten.Perm (bs.flatten ++ [x]) := by
  rcases hc bs x with ⟨e, _⟩ | ⟨k, hk, e, _⟩
  · rw [e, putL_none]; simp
  · rw [e, putL_some hk]; exact set_flat hk x
theorem putL_len {room : List Int} {c : List (List T) → T → Option Nat} (hc : Chooses room c) (bs : List (List T)) (x : T) : (putL bs (c bs x) x).length ≤ bs.length + 1 := by
  rcases hc bs x with ⟨e, _⟩ | ⟨k, hk, e, _⟩
  · rw [e, putL_none]; simp
  · rw [e, putL_some hk]; simp
theorem putL_mem {room : List Int} {c : List (List T) → T → Option Nat} (hc : Chooses room c) {bs : List (List T)} {x : T} {b : List T} (h : b ∈ putL bs (c bs x) x) : b ∈ bs ∨ b = [x] ∨ ∃ d ∈ bs, b = d ++ [x] ∧ fits11 room d x = true := by
  rcases hc bs x with ⟨e, _⟩ | ⟨k, hk, e, hf⟩
  · rw [e, putL_none] at h
    rcases List.mem_append.1 h with h | h
    · exact .inl h
    · simp at h; exact .inr (.inl h)
  · rw [e, putL_some hk] at h
    rcases List.mem_or_eq_of_mem_set h with h | h
    · exact .inl h
    · exact .inr (.inr ⟨_, List.getElem_mem hk, h, hf⟩)
theorem allL_perm {room : List Int} {c : List (List T) → T → Option Nat} (hc : Chooses room c) (ts : List T) : (allL c ts).flatten.Perm ts ∧ (allL c ts).length ≤ ts.length ∧ ∀ b ∈ allL c ts, b ≠ [] := by
  suffices key : ∀ n, ∀ us : List T, us.length = n → (allL c us).flatten.Perm us ∧ (allL c us).length ≤ us.length ∧ ∀ b ∈ allL c us, b ≠ [] from key _ ts rfl
  intro n
  induction n with
  | zero => intro us h; obtain rfl := List.eq_nil_of_length_eq_zero h; rw [allL_nil]; simp
  | succ n ih =>
    intro us h
    have hu : us = us.take n ++ [us[n]] := by
      have := List.take_succ_eq_append_getElem (l := us) (i := n) (by omega)
      rw [List.take_of_length_le (by omega)] at this
      exact this
    have hl : (us.take n).length = n := by simp; omega
    obtain ⟨h1, h2, h3⟩ := ih (us.take n) hl
    have e := allL_snoc c (us.take n) us[n]
    rw [← hu] at e
    rw [e]
    refine ⟨?_, ?_, fun b hb => ?_⟩
    · refine (putL_perm hc _ _).trans ?_
      conv => rhs; rw [hu]
      exact h1.append_right _
    · have := putL_len hc (allL c (us.take n)) us[n]; omega
    · rcases putL_mem hc hb with hb | hb | ⟨d, _, hb, _⟩
      · exact h3 b hb
      · rw [hb]; simp
      · rw [hb]; simp
/-- Each node's load fits. -/
theorem putL_fits {room : List Int} {c : List (List T) → T → Option Nat} (hc : Chooses room c) {bs : List (List T)} {x : T} (h : ∀ b ∈ bs, fitsB (loadL b) room = true) (hx : fits11 room [] x = true) : ∀ b ∈ putL bs (c bs x) x, fitsB (loadL b) room = true := by
  intro b hb
  rcases putL_mem hc hb with hb | hb | ⟨d, _, hb, hf⟩
  · exact h b hb
  · rw [hb]; rw [fits11_load] at hx; exact hx
  · rw [hb, ← fits11_load]; exact hf
theorem alone_fits {room : List Int} {ts : List T} (h : TasksOk room ts) {x : T} (hx : x ∈ ts) : fits11 room [] x = true := by
  have h1 := ((tasksOk_iff.1 h).2.2.1 x hx).2
  rw [vfitsB_iff] at h1
  unfold fits11
  rw [show loadL [] = [0, 0, 0] from rfl, addL_zero h1.1.1]
  exact h1.2.2
theorem allL_ind {c : List (List T) → T → Option Nat} (I : List (List T) → Prop) (h0 : I []) {ts : List T} (hs : ∀ bs x, x ∈ ts → bs.flatten.Perm (bs.flatten) → I bs → I (putL bs (c bs x) x)) : I (allL c ts) := by
  unfold allL
  suffices key : ∀ (us : List T) (bs : List (List T)), (∀ x ∈ us, x ∈ ts) → I bs → I (us.foldl (fun bs x => putL bs (c bs x) x) bs) from key ts [] (fun _ h => h) h0
  intro us
  induction us with
  | nil => intro bs _ h; exact h
  | cons x r ih => intro bs hu h; exact ih _ (fun y hy => hu y (by simp [hy])) (hs bs x (hu x (by simp)) (List.Perm.refl _) h)
theorem allL_fits {room : List Int} {c : List (List T) → T → Option Nat} (hc : Chooses room c) {ts : List T} (h : TasksOk room ts) : ∀ b ∈ allL c ts, fitsB (loadL b) room = true :=
  allL_ind (I := fun bs => ∀ b ∈ bs, fitsB (loadL b) room = true) (by simp) fun _ _ hx _ hI => putL_fits hc hI (alone_fits h hx)
theorem allL_ok {room : List Int} {c : List (List T) → T → Option Nat} (hc : Chooses room c) {ts : List T} (h : TasksOk room ts) : BinsOk room (allL c ts) := by
  obtain ⟨h1, h2, h3⟩ := allL_perm hc ts
  rw [binsOk_all]
  exact ⟨tasksOk_perm h1.symm h, by have := h.2.1; omega, allL_fits hc h⟩
/-- Needs of three numbers, wherever the tasks are put. -/
theorem allL_ge0 {room : List Int} {c : List (List T) → T → Option Nat} (hc : Chooses room c) {ts : List T} (h : Ge0 ts) : ∀ b ∈ allL c ts, Ge0 b := fun b hb => h.sub fun _ ht => (allL_perm hc ts).1.subset (List.mem_flatten.2 ⟨b, hb, ht⟩)

/-- Of two nodes the later one holds a task that the earlier one has no room for. -/
def Full (room : List Int) (bs : List (List T)) : Prop := ∀ (a b : Nat) (hab : a < b) (hb : b < bs.length), ∃ x ∈ bs[b], fits11 room bs[a] x = false
/-- The later one holds such tasks only. -/
def Full1 (room : List Int) (bs : List (List T)) : Prop := ∀ (a b : Nat) (hab : a < b) (hb : b < bs.length), ∀ x ∈ bs[b], fits11 room bs[a] x = false
theorem full_put {room : List Int} {c : List (List T) → T → Option Nat} (hc : Chooses room c) (hr : room.length = 3) {bs : List (List T)} {x : T} (hg : Ge0 (bs.flatten ++ [x])) (h : Full room bs) : Full room (putL bs (c bs x) x) := by
  have gm : ∀ b ∈ bs, Ge0 b := fun b hb => hg.sub fun t ht => List.mem_append.2 (.inl (List.mem_flatten.2 ⟨b, hb, ht⟩))
  have gx : Ge0 [x] := hg.sub fun t ht => List.mem_append.2 (.inr ht)
  rcases hc bs x with ⟨e, hn⟩ | ⟨k, hk, e, hf⟩
  · rw [e, putL_none]
    intro a b hab hb
    simp only [List.length_append, List.length_singleton] at hb
    have ha : a < bs.length := by omega
    rw [List.getElem_append_left (i := a) ha]
    by_cases hlt : b < bs.length
    · rw [List.getElem_append_left (i := b) hlt]; exact h a b hab hlt
    · rw [List.getElem_append_right (i := b) (by omega)]
      refine ⟨x, by simp, hn _ (List.getElem_mem _)⟩
  · rw [e, putL_some hk]
    intro a b hab hb
    simp only [List.length_set] at hb
    obtain ⟨y, hy, hfy⟩ := h a b hab hb
    refine ⟨y, ?_, ?_⟩
    · by_cases eb : k = b
      · subst eb; rw [List.getElem_set_self]; exact List.mem_append.2 (.inl hy)
      · rw [List.getElem_set_ne eb]; exact hy
    · by_cases ea : k = a
      · subst ea
        rw [List.getElem_set_self]
        exact fits11_sub hr (List.sublist_append_left _ _) (((gm _ (List.getElem_mem hk)).app gx).app ((gm _ (List.getElem_mem hb)).sub fun t ht => by simp at ht; subst ht; exact hy)) hfy
      · rw [List.getElem_set_ne ea]; exact hfy
theorem allL_ind2 {room : List Int} {c : List (List T) → T → Option Nat} (hc : Chooses room c) (I : List (List T) → Prop) (h0 : I []) {ts : List T} (hg : Ge0 ts) (hs : ∀ bs x, Ge0 (bs.flatten ++ [x]) → I bs → I (putL bs (c bs x) x)) : I (allL c ts) := by
  have := allL_ind (c := c) (I := fun bs => (∀ t ∈ bs.flatten, t ∈ ts) ∧ I bs) (ts := ts) ⟨by simp, h0⟩ fun bs x hx _ hI => by
    have hm : ∀ t ∈ bs.flatten ++ [x], t ∈ ts := fun t ht => by
      rcases List.mem_append.1 ht with ht | ht
      · exact hI.1 t ht
      · simp at ht; subst ht; exact hx
    exact ⟨fun t ht => hm t ((putL_perm hc bs x).subset ht), hs bs x (hg.sub hm) hI.2⟩
  exact this.2
theorem allL_full {room : List Int} {c : List (List T) → T → Option Nat} (hc : Chooses room c) (hr : room.length = 3) {ts : List T} (hg : Ge0 ts) : Full room (allL c ts) :=
  allL_ind2 hc (Full room) (fun a b _ hb => by simp at hb) hg fun _ _ h1 h2 => full_put hc hr h1 h2
/-- Two nodes together are too great. -/
theorem full_two {room : List Int} {bs : List (List T)} (hr : room.length = 3) (h : Full room bs) (hg : ∀ b ∈ bs, Ge0 b) {a b : Nat} (hab : a < b) (hb : b < bs.length) : fitsB (loadL (bs[a] ++ bs[b])) room = false := by
  obtain ⟨x, hx, hf⟩ := h a b hab hb
  rw [Bool.eq_false_iff] at *
  intro e
  rw [fits11_load] at hf
  exact hf (fits_sub hr ((List.Sublist.refl _).append (List.singleton_sublist.2 hx)) ((hg _ (List.getElem_mem _)).app (hg _ (List.getElem_mem hb))) e)
theorem full_bins {room : List Int} {bs : List (List T)} (hr : room.length = 3) (h : Full room bs) (hg : ∀ b ∈ bs, Ge0 b) {a b : Nat} (hab : a < b) (hb : b < bs.length) : binsB room [bs[a] ++ bs[b]] = false := by
  rw [bins_one, full_two hr h hg hab hb, Bool.and_false]

/-- The first node with room is a choice. -/
theorem at11_chooses (room : List Int) : Chooses room (at11 room) := by
  intro bs x
  cases h : at11 room bs x with
  | none =>
    refine .inl ⟨rfl, fun b hb => ?_⟩
    unfold at11 at h
    rw [List.findIdx?_eq_none_iff] at h
    exact h b hb
  | some k =>
    unfold at11 at h
    rw [List.findIdx?_eq_some_iff_getElem] at h
    obtain ⟨hk, hp, _⟩ := h
    exact .inr ⟨k, hk, rfl, hp⟩
theorem at11_first {room : List Int} {bs : List (List T)} {x : T} {k : Nat} (h : at11 room bs x = some k) : ∀ (j : Nat) (hj : j < bs.length), j < k → fits11 room bs[j] x = false := by
  unfold at11 at h
  rw [List.findIdx?_eq_some_iff_getElem] at h
  obtain ⟨hk, hp, hq⟩ := h
  exact fun j hj hjk => by simpa using hq j hjk
theorem full1_put {room : List Int} (hr : room.length = 3) {bs : List (List T)} {x : T} (hg : Ge0 (bs.flatten ++ [x])) (h : Full1 room bs) : Full1 room (putL bs (at11 room bs x) x) := by
  have gm : ∀ b ∈ bs, Ge0 b := fun b hb => hg.sub fun t ht => List.mem_append.2 (.inl (List.mem_flatten.2 ⟨b, hb, ht⟩))
  have gx : Ge0 [x] := hg.sub fun t ht => List.mem_append.2 (.inr ht)
  rcases at11_chooses room bs x with ⟨e, hn⟩ | ⟨k, hk, e, hf⟩
  · rw [e, putL_none]
    intro a b hab hb
    simp only [List.length_append, List.length_singleton] at hb
    have ha : a < bs.length := by omega
    rw [List.getElem_append_left (i := a) ha]
    by_cases hlt : b < bs.length
    · rw [List.getElem_append_left (i := b) hlt]; exact h a b hab hlt
    · rw [List.getElem_append_right (i := b) (by omega)]
      intro y hy
      simp at hy
      subst hy
      exact hn _ (List.getElem_mem _)
  · have hfst := at11_first e
    rw [e, putL_some hk]
    intro a b hab hb y hy
    simp only [List.length_set] at hb
    have key : fits11 room bs[a] y = false ∧ Ge0 [y] := by
      by_cases eb : k = b
      · subst eb
        rw [List.getElem_set_self] at hy
        rcases List.mem_append.1 hy with hy | hy
        · exact ⟨h a k hab hk y hy, (gm _ (List.getElem_mem hk)).sub fun t ht => by simp at ht; subst ht; exact hy⟩
        · simp at hy; subst hy; exact ⟨hfst a (by omega) hab, gx⟩
      · rw [List.getElem_set_ne eb] at hy
        exact ⟨h a b hab hb y hy, (gm _ (List.getElem_mem hb)).sub fun t ht => by simp at ht; subst ht; exact hy⟩
    by_cases ea : k = a
    · subst ea
      rw [List.getElem_set_self]
      exact fits11_sub hr (List.sublist_append_left _ _) (((gm _ (List.getElem_mem hk)).app gx).app key.2) key.1
    · rw [List.getElem_set_ne ea]; exact key.1
theorem first_full1 {room : List Int} (hr : room.length = 3) {ts : List T} (hg : Ge0 ts) : Full1 room (allL (at11 room) ts) :=
  allL_ind2 (at11_chooses room) (Full1 room) (fun a b _ hb => by simp at hb) hg fun _ _ h1 h2 => full1_put hr h1 h2

/-- Where each node is full for all tasks of the later ones, first fit puts the tasks where they are. -/
theorem first_again {room : List Int} (hr : room.length = 3) {bs : List (List T)} (hg : ∀ b ∈ bs, Ge0 b) (hne : ∀ b ∈ bs, b ≠ []) (hf : ∀ b ∈ bs, fitsB (loadL b) room = true) (h1 : Full1 room bs) : allL (at11 room) bs.flatten = bs := by
  suffices key : ∀ k, k ≤ bs.length → allL (at11 room) (bs.take k).flatten = bs.take k from by
    have := key bs.length (Nat.le_refl _)
    rwa [List.take_length] at this
  intro k
  induction k with
  | zero => intro _; simp [allL_nil]
  | succ k ih =>
    intro hk
    have hkb : k < bs.length := by omega
    have ihk := ih (by omega)
    rw [List.take_succ_eq_append_getElem hkb, List.flatten_append]
    have inner : ∀ j, j ≤ bs[k].length → allL (at11 room) ((bs.take k).flatten ++ bs[k].take j) = if j = 0 then bs.take k else bs.take k ++ [bs[k].take j] := by
      intro j
      induction j with
      | zero => intro _; simp [ihk]
      | succ j ihj =>
        intro hj
        have hjb : j < bs[k].length := by omega
        rw [List.take_succ_eq_append_getElem hjb, ← List.append_assoc, allL_snoc, ihj (by omega), if_neg (show ¬ j + 1 = 0 by omega)]
        have skip : ∀ (a : Nat) (ha : a < (bs.take k).length), fits11 room (bs.take k)[a] bs[k][j] = false := fun a ha => by
          simp only [List.length_take] at ha
          rw [List.getElem_take]
          exact h1 a k (by omega) hkb _ (List.getElem_mem hjb)
        by_cases e : j = 0
        · subst e
          rw [if_pos rfl]
          have : at11 room (bs.take k) bs[k][0] = none := by
            unfold at11
            rw [List.findIdx?_eq_none_iff]
            intro b hb
            obtain ⟨a, ha, rfl⟩ := List.getElem_of_mem hb
            exact skip a ha
          rw [this, putL_none]
          simp
        · rw [if_neg e]
          have hl : (bs.take k ++ [bs[k].take j]).length = k + 1 := by simp; omega
          have hlk : (bs.take k).length = k := by simp; omega
          have : at11 room (bs.take k ++ [bs[k].take j]) bs[k][j] = some k := by
            unfold at11
            rw [List.findIdx?_eq_some_iff_getElem]
            refine ⟨by omega, ?_, fun a ha => ?_⟩
            · rw [List.getElem_append_right (by omega)]
              simp only [hlk, Nat.sub_self, List.getElem_cons_zero]
              rw [fits11_load, ← List.take_succ_eq_append_getElem hjb]
              exact fits_sub hr (List.take_sublist _ _) (hg _ (List.getElem_mem hkb)) (hf _ (List.getElem_mem hkb))
            · rw [List.getElem_append_left (by omega)]
              rw [skip a (by omega)]; simp
          rw [this, putL_some (by omega)]
          rw [List.getElem_append_right (by omega)]
          simp only [hlk, Nat.sub_self, List.getElem_cons_zero]
          rw [List.set_append_right _ _ (by omega), hlk, Nat.sub_self]
          rfl
    have := inner bs[k].length (Nat.le_refl _)
    rw [List.take_length] at this
    rw [show [bs[k]].flatten = bs[k] by simp, this, if_neg (fun e => hne _ (List.getElem_mem hkb) (List.eq_nil_of_length_eq_zero e))]

/-- The best node among the first k, or none. -/
def bestK (room : List Int) (bs : List (List T)) (x : T) : Nat → Option Nat
  | 0 => none
  | k + 1 => if fits11 room (bs.getD k []) x && (match bestK room bs x k with | none => true | some j => decide (dotI x.need (leftL room (bs.getD j [])) < dotI x.need (leftL room (bs.getD k [])))) then some k else bestK room bs x k
def best12 (room : List Int) (bs : List (List T)) (x : T) : Option Nat := bestK room bs x bs.length
def dotAt (room : List Int) (bs : List (List T)) (x : T) (j : Nat) : Int := dotI x.need (leftL room (bs.getD j []))
theorem bestK_no {room : List Int} {bs : List (List T)} {x : T} {k : Nat} (h : fits11 room (bs.getD k []) x = false) : bestK room bs x (k + 1) = bestK room bs x k := by
  rw [bestK, h]; simp
theorem bestK_new {room : List Int} {bs : List (List T)} {x : T} {k : Nat} (h : fits11 room (bs.getD k []) x = true) (h0 : bestK room bs x k = none) : bestK room bs x (k + 1) = some k := by
  rw [bestK, h, h0]; simp
theorem bestK_more {room : List Int} {bs : List (List T)} {x : T} {k j : Nat} (h : fits11 room (bs.getD k []) x = true) (h0 : bestK room bs x k = some j) (h1 : dotAt room bs x j < dotAt room bs x k) : bestK room bs x (k + 1) = some k := by
  unfold dotAt at h1
  rw [bestK, h, h0]
  simp only [Bool.true_and, decide_eq_true_iff]
  rw [if_pos h1]
theorem bestK_less {room : List Int} {bs : List (List T)} {x : T} {k j : Nat} (h0 : bestK room bs x k = some j) (h1 : ¬ dotAt room bs x j < dotAt room bs x k) : bestK room bs x (k + 1) = some j := by
  unfold dotAt at h1
  rw [bestK, h0]
  simp only [Bool.and_eq_true, decide_eq_true_iff]
  rw [if_neg (fun h => h1 h.2)]
theorem bestK_spec (room : List Int) (bs : List (List T)) (x : T) (k : Nat) :
    (bestK room bs x k = none ∧ ∀ j, j < k → fits11 room (bs.getD j []) x = false) ∨
    (∃ i, bestK room bs x k = some i ∧ i < k ∧ fits11 room (bs.getD i []) x = true ∧ ∀ j, j < k → fits11 room (bs.getD j []) x = true → dotAt room bs x j ≤ dotAt room bs x i ∧ (j < i → dotAt room bs x j < dotAt room bs x i)) := by
  induction k with
  | zero => exact .inl ⟨rfl, fun j hj => by omega⟩
  | succ k ih =>
    cases hf : fits11 room (bs.getD k []) x with
    | false =>
      rw [bestK_no hf]
      rcases ih with ⟨h1, h2⟩ | ⟨i, h1, h2, h3, h4⟩
      · refine .inl ⟨h1, fun j hj => ?_⟩
        by_cases e : j = k
        · subst e; exact hf
        · exact h2 j (by omega)
      · refine .inr ⟨i, h1, by omega, h3, fun j hj hfj => ?_⟩
        by_cases e : j = k
        · subst e; rw [hf] at hfj; cases hfj
        · exact h4 j (by omega) hfj
    | true =>
      rcases ih with ⟨h1, h2⟩ | ⟨i, h1, h2, h3, h4⟩
      · rw [bestK_new hf h1]
        refine .inr ⟨k, rfl, by omega, hf, fun j hj hfj => ?_⟩
        by_cases e : j = k
        · subst e; exact ⟨Int.le_refl _, fun h => by omega⟩
        · rw [h2 j (by omega)] at hfj; cases hfj
      · by_cases hd : dotAt room bs x i < dotAt room bs x k
        · rw [bestK_more hf h1 hd]
          refine .inr ⟨k, rfl, by omega, hf, fun j hj hfj => ?_⟩
          by_cases e : j = k
          · subst e; exact ⟨Int.le_refl _, fun h => by omega⟩
          · have := h4 j (by omega) hfj
            exact ⟨by omega, fun _ => by omega⟩
        · rw [bestK_less h1 hd]
          refine .inr ⟨i, rfl, by omega, h3, fun j hj hfj => ?_⟩
          by_cases e : j = k
          · subst e; exact ⟨by omega, fun h => by omega⟩
          · exact h4 j (by omega) hfj
theorem getD_at {bs : List (List T)} {k : Nat} (h : k < bs.length) : bs.getD k [] = bs[k] := by simp [List.getD_eq_getElem?_getD, List.getElem?_eq_getElem h]
theorem best12_chooses (room : List Int) : Chooses room (best12 room) := by
  intro bs x
  rcases bestK_spec room bs x bs.length with ⟨h1, h2⟩ | ⟨i, h1, h2, h3, _⟩
  · refine .inl ⟨h1, fun b hb => ?_⟩
    obtain ⟨j, hj, rfl⟩ := List.getElem_of_mem hb
    rw [← getD_at hj]; exact h2 j hj
  · exact .inr ⟨i, h2, h1, by rw [← getD_at h2]; exact h3⟩

end Go.Proofs.YtfidamjepjgknaaDoor
