/- Plain laws of first fit and best fit. No program in sight. No condition. -/
import Derived.Test.YtipmoedflpjioaaI16
import Derived.Test.YtipmoedflpjioaaSame2
import Derived.Test.YtipmoedflpjioaaI7
namespace Go.Proofs.Ytipmoedflpjioaa
set_option maxRecDepth 100000

theorem firstAllL_yes {room : List Int} {ts : List T} (h : TasksOk room ts) : firstAllL room ts = allL (at11 room) ts := by simp [firstAllL, tasksB_iff.2 h]
theorem bestAllL_yes {room : List Int} {ts : List T} (h : TasksOk room ts) : bestAllL room ts = allL (best12 room) ts := by simp [bestAllL, tasksB_iff.2 h]
theorem first_ok {room : List Int} {ts : List T} (h : TasksOk room ts) : BinsOk room (firstAllL room ts) := by rw [firstAllL_yes h]; exact allL_ok (at11_chooses room) h
theorem best_ok {room : List Int} {ts : List T} (h : TasksOk room ts) : BinsOk room (bestAllL room ts) := by rw [bestAllL_yes h]; exact allL_ok (best12_chooses room) h
theorem all_all {room : List Int} {c : List (List T) → T → Option Nat} (hc : Chooses room c) {ts : List T} (h : TasksOk room ts) :
    (binsTasksL room (allL c ts)).length = ts.length ∧ (∀ k (hk : k < ts.length), hasT (binsTasksL room (allL c ts)) ts[k] = true) ∧ ∀ j (hj : j < (allL c ts).length), (allL c ts)[j].length ≠ 0 := by
  obtain ⟨h1, h2, h3⟩ := allL_perm hc ts
  have e : binsTasksL room (allL c ts) = (allL c ts).flatten := by simp [binsTasksL, binsB_iff.2 (allL_ok hc h)]
  rw [e]
  exact ⟨h1.length_eq, fun k hk => hasT_mem (h1.symm.subset (List.getElem_mem hk)), fun j hj e0 => h3 _ (List.getElem_mem hj) (List.eq_nil_of_length_eq_zero e0)⟩
theorem first_all {room : List Int} {ts : List T} (h : TasksOk room ts) :
    (binsTasksL room (firstAllL room ts)).length = ts.length ∧ (∀ k (hk : k < ts.length), hasT (binsTasksL room (firstAllL room ts)) ts[k] = true) ∧ ∀ j (hj : j < (firstAllL room ts).length), (firstAllL room ts)[j].length ≠ 0 := by
  have e := firstAllL_yes h
  have := all_all (at11_chooses room) h
  rw [← e] at this
  exact this
theorem best_all {room : List Int} {ts : List T} (h : TasksOk room ts) :
    (binsTasksL room (bestAllL room ts)).length = ts.length ∧ (∀ k (hk : k < ts.length), hasT (binsTasksL room (bestAllL room ts)) ts[k] = true) ∧ ∀ j (hj : j < (bestAllL room ts).length), (bestAllL room ts)[j].length ≠ 0 := by
  have e := bestAllL_yes h
  have := all_all (best12_chooses room) h
  rw [← e] at this
  exact this
theorem first_twice {room : List Int} {ts : List T} (h : TasksOk room ts) : firstAllL room (binsTasksL room (firstAllL room ts)) = firstAllL room ts := by
  have hok := first_ok h
  have hr : room.length = 3 := h.1.1.1
  have e : binsTasksL room (firstAllL room ts) = (firstAllL room ts).flatten := by simp [binsTasksL, binsB_iff.2 hok]
  rw [e, firstAllL_yes hok.1]
  have e2 := firstAllL_yes h
  rw [e2]
  exact first_again hr (allL_ge0 (at11_chooses room) h.ge0) (allL_perm (at11_chooses room) ts).2.2 (allL_fits (at11_chooses room) h) (first_full1 hr h.ge0)

/-- Numbers that differ, all less than n, are at most n. -/
theorem few_nats {n : Nat} : ∀ l : List Nat, l.Nodup → (∀ x ∈ l, x < n) → l.length ≤ n := by
  induction n with
  | zero =>
    intro l _ h
    match l with
    | [] => exact Nat.le_refl _
    | x :: r => exact absurd (h x (by simp)) (by omega)
  | succ n ih =>
    intro l hd h
    by_cases hm : n ∈ l
    · have h1 := ih (l.erase n) (hd.erase n) fun x hx => by
        have hx2 := h x (List.mem_of_mem_erase hx)
        have hne : x ≠ n := fun e => by subst e; exact (List.Nodup.not_mem_erase hd) hx
        omega
      rw [List.length_erase_of_mem hm] at h1
      omega
    · have h1 := ih l hd fun x hx => by
        have hx2 := h x hx
        have hne : x ≠ n := fun e => by subst e; exact hm hx
        omega
      omega
theorem takenL_apart (room : List Int) (ts : List T) : (takenL room ts).Pairwise fun u t => clashB room u t = true := by
  unfold takenL
  suffices key : ∀ (us s : List T), (s.Pairwise fun u t => clashB room u t = true) → ((us.foldl (fun s t => if s.all (fun u => clashB room u t) then s ++ [t] else s) s).Pairwise fun u t => clashB room u t = true) from key ts [] List.Pairwise.nil
  intro us
  induction us with
  | nil => intro s h; exact h
  | cons t r ih =>
    intro s h
    rw [List.foldl_cons]
    split
    · rename_i hall
      refine ih _ ?_
      rw [List.pairwise_append]
      refine ⟨h, List.pairwise_singleton _ _, fun u hu v hv => ?_⟩
      simp at hv
      subst hv
      rw [List.all_eq_true] at hall
      exact hall u hu
    · exact ih _ h
theorem clash_no {room : List Int} {b : List T} {x y : T} (hr : room.length = 3) (hg : Ge0 b) (hf : fitsB (loadL b) room = true) (h : [x, y].Sublist b) : clashB room x y = false := by
  have h2 := fits_sub hr h hg hf
  have hx := (hg x (h.subset (by simp))).1
  unfold clashB
  rw [show loadL [x, y] = addL (addL [0, 0, 0] x.need 1) y.need 1 from rfl, addL_zero hx] at h2
  rw [h2]
  rfl
theorem two_sub {α : Type} {l : List α} {x y : α} (hx : x ∈ l) (hy : y ∈ l) (hne : x ≠ y) : [x, y].Sublist l ∨ [y, x].Sublist l := by
  induction l with
  | nil => cases hx
  | cons a r ih =>
    rcases List.mem_cons.1 hx with hx1 | hx1
    · rcases List.mem_cons.1 hy with hy1 | hy1
      · exact absurd (hx1.trans hy1.symm) hne
      · subst hx1; exact .inl (List.Sublist.cons_cons _ (List.singleton_sublist.2 hy1))
    · rcases List.mem_cons.1 hy with hy1 | hy1
      · subst hy1; exact .inr (List.Sublist.cons_cons _ (List.singleton_sublist.2 hx1))
      · rcases ih hx1 hy1 with h | h
        · exact .inl (h.cons _)
        · exact .inr (h.cons _)
theorem clash_comm {room : List Int} {x y : T} (hx : x.need.length = 3) (hy : y.need.length = 3) : clashB room x y = clashB room y x := by
  unfold clashB
  congr 2
  obtain ⟨ix, nx⟩ := x
  obtain ⟨iy, ny⟩ := y
  match nx, hx, ny, hy with
  | [a, b, c], _, [d, e, f], _ =>
    simp only [addL, List.zipWith_cons_cons, List.zipWith_nil_right]
    rw [show a + 1 * d = d + 1 * a by omega, show b + 1 * e = e + 1 * b by omega, show c + 1 * f = f + 1 * c by omega]
/-- Tasks that are pairwise in conflict lie in different nodes. -/
theorem apart_le {room : List Int} (hr : room.length = 3) {bs : List (List T)} (hg : ∀ b ∈ bs, Ge0 b) (hf : ∀ b ∈ bs, fitsB (loadL b) room = true) (l : List T) (hp : l.Pairwise fun u t => clashB room u t = true) (hd : (l.map T.id).Nodup) (hm : ∀ t ∈ l, ∃ b ∈ bs, t ∈ b) : l.length ≤ bs.length := by
  have hex : ∀ t ∈ l, ∃ k, ∃ h : k < bs.length, t ∈ bs[k] := fun t ht => by
    obtain ⟨b, hb, htb⟩ := hm t ht
    obtain ⟨k, hk, rfl⟩ := List.getElem_of_mem hb
    exact ⟨k, hk, htb⟩
  let f : T → Nat := fun t => (bs.findIdx? fun b => b.any fun u => sameT u t).getD 0
  have hfs : ∀ t ∈ l, ∃ h : f t < bs.length, t ∈ bs[f t] := fun t ht => by
    cases hq : bs.findIdx? fun b => b.any fun u => sameT u t with
    | none =>
      obtain ⟨k, hk, htk⟩ := hex t ht
      rw [List.findIdx?_eq_none_iff] at hq
      have := hq _ (List.getElem_mem hk)
      rw [List.any_eq_false] at this
      exact absurd (sameT_iff.2 rfl) (this t htk)
    | some k =>
      have e : f t = k := by simp [f, hq]
      rw [List.findIdx?_eq_some_iff_getElem] at hq
      obtain ⟨hk, hany, _⟩ := hq
      rw [List.any_eq_true] at hany
      obtain ⟨u, hu, hs⟩ := hany
      rw [e]
      exact ⟨hk, by rw [← sameT_iff.1 hs]; exact hu⟩
  have hnd : (l.map f).Nodup := by
    rw [List.Nodup, List.pairwise_map]
    rw [List.Nodup, List.pairwise_map] at hd
    refine (hp.and hd).imp_of_mem ?_
    rintro x y hx hy ⟨hc, hid⟩ e
    obtain ⟨h1, hx1⟩ := hfs x hx
    obtain ⟨h2, hy1⟩ := hfs y hy
    have hy2 : y ∈ bs[f x] := by
      have e2 : bs[f y] = bs[f x] := by congr 1; exact e.symm
      rw [← e2]; exact hy1
    have hne : x ≠ y := fun e => hid (by rw [e])
    have hb := List.getElem_mem h1
    rcases two_sub hx1 hy2 hne with h | h
    · rw [clash_no hr (hg _ hb) (hf _ hb) h] at hc; cases hc
    · rw [clash_comm (hg _ hb x hx1).1 (hg _ hb y hy2).1, clash_no hr (hg _ hb) (hf _ hb) h] at hc; cases hc
  have := few_nats (l.map f) hnd fun k hk => by
    obtain ⟨t, ht, rfl⟩ := List.mem_map.1 hk
    exact (hfs t ht).1
  rwa [List.length_map] at this
theorem takenL_sublist (room : List Int) (ts : List T) : (takenL room ts).Sublist ts := by
  unfold takenL
  suffices key : ∀ (us s : List T), ∀ p : List T, s.Sublist p → (us.foldl (fun s t => if s.all (fun u => clashB room u t) then s ++ [t] else s) s).Sublist (p ++ us) from key ts [] [] (List.Sublist.refl _)
  intro us
  induction us with
  | nil => intro s p h; simpa using h
  | cons t r ih =>
    intro s p h
    rw [List.foldl_cons, show p ++ t :: r = (p ++ [t]) ++ r by simp]
    split
    · exact ih _ _ (h.append (List.Sublist.refl _))
    · exact ih _ _ (h.trans (List.sublist_append_left _ _))
theorem cmp_bins {room : List Int} {k : Nat} {bs : List (List T)} (h : ∀ b ∈ bs, cmp k b ≤ room.getD k 0) : cmp k bs.flatten ≤ (bs.length : Int) * room.getD k 0 := by
  induction bs with
  | nil => simp [cmp_nil]
  | cons b r ih =>
    rw [List.flatten_cons, cmp_app, List.length_cons]
    have h1 := h b (by simp)
    have h2 := ih fun c hc => h c (by simp [hc])
    rw [show ((r.length + 1 : Nat) : Int) * room.getD k 0 = (r.length : Int) * room.getD k 0 + room.getD k 0 by push_cast; rw [Int.add_mul]; omega]
    omega
theorem quo_le {l r n : Int} (hr : 1 ≤ r) (h : l ≤ n * r) : (l + r - 1) / r ≤ n := by
  have h1 : (l + r - 1) / r < n + 1 := by
    rw [Int.ediv_lt_iff_lt_mul (by omega)]
    rw [Int.add_mul]
    omega
  omega
/-- No fewer nodes hold all tasks than the bound tells. -/
theorem bound_le {room : List Int} {ts : List T} (h : TasksOk room ts) {bs : List (List T)} (hp : bs.flatten.Perm ts) (hf : ∀ b ∈ bs, fitsB (loadL b) room = true) : boundI room ts ≤ (bs.length : Int) := by
  have hr : room.length = 3 := h.1.1.1
  have hgt := h.ge0
  have hg : ∀ b ∈ bs, Ge0 b := fun b hb => hgt.sub fun t ht => hp.subset (List.mem_flatten.2 ⟨b, hb, ht⟩)
  unfold boundI
  rw [if_pos (tasksB_iff.2 h)]
  refine Int.max_le.2 ⟨?_, ?_⟩
  · unfold sumI
    rw [load_cmp hgt.three]
    have hk : ∀ k, k < 3 → cmp k ts ≤ (bs.length : Int) * room.getD k 0 := fun k hk => by
      rw [← cmp_perm hp]
      exact cmp_bins fun b hb => (fits_cmp hr (hg b hb).three).1 (hf b hb) k hk
    have hone := h.1.2
    match room, hr with
    | [x, y, z], _ =>
      have k0 := hk 0 (by omega)
      have k1 := hk 1 (by omega)
      have k2 := hk 2 (by omega)
      simp only [List.getD_cons_zero, List.getD_cons_succ] at k0 k1 k2
      have q0 := quo_le (hone x (by simp)) k0
      have q1 := quo_le (hone y (by simp)) k1
      have q2 := quo_le (hone z (by simp)) k2
      simp only [quoL, List.zipWith_cons_cons, List.zipWith_nil_right, List.foldl_cons, List.foldl_nil]
      have : (0 : Int) ≤ (bs.length : Int) := by omega
      exact Int.max_le.2 ⟨Int.max_le.2 ⟨Int.max_le.2 ⟨this, q0⟩, q1⟩, q2⟩
  · unfold apartI
    have hd := (tasksOk_iff.1 h).2.2.2
    have := apart_le hr hg hf (takenL room ts) (takenL_apart room ts) (((takenL_sublist room ts).map T.id).nodup hd) fun t ht => by
      obtain ⟨b, hb, htb⟩ := List.mem_flatten.1 (hp.symm.subset ((takenL_sublist room ts).subset ht))
      exact ⟨b, hb, htb⟩
    omega
theorem first_bound {room : List Int} {ts : List T} (h : TasksOk room ts) : boundI room ts ≤ ((firstAllL room ts).length : Int) ∧ (firstAllL room ts).length ≤ ts.length := by
  rw [firstAllL_yes h]
  exact ⟨bound_le h (allL_perm (at11_chooses room) ts).1 (allL_fits (at11_chooses room) h), (allL_perm (at11_chooses room) ts).2.1⟩

theorem first_full {room : List Int} {ts : List T} (h : TasksOk room ts) {a b : Nat} (hab : a < b) (hb : b < (firstAllL room ts).length) : binsB room [(firstAllL room ts)[a] ++ (firstAllL room ts)[b]] = false := by
  have e := firstAllL_yes h
  have hr : room.length = 3 := h.1.1.1
  exact full_bins hr (by rw [e]; exact allL_full (at11_chooses room) hr h.ge0) (by rw [e]; exact allL_ge0 (at11_chooses room) h.ge0) hab hb
theorem best_full {room : List Int} {ts : List T} (h : TasksOk room ts) {a b : Nat} (hab : a < b) (hb : b < (bestAllL room ts).length) : binsB room [(bestAllL room ts)[a] ++ (bestAllL room ts)[b]] = false := by
  have e := bestAllL_yes h
  have hr : room.length = 3 := h.1.1.1
  exact full_bins hr (by rw [e]; exact allL_full (best12_chooses room) hr h.ge0) (by rw [e]; exact allL_ge0 (best12_chooses room) h.ge0) hab hb

theorem first_full' {room : List Int} {ts : List T} (h : TasksOk room ts) {a b : Nat} {x y : List T} (hab : a < b) (hx : (firstAllL room ts)[a]? = some x) (hy : (firstAllL room ts)[b]? = some y) : binsB room [x ++ y] = false := by
  obtain ⟨h1, rfl⟩ := List.getElem?_eq_some_iff.1 hx
  obtain ⟨h2, rfl⟩ := List.getElem?_eq_some_iff.1 hy
  exact first_full h hab h2

theorem best_full' {room : List Int} {ts : List T} (h : TasksOk room ts) {a b : Nat} {x y : List T} (hab : a < b) (hx : (bestAllL room ts)[a]? = some x) (hy : (bestAllL room ts)[b]? = some y) : binsB room [x ++ y] = false := by
  obtain ⟨h1, rfl⟩ := List.getElem?_eq_some_iff.1 hx
  obtain ⟨h2, rfl⟩ := List.getElem?_eq_some_iff.1 hy
  exact best_full h hab h2

/-- The last task is put into what the others gave. -/
theorem all_last {room : List Int} {c : List (List T) → T → Option Nat} (hc : Chooses room c) {ts : List T} (h : TasksOk room ts) {q : Nat} (hq : q + 1 = ts.length) :
    ok11 room (allL c (ts.take q)) (ts[q]'(by omega)) = true ∧ putL (allL c (ts.take q)) (c (allL c (ts.take q)) (ts[q]'(by omega))) (ts[q]'(by omega)) = allL c ts ∧ TasksOk room (ts.take q) := by
  have hlt : q < ts.length := by omega
  have he : ts.take q ++ [ts[q]] = ts := by
    have := List.take_succ_eq_append_getElem hlt
    rw [List.take_of_length_le (by omega)] at this
    exact this.symm
  have ht : TasksOk room (ts.take q) := tasksOk_sub (List.take_sublist q ts) h
  have hp := (allL_perm hc (ts.take q)).1
  refine ⟨?_, ?_, ht⟩
  · unfold ok11
    rw [Bool.and_eq_true, binsB_iff, tasksB_iff]
    refine ⟨allL_ok hc ht, tasksOk_perm ?_ h⟩
    conv => lhs; rw [← he]
    exact (hp.append_right _).symm
  · have := allL_snoc c (ts.take q) ts[q]
    rw [he] at this
    exact this.symm
theorem first_step {room : List Int} {ts : List T} (h : TasksOk room ts) {q : Nat} (hq : q + 1 = ts.length) {x : T} (hx : ts[q]? = some x) :
    ok11 room (firstAllL room (ts.take q)) x = true ∧ firstPutL room (firstAllL room (ts.take q)) x = firstAllL room ts := by
  obtain ⟨h1, rfl⟩ := List.getElem?_eq_some_iff.1 hx
  obtain ⟨a, b, c⟩ := all_last (at11_chooses room) h hq
  rw [firstAllL_yes c, firstAllL_yes h]
  exact ⟨a, by unfold firstPutL; rw [if_pos a]; exact b⟩
theorem best_step {room : List Int} {ts : List T} (h : TasksOk room ts) {q : Nat} (hq : q + 1 = ts.length) {x : T} (hx : ts[q]? = some x) :
    bestAllL room ts = putL (bestAllL room (ts.take q)) (best12 room (bestAllL room (ts.take q)) x) x ∧ bestAtI room (bestAllL room (ts.take q)) x = nodeI (best12 room (bestAllL room (ts.take q)) x) := by
  obtain ⟨h1, rfl⟩ := List.getElem?_eq_some_iff.1 hx
  obtain ⟨a, b, c⟩ := all_last (best12_chooses room) h hq
  rw [bestAllL_yes c, bestAllL_yes h]
  exact ⟨b.symm, by unfold bestAtI; rw [if_pos a]⟩
/-- A task alone has a node. -/
theorem best_one {room : List Int} {ts : List T} (h : TasksOk room ts) {x : T} (hx : x ∈ ts) : bestAllL room [x] = [[x]] := by
  have ht : TasksOk room [x] := tasksOk_sub (List.singleton_sublist.2 hx) h
  rw [bestAllL_yes ht]
  rfl

/-- Of the nodes with room the best one does not come before the first one. -/
theorem best_first (room : List Int) (bs : List (List T)) (x : T) : (bestAtI room bs x = -1 ∧ firstAtI room bs x = -1) ∨ ∃ (i j : Nat), i ≤ j ∧ firstAtI room bs x = (i : Int) ∧ bestAtI room bs x = (j : Int) := by
  unfold bestAtI firstAtI
  split
  · rcases best12_chooses room bs x with ⟨e, hn⟩ | ⟨j, hj, e, hf⟩
    · rcases at11_chooses room bs x with ⟨e2, _⟩ | ⟨i, hi, e2, hf2⟩
      · exact .inl ⟨by rw [e]; rfl, by rw [e2]; rfl⟩
      · rw [hn _ (List.getElem_mem hi)] at hf2; cases hf2
    · rcases at11_chooses room bs x with ⟨e2, hn2⟩ | ⟨i, hi, e2, hf2⟩
      · rw [hn2 _ (List.getElem_mem hj)] at hf; cases hf
      · refine .inr ⟨i, j, ?_, by rw [e2]; rfl, by rw [e]; rfl⟩
        by_cases hlt : j < i
        · have := at11_first e2 j hj hlt
          rw [hf] at this; cases this
        · omega
  · exact .inl ⟨rfl, rfl⟩
/-- The best node's score is not reached by another one's, nor by one before it. -/
theorem best_score (room : List Int) (bs : List (List T)) (x : T) : bestAtI room bs x < 0 ∨ ∃ (k : Nat) (b0 : List T), bs[k]? = some b0 ∧ bestAtI room bs x = (k : Int) ∧ 0 ≤ bestScoreI room b0 x ∧ ∀ (i : Nat) (b : List T), bs[i]? = some b → bestScoreI room b x ≤ bestScoreI room b0 x ∧ (i < k → bestScoreI room b x < bestScoreI room b0 x) := by
  unfold bestAtI
  split
  · rename_i hok
    obtain ⟨h1, h2, h3, h4, h5⟩ := ok11_facts hok
    have hone : ∀ b ∈ bs, bestScoreI room b x = scoreI room b x := fun b hb => by
      unfold bestScoreI
      rw [if_pos]
      unfold ok11
      rw [Bool.and_eq_true]
      refine ⟨?_, tasksB_iff.2 (tasksOk_sub ((show [b].flatten.Sublist bs.flatten by simpa using sub_flat hb).append (List.Sublist.refl _)) h2)⟩
      rw [bins_one, Bool.and_eq_true]
      rw [binsOk_all] at h1
      exact ⟨tasksB_iff.2 (tasksOk_sub (sub_flat hb) h1.1), h1.2.2 b hb⟩
    have hd : ∀ b ∈ bs, fits11 room b x = true → 0 ≤ dotI x.need (leftL room b) := fun b hb hf => dot_nonneg h1.1.1.1.1 h4 h5 (loadL_good b (h1.goodB b hb)).1 hf
    rcases bestK_spec room bs x bs.length with ⟨e, hn⟩ | ⟨k, e, hk, hf, hmax⟩
    · exact .inl (by rw [show best12 room bs x = none from e]; decide)
    · rw [getD_at hk] at hf
      have hs0 : scoreI room bs[k] x = dotAt room bs x k := by unfold scoreI dotAt; rw [if_pos hf, getD_at hk]
      have hp := hd _ (List.getElem_mem hk) hf
      refine .inr ⟨k, bs[k], List.getElem?_eq_getElem hk, by rw [show best12 room bs x = some k from e]; rfl, ?_, fun i b hib => ?_⟩
      · rw [hone _ (List.getElem_mem hk), hs0]
        unfold dotAt
        rw [getD_at hk]
        exact hp
      · obtain ⟨hi, rfl⟩ := List.getElem?_eq_some_iff.1 hib
        rw [hone _ (List.getElem_mem hi), hone _ (List.getElem_mem hk), hs0]
        cases hfi : fits11 room bs[i] x with
        | true =>
          have := hmax i hi (by rw [getD_at hi]; exact hfi)
          have hsi : scoreI room bs[i] x = dotAt room bs x i := by unfold scoreI dotAt; rw [if_pos hfi, getD_at hi]
          rw [hsi]
          exact this
        | false =>
          have hsi : scoreI room bs[i] x = -1 := by unfold scoreI; rw [hfi]; rfl
          have hpk : 0 ≤ dotAt room bs x k := by unfold dotAt; rw [getD_at hk]; exact hp
          rw [hsi]
          exact ⟨by omega, fun _ => by omega⟩
  · exact .inl (by omega)

end Go.Proofs.Ytipmoedflpjioaa
