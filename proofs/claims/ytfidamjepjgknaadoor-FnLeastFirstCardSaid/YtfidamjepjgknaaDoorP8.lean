/- Plain laws: the fewest nodes: all ways, and a table over sets of tasks. No program in sight. No condition. -/
import Derived.Test.YtfidamjepjgknaaDoorP2
namespace Go.Proofs.YtfidamjepjgknaaDoor
set_option maxRecDepth 100000

/-- The first way to put tasks into nodes, of which there are at most some. -/
def tryL (room : List Int) (most : Nat) : List T → List (List T) → Option (List (List T))
  | [], bs => some bs
  | x :: r, bs => ((List.range bs.length).findSome? fun i => if fits11 room (bs.getD i []) x = true then tryL room most r (putL bs (some i) x) else none).or (if bs.length < most then tryL room most r (putL bs none x) else none)
/-- Tasks go into some nodes, each within the room. -/
def Packs (room : List Int) (ts : List T) (m : Nat) : Prop := ∃ es : List (List T), es.length ≤ m ∧ es.flatten.Perm ts ∧ ∀ e ∈ es, fitsB (loadL e) room = true

theorem tryL_sound {room : List Int} {m : Nat} : ∀ (ts : List T) (bs out : List (List T)), tryL room m ts bs = some out → bs.length ≤ m → (∀ b ∈ bs, fitsB (loadL b) room = true) → (∀ x ∈ ts, fits11 room [] x = true) →
    out.length ≤ m ∧ out.flatten.Perm (bs.flatten ++ ts) ∧ ∀ b ∈ out, fitsB (loadL b) room = true := by
  intro ts
  induction ts with
  | nil =>
    intro bs out h hl hf _
    simp only [tryL, Option.some.injEq] at h
    subst h
    exact ⟨hl, by simp, hf⟩
  | cons x r ih =>
    intro bs out h hl hf hx
    rw [tryL, Option.or_eq_some_iff] at h
    rcases h with h | ⟨_, h⟩
    · obtain ⟨i, hi, h⟩ := List.exists_of_findSome?_eq_some h
      rw [List.mem_range] at hi
      split at h
      · rename_i hfi
        rw [putL_some hi] at h
        rw [getD_at hi] at hfi
        obtain ⟨h1, h2, h3⟩ := ih _ _ h (by simpa using hl) (fun b hb => by
          rcases List.mem_or_eq_of_mem_set hb with hb | rfl
          · exact hf b hb
          · rw [← fits11_load]; exact hfi) (fun y hy => hx y (by simp [hy]))
        refine ⟨h1, h2.trans ?_, h3⟩
        have := (set_flat hi x).append_right r
        simpa using this
      · cases h
    · split at h
      · rename_i hlt
        rw [putL_none] at h
        obtain ⟨h1, h2, h3⟩ := ih _ _ h (by simp; omega) (fun b hb => by
          rcases List.mem_append.1 hb with hb | hb
          · exact hf b hb
          · simp at hb; subst hb
            have := hx x (by simp)
            rw [fits11_load] at this; exact this) (fun y hy => hx y (by simp [hy]))
        exact ⟨h1, h2.trans (by simp), h3⟩
      · cases h

theorem set_perm {α : Type} {es : List (List α)} {j : Nat} (h : j < es.length) (v : List α) : ((es.set j v).flatten ++ es[j]).Perm (es.flatten ++ v) := by
  induction es generalizing j with
  | nil => simp at h
  | cons e r ih =>
    cases j with
    | zero =>
      simp only [List.set_cons_zero, List.getElem_cons_zero, List.flatten_cons]
      refine List.perm_append_comm.trans ?_
      rw [List.append_assoc]
      exact List.Perm.append_left e List.perm_append_comm
    | succ j =>
      simp only [List.set_cons_succ, List.getElem_cons_succ, List.flatten_cons, List.append_assoc]
      exact List.Perm.append_left e (ih (by simpa using h))
theorem take_out {α : Type} {x : α} {E e r F : List α} (h1 : (F ++ E).Perm ((x :: r) ++ e)) (h2 : E.Perm (x :: e)) : F.Perm r := by
  have h3 : (F ++ (x :: e)).Perm ((x :: r) ++ e) := (List.Perm.append_left F h2).symm.trans h1
  have h4 : (x :: (F ++ e)).Perm (x :: (r ++ e)) := List.perm_middle.symm.trans h3
  exact (List.perm_append_right_iff e).1 h4.cons_inv
theorem swap3 {α : Type} (A u v : List α) : ((A ++ u) ++ v).Perm ((A ++ v) ++ u) := by
  rw [List.append_assoc, List.append_assoc]; exact List.Perm.append_left _ List.perm_append_comm
theorem getD_far {bs : List (List T)} {k : Nat} (h : bs.length ≤ k) : bs.getD k [] = [] := by rw [List.getD_eq_getElem?_getD, List.getElem?_eq_none h]; rfl

theorem tryL_complete {room : List Int} (hr : room.length = 3) {m : Nat} : ∀ (ts : List T) (bs es : List (List T)), es.length = m → es.flatten.Perm ts → bs.length ≤ m → Ge0 (bs.flatten ++ ts) →
    (∀ i (h : i < es.length), fitsB (loadL (bs.getD i [] ++ es[i])) room = true) → (tryL room m ts bs).isSome = true := by
  intro ts
  induction ts with
  | nil => intro bs es _ _ _ _ _; rfl
  | cons x r ih =>
    intro bs es hm hp hb hg hf
    have hx : x ∈ es.flatten := hp.mem_iff.2 (by simp)
    obtain ⟨e, he, hxe⟩ := List.mem_flatten.1 hx
    obtain ⟨j, hj, rfl⟩ := List.getElem_of_mem he
    obtain ⟨s, t, hst⟩ := List.append_of_mem hxe
    have hE : (es[j]).Perm (x :: (s ++ t)) := by rw [hst]; exact List.perm_middle
    have hxs : [x].Sublist es[j] := List.singleton_sublist.2 hxe
    have gm : ∀ i (h : i < es.length), Ge0 (bs.getD i [] ++ es[i]) := fun i h => by
      refine hg.sub fun y hy => ?_
      rcases List.mem_append.1 hy with hy | hy
      · refine List.mem_append.2 (.inl ?_)
        by_cases hi : i < bs.length
        · rw [getD_at hi] at hy; exact List.mem_flatten.2 ⟨_, List.getElem_mem hi, hy⟩
        · rw [getD_far (by omega)] at hy; cases hy
      · exact List.mem_append.2 (.inr (hp.mem_iff.1 (List.mem_flatten.2 ⟨_, List.getElem_mem h, hy⟩)))
    rw [tryL, Option.isSome_or, Bool.or_eq_true]
    by_cases hjb : j < bs.length
    · left
      rw [List.findSome?_isSome_iff]
      refine ⟨j, List.mem_range.2 hjb, ?_⟩
      have hfj : fits11 room (bs.getD j []) x = true := by
        rw [fits11_load]
        exact fits_sub hr ((List.Sublist.refl _).append hxs) (gm j hj) (hf j hj)
      rw [if_pos hfj, putL_some hjb]
      refine ih _ (es.set j (s ++ t)) (by simpa using hm) ?_ (by simpa using hb) (hg.sub fun y hy => ?_) (fun i hi => ?_)
      · have := set_perm hj (s ++ t)
        exact take_out (this.trans (hp.append_right _)) hE
      · rcases List.mem_append.1 hy with hy | hy
        · rcases List.mem_append.1 ((set_flat hjb x).mem_iff.1 hy) with hy | hy
          · exact List.mem_append.2 (.inl hy)
          · simp at hy; subst hy; simp
        · simp [hy]
      · simp only [List.length_set] at hi
        by_cases e : j = i
        · subst e
          rw [List.getElem_set_self, getD_at (by simpa using hjb), List.getElem_set_self]
          have h1 := hf j hj
          have h2 := gm j hj
          rw [getD_at hjb] at h1 h2
          rw [fits_perm hr (ys := bs[j] ++ es[j]) ?_ h2]
          · exact h1
          · rw [List.append_assoc]
            exact List.Perm.append_left _ (by simpa using hE.symm)
        · rw [List.getElem_set_ne e]
          have h1 := hf i hi
          have e2 : (bs.set j (bs[j] ++ [x])).getD i [] = bs.getD i [] := by
            rw [List.getD_eq_getElem?_getD, List.getD_eq_getElem?_getD, List.getElem?_set_ne e]
          rw [e2]
          exact h1
    · right
      have hp1 : bs.length < es.length := by omega
      rw [if_pos (by omega), putL_none]
      have hpj : ((es.set j (es[bs.length])).set bs.length (s ++ t)).length = es.length := by simp
      refine ih _ ((es.set j (es[bs.length])).set bs.length (s ++ t)) (by simpa using hm) ?_ (by simp; omega) (hg.sub fun y hy => ?_) (fun i hi => ?_)
      · have h1 := set_perm (es := es.set j es[bs.length]) (j := bs.length) (by simpa using hp1) (s ++ t)
        have h2 := set_perm hj es[bs.length]
        have e1 : (es.set j es[bs.length])[bs.length]'(by simpa using hp1) = es[bs.length] := by
          by_cases e : j = bs.length
          · subst e; rw [List.getElem_set_self]
          · rw [List.getElem_set_ne e]
        rw [e1] at h1
        have h3 : ((((es.set j es[bs.length]).set bs.length (s ++ t)).flatten ++ es[j]) ++ es[bs.length]).Perm ((es.flatten ++ (s ++ t)) ++ es[bs.length]) := by
          refine (swap3 _ _ _).trans ((h1.append_right _).trans ?_)
          exact (swap3 _ _ _).trans ((h2.append_right _).trans (swap3 _ _ _))
        exact take_out (((List.perm_append_right_iff _).1 h3).trans (hp.append_right _)) hE
      · simp only [List.flatten_append, List.flatten_cons, List.flatten_nil, List.append_nil, List.append_assoc, List.mem_append] at hy ⊢
        rcases hy with hy | hy | hy
        · exact .inl hy
        · simp at hy; subst hy; simp
        · simp [hy]
      · have hi' : i < es.length := by simpa using hi
        by_cases e : bs.length = i
        · subst e
          rw [List.getElem_set_self, List.getD_eq_getElem?_getD, List.getElem?_append_right (Nat.le_refl _), Nat.sub_self]
          have h1 := hf j hj
          have h2 := gm j hj
          rw [getD_far (by omega)] at h1 h2
          rw [fits_perm hr (ys := [] ++ es[j]) ?_ h2]
          · exact h1
          · simpa using hE.symm
        · rw [List.getElem_set_ne e]
          by_cases hlt : i < bs.length
          · have e2 : (bs ++ [[x]]).getD i [] = bs.getD i [] := by
              rw [List.getD_eq_getElem?_getD, List.getD_eq_getElem?_getD, List.getElem?_append_left hlt]
            rw [e2, List.getElem_set_ne (by omega)]
            exact hf i hi'
          · rw [getD_far (by simp; omega)]
            by_cases ej : j = i
            · subst ej
              rw [List.getElem_set_self]
              have h1 := hf bs.length hp1
              rw [getD_far (Nat.le_refl _)] at h1
              exact h1
            · rw [List.getElem_set_ne ej]
              have h1 := hf i hi'
              rw [getD_far (by omega)] at h1
              exact h1

theorem flat_empties {α : Type} (n : Nat) : (List.replicate n ([] : List α)).flatten = [] := by
  induction n with
  | zero => rfl
  | succ n ih => rw [List.replicate_succ, List.flatten_cons, ih]; rfl
theorem fits_none {room : List Int} (h : RoomOk room) : fitsB (loadL []) room = true := by
  rw [fits_cmp h.1.1 (by simp)]
  intro k hk
  rw [cmp_nil, List.getD_eq_getElem?_getD, List.getElem?_eq_getElem (by have := h.1.1; omega)]
  exact (h.1.2 _ (List.getElem_mem _)).1
theorem packs_try {room : List Int} {ts : List T} (h : TasksOk room ts) {m : Nat} : Packs room ts m ↔ (tryL room m ts []).isSome = true := by
  constructor
  · rintro ⟨es, hl, hp, hf⟩
    refine tryL_complete h.1.1.1 ts [] (es ++ List.replicate (m - es.length) []) (by simp; omega) (by rw [List.flatten_append, flat_empties, List.append_nil]; exact hp) (by simp) (by simpa using h.ge0) (fun i hi => ?_)
    have hm := List.getElem_mem hi
    generalize (es ++ List.replicate (m - es.length) [])[i] = e at *
    rw [show ([] : List (List T)).getD i [] = [] from getD_far (by simp), List.nil_append]
    rcases List.mem_append.1 hm with hm | hm
    · exact hf e hm
    · rw [(List.mem_replicate.1 hm).2]; exact fits_none h.1
  · intro hs
    obtain ⟨out, ho⟩ := Option.isSome_iff_exists.1 hs
    obtain ⟨h1, h2, h3⟩ := tryL_sound ts [] out ho (by simp) (by simp) (fun x hx => alone_fits h hx)
    exact ⟨out, h1, by simpa using h2, h3⟩
theorem packs_alone {room : List Int} {ts : List T} (h : TasksOk room ts) : Packs room ts ts.length := by
  refine ⟨ts.map fun t => [t], by simp, ?_, fun e he => ?_⟩
  · have : (ts.map fun t => [t]).flatten = ts := by
      clear h
      induction ts with
      | nil => rfl
      | cons t r ih => rw [List.map_cons, List.flatten_cons, ih]; rfl
    rw [this]
  · obtain ⟨t, ht, rfl⟩ := List.mem_map.1 he
    have := alone_fits h ht
    rw [fits11_load] at this
    exact this
theorem Packs.mono {room : List Int} {ts : List T} {m k : Nat} (h : Packs room ts m) (hk : m ≤ k) : Packs room ts k := let ⟨es, h1, h2⟩ := h; ⟨es, Nat.le_trans h1 hk, h2⟩

/-- The first way with the fewest nodes, from some number of nodes on. -/
def leastF (room : List Int) (ts : List T) : Nat → Nat → List (List T)
  | 0, _ => []
  | f + 1, m => match tryL room m ts [] with
    | some o => o
    | none => leastF room ts f (m + 1)
def leastW (room : List Int) (ts : List T) : List (List T) := leastF room ts (ts.length + 1) 0
def leastN (room : List Int) (ts : List T) : Nat := (leastW room ts).length
theorem leastF_spec {room : List Int} {ts : List T} : ∀ f m, (∀ k, k < m → tryL room k ts [] = none) → (∃ k, m ≤ k ∧ k < m + f ∧ (tryL room k ts []).isSome = true) → ∃ k, tryL room k ts [] = some (leastF room ts f m) ∧ k < m + f ∧ ∀ j, j < k → tryL room j ts [] = none := by
  intro f
  induction f with
  | zero => rintro m _ ⟨k, h1, h2, _⟩; omega
  | succ f ih =>
    intro m hn hs
    rw [leastF]
    cases h : tryL room m ts [] with
    | some o => exact ⟨m, h, by omega, hn⟩
    | none =>
      obtain ⟨k, h1, h2, h3⟩ := hs
      have hk : k ≠ m := by intro e; subst e; rw [h] at h3; cases h3
      obtain ⟨q, a, b, c⟩ := ih (m + 1) (fun j hj => by
        by_cases e : j = m
        · subst e; exact h
        · exact hn j (by omega)) ⟨k, by omega, by omega, h3⟩
      exact ⟨q, a, by omega, c⟩
theorem leastW_spec {room : List Int} {ts : List T} (h : TasksOk room ts) : tryL room (leastN room ts) ts [] = some (leastW room ts) ∧ leastN room ts ≤ ts.length ∧ ∀ j, j < leastN room ts → tryL room j ts [] = none := by
  obtain ⟨k, h1, h2, h3⟩ := leastF_spec (ts.length + 1) 0 (fun k hk => by omega) ⟨ts.length, by omega, by omega, (packs_try h).1 (packs_alone h)⟩
  have hs := tryL_sound ts [] _ h1 (by simp) (by simp) (fun x hx => alone_fits h hx)
  have hk : (leastF room ts (ts.length + 1) 0).length = k := by
    have hp : Packs room ts (leastF room ts (ts.length + 1) 0).length := ⟨_, Nat.le_refl _, by simpa using hs.2.1, hs.2.2⟩
    rw [packs_try h] at hp
    rcases Nat.lt_or_ge (leastF room ts (ts.length + 1) 0).length k with hlt | hge
    · rw [h3 _ hlt] at hp; cases hp
    · omega
  have e : leastN room ts = k := hk
  rw [e]
  exact ⟨h1, by omega, h3⟩
theorem leastN_packs {room : List Int} {ts : List T} (h : TasksOk room ts) : Packs room ts (leastN room ts) := by
  rw [packs_try h, (leastW_spec h).1]; rfl
theorem leastN_le {room : List Int} {ts : List T} (h : TasksOk room ts) {m : Nat} (hp : Packs room ts m) : leastN room ts ≤ m := by
  rw [packs_try h] at hp
  rcases Nat.lt_or_ge m (leastN room ts) with hlt | hge
  · rw [(leastW_spec h).2.2 m hlt] at hp; cases hp
  · exact hge
theorem leastN_nil {room : List Int} (h : TasksOk room []) : leastN room [] = 0 := Nat.le_zero.1 (leastN_le h ⟨[], by simp, by simp, by simp⟩)
theorem Packs.perm {room : List Int} {ts us : List T} {m : Nat} (h : Packs room ts m) (hp : ts.Perm us) : Packs room us m := let ⟨es, h1, h2, h3⟩ := h; ⟨es, h1, h2.trans hp, h3⟩
theorem leastN_perm {room : List Int} {ts us : List T} (h : TasksOk room ts) (hp : ts.Perm us) : leastN room ts = leastN room us :=
  Nat.le_antisymm (leastN_le h ((leastN_packs (tasksOk_perm hp h)).perm hp.symm)) (leastN_le (tasksOk_perm hp h) ((leastN_packs h).perm hp))

/-- The bits of a number below 128. -/
def bitsL (s : Nat) : List Nat := (List.range 7).filter fun i => s.testBit i
def lowB (s : Nat) : Nat := (bitsL s).headD 0
theorem bits_step : ∀ s, s < 128 → s ≠ 0 → bitsL s = lowB s :: bitsL (s &&& (s - 1)) ∧ (s &&& (s - 1)) < s ∧ lowB s < 7 := by decide +kernel
theorem bits_low : ∀ n, n < 8 → ∀ s, s < 2 ^ n → bitsL s = (List.range n).filter fun i => s.testBit i := by decide +kernel
theorem bits_all : ∀ n, n < 8 → bitsL (2 ^ n - 1) = List.range n := by decide +kernel
theorem sub_top : ∀ s, s < 128 → ∀ p, p < 128 → p &&& s = p → ∀ q, q < p → q &&& s = q → q ≤ ((p - 1) &&& s) := by decide +kernel
theorem sub_next {s p : Nat} (hs : s < 128) (hp : p < 128) (h : p &&& s = p) (h0 : p ≠ 0) : ((p - 1) &&& s) < p ∧ ((p - 1) &&& s) &&& s = ((p - 1) &&& s) ∧ ∀ q, q < p → q &&& s = q → q ≤ ((p - 1) &&& s) := by
  refine ⟨?_, ?_, fun q hq hqs => sub_top s hs p hp h q hq hqs⟩
  · have := Nat.and_le_left (n := p - 1) (m := s); omega
  · rw [Nat.and_assoc, Nat.and_self]
theorem sub_bits : ∀ s, s < 128 → ∀ p, p < 128 → p &&& s = p → (bitsL p ++ bitsL (s - p)).isPerm (bitsL s) = true ∧ (s - p) &&& s = s - p ∧ p ≤ s := by decide +kernel
def chosL (ts : List T) (s : Nat) : List T := (bitsL s).map fun i => ts.getD i ⟨0, []⟩
theorem chosL_zero (ts : List T) : chosL ts 0 = [] := rfl
theorem chosL_step (ts : List T) {s : Nat} (h : s < 128) (h0 : s ≠ 0) : chosL ts s = ts.getD (lowB s) ⟨0, []⟩ :: chosL ts (s &&& (s - 1)) := by
  unfold chosL
  rw [(bits_step s h h0).1]; rfl
theorem map_range (ts : List T) : (List.range ts.length).map (fun i => ts.getD i ⟨0, []⟩) = ts := by
  refine List.ext_getElem (by simp) fun i h1 h2 => ?_
  simp [List.getD_eq_getElem?_getD, List.getElem?_eq_getElem h2]
theorem pow_lt {n : Nat} (h : n ≤ 7) : 2 ^ n ≤ 128 := Nat.pow_le_pow_right (by omega : 0 < 2) h
theorem chosL_all {ts : List T} (h : ts.length ≤ 7) : chosL ts (2 ^ ts.length - 1) = ts := by
  unfold chosL
  rw [bits_all _ (by omega)]
  exact map_range ts
theorem chosL_sub {ts : List T} (h : ts.length ≤ 7) {s : Nat} (hs : s < 2 ^ ts.length) : (chosL ts s).Sublist ts := by
  unfold chosL
  rw [bits_low _ (by omega) s hs]
  have := (List.filter_sublist (p := fun i => s.testBit i) (l := List.range ts.length)).map (fun i => ts.getD i ⟨0, []⟩)
  rwa [map_range] at this
theorem low_lt {ts : List T} (h : ts.length ≤ 7) {s : Nat} (hs : s < 2 ^ ts.length) (h0 : s ≠ 0) : lowB s < ts.length := by
  have h1 := (bits_step s (Nat.lt_of_lt_of_le hs (pow_lt h)) h0).1
  have h2 : lowB s ∈ bitsL s := by rw [h1]; simp
  rw [bits_low _ (by omega) s hs] at h2
  simpa using (List.mem_filter.1 h2).1
theorem chosL_split (ts : List T) {s p : Nat} (hs : s < 128) (hp : p &&& s = p) : (chosL ts s).Perm (chosL ts p ++ chosL ts (s - p)) := by
  have hp' : p < 128 := by have := Nat.and_le_right (n := p) (m := s); omega
  have := (sub_bits s hs p hp' hp).1
  rw [List.isPerm_iff] at this
  unfold chosL
  rw [← List.map_append]
  exact (this.map _).symm
theorem bits_make (f : Nat → Bool) : ∀ n, ∃ p, p < 2 ^ n ∧ ∀ i, i < n → p.testBit i = f i := by
  intro n
  induction n with
  | zero => exact ⟨0, by simp, fun i hi => by omega⟩
  | succ n ih =>
    obtain ⟨p, hp, hb⟩ := ih
    cases hf : f n with
    | false =>
      refine ⟨p, by rw [Nat.pow_succ]; omega, fun i hi => ?_⟩
      by_cases e : i = n
      · subst e; rw [Nat.testBit_lt_two_pow hp, hf]
      · exact hb i (by omega)
    | true =>
      refine ⟨2 ^ n + p, by rw [Nat.pow_succ]; omega, fun i hi => ?_⟩
      by_cases e : i = n
      · subst e; rw [Nat.testBit_two_pow_add_eq, Nat.testBit_lt_two_pow hp, hf]; rfl
      · rw [Nat.testBit_two_pow_add_gt (by omega)]; exact hb i (by omega)
theorem bits_mem {s i : Nat} : i ∈ bitsL s ↔ i < 7 ∧ s.testBit i = true := by simp [bitsL]

/-- A part of the chosen tasks is what a smaller set chooses. -/
theorem mask_of {room : List Int} {ts : List T} (h : TasksOk room ts) (hl : ts.length ≤ 7) {s : Nat} (hs : s < 2 ^ ts.length) {e rest : List T} (hp : (e ++ rest).Perm (chosL ts s)) :
    ∃ p, p &&& s = p ∧ (chosL ts p).Perm e ∧ (chosL ts (s - p)).Perm rest := by
  have hs7 : s < 128 := Nat.lt_of_lt_of_le hs (pow_lt hl)
  have nd : ts.Nodup := by
    have := (tasksOk_iff.1 h).2.2.2
    rw [List.Nodup, List.pairwise_map] at this
    exact this.imp fun hne e => hne (congrArg _ e)
  have nd0 : (e ++ rest).Nodup := hp.symm.nodup ((chosL_sub hl hs).nodup nd)
  have nde : e.Nodup := (List.sublist_append_left e rest).nodup nd0
  classical
  obtain ⟨p, hp7, hb⟩ := bits_make (fun i => s.testBit i && decide (ts.getD i ⟨0, []⟩ ∈ e)) 7
  have hps : p &&& s = p := by
    apply Nat.eq_of_testBit_eq
    intro i
    rw [Nat.testBit_and]
    by_cases hi : i < 7
    · rw [hb i hi]; cases s.testBit i <;> simp
    · have : p.testBit i = false := Nat.testBit_lt_two_pow (Nat.lt_of_lt_of_le hp7 (Nat.pow_le_pow_right (by omega : 0 < 2) (by omega)))
      rw [this]; rfl
  have hple : p ≤ s := by have := Nat.and_le_right (n := p) (m := s); omega
  have h1 : (chosL ts p).Perm e := by
    rw [List.perm_ext_iff_of_nodup ((chosL_sub hl (by omega)).nodup nd) nde]
    intro t
    unfold chosL
    rw [List.mem_map]
    constructor
    · rintro ⟨i, hi, rfl⟩
      obtain ⟨h7, hbit⟩ := bits_mem.1 hi
      rw [hb i h7, Bool.and_eq_true, decide_eq_true_iff] at hbit
      exact hbit.2
    · intro ht
      have hm : t ∈ chosL ts s := hp.mem_iff.1 (List.mem_append.2 (.inl ht))
      unfold chosL at hm
      obtain ⟨i, hi, rfl⟩ := List.mem_map.1 hm
      obtain ⟨h7, hbit⟩ := bits_mem.1 hi
      exact ⟨i, bits_mem.2 ⟨h7, by rw [hb i h7, hbit, Bool.true_and, decide_eq_true_iff]; exact ht⟩, rfl⟩
  refine ⟨p, hps, h1, ?_⟩
  have h2 := (chosL_split ts hs7 hps).symm.trans hp.symm
  exact (List.perm_append_left_iff e).1 ((h1.append_right _).symm.trans h2)

/-- The table's entry of a set. -/
def nOf (room : List Int) (ts : List T) (s : Nat) : Nat := leastN room (chosL ts s)
section
variable {room : List Int} {ts : List T} (h : TasksOk room ts) (hl : ts.length ≤ 7) {s : Nat} (hs : s < 2 ^ ts.length)
include h hl hs
theorem chos_ok : TasksOk room (chosL ts s) := tasksOk_sub (chosL_sub hl hs) h
theorem nOf_count : nOf room ts s ≤ (bitsL s).length := by
  have := leastN_le (chos_ok h hl hs) (packs_alone (chos_ok h hl hs))
  simpa [nOf, chosL] using this
theorem nOf_le {p : Nat} (hp : p &&& s = p) (hf : fitsB (loadL (chosL ts p)) room = true) : nOf room ts s ≤ nOf room ts (s - p) + 1 := by
  have hs7 : s < 128 := Nat.lt_of_lt_of_le hs (pow_lt hl)
  obtain ⟨es, h1, h2, h3⟩ := leastN_packs (chos_ok h hl (s := s - p) (by omega))
  refine leastN_le (chos_ok h hl hs) ⟨chosL ts p :: es, by simpa [nOf] using h1, ?_, fun e he => ?_⟩
  · rw [List.flatten_cons]
    exact (List.Perm.append_left _ h2).trans (chosL_split ts hs7 hp).symm
  · rcases List.mem_cons.1 he with rfl | he
    · exact hf
    · exact h3 e he
theorem nOf_hit (h0 : s ≠ 0) : ∃ p, p &&& s = p ∧ p ≠ 0 ∧ fitsB (loadL (chosL ts p)) room = true ∧ nOf room ts (s - p) + 1 ≤ nOf room ts s := by
  have hs7 : s < 128 := Nat.lt_of_lt_of_le hs (pow_lt hl)
  have hc := chos_ok h hl hs
  obtain ⟨es, h1, h2, h3⟩ := leastN_packs hc
  have hne : chosL ts s ≠ [] := by rw [chosL_step ts hs7 h0]; simp
  have hx : (chosL ts s).head hne ∈ es.flatten := h2.mem_iff.2 (List.head_mem hne)
  obtain ⟨e, he, hxe⟩ := List.mem_flatten.1 hx
  obtain ⟨a, b, rfl⟩ := List.append_of_mem he
  have hp : (e ++ (a ++ b).flatten).Perm (chosL ts s) := by
    refine List.Perm.trans ?_ h2
    simp only [List.flatten_append, List.flatten_cons]
    rw [← List.append_assoc, ← List.append_assoc]
    exact List.Perm.append_right _ List.perm_append_comm
  obtain ⟨p, hps, q1, q2⟩ := mask_of h hl hs hp
  have hple : p ≤ s := by have := Nat.and_le_right (n := p) (m := s); omega
  refine ⟨p, hps, ?_, ?_, ?_⟩
  · rintro rfl
    have := q1.mem_iff.2 hxe
    rw [chosL_zero] at this
    cases this
  · rw [fits_perm h.1.1.1 q1 (hc.ge0.sub fun y hy => hp.mem_iff.1 (List.mem_append.2 (.inl hy)))]
    exact h3 e (by simp)
  · have : nOf room ts (s - p) ≤ (a ++ b).length := leastN_le (chos_ok h hl (by omega)) ⟨a ++ b, Nat.le_refl _, q2.symm, fun x hx => h3 x (by simp at hx ⊢; rcases hx with hx | hx <;> simp [hx])⟩
    have e1 : (a ++ e :: b).length = (a ++ b).length + 1 := by simp; omega
    have e2 : nOf room ts s = leastN room (chosL ts s) := rfl
    omega
end

end Go.Proofs.YtfidamjepjgknaaDoor
