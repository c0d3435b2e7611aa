/- Plain laws: the fewest nodes when a task goes, when a room grows, and against the first way. No program in sight. No condition. -/
import Derived.Test.YtfidamjepjgknaaDoorP8
namespace Go.Proofs.YtfidamjepjgknaaDoor
set_option maxRecDepth 100000

def fewB (room : List Int) (ts : List T) : Bool := decide (ts.length ≤ 7) && tasksB room ts
theorem fewB_iff {room : List Int} {ts : List T} : fewB room ts = true ↔ ts.length ≤ 7 ∧ TasksOk room ts := by
  unfold fewB; rw [Bool.and_eq_true, decide_eq_true_iff, tasksB_iff]
def leastI (room : List Int) (ts : List T) : Int := if fewB room ts = true then (leastN room ts : Int) else -1
theorem leastI_few {room : List Int} {ts : List T} (h : TasksOk room ts) (hl : ts.length ≤ 7) : leastI room ts = (leastN room ts : Int) := by unfold leastI; rw [if_pos (fewB_iff.2 ⟨hl, h⟩)]
theorem leastI_neg {room : List Int} {ts : List T} (h : fewB room ts = false) : leastI room ts = -1 := by unfold leastI; rw [h]; rfl
theorem leastI_nonneg {room : List Int} {ts : List T} : 0 ≤ leastI room ts ↔ fewB room ts = true := by
  unfold leastI
  cases fewB room ts <;> simp

/-- A task less. -/
theorem least_more {room : List Int} {ts us : List T} {t : T} (h : TasksOk room ts) (hp : ts.Perm (t :: us)) : leastN room us = leastN room ts ∨ leastN room us + 1 = leastN room ts := by
  have h' : TasksOk room (t :: us) := tasksOk_perm hp h
  have hu : TasksOk room us := tasksOk_sub (List.sublist_cons_self t us) h'
  have a1 : leastN room us ≤ leastN room ts := by
    obtain ⟨es, h1, h2, h3⟩ := leastN_packs h
    have hx : t ∈ es.flatten := h2.mem_iff.2 (hp.mem_iff.2 (by simp))
    obtain ⟨e, he, hxe⟩ := List.mem_flatten.1 hx
    obtain ⟨j, hj, rfl⟩ := List.getElem_of_mem he
    obtain ⟨a, b, hab⟩ := List.append_of_mem hxe
    refine leastN_le hu ⟨es.set j (a ++ b), by simpa using h1, take_out ((set_perm hj (a ++ b)).trans ((h2.trans hp).append_right _)) (by rw [hab]; exact List.perm_middle), fun x hx => ?_⟩
    rcases List.mem_or_eq_of_mem_set hx with hx | rfl
    · exact h3 x hx
    · refine fits_sub h.1.1.1 (ys := es[j]) ?_ (h.ge0.sub fun y hy => h2.mem_iff.1 (List.mem_flatten.2 ⟨_, List.getElem_mem hj, hy⟩)) (h3 _ (List.getElem_mem hj))
      rw [hab]
      exact (List.Sublist.refl a).append (List.sublist_cons_self t b)
  have a2 : leastN room ts ≤ leastN room us + 1 := by
    obtain ⟨es, h1, h2, h3⟩ := leastN_packs hu
    refine leastN_le h ⟨[t] :: es, by simpa using h1, ?_, fun x hx => ?_⟩
    · rw [List.flatten_cons]
      exact (List.Perm.append_left _ h2).trans hp.symm
    · rcases List.mem_cons.1 hx with rfl | hx
      · have := alone_fits h' (x := t) (by simp)
        rw [fits11_load] at this
        exact this
      · exact h3 x hx
  omega

/-- A room is greater in one dimension. -/
theorem room_more {room : List Int} {ts : List T} (h : TasksOk room ts) {k : Nat} (hk : k < room.length) (h20 : room[k] ≠ 20) : TasksOk (room.set k (room[k] + 1)) ts ∧ leastN (room.set k (room[k] + 1)) ts ≤ leastN room ts := by
  have hr3 := h.1.1.1
  have le : ∀ j, j < 3 → room.getD j 0 ≤ (room.set k (room[k] + 1)).getD j 0 := fun j hj => by
    rw [List.getD_eq_getElem?_getD, List.getD_eq_getElem?_getD]
    by_cases e : k = j
    · subst e; rw [List.getElem?_set_self hk, List.getElem?_eq_getElem hk]; simp; omega
    · rw [List.getElem?_set_ne e]; exact Int.le_refl _
  have hR : RoomOk (room.set k (room[k] + 1)) := by
    have hm : ∀ n ∈ room.set k (room[k] + 1), 1 ≤ n ∧ n ≤ 20 := fun n hn => by
      rcases List.mem_or_eq_of_mem_set hn with hn | rfl
      · exact ⟨h.1.2 n hn, (h.1.1.2 n hn).2⟩
      · have h1 := h.1.1.2 _ (List.getElem_mem hk)
        have h2 := h.1.2 _ (List.getElem_mem hk)
        omega
    exact ⟨⟨by simpa using hr3, fun n hn => ⟨by have := (hm n hn).1; omega, (hm n hn).2⟩⟩, fun n hn => (hm n hn).1⟩
  have hT : TasksOk (room.set k (room[k] + 1)) ts := by
    rw [tasksOk_iff] at h ⊢
    refine ⟨hR, h.2.1, fun t ht => ⟨(h.2.2.1 t ht).1, ?_⟩, h.2.2.2⟩
    have := (h.2.2.1 t ht).2
    rw [vfitsB_iff] at this ⊢
    refine ⟨this.1, hR.1, ?_⟩
    have l3 := this.1.1
    have hf := this.2.2
    have e : loadL [t] = t.need := by show addL [0, 0, 0] t.need 1 = _; exact addL_zero l3
    rw [← e] at hf ⊢
    have three : ∀ u ∈ [t], u.need.length = 3 := fun u hu => by simp at hu; subst hu; exact l3
    rw [fits_cmp hr3 three] at hf
    rw [fits_cmp (by simpa using hr3) three]
    exact fun j hj => Int.le_trans (hf j hj) (le j hj)
  refine ⟨hT, ?_⟩
  obtain ⟨es, h1, h2, h3⟩ := leastN_packs h
  refine leastN_le hT ⟨es, h1, h2, fun x hx => ?_⟩
  have three : ∀ u ∈ x, u.need.length = 3 := (h.ge0.sub fun y hy => h2.mem_iff.1 (List.mem_flatten.2 ⟨_, hx, hy⟩)).three
  have hf := h3 x hx
  rw [fits_cmp hr3 three] at hf
  rw [fits_cmp (by simpa using hr3) three]
  exact fun j hj => Int.le_trans (hf j hj) (le j hj)

/-- What nodes bear together in one dimension. -/
theorem cmp_flat_le {k : Nat} {r : Int} : ∀ {es : List (List T)}, (∀ e ∈ es, cmp k e ≤ r) → cmp k es.flatten ≤ (es.length : Int) * r := by
  intro es
  induction es with
  | nil => intro _; simp [cmp_nil]
  | cons e q ih =>
    intro h
    rw [List.flatten_cons, cmp_app, List.length_cons]
    have h1 := h e (by simp)
    have h2 := ih fun x hx => h x (by simp [hx])
    have e1 : ((q.length + 1 : Nat) : Int) * r = (q.length : Int) * r + r := by rw [Int.natCast_add, Int.add_mul]; simp
    omega
/-- Nodes, each two neighbours too great together: half their number is borne by the three dimensions. -/
theorem pairs_count {room : List Int} (hr : room.length = 3) : ∀ (n : Nat) (bs : List (List T)), bs.length ≤ n → (∀ b ∈ bs, Ge0 b) → (∀ i (h : i + 1 < bs.length), fitsB (loadL (bs[i] ++ bs[i + 1])) room = false) →
    ∃ c : Nat → Nat, bs.length ≤ 2 * (c 0 + c 1 + c 2) + 1 ∧ ∀ k, k < 3 → (c k : Int) * (room.getD k 0 + 1) ≤ cmp k bs.flatten := by
  intro n
  induction n using Nat.strongRecOn with
  | _ n ih =>
    intro bs hl hg hf
    match bs, hl with
    | [], _ => exact ⟨fun _ => 0, by simp, fun k _ => by simp [cmp_nil]⟩
    | [a], _ =>
      refine ⟨fun _ => 0, by simp, fun k _ => ?_⟩
      have := cmp_nonneg (k := k) (hg a (by simp))
      simpa using this
    | a :: b :: r, hl =>
      simp only [List.length_cons] at hl
      obtain ⟨c, h1, h2⟩ := ih (n - 2) (by omega) r (by omega) (fun x hx => hg x (by simp [hx])) (fun i hi => by
        have := hf (i + 2) (by simp; omega)
        simpa using this)
      have h0 := hf 0 (by simp)
      simp only [List.getElem_cons_zero, List.getElem_cons_succ, Nat.zero_add] at h0
      have gab : Ge0 (a ++ b) := (hg a (by simp)).app (hg b (by simp))
      have : ∃ d, d < 3 ∧ room.getD d 0 + 1 ≤ cmp d (a ++ b) := by
        rw [Bool.eq_false_iff] at h0
        refine Classical.byContradiction fun hn => h0 ((fits_cmp hr gab.three).2 fun k hk => ?_)
        refine Int.not_lt.1 fun hlt => hn ⟨k, hk, by omega⟩
      obtain ⟨d, hd, hdl⟩ := this
      refine ⟨fun k => if k = d then c k + 1 else c k, ?_, fun k hk => ?_⟩
      · simp only [List.length_cons]
        have : (if 0 = d then c 0 + 1 else c 0) + (if 1 = d then c 1 + 1 else c 1) + (if 2 = d then c 2 + 1 else c 2) = c 0 + c 1 + c 2 + 1 := by
          match d, hd with
          | 0, _ => simp; omega
          | 1, _ => simp; omega
          | 2, _ => simp; omega
        omega
      · have e : cmp k (a :: b :: r).flatten = cmp k (a ++ b) + cmp k r.flatten := by
          rw [List.flatten_cons, List.flatten_cons, ← List.append_assoc, cmp_app]
        rw [e]
        dsimp only
        have h3 := h2 k hk
        by_cases ek : k = d
        · subst ek
          rw [if_pos rfl]
          have e1 : ((c k + 1 : Nat) : Int) * (room.getD k 0 + 1) = (c k : Int) * (room.getD k 0 + 1) + (room.getD k 0 + 1) := by rw [Int.natCast_add, Int.add_mul]; simp
          omega
        · rw [if_neg ek]
          have := cmp_nonneg (k := k) gab
          omega
theorem mul_lt_of {c out : Nat} {r : Int} (hr : 0 ≤ r) (h : (c : Int) * (r + 1) ≤ (out : Int) * r) : c = 0 ∨ c + 1 ≤ out := by
  rcases Nat.lt_or_ge c out with h1 | h1
  · exact .inr h1
  · left
    have h2 : (out : Int) * r ≤ (c : Int) * r := Int.mul_le_mul_of_nonneg_right (by omega) hr
    rw [Int.mul_add, Int.mul_one] at h
    omega
/-- The first way is not far from the best one. -/
theorem least_twice {room : List Int} {ts : List T} (h : TasksOk room ts) : (allL (at11 room) ts).length ≤ 6 * leastN room ts ∧ (leastN room ts = 1 → (allL (at11 room) ts).length = 1) := by
  have hc := at11_chooses room
  have hr3 := h.1.1.1
  have hfull := allL_full hc hr3 h.ge0
  have hg := allL_ge0 hc h.ge0
  obtain ⟨hp, -, hne⟩ := allL_perm hc ts
  obtain ⟨es, h1, h2, h3⟩ := leastN_packs h
  obtain ⟨c, c1, c2⟩ := pairs_count hr3 _ (allL (at11 room) ts) (Nat.le_refl _) hg (fun i hi => full_two hr3 hfull hg (Nat.lt_succ_self i) hi)
  have each : ∀ k, k < 3 → c k = 0 ∨ c k + 1 ≤ leastN room ts := fun k hk => by
    have hrk : 0 ≤ room.getD k 0 := by
      rw [List.getD_eq_getElem?_getD, List.getElem?_eq_getElem (by omega)]
      exact (h.1.1.2 _ (List.getElem_mem _)).1
    refine mul_lt_of hrk (Int.le_trans (c2 k hk) ?_)
    rw [cmp_perm (hp.trans h2.symm)]
    have := cmp_flat_le (k := k) (r := room.getD k 0) (es := es) fun e he => (fits_cmp hr3 (h.ge0.sub fun y hy => h2.mem_iff.1 (List.mem_flatten.2 ⟨_, he, hy⟩)).three).1 (h3 e he) k hk
    refine Int.le_trans this (Int.mul_le_mul_of_nonneg_right (by omega) hrk)
  have z : leastN room ts = 0 → ts = [] := fun e => by
    rw [e] at h1
    have : es = [] := List.eq_nil_of_length_eq_zero (by omega)
    subst this
    exact h2.symm.eq_nil
  have k0 := each 0 (by omega)
  have k1 := each 1 (by omega)
  have k2 := each 2 (by omega)
  constructor
  · by_cases e : leastN room ts = 0
    · rw [z e]; simp [allL_nil]
    · omega
  · intro e1
    have hts : ts ≠ [] := by
      rintro rfl
      rw [leastN_nil h] at e1; omega
    have hpos : (allL (at11 room) ts).length ≠ 0 := fun e => by
      have := List.eq_nil_of_length_eq_zero e
      rw [this] at hp
      exact hts hp.symm.eq_nil
    omega
end Go.Proofs.YtfidamjepjgknaaDoor
