/- Sorting, as plain lists: sums and orders of sorted tasks, the first task of the first node. No program in sight, no condition. -/
import Derived.Test.YtcijbpjiioodlaaP2
import Derived.Test.YtcijbpjiioodlaaS16
namespace Go.Proofs.Ytcijbpjiioodlaa
set_option maxRecDepth 100000

theorem sort_perm {room : List Int} {ts ys : List T} (h : TasksOk room ts) (p : ys.Perm ts) : sortL room ys = sortS ts := by
  unfold sortL
  rw [if_pos (tasksB_iff.2 (tasksOk_perm p.symm h))]
  exact sorted_one (Apart.of_tasks h) ((sortS_perm ys).trans p) (sortS_perm ts) (sortS_sorted ys) (sortS_sorted ts)
theorem loadL_perm {xs ys : List T} (h : xs.Perm ys) (g : ∀ t ∈ ys, t.need.length = 3) : loadL xs = loadL ys := by
  rw [load_cmp g, load_cmp fun t ht => g t (h.subset ht), cmp_perm h, cmp_perm h, cmp_perm h]
/-- The sum of all numbers of the load, or -1. -/
def sumTI (room : List Int) (ts : List T) : Int := if tasksB room ts = true then sumN (loadL ts) else -1
theorem sumTI_perm {room : List Int} {ts ys : List T} (h : TasksOk room ts) (p : ys.Perm ts) : sumTI room ys = sumTI room ts := by
  unfold sumTI
  rw [if_pos (tasksB_iff.2 (tasksOk_perm p.symm h)), if_pos (tasksB_iff.2 h), loadL_perm p fun t ht => (h.vec t ht).1]
theorem cmp_bound {k : Nat} {ts : List T} (h : ∀ t ∈ ts, VecOk t.need) : 0 ≤ cmp k ts ∧ cmp k ts ≤ 20 * (ts.length : Int) := by
  induction ts with
  | nil => simp [cmp_nil]
  | cons t r ih =>
    have h1 := ih fun u hu => h u (by simp [hu])
    have h2 : 0 ≤ t.need.getD k 0 ∧ t.need.getD k 0 ≤ 20 := by
      rw [List.getD_eq_getElem?_getD]
      by_cases hk : k < t.need.length
      · rw [List.getElem?_eq_getElem hk]; exact (h t (by simp)).2 _ (List.getElem_mem hk)
      · rw [List.getElem?_eq_none (by omega)]; simp
    rw [cmp_cons, List.length_cons]
    omega
/-- A load: three numbers, none great. -/
def LoadOk (xs : List Int) : Prop := xs.length = 3 ∧ ∀ n ∈ xs, 0 ≤ n ∧ n ≤ 1000
theorem TasksOk.load {room : List Int} {ts : List T} (h : TasksOk room ts) : LoadOk (loadL ts) := by
  rw [load_cmp fun t ht => (h.vec t ht).1]
  have b0 := cmp_bound (k := 0) h.vec
  have b1 := cmp_bound (k := 1) h.vec
  have b2 := cmp_bound (k := 2) h.vec
  have hl := h.2.1
  refine ⟨rfl, fun n hn => ?_⟩
  simp only [List.mem_cons, List.not_mem_nil, or_false] at hn
  rcases hn with rfl | rfl | rfl <;> omega
theorem load_bound {xs : List Int} (h : LoadOk xs) (k : Nat) : 0 ≤ sumN (xs.take k) ∧ sumN (xs.take k) ≤ 3000 := by
  obtain ⟨hl, hm⟩ := h
  match xs, hl with
  | [x, y, z], _ =>
    have h1 := hm x (by simp)
    have h2 := hm y (by simp)
    have h3 := hm z (by simp)
    match k with
    | 0 => simp [sumN]
    | 1 => simp [sumN]; omega
    | 2 => simp [sumN]; omega
    | k + 3 => simp [sumN]; omega
theorem ids_apart {room : List Int} {ts : List T} (h : TasksOk room ts) {i j : Nat} (hij : i < j) (hj : j < ts.length) : (ts[i]'(by omega)).id ≠ ts[j].id := by
  intro he
  have h1 := (h.2.2 j hj).2.1
  unfold hasB at h1
  rw [List.any_eq_false] at h1
  have : (ts[i]'(by omega)) ∈ ts.take j := List.mem_take_iff_getElem.2 ⟨i, by omega, rfl⟩
  exact h1 _ this (by simp [he])
theorem sorted_ok {room : List Int} {ts : List T} (h : TasksOk room ts) : TasksOk room (sortS ts) := tasksOk_perm (sortS_perm ts).symm h
theorem sorted_less {room : List Int} {ts : List T} (h : TasksOk room ts) {i j : Nat} (hij : i < j) (hj : j < (sortS ts).length) : lessB ((sortS ts)[i]'(by omega)) (sortS ts)[j] = true := by
  have h1 := List.pairwise_iff_getElem.1 (sortS_sorted ts) i j (by omega) hj hij
  have h2 := ids_apart (sorted_ok h) hij hj
  rw [le_iff] at h1
  rw [lessB_iff]
  omega
/-- The first task that is put stays the first of the first node. -/
theorem head_put {room : List Int} {c : List (List T) → T → Option Nat} (hc : Chooses room c) (s : List T) (hs : s ≠ []) : ∃ b r, allL c s = b :: r ∧ b.take 1 = s.take 1 := by
  have key : ∀ k, k < s.length → ∃ b r, allL c (s.take (k + 1)) = b :: r ∧ b.take 1 = s.take 1 := by
    intro k
    induction k with
    | zero =>
      intro hk
      rw [allL_step c hk]
      have e0 : allL c (s.take 0) = [] := by rw [List.take_zero]; rfl
      rw [e0]
      rcases hc [] s[0] with ⟨e, _⟩ | ⟨k, hk', _⟩
      · rw [e, putL_none]
        refine ⟨[s[0]], [], rfl, ?_⟩
        match s, hk with
        | x :: r, _ => simp
      · simp at hk'
    | succ k ih =>
      intro hk
      obtain ⟨b, r, e, hb⟩ := ih (by omega)
      rw [allL_step c hk, e]
      rcases hc (b :: r) s[k + 1] with ⟨e1, _⟩ | ⟨j, hj, e1, _⟩
      · rw [e1, putL_none]
        exact ⟨b, r ++ [[s[k + 1]]], rfl, hb⟩
      · rw [e1, putL_some hj]
        cases j with
        | zero =>
          refine ⟨b ++ [s[k + 1]], r, rfl, ?_⟩
          match b, hb with
          | [], hb =>
            match s, hk with
            | x :: q, _ => simp at hb
          | y :: q, hb => simpa using hb
        | succ j => exact ⟨b, r.set j _, rfl, hb⟩
  have hl : 0 < s.length := List.length_pos_iff.2 hs
  have := key (s.length - 1) (by omega)
  rwa [show s.length - 1 + 1 = s.length by omega, List.take_length] at this

end Go.Proofs.Ytcijbpjiioodlaa
