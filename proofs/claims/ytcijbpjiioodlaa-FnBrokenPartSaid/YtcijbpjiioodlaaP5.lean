/- Sorting as plain lists: an order by sum and number, a heap in a list, putting one by one; what comes out is the same. No program in sight, no condition. -/
import Derived.Test.YtcijbpjiioodlaaRep
namespace Go.Proofs.Ytcijbpjiioodlaa
set_option maxRecDepth 100000

/-- The sum of a need. -/
def sumN (xs : List Int) : Int := xs.foldl (· + ·) 0
/-- Does a task come before another one? -/
def lessB (a b : T) : Bool := decide (sumN b.need < sumN a.need ∨ (sumN a.need = sumN b.need ∧ a.id < b.id))
theorem lessB_iff {a b : T} : lessB a b = true ↔ sumN b.need < sumN a.need ∨ (sumN a.need = sumN b.need ∧ a.id < b.id) := by simp [lessB]
def Le (a b : T) : Prop := lessB b a = false
theorem le_iff {a b : T} : Le a b ↔ ¬ (sumN a.need < sumN b.need ∨ (sumN b.need = sumN a.need ∧ b.id < a.id)) := by simp [Le, lessB]
theorem Le.refl (a : T) : Le a a := by rw [le_iff]; omega
theorem Le.trans {a b c : T} (h : Le a b) (k : Le b c) : Le a c := by rw [le_iff] at *; omega
theorem Le.of_less {a b : T} (h : lessB a b = true) : Le a b := by rw [lessB_iff] at h; rw [le_iff]; omega
theorem Le.total (a b : T) : Le a b ∨ Le b a := by simp only [le_iff]; omega
theorem Le.anti {a b : T} (h : Le a b) (k : Le b a) : a.id = b.id := by rw [le_iff] at *; omega

/-- A task with the block of its need, and that slice's room. -/
structure Tb where
  t : T
  g : Nat
  c : Nat
def lessT (a b : Tb) : Bool := lessB a.t b.t
def LeB (a b : Tb) : Prop := Le a.t b.t
theorem LeB.refl (a : Tb) : LeB a a := Le.refl _
theorem LeB.trans {a b c : Tb} (h : LeB a b) (k : LeB b c) : LeB a c := Le.trans h k
theorem LeB.of_less {a b : Tb} (h : lessT a b = true) : LeB a b := Le.of_less h
theorem LeB.not {a b : Tb} (h : lessT b a = false) : LeB a b := h
/-- A task of a list, by its place. -/
def At (xs : List Tb) (k : Nat) : Tb := xs.getD k ⟨⟨0, []⟩, 0, 0⟩
theorem At.get {xs : List Tb} {k : Nat} (h : k < xs.length) : At xs k = xs[k] := by simp [At, List.getD_eq_getElem?_getD, List.getElem?_eq_getElem h]
theorem At.mem {xs : List Tb} {k : Nat} (h : k < xs.length) : At xs k ∈ xs := by rw [At.get h]; exact List.getElem_mem h
theorem At.of_mem {xs : List Tb} {x : Tb} (h : x ∈ xs) : ∃ k, k < xs.length ∧ At xs k = x := by
  obtain ⟨k, hk, rfl⟩ := List.getElem_of_mem h
  exact ⟨k, hk, At.get hk⟩
theorem At.ext {xs ys : List Tb} (hl : xs.length = ys.length) (h : ∀ k, k < xs.length → At xs k = At ys k) : xs = ys := by
  refine List.ext_getElem hl fun k h1 h2 => ?_
  have := h k h1
  rwa [At.get h1, At.get h2] at this
theorem At.take {xs : List Tb} {n k : Nat} (h : k < n) : At (xs.take n) k = At xs k := by
  simp [At, List.getD_eq_getElem?_getD, h]

/-- Two tasks exchanged. -/
def swapL (xs : List Tb) (i j : Nat) : List Tb := (xs.set i (At xs j)).set j (At xs i)
theorem swapL_length (xs : List Tb) (i j : Nat) : (swapL xs i j).length = xs.length := by simp [swapL]
theorem At.set {xs : List Tb} {i k : Nat} {x : Tb} (hi : i < xs.length) : At (xs.set i x) k = if k = i then x else At xs k := by
  simp only [At, List.getD_eq_getElem?_getD, List.getElem?_set]
  by_cases h : k = i
  · subst h; simp [hi]
  · have h' : ¬ i = k := fun e => h e.symm
    simp [h, h']
theorem swapL_at {xs : List Tb} {i j k : Nat} (hi : i < xs.length) (hj : j < xs.length) : At (swapL xs i j) k = if k = j then At xs i else if k = i then At xs j else At xs k := by
  unfold swapL
  rw [At.set (by simpa using hj), At.set hi]
theorem swapL_perm {xs : List Tb} {i j : Nat} (hi : i < xs.length) (hj : j < xs.length) : (swapL xs i j).Perm xs := by
  unfold swapL
  rw [At.get hi, At.get hj]
  exact List.set_set_perm hi hj

/-- Every task of the first `n` is not before its parent, where the parent's place is `lo` or more. -/
def HeapP (xs : List Tb) (lo n : Nat) : Prop := ∀ c, c < n → 0 < c → lo ≤ (c - 1) / 2 → LeB (At xs ((c - 1) / 2)) (At xs c)
/-- The same, but for one place. -/
def HeapI (xs : List Tb) (lo i n : Nat) : Prop :=
  (∀ c, c < n → 0 < c → lo ≤ (c - 1) / 2 → (c - 1) / 2 ≠ i → LeB (At xs ((c - 1) / 2)) (At xs c)) ∧
  (∀ c, c < n → 0 < c → (c - 1) / 2 = i → 0 < i → lo ≤ (i - 1) / 2 → LeB (At xs ((i - 1) / 2)) (At xs c))

theorem HeapI.start {xs : List Tb} {i n : Nat} (h : HeapP xs (i + 1) n) : HeapI xs i i n :=
  ⟨fun c hc h0 hl hne => h c hc h0 (by omega), fun c _ _ _ h0 hl => by omega⟩
theorem HeapI.done {xs : List Tb} {lo i n : Nat} (h : HeapI xs lo i n) (hc : ∀ c, c < n → 0 < c → (c - 1) / 2 = i → LeB (At xs i) (At xs c)) : HeapP xs lo n := by
  intro c hn h0 hl
  by_cases e : (c - 1) / 2 = i
  · have := hc c hn h0 e
    rwa [e]
  · exact h.1 c hn h0 hl e
theorem HeapI.leaf {xs : List Tb} {lo i n : Nat} (h : HeapI xs lo i n) (hc : n ≤ 2 * i + 1) : HeapP xs lo n := h.done fun c h1 h2 h3 => by omega
theorem HeapI.one {xs : List Tb} {lo i n : Nat} (h : HeapI xs lo i n) (hc : n ≤ 2 * i + 2) (hk : lessT (At xs (2 * i + 1)) (At xs i) = false) : HeapP xs lo n :=
  h.done fun c h1 h2 h3 => by
    have : c = 2 * i + 1 := by omega
    subst this; exact hk
/-- The lesser of two children is not before its parent. -/
theorem HeapI.two {xs : List Tb} {lo i n j j' : Nat} (h : HeapI xs lo i n) (hj : (j = 2 * i + 1 ∧ j' = 2 * i + 2) ∨ (j = 2 * i + 2 ∧ j' = 2 * i + 1)) (hle : LeB (At xs j) (At xs j')) (hk : lessT (At xs j) (At xs i) = false) : HeapP xs lo n :=
  h.done fun c h1 h2 h3 => by
    have hk' : LeB (At xs i) (At xs j) := hk
    have : c = j ∨ c = j' := by omega
    rcases this with rfl | rfl
    · exact hk'
    · exact hk'.trans hle
theorem HeapI.step {xs : List Tb} {lo i n j : Nat} (h : HeapI xs lo i n) (hlo : lo ≤ i) (hj : j = 2 * i + 1 ∨ j = 2 * i + 2) (hn : j < n) (hx : n ≤ xs.length)
    (hle : ∀ c, c < n → 0 < c → (c - 1) / 2 = i → LeB (At xs j) (At xs c)) (hk : lessT (At xs j) (At xs i) = true) : HeapI (swapL xs i j) lo j n := by
  have hij : i < j := by omega
  have A : ∀ k, At (swapL xs i j) k = if k = j then At xs i else if k = i then At xs j else At xs k := fun k => swapL_at (by omega) (by omega)
  refine ⟨fun c h1 h2 h3 h4 => ?_, fun c h1 h2 h3 h4 h5 => ?_⟩
  · rw [A, A, if_neg h4]
    by_cases e : (c - 1) / 2 = i
    · rw [if_pos e]
      by_cases ec : c = j
      · rw [if_pos ec]; exact LeB.of_less hk
      · rw [if_neg ec, if_neg (by omega)]
        exact hle c h1 h2 e
    · rw [if_neg e]
      by_cases ec : c = i
      · subst ec
        rw [if_neg (by omega), if_pos rfl]
        exact h.2 j hn (by omega) (by omega) (by omega) h3
      · have ej : c ≠ j := by omega
        rw [if_neg ej, if_neg ec]
        exact h.1 c h1 h2 h3 e
  · have e : (j - 1) / 2 = i := by omega
    rw [A, A, e, if_neg (by omega), if_pos rfl, if_neg (by omega), if_neg (by omega)]
    have := h.1 c h1 h2 (by omega) (by omega)
    rwa [h3] at this

theorem HeapP.root {xs : List Tb} {n : Nat} (h : HeapP xs 0 n) : ∀ k, k < n → LeB (At xs 0) (At xs k) := by
  intro k
  induction k using Nat.strongRecOn with
  | ind k ih =>
    intro hk
    by_cases h0 : k = 0
    · subst h0; exact LeB.refl _
    · exact (ih ((k - 1) / 2) (by omega) (by omega)).trans (h k hk (by omega) (by omega))
theorem HeapP.half (xs : List Tb) (n : Nat) : HeapP xs (n / 2) n := fun c h1 h2 h3 => by omega
theorem HeapP.pop {xs : List Tb} {n : Nat} (h : HeapP xs 0 (n + 1)) (hn : n < xs.length) : HeapI (swapL xs 0 n) 0 0 n := by
  refine ⟨fun c h1 h2 _ h4 => ?_, fun c _ _ _ h => by omega⟩
  rw [swapL_at (by omega) hn, swapL_at (by omega) hn, if_neg (by omega), if_neg h4, if_neg (by omega), if_neg (by omega)]
  exact h c (by omega) h2 (by omega)

/-- What a walk down leaves. -/
def Down (xs ys : List Tb) (lo n : Nat) : Prop := ys.Perm xs ∧ HeapP ys lo n ∧ ∀ k, n ≤ k → At ys k = At xs k
def DownI (xs ys : List Tb) (lo i n : Nat) : Prop := ys.Perm xs ∧ HeapI ys lo i n ∧ lo ≤ i ∧ ∀ k, n ≤ k → At ys k = At xs k
theorem DownI.step {xs ys : List Tb} {lo i n j : Nat} (h : DownI xs ys lo i n) (hj : j = 2 * i + 1 ∨ j = 2 * i + 2) (hn : j < n) (hx : n ≤ xs.length)
    (hle : ∀ c, c < n → 0 < c → (c - 1) / 2 = i → LeB (At ys j) (At ys c)) (hk : lessT (At ys j) (At ys i) = true) : DownI xs (swapL ys i j) lo j n := by
  obtain ⟨hp, hi, hlo, hf⟩ := h
  have hl := hp.length_eq
  refine ⟨(swapL_perm (by omega) (by omega)).trans hp, hi.step hlo hj hn (by omega) hle hk, by omega, fun k hk' => ?_⟩
  rw [swapL_at (by omega) (by omega), if_neg (by omega), if_neg (by omega)]
  exact hf k hk'

/-- A sorting under way: what is out, and the heap. -/
def Sorting (ts out xs : List Tb) : Prop := (out ++ xs).Perm ts ∧ out.Pairwise LeB ∧ (∀ a ∈ out, ∀ b ∈ xs, LeB a b) ∧ HeapP xs 0 xs.length
theorem Sorting.start {ts xs : List Tb} (hp : xs.Perm ts) (h : HeapP xs 0 xs.length) : Sorting ts [] xs := ⟨by simpa using hp, List.Pairwise.nil, by simp, h⟩
theorem Sorting.step {ts out xs ys : List Tb} {n : Nat} (h : Sorting ts out xs) (hn : xs.length = n + 1) (hd : Down (swapL xs 0 n) ys 0 n) :
    ys.length = n + 1 ∧ Sorting ts (out ++ [At ys n]) (ys.take n) := by
  obtain ⟨h1, h2, h3, h4⟩ := h
  obtain ⟨d1, d2, d3⟩ := hd
  have sp : (swapL xs 0 n).Perm xs := swapL_perm (by omega) (by omega)
  have yp : ys.Perm xs := d1.trans sp
  have hl : ys.length = n + 1 := yp.length_eq.trans hn
  have hr : At ys n = At xs 0 := by
    rw [d3 n (Nat.le_refl _), swapL_at (by omega) (by omega), if_pos rfl]
  have hs : ys = ys.take n ++ [At ys n] := by
    have e := List.take_append_drop n ys
    have e2 : ys.drop n = [At ys n] := by
      rw [At.get (by omega), List.drop_eq_getElem_cons (by omega), List.drop_of_length_le (by omega)]
    rw [e2] at e
    exact e.symm
  have tp : (ys.take n ++ [At ys n]).Perm xs := by rw [← hs]; exact yp
  have mem : ∀ b ∈ ys.take n, b ∈ xs := fun b hb => tp.subset (by simp [hb])
  have m0 : At ys n ∈ xs := by rw [hr]; exact At.mem (by omega)
  rw [hn] at h4
  have root : ∀ b ∈ xs, LeB (At ys n) b := by
    intro b hb
    obtain ⟨k, hk, rfl⟩ := At.of_mem hb
    rw [hr]
    exact h4.root k (by omega)
  refine ⟨hl, ?_, ?_, ?_, ?_⟩
  · rw [List.append_assoc]
    refine (List.Perm.append_left out ?_).trans h1
    exact (List.perm_append_comm).trans tp
  · rw [List.pairwise_append]
    exact ⟨h2, List.pairwise_singleton _ _, fun a ha b hb => by rw [List.mem_singleton] at hb; subst hb; exact h3 a ha _ m0⟩
  · intro a ha b hb
    rw [List.mem_append, List.mem_singleton] at ha
    rcases ha with ha | rfl
    · exact h3 a ha b (mem b hb)
    · exact root b (mem b hb)
  · have hl2 : (ys.take n).length = n := by simp; omega
    rw [hl2]
    intro c hc h0 hlo
    rw [At.take (by omega), At.take hc]
    exact d2 c hc h0 hlo
theorem Sorting.done {ts out xs : List Tb} (h : Sorting ts out xs) (h0 : xs.length = 0) : out.Perm ts ∧ out.Pairwise LeB := by
  have e : xs = [] := List.eq_nil_of_length_eq_zero h0
  subst e
  exact ⟨by simpa using h.1, h.2.1⟩

/-- A task put at its place. -/
def putS : List T → T → List T
  | [], x => [x]
  | y :: ys, x => if lessB x y then x :: y :: ys else y :: putS ys x
def sortS (ts : List T) : List T := ts.foldl putS []
theorem putS_perm (ys : List T) (x : T) : (putS ys x).Perm (x :: ys) := by
  induction ys with
  | nil => exact List.Perm.refl _
  | cons y ys ih =>
    unfold putS
    split
    · exact List.Perm.refl _
    · exact (ih.cons y).trans (List.Perm.swap x y ys)
theorem putS_sorted {ys : List T} {x : T} (h : ys.Pairwise Le) : (putS ys x).Pairwise Le := by
  induction ys with
  | nil => exact List.pairwise_singleton _ _
  | cons y ys ih =>
    rw [List.pairwise_cons] at h
    unfold putS
    split
    · rename_i hl
      have hxy := Le.of_less hl
      rw [List.pairwise_cons, List.pairwise_cons]
      refine ⟨fun b hb => ?_, h⟩
      rw [List.mem_cons] at hb
      rcases hb with rfl | hb
      · exact hxy
      · exact hxy.trans (h.1 b hb)
    · rename_i hl
      have hyx : Le y x := by simpa [Le] using hl
      rw [List.pairwise_cons]
      refine ⟨fun b hb => ?_, ih h.2⟩
      have := (putS_perm ys x).subset hb
      rw [List.mem_cons] at this
      rcases this with rfl | hb
      · exact hyx
      · exact h.1 b hb
theorem foldS {ts : List T} : ∀ {out : List T}, out.Pairwise Le → (ts.foldl putS out).Pairwise Le ∧ (ts.foldl putS out).Perm (ts ++ out) := by
  induction ts with
  | nil => intro out h; exact ⟨h, List.Perm.refl _⟩
  | cons t ts ih =>
    intro out h
    obtain ⟨h1, h2⟩ := ih (out := putS out t) (putS_sorted h)
    refine ⟨h1, h2.trans ?_⟩
    refine (List.Perm.append_left ts (putS_perm out t)).trans ?_
    exact List.perm_middle
theorem sortS_sorted (ts : List T) : (sortS ts).Pairwise Le := (foldS List.Pairwise.nil).1
theorem sortS_perm (ts : List T) : (sortS ts).Perm ts := by have := (foldS (ts := ts) List.Pairwise.nil).2; simpa [sortS] using this
/-- Numbers told apart. -/
def Apart (ts : List T) : Prop := ∀ a ∈ ts, ∀ b ∈ ts, a.id = b.id → a = b
theorem Apart.of_tasks {room : List Int} {ts : List T} (h : TasksOk room ts) : Apart ts := by
  have key : ∀ i j, i < j → (hi : i < ts.length) → (hj : j < ts.length) → ts[i].id ≠ ts[j].id := by
    intro i j hij hi hj he
    have h1 := (h.2.2 j hj).2.1
    unfold hasB at h1
    rw [List.any_eq_false] at h1
    have : ts[i] ∈ ts.take j := List.mem_take_iff_getElem.2 ⟨i, by omega, rfl⟩
    exact h1 _ this (by simp [he])
  intro a ha b hb he
  obtain ⟨i, hi, rfl⟩ := List.getElem_of_mem ha
  obtain ⟨j, hj, rfl⟩ := List.getElem_of_mem hb
  rcases Nat.lt_trichotomy i j with h1 | h1 | h1
  · exact absurd he (key i j h1 hi hj)
  · subst h1; rfl
  · exact absurd he.symm (key j i h1 hj hi)
theorem sorted_one {ts xs ys : List T} (ha : Apart ts) (hx : xs.Perm ts) (hy : ys.Perm ts) (sx : xs.Pairwise Le) (sy : ys.Pairwise Le) : xs = ys :=
  List.Perm.eq_of_pairwise (le := Le) (fun a b h1 h2 k1 k2 => ha a (hx.subset h1) b (hy.subset h2) (k1.anti k2)) sx sy (hx.trans hy.symm)
theorem sorted_tb {ts : List T} {ys out : List Tb} (ha : Apart ts) (hy : ys.map (·.t) = ts) (hp : out.Perm ys) (hs : out.Pairwise LeB) : out.map (·.t) = sortS ts :=
  sorted_one ha (by rw [← hy]; exact hp.map _) (sortS_perm ts) (List.pairwise_map.2 hs) (sortS_sorted ts)
/-- What both sides return. -/
def sortL (room : List Int) (ts : List T) : List T := if tasksB room ts = true then sortS ts else []

end Go.Proofs.Ytcijbpjiioodlaa
