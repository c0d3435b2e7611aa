/- Lists of numbers, of tasks, of nodes, compared. No condition. -/
import Derived.Test.YtipmoedflpjioaaData
namespace Go.Proofs.Ytipmoedflpjioaa
set_option maxRecDepth 100000

theorem beq_lists {xs ys : List Int} (hl : xs.length = ys.length) (h : ∀ j (h1 : j < xs.length) (h2 : j < ys.length), xs[j] = ys[j]) : (xs == ys) = true := by
  rw [beq_iff_eq]
  exact List.ext_getElem hl h
theorem beq_lists_len {xs ys : List Int} (hl : ¬ xs.length = ys.length) : (xs == ys) = false := by
  rw [beq_eq_false_iff_ne]
  exact fun e => hl (by rw [e])
theorem beq_lists_at {xs ys : List Int} {j : Nat} (h1 : j < xs.length) (h2 : j < ys.length) (h : ¬ xs[j] = ys[j]) : (xs == ys) = false := by
  rw [beq_eq_false_iff_ne]
  intro e
  subst e
  exact h rfl

/-- Are two tasks the same? -/
def sameT (x y : T) : Bool := (x.id == y.id) && (x.need == y.need)
theorem sameT_iff {x y : T} : sameT x y = true ↔ x = y := by
  unfold sameT
  rw [Bool.and_eq_true, beq_iff_eq, beq_iff_eq]
  constructor
  · rintro ⟨h1, h2⟩; cases x; cases y; simp_all
  · rintro rfl; exact ⟨rfl, rfl⟩

/-- Are two lists of tasks the same? -/
def sameTs (xs ys : List T) : Bool := xs.length == ys.length && (List.zip xs ys).all fun p => sameT p.1 p.2
theorem sameTs_iff {xs ys : List T} : sameTs xs ys = true ↔ xs = ys := by
  unfold sameTs
  rw [Bool.and_eq_true, beq_iff_eq, List.all_eq_true]
  constructor
  · rintro ⟨hl, h⟩
    refine List.ext_getElem hl fun j h1 h2 => ?_
    have := h (xs[j], ys[j]) (by
      have hz : j < (xs.zip ys).length := by simp; omega
      have := List.getElem_mem hz
      rwa [List.getElem_zip] at this)
    exact sameT_iff.1 this
  · rintro rfl
    refine ⟨rfl, fun p hp => ?_⟩
    obtain ⟨j, hj, rfl⟩ := List.getElem_of_mem hp
    rw [List.getElem_zip]
    exact sameT_iff.2 rfl
theorem sameTs_at {xs ys : List T} {j : Nat} (h1 : j < xs.length) (h2 : j < ys.length) (h : sameT xs[j] ys[j] = false) : sameTs xs ys = false := by
  rw [Bool.eq_false_iff]
  intro e
  have := sameTs_iff.1 e
  subst this
  rw [sameT_iff.2 rfl] at h
  cases h
theorem sameTs_all {xs ys : List T} (hl : xs.length = ys.length) (h : ∀ j (h1 : j < xs.length) (h2 : j < ys.length), sameT xs[j] ys[j] = true) : sameTs xs ys = true :=
  sameTs_iff.2 (List.ext_getElem hl fun j h1 h2 => sameT_iff.1 (h j h1 h2))

/-- Are two lists of nodes the same? -/
def sameBs (xs ys : List (List T)) : Bool := xs.length == ys.length && (List.zip xs ys).all fun p => sameTs p.1 p.2
theorem sameBs_iff {xs ys : List (List T)} : sameBs xs ys = true ↔ xs = ys := by
  unfold sameBs
  rw [Bool.and_eq_true, beq_iff_eq, List.all_eq_true]
  constructor
  · rintro ⟨hl, h⟩
    refine List.ext_getElem hl fun j h1 h2 => ?_
    have := h (xs[j], ys[j]) (by
      have hz : j < (xs.zip ys).length := by simp; omega
      have := List.getElem_mem hz
      rwa [List.getElem_zip] at this)
    exact sameTs_iff.1 this
  · rintro rfl
    refine ⟨rfl, fun p hp => ?_⟩
    obtain ⟨j, hj, rfl⟩ := List.getElem_of_mem hp
    rw [List.getElem_zip]
    exact sameTs_iff.2 rfl
theorem sameBs_at {xs ys : List (List T)} {j : Nat} (h1 : j < xs.length) (h2 : j < ys.length) (h : sameTs xs[j] ys[j] = false) : sameBs xs ys = false := by
  rw [Bool.eq_false_iff]
  intro e
  have := sameBs_iff.1 e
  subst this
  rw [sameTs_iff.2 rfl] at h
  cases h
theorem sameBs_all {xs ys : List (List T)} (hl : xs.length = ys.length) (h : ∀ j (h1 : j < xs.length) (h2 : j < ys.length), sameTs xs[j] ys[j] = true) : sameBs xs ys = true :=
  sameBs_iff.2 (List.ext_getElem hl fun j h1 h2 => sameTs_iff.1 (h j h1 h2))

end Go.Proofs.Ytipmoedflpjioaa
