/- Broken pairs: plain facts. No condition. -/
import Derived.Test.YtcijbpjiioodlaaPb
namespace Go.Proofs.Ytcijbpjiioodlaa
set_option maxRecDepth 100000

/-- What is broken among the first pairs begins the list; what follows lies behind. -/
theorem brokenL_from {bs : List (List T)} {ps : List Pr} {k : Nat} : ∀ m, k ≤ m → m ≤ ps.length → ∃ r, brokenL bs (ps.take m) = brokenL bs (ps.take k) ++ r ∧ ∀ z ∈ r, (k : Int) ≤ z := by
  intro m
  induction m with
  | zero => intro h1 h2; obtain rfl : k = 0 := by omega
            exact ⟨[], by simp, fun z hz => by simp at hz⟩
  | succ m ih =>
    intro h1 h2
    by_cases e : k = m + 1
    · subst e; exact ⟨[], by simp, fun z hz => by simp at hz⟩
    · obtain ⟨r, hr, hz⟩ := ih (by omega) (by omega)
      rw [brokenL_step (by omega)]
      split
      · refine ⟨r ++ [(m : Int)], by rw [hr, List.append_assoc], fun z h => ?_⟩
        rcases List.mem_append.1 h with h | h
        · exact hz z h
        · simp at h; omega
      · exact ⟨r, hr, hz⟩
theorem brokenL_split {bs : List (List T)} {ps : List Pr} {k : Nat} (hk : k ≤ ps.length) : ∃ r, brokenL bs ps = brokenL bs (ps.take k) ++ r ∧ ∀ z ∈ r, (k : Int) ≤ z := by
  have := brokenL_from (bs := bs) (ps := ps) ps.length hk (Nat.le_refl _)
  rwa [List.take_length] at this
theorem brokenL_here {bs : List (List T)} {ps : List Pr} {k : Nat} (hk : k < ps.length) (hb : brkB bs ps[k] = true) : ∃ h : (brokenL bs (ps.take k)).length < (brokenL bs ps).length, (brokenL bs ps)[(brokenL bs (ps.take k)).length]'h = (k : Int) := by
  obtain ⟨r, hr, -⟩ := brokenL_split (bs := bs) (ps := ps) (k := k + 1) (by omega)
  rw [brokenL_step hk, if_pos hb] at hr
  have hl := congrArg List.length hr
  simp only [List.length_append, List.length_cons, List.length_nil] at hl
  refine ⟨by omega, ?_⟩
  simp only [hr]
  rw [List.getElem_append_left (by simp), List.getElem_append_right (by omega)]
  simp
theorem brokenL_next {bs : List (List T)} {ps : List Pr} {k : Nat} (hk : k < ps.length) : (brokenL bs (ps.take (k + 1))).length = (brokenL bs (ps.take k)).length + if brkB bs ps[k] = true then 1 else 0 := by
  rw [brokenL_step hk]
  split <;> simp
theorem brokenI_of {room : List Int} {bs : List (List T)} {ps : List Pr} (hb : binsB room bs = true) (hp : pairsB ps = true) : brokenI room bs ps = brokenL bs ps := by
  unfold brokenI
  rw [hb, hp]
  rfl
theorem pairs_take {ps : List Pr} (h : pairsB ps = true) (k : Nat) : pairsB (ps.take k) = true := by
  obtain ⟨h1, h2⟩ := pairsB_iff.1 h
  refine pairsB_iff.2 ⟨by simp; omega, fun j hj => ?_⟩
  have hj' : j < ps.length := by simp at hj; omega
  obtain ⟨q1, q2⟩ := h2 j hj'
  refine ⟨by simpa using q1, fun h0 => by simpa using q2 h0⟩
/-- No pair is broken by nodes of one task each. -/
theorem alone_none {room : List Int} {ts : List T} {ps : List Pr} (h : pairsB ps = true) : brokenI room (ts.map fun t => [t]) ps = [] := by
  unfold brokenI
  split
  · unfold brokenL
    rw [List.map_eq_nil_iff, List.filter_eq_nil_iff]
    intro i hi
    simp only [List.mem_range] at hi
    have hg : ps.getD i ⟨0, 0⟩ = ps[i] := by simp [List.getD_eq_getElem?_getD, List.getElem?_eq_getElem hi]
    rw [hg]
    have hp := ((pairsB_iff.1 h).2 i hi).1
    have hab : ps[i].a < ps[i].b := by
      simp only [pairOk, Bool.and_eq_true] at hp
      have h2 := hp.2
      simp only [inB, decide_eq_true_eq] at h2
      omega
    intro hb
    simp only [brkB, Bool.and_eq_true, decide_eq_true_eq] at hb
    obtain ⟨h1, h2⟩ := hb
    obtain ⟨k, hk⟩ := Option.isSome_iff_exists.1 h1
    rw [hk] at h2
    have h3 := h2.symm
    unfold where0 at hk h3
    rw [List.findIdx?_eq_some_iff_getElem] at hk h3
    obtain ⟨hl, q1, -⟩ := hk
    obtain ⟨_, q2, -⟩ := h3
    simp only [List.getElem_map, List.any_cons, List.any_nil, Bool.or_false, beq_iff_eq] at q1 q2
    omega
  · rfl

end Go.Proofs.Ytcijbpjiioodlaa
