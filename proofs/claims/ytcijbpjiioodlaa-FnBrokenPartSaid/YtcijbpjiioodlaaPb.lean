/- Pairs of tasks: whether they are valid, which are broken; as plain lists, by the program and by the reference. No condition. -/
import Derived.Test.YtcijbpjiioodlaaPr
import Derived.Test.YtcijbpjiioodlaaS9
namespace Go.Proofs.Ytcijbpjiioodlaa
set_option maxRecDepth 100000
open Go.RowKit

def pairOk (p : Pr) : Bool := inB p.a 1 40 && inB p.b (p.a + 1) 40
def ltP (p q : Pr) : Bool := decide (p.a < q.a ∨ (p.a = q.a ∧ p.b < q.b))
def PairsOk (ps : List Pr) : Prop := ps.length ≤ 8 ∧ ∀ k (h : k < ps.length), pairOk ps[k] = true ∧ ∀ (h0 : 0 < k), ltP (ps[k - 1]'(by omega)) ps[k] = true
instance (ps : List Pr) : Decidable (PairsOk ps) := by unfold PairsOk; infer_instance
def pairsB (ps : List Pr) : Bool := decide (PairsOk ps)
theorem pairsB_iff {ps : List Pr} : pairsB ps = true ↔ PairsOk ps := by simp [pairsB]
/-- Is the pair at a place right, its place among the others too? -/
def rightP (ps : List Pr) (k : Nat) (h : k < ps.length) : Prop := pairOk ps[k] = true ∧ ∀ (h0 : 0 < k), ltP (ps[k - 1]'(by omega)) ps[k] = true
theorem pairs_bad {ps : List Pr} {k : Nat} (h : k < ps.length) (hb : ¬ rightP ps k h) : pairsB ps = false := by
  rw [Bool.eq_false_iff]
  intro e
  exact hb ((pairsB_iff.1 e).2 k h)
theorem pairs_long {ps : List Pr} (h : 8 < ps.length) : pairsB ps = false := by
  rw [Bool.eq_false_iff]
  intro e
  have := (pairsB_iff.1 e).1
  omega
theorem pairs_good {ps : List Pr} (hl : ps.length ≤ 8) (h : ∀ k (hk : k < ps.length), rightP ps k hk) : pairsB ps = true := pairsB_iff.2 ⟨hl, fun k hk => h k hk⟩

/-- Are both tasks of a pair in one node? -/
def brkB (bs : List (List T)) (p : Pr) : Bool := (where0 bs p.a).isSome && decide (where0 bs p.a = where0 bs p.b)
def brokenL (bs : List (List T)) (ps : List Pr) : List Int := ((List.range ps.length).filter fun i => brkB bs (ps.getD i ⟨0, 0⟩)).map fun (i : Nat) => (i : Int)
theorem brokenL_step {bs : List (List T)} {ps : List Pr} {k : Nat} (h : k < ps.length) : brokenL bs (ps.take (k + 1)) = if brkB bs ps[k] = true then brokenL bs (ps.take k) ++ [(k : Int)] else brokenL bs (ps.take k) := by
  have e : ∀ m, m ≤ ps.length → brokenL bs (ps.take m) = ((List.range m).filter fun i => brkB bs (ps.getD i ⟨0, 0⟩)).map fun (i : Nat) => (i : Int) := by
    intro m hm
    unfold brokenL
    rw [List.length_take, Nat.min_eq_left hm]
    congr 1
    apply List.filter_congr
    intro i hi
    simp only [List.mem_range] at hi
    rw [List.getD_eq_getElem?_getD, List.getD_eq_getElem?_getD, List.getElem?_take, if_pos hi]
  rw [e _ (by omega), e _ (by omega), List.range_succ, List.filter_append, List.map_append]
  have hg : ps.getD k ⟨0, 0⟩ = ps[k] := by simp [List.getD_eq_getElem?_getD, List.getElem?_eq_getElem h]
  simp only [List.filter_cons, List.filter_nil, hg]
  by_cases h0 : brkB bs ps[k] = true
  · rw [if_pos h0, if_pos h0]
    rfl
  · rw [if_neg h0, if_neg h0]
    simp
theorem brokenL_len (bs : List (List T)) (ps : List Pr) : (brokenL bs ps).length ≤ ps.length := by
  unfold brokenL
  rw [List.length_map]
  exact Nat.le_trans (List.length_filter_le _ _) (by simp)
def brokenI (room : List Int) (bs : List (List T)) (ps : List Pr) : List Int := if (binsB room bs && pairsB ps) = true then brokenL bs ps else []
theorem broken_lim (room : List Int) (bs : List (List T)) (ps : List Pr) : (brokenI room bs ps).length ≤ lim := by
  unfold brokenI lim
  split
  · rename_i hb
    rw [Bool.and_eq_true] at hb
    have h1 := (pairsB_iff.1 hb.2).1
    have h2 := brokenL_len bs ps
    omega
  · simp
theorem nodeI_eq {a b : Option Nat} : nodeI a = nodeI b ↔ a = b := by
  cases a <;> cases b <;> simp [nodeI] <;> omega
theorem brkB_of {bs : List (List T)} {p : Pr} {o : Option Nat} (h : where0 bs p.a = o) : brkB bs p = (decide (0 ≤ nodeI o) && decide (nodeI o = nodeI (where0 bs p.b))) := by
  unfold brkB
  rw [h, nodeI_some]
  congr 1
  simp [nodeI_eq]

end Go.Proofs.Ytcijbpjiioodlaa
