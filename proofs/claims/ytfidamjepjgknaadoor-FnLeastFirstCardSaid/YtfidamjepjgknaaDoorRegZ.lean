/- A region that draws its order and ends in a store: its operations taken one by one in an order of ours; what is read is known till the store. No condition. -/
import Derived.Test.YtfidamjepjgknaaDoorReg
namespace Go.Proofs.YtfidamjepjgknaaDoor
set_option maxRecDepth 100000
open Go.RowKit

section
variable {P : Program} {ops : Array Oper} {Q : Exit → Act → World → Prop} {md : Region.Mode} {S : World → Prop} {z : Nat}

/-- Whatever order is picked: S holds till number z has come up. -/
def wpAnyZ (P : Program) (md : Region.Mode) (ops : Array Oper) (Q : Exit → Act → World → Prop) (S : World → Prop) (z : Nat) : Nat → Array Bool → Act → World → Prop
  | 0, l, a, w => Region.ready md ops l = [] ∧ Q .normal a w
  | n + 1, l, a, w => (Region.ready md ops l = [] → Q .normal a w) ∧
      ∀ i ∈ Region.ready md ops l, wpOp P ops Q i (fun b u => ((l.setIfInBounds i true).getD z true = false → S u) ∧ wpAnyZ P md ops Q S z n (l.setIfInBounds i true) b u) a w
theorem any_of_Z : ∀ (n : Nat) (l : Array Bool) (a : Act) (w : World), wpAnyZ P md ops Q S z n l a w → wpAny P md ops Q n l a w
  | 0, _, _, _, h => h
  | n + 1, _, _, _, h => ⟨h.1, fun i hi => wpOp_mono (fun b u k => any_of_Z n _ b u k.2) (h.2 i hi)⟩
/-- What has come up waits for nothing that has not. -/
def Upto (md : Region.Mode) (ops : Array Oper) (l : Array Bool) : Prop := ∀ j o, ops[j]? = some o → l.getD j true = true → ∀ e ∈ o.after, Region.binds md e = true → l.getD e.on false = true
theorem Upto.start : Upto md ops (Array.replicate ops.size false) := fun j o ho hj => by
  have hlt : j < ops.size := (Array.getElem?_eq_some_iff.1 ho).1
  simp [hlt] at hj
theorem Upto.step {l : Array Bool} {i : Nat} (h : Upto md ops l) (hi : i ∈ Region.ready md ops l) : Upto md ops (l.setIfInBounds i true) := fun j o ho hj e he hb => by
  by_cases c : i = j
  · subst c
    obtain ⟨_, o', ho', hall⟩ := mem_ready.1 hi
    rw [ho] at ho'
    cases ho'
    exact getD_set_true (hall e he hb)
  · rw [getD_set_ne true c] at hj
    exact getD_set_true (h j o ho hj e he hb)
def waitsB (md : Region.Mode) (ops : Array Oper) (j k : Nat) : Bool := match ops[j]? with
  | some o => o.after.any fun e => Region.binds md e && e.on == k
  | none => false
/-- A way from one operation to another for which it waits. -/
def pathB (md : Region.Mode) (ops : Array Oper) : Nat → List Nat → Nat → Bool
  | j, [], i => waitsB md ops j i
  | j, d :: t, i => waitsB md ops j d && pathB md ops d t i
theorem waits_edge {j k : Nat} (h : waitsB md ops j k = true) : ∃ o, ops[j]? = some o ∧ ∃ e ∈ o.after, Region.binds md e = true ∧ e.on = k := by
  unfold waitsB at h
  cases ho : ops[j]? with
  | none => rw [ho] at h; cases h
  | some o =>
    rw [ho] at h
    simp only [Array.any_eq_true', Bool.and_eq_true, beq_iff_eq] at h
    obtain ⟨e, he, hb, hk⟩ := h
    exact ⟨o, rfl, e, he, hb, hk⟩
theorem getD_tf {l : Array Bool} {i : Nat} (h : l.getD i true = false) : l.getD i false = false := by
  rcases Nat.lt_or_ge i l.size with c | c
  · simp [c] at h ⊢; exact h
  · simp [c] at h
theorem path_out {l : Array Bool} (h : Upto md ops l) {i : Nat} (hi : l.getD i true = false) : ∀ (t : List Nat) (j : Nat), pathB md ops j t i = true → l.getD j true = false
  | [], j, p => by
    obtain ⟨o, ho, e, he, hb, hk⟩ := waits_edge p
    cases hj : l.getD j true with
    | false => rfl
    | true =>
      have := h j o ho hj e he hb
      rw [hk, getD_tf hi] at this
      cases this
  | d :: t, j, p => by
    unfold pathB at p
    rw [Bool.and_eq_true] at p
    have hd := path_out h hi t d p.2
    obtain ⟨o, ho, e, he, hb, hk⟩ := waits_edge p.1
    cases hj : l.getD j true with
    | false => rfl
    | true =>
      have := h j o ho hj e he hb
      rw [hk, getD_tf hd] at this
      cases this
theorem path_wait {l : Array Bool} (h : Upto md ops l) {i : Nat} (hi : l.getD i true = false) (t : List Nat) {j : Nat} (p : pathB md ops j t i = true) : j ∉ Region.ready md ops l := fun hj => by
  obtain ⟨_, o, ho, hall⟩ := mem_ready.1 hj
  cases t with
  | nil =>
    obtain ⟨o', ho', e, he, hb, hk⟩ := waits_edge p
    rw [ho] at ho'
    cases ho'
    have := hall e he hb
    rw [hk, getD_tf hi] at this
    cases this
  | cons d t =>
    unfold pathB at p
    rw [Bool.and_eq_true] at p
    have hd := path_out h hi t d p.2
    obtain ⟨o', ho', e, he, hb, hk⟩ := waits_edge p.1
    rw [ho] at ho'
    cases ho'
    have := hall e he hb
    rw [hk, getD_tf hd] at this
    cases this
/-- An operation that yields its value wherever T holds is taken first: T holds everywhere, or wherever S does and number z waits for it. -/
theorem firstZ {T : World → Prop} {i : Nat} {oi : Oper} {v : Value} (hi : ops[i]? = some oi) (hz : i ≠ z) (hsel : ∀ (j : Nat) (o : Oper) cs b, ops[j]? = some o → o.op ≠ .select cs b)
    (hQ : ∀ c a w, Q (.panic c) (a.put oi.dst v) w → Q (.panic c) a w) (hT : (∀ w, T w) ∨ ((∀ w, S w → T w) ∧ ∃ t, pathB md ops z t i = true)) :
    ∀ (n : Nat) (l : Array Bool) (a : Act) (w : World), (∀ j oj, ops[j]? = some oj → j ≠ i → l.getD j true = false → (∀ e ∈ oj.after, Region.binds md e = true → e.on ≠ i) → oi.apart ops oj = true) → Upto md ops l →
      i ∈ Region.ready md ops l → YieldsIf P ops T oi v a → T w → (l.getD z true = false → S w) → wpAnyZ P md ops Q S z n (l.setIfInBounds i true) (a.put oi.dst v) w → wpAnyZ P md ops Q S z (n + 1) l a w := by
  intro n
  induction n with
  | zero =>
    intro l a w _ _ hr hy hTw hS H
    refine ⟨fun h => (by rw [h] at hr; cases hr), fun j hj => ?_⟩
    by_cases c : j = i
    · subst c; exact hy.wpOp hi hTw ⟨fun k => hS (by rwa [getD_set_ne true hz] at k), H⟩
    · have := ready_mono hj c
      rw [H.1] at this
      cases this
  | succ n ih =>
    intro l a w hfree hU hr hy hTw hS H
    refine ⟨fun h => (by rw [h] at hr; cases hr), fun j hj => ?_⟩
    by_cases c : j = i
    · subst c; exact hy.wpOp hi hTw ⟨fun k => hS (by rwa [getD_set_ne true hz] at k), H⟩
    · have h1 := H.2 j (ready_mono hj c)
      obtain ⟨hjun, oj, hoj, hall⟩ := mem_ready.1 hj
      have hiun := (mem_ready.1 hr).1
      have hnot : ∀ e ∈ oj.after, Region.binds md e = true → e.on ≠ i := fun e he hb heq => by
        have k := hall e he hb
        rw [heq, getD_tf hiun] at k
        cases k
      have h2 := wpOp_putIf hoj (hfree j oj hoj c hjun hnot) (fun cs b => hsel i oi cs b hi) (fun cs b => hsel j oj cs b hoj) hQ hy h1
      have hfree' : ∀ k ok, ops[k]? = some ok → k ≠ i → (l.setIfInBounds j true).getD k true = false → (∀ e ∈ ok.after, Region.binds md e = true → e.on ≠ i) → oi.apart ops ok = true := fun k ok hk hki hun hno => by
        refine hfree k ok hk hki ?_ hno
        by_cases q : j = k
        · subst q; exact hjun
        · rwa [getD_set_ne true q] at hun
      refine wpOp_mono (fun b u h3 => ?_) h2
      obtain ⟨hyb, hSu, hrest⟩ := h3
      have hS' : (l.setIfInBounds j true).getD z true = false → S u := fun k => hSu (by
        rw [Array.setIfInBounds_comm _ _ (Ne.symm c), getD_set_ne true hz]
        exact k)
      have hTu : T u := by
        rcases hT with hT | ⟨hT, t, hp⟩
        · exact hT u
        · refine hT u (hS' ?_)
          have q1 : j ≠ z := fun e => path_wait hU hiun t hp (e ▸ hj)
          rw [getD_set_ne true q1]
          exact path_out hU hiun t z hp
      refine ⟨hS', ih (l.setIfInBounds j true) b u hfree' (hU.step hj) (ready_mono hr (Ne.symm c)) hyb hTu hS' ?_⟩
      rw [Array.setIfInBounds_comm _ _ c]
      exact hrest

/-- The region's rest, of a beginning that waited for nothing that is to come. -/
def wpZ (P : Program) (md : Region.Mode) (ops : Array Oper) (Q : Exit → Act → World → Prop) (S : World → Prop) (z : Nat) (n : Nat) (l : Array Bool) (a : Act) (w : World) : Prop := Upto md ops l → wpAnyZ P md ops Q S z n l a w
/-- What reads what S tells. -/
theorem readZ (t : List Nat) {i : Nat} {oi : Oper} {d : Option Tmp} {v : Value} {n : Nat} {l : Array Bool} {a : Act} {w : World} (hi : ops[i]? = some oi) (hd : oi.dst = d) (hz : i ≠ z) (hp : pathB md ops z t i = true)
    (hs : Region.noSelect ops = true) (hf : Region.free md ops l i = true) (hr : (Region.ready md ops l).contains i = true)
    (hQ : ∀ c a w, Q (.panic c) (a.put oi.dst v) w → Q (.panic c) a w) (hw : Region.wanted oi (yielded ops a.tmps) = true) (hv : ∀ w, S w → (execOp a.eval oi).run P w = .ok (.value v) w) (hS : S w)
    (h : wpZ P md ops Q S z n (l.setIfInBounds i true) (a.put d v) w) : wpZ P md ops Q S z (n + 1) l a w := fun hU => by
  subst hd
  have hr' : i ∈ Region.ready md ops l := by simpa using hr
  exact firstZ hi hz (Region.noSelect_spec hs) hQ (.inr ⟨fun _ k => k, t, hp⟩) n l a w (Region.free_spec hi hf) hU hr' (.inl ⟨hw, hv⟩) hS (fun _ => hS) (h (hU.step hr'))
/-- What yields the same everywhere. -/
theorem pureZ {i : Nat} {oi : Oper} {d : Option Tmp} {v : Value} {n : Nat} {l : Array Bool} {a : Act} {w : World} (hi : ops[i]? = some oi) (hd : oi.dst = d) (hz : i ≠ z)
    (hs : Region.noSelect ops = true) (hf : Region.free md ops l i = true) (hr : (Region.ready md ops l).contains i = true)
    (hQ : ∀ c a w, Q (.panic c) (a.put oi.dst v) w → Q (.panic c) a w) (hw : Region.wanted oi (yielded ops a.tmps) = true) (hv : ∀ w, (execOp a.eval oi).run P w = .ok (.value v) w) (hS : S w)
    (h : wpZ P md ops Q S z n (l.setIfInBounds i true) (a.put d v) w) : wpZ P md ops Q S z (n + 1) l a w := fun hU => by
  subst hd
  have hr' : i ∈ Region.ready md ops l := by simpa using hr
  exact firstZ (T := fun _ => True) hi hz (Region.noSelect_spec hs) hQ (.inl fun _ => trivial) n l a w (Region.free_spec hi hf) hU hr' (.inl ⟨hw, fun w _ => hv w⟩) trivial (fun _ => hS) (h (hU.step hr'))
/-- What is not wanted. -/
theorem skipZ {i : Nat} {oi : Oper} {d : Option Tmp} {n : Nat} {l : Array Bool} {a : Act} {w : World} (hi : ops[i]? = some oi) (hd : oi.dst = d) (hz : i ≠ z)
    (hs : Region.noSelect ops = true) (hf : Region.free md ops l i = true) (hr : (Region.ready md ops l).contains i = true)
    (hQ : ∀ c a w, Q (.panic c) (a.put oi.dst undef) w → Q (.panic c) a w) (hw : Region.wanted oi (yielded ops a.tmps) = false) (hS : S w)
    (h : wpZ P md ops Q S z n (l.setIfInBounds i true) (a.put d undef) w) : wpZ P md ops Q S z (n + 1) l a w := fun hU => by
  subst hd
  have hr' : i ∈ Region.ready md ops l := by simpa using hr
  exact firstZ (T := fun _ => True) hi hz (Region.noSelect_spec hs) hQ (.inl fun _ => trivial) n l a w (Region.free_spec hi hf) hU hr' (.inr ⟨hw, rfl⟩) trivial (fun _ => hS) (h (hU.step hr'))
/-- The one operation that may come up, not the last one. -/
theorem oneZ {i : Nat} {oi : Oper} {n : Nat} {l : Array Bool} {a : Act} {w : World} (hr : Region.ready md ops l = [i]) (hi : ops[i]? = some oi) (hw : Region.wanted oi (yielded ops a.tmps) = true)
    (h : ∀ K' : Act → World → Prop, Hid (∀ a w, S w → (S w → wpZ P md ops Q S z n (l.setIfInBounds i true) a w) → K' a w) → Oper.wp P oi a w K' Q) : wpZ P md ops Q S z (n + 1) l a w := fun hU => by
  have hm : i ∈ Region.ready md ops l := by rw [hr]; simp
  refine ⟨fun h0 => (by rw [hr] at h0; cases h0), fun j hj => ?_⟩
  rw [hr, List.mem_singleton] at hj
  subst hj
  refine wpOp_step hi fun K' hK => ?_
  rw [if_pos hw]
  exact h K' (Lib.hid fun b u hSu hN => hK b u ⟨fun _ => hSu, hN hSu (hU.step hm)⟩)
/-- The last operation. -/
theorem lastZ {oi : Oper} {n : Nat} {l : Array Bool} {a : Act} {w : World} (hr : Region.ready md ops l = [z]) (hi : ops[z]? = some oi) (hw : Region.wanted oi (yielded ops a.tmps) = true)
    (h : ∀ K' : Act → World → Prop, Hid (∀ a w, wpZ P md ops Q S z n (l.setIfInBounds z true) a w → K' a w) → Oper.wp P oi a w K' Q) : wpZ P md ops Q S z (n + 1) l a w := fun hU => by
  have hm : z ∈ Region.ready md ops l := by rw [hr]; simp
  refine ⟨fun h0 => (by rw [hr] at h0; cases h0), fun j hj => ?_⟩
  rw [hr, List.mem_singleton] at hj
  subst hj
  refine wpOp_step hi fun K' hK => ?_
  rw [if_pos hw]
  refine h K' (Lib.hid fun b u hN => hK b u ⟨fun k => ?_, hN (hU.step hm)⟩)
  exfalso
  rcases Nat.lt_or_ge j l.size with c | c
  · simp [c] at k
  · simp [c] at k
theorem doneZ {n : Nat} {l : Array Bool} {a : Act} {w : World} (hr : Region.ready md ops l = []) (h : Q .normal a w) : wpZ P md ops Q S z n l a w := fun _ => by
  cases n with
  | zero => exact ⟨hr, h⟩
  | succ n => exact ⟨fun _ => h, fun i hi => by rw [hr] at hi; cases hi⟩
/-- The beginning. -/
theorem regionZ (z : Nat) {id : Nat} {a : Act} {w : World} (hm : P.follows .mixedOrders = true) (hS : S w.drew) (h : S w.drew → wpZ P .any ops Q S z ops.size (Array.replicate ops.size false) a w.drew) : (Code.region id ops true).wp P Q a w :=
  wp_region_any hm (any_of_Z _ _ _ _ (h hS Upto.start))
end

end Go.Proofs.YtfidamjepjgknaaDoor
