/- A law's marks over tasks and over nodes; copies of nodes, each node in memory of its own. No condition. -/
import Derived.Test.YtnjgljeejdkbmaaMark2
import Derived.Test.YtnjgljeejdkbmaaArg3
namespace Go.Proofs.Ytnjgljeejdkbmaa
set_option maxRecDepth 100000
open Go.RowKit

/-- Few tasks, with short needs. -/
def Sm (ts : List T) : Prop := ts.length ≤ 1000 ∧ ∀ t ∈ ts, t.need.length ≤ 1000
theorem Sm.len {ts : List T} (h : Sm ts) : ts.length ≤ lim := by have := h.1; unfold lim; omega
theorem Sm.need {ts : List T} (h : Sm ts) : ∀ t ∈ ts, t.need.length ≤ lim := fun t ht => by have := h.2 t ht; unfold lim; omega
theorem Sm.wt {ts : List T} (h : Sm ts) : wt ts ≤ 4194304 := by
  have key : ∀ l : List T, (∀ t ∈ l, t.need.length ≤ 1000) → needs l ≤ 1000 * l.length := by
    intro l
    induction l with
    | nil => intro _; simp [needs]
    | cons t r ih =>
      intro hl
      have h1 := hl t (by simp)
      have h2 := ih fun u hu => hl u (by simp [hu])
      unfold needs at h2 ⊢
      simp only [List.map_cons, List.sum_cons, List.length_cons]
      omega
  have h1 := h.1
  have h2 := key ts h.2
  unfold Go.Proofs.Ytnjgljeejdkbmaa.wt
  omega
theorem Sm.mark {ts : List T} (h : Sm ts) (k : Int) : Sm (markTs k ts) := by
  refine ⟨by rw [markTs_len]; exact h.1, fun t ht => ?_⟩
  obtain ⟨j, hj, rfl⟩ := List.getElem_of_mem ht
  have hj' : j < ts.length := by rwa [markTs_len] at hj
  rw [markTs_get hj hj']
  dsimp only
  rw [seqI_len]
  exact h.2 _ (List.getElem_mem hj')
theorem mark_mix {k : Int} {ts : List T} {j : Nat} (hj : j < ts.length) : (blendL (markTs k ts) ts j).set j ⟨k + (wt (ts.take j) : Int), seqI (k + (wt (ts.take j) : Int) + 1) ts[j].need.length⟩ = blendL (markTs k ts) ts (j + 1) := by
  rw [← blendL_step (markTs_len _ _) hj, markTs_get (by rw [markTs_len]; exact hj) hj]
theorem wt_part {ts : List T} {j : Nat} (hj : j < ts.length) : wt (ts.take j) + 1 + ts[j].need.length ≤ wt ts := by
  rw [← wt_step hj]
  unfold wt
  have h1 : needs ts = needs (ts.take (j + 1)) + needs (ts.drop (j + 1)) := by
    unfold needs
    rw [← List.sum_append, ← List.map_append, List.take_append_drop]
  simp [List.length_take]
  omega
theorem TasksU.form {w : World} {A B : Nat} {v : Value} {ts : List T} (h : TasksU w A B v ts) : ∃ a c, v = .slice a ts.length c := by
  obtain ⟨xs, nb, ⟨_, h1⟩, _⟩ := h
  rcases h1 with ⟨rfl, hn⟩ | ⟨g, cap, cur, rfl, _⟩
  · exact ⟨none, 0, by rw [hn]⟩
  · exact ⟨_, cap, rfl⟩

set_option maxHeartbeats 1000000 in
theorem markTaskS_any (v : Value) (ts : List T) (k : Int) (A B : Nat) (w : World) (h : TasksU w A B v ts) (h0 : 0 ≤ k) (h1 : k ≤ 900000000) (hl : wt ts ≤ 4194304) :
    Calls Try.prog 57 #[v, .int .i64 k] w fun e w' => e = .returned (.int .i64 (k + (wt ts : Int))) ∧ TasksU w' A B v (markTs k ts) ∧ Chg A B w w' := by
  obtain ⟨a, c, rfl⟩ := h.form
  have hl2 : ts.length ≤ 4194304 := by unfold wt at hl; omega
  have H0 := Lib.hid h
  have Hl := Lib.hid hl
  clear h hl
  go_enter Try.func57, Try.ntmps57
  go_wp2
  go_loopw [1, 5] (fun q i wr => ∃ (j : Nat) (m : Nat), j ≤ ts.length ∧ i = .int .i64 j ∧ q = .int .i64 (k + (m : Int)) ∧ m ≤ 4194304 ∧ m = wt (ts.take j) ∧ TasksU wr A B (.slice a ts.length c) (blendL (markTs k ts) ts j) ∧ Chg A B w wr) (fun _ i _ => ts.length - (intOf i).toNat)
  case atStart => exact ⟨0, 0, by omega, rfl, by go_num, by omega, by simp [wt, needs], by rw [blendL_zero]; exact H0.out, Chg.refl _ _ _⟩
  case round =>
    obtain ⟨j, m, hj, rfl, rfl, hm, hm2, hi, hC⟩ := hrel
    have Hm2 := Lib.hid hm2
    clear hm2
    by_cases hlt : j < ts.length
    · have hml := blendL_len (markTs_len k ts) hj
      obtain ⟨b, cc, n, g, hv, hA, hB, c0, c1, hs, hgB, f0⟩ := hi.at (j := j) (by omega)
      simp only [Value.slice.injEq] at hv
      obtain ⟨rfl, hlen, rfl⟩ := hv
      rw [blendL_at (markTs_len k ts) hlt] at c0 hs
      have Hnl := Lib.hid (wt_part hlt)
      have Hst := Lib.hid (wt_step hlt)
      have hmn : m + 1 + ts[j].need.length ≤ 4194304 := by have := Hnl.out; have := Hl.out; have := Hm2.out; omega
      obtain ⟨⟨cn, rfl⟩, hso⟩ := hs
      have hs : NeedS wr A g (.slice (some ⟨g, 0, none⟩) ts[j].need.length cn) ts[j].need := ⟨⟨cn, rfl⟩, hso⟩
      have hrow : ∃ cs fz, wr.heap[b]? = some (.cells cs 49 fz) := by
        obtain ⟨xs, nb, h1, _⟩ := hi
        rcases h1.2 with ⟨h1, _⟩ | ⟨g', cap, cur, hv, _, hh, _⟩
        · cases h1
        · simp only [Value.slice.injEq, Option.some.injEq, Addr.mk.injEq, and_true] at hv
          obtain ⟨rfl, _, rfl⟩ := hv
          exact ⟨cur, _, hh⟩
      obtain ⟨cs, fz, hrow⟩ := hrow
      have kt1 := KT.put (p := ⟨b, j * 2, none⟩) hrow (.int .i64 (k + (m : Int)))
      have s1 := Lib.hid (show IntsU (wr.setCell ⟨b, j * 2, none⟩ (.int .i64 (k + (m : Int)))) A B (.slice (some ⟨g, 0, none⟩) ts[j].need.length cn) ts[j].need from ⟨(hs.kt kt1 (by decide)).2, fun g' e => by simp only [Value.ownBlock, Option.some.injEq] at e; omega⟩)
      have c1' : (wr.setCell ⟨b, j * 2, none⟩ (.int .i64 (k + (m : Int)))).cell? ⟨b, j * 2 + 1, none⟩ = some (.slice (some ⟨g, 0, none⟩) ts[j].need.length cn) := by
        have := heap_put (k := j * 2) hrow (.int .i64 (k + (m : Int)))
        have e1 := cell_of_heap this (j * 2 + 1)
        rw [e1]
        have e2 := cell_of_heap hrow (j * 2 + 1)
        rw [e2] at c1
        rw [Array.getElem?_setIfInBounds_ne (by omega)]
        exact c1
      have hC1 := Lib.hid (hC.trans ((Chg.only (grownBy_put wr b (j * 2) (.int .i64 (k + (m : Int))))).mono hA hB))
      have Hi := Lib.hid hi
      have Hs := Lib.hid hs
      have C1 := Lib.hid c1
      have lenm := Lib.hid hml
      have j0 : (0 : Int) ≤ (j : Int) := by omega
      have j1 : (j : Int) < (ts.length : Int) := by omega
      clear hi hs hso c1 hrow kt1 hC hml hlen
      go_wp2_with fail
      generalize hW : wr.setCell ⟨b, j * 2, none⟩ (.int .i64 (k + (m : Int))) = W1 at *
      have HW := Lib.hid hW
      clear hW
      refine (markIntS_any _ _ _ A B _ s1.out (by omega) (by omega) (by omega)).mono ?_
      rintro e w2 ⟨rfl, hI2, hC2, hg2⟩
      have Hn := Lib.hid (show TasksU w2 A B (.slice (some ⟨b, 0, none⟩) ts.length c) (blendL (markTs k ts) ts (j + 1)) ∧ m + 1 + ts[j].need.length = wt (ts.take (j + 1)) from by
        have e0 := Hm2.out
        refine ⟨?_, by rw [Hst.out, ← e0]⟩
        rw [← mark_mix hlt, ← e0]
        have hi' := Hi.out
        have hjm : j < (blendL (markTs k ts) ts j).length := by rw [lenm.out]; exact hlt
        rw [← lenm.out] at hi' ⊢
        have := hi'.put hjm C1.out (by rw [blendL_at (markTs_len k ts) hlt]; exact Hs.out) (k + (m : Int)) (by rw [HW.out]; exact hg2) (need := seqI (k + (m : Int) + 1) ts[j].need.length) ⟨⟨cn, by rw [seqI_len]⟩, hI2.1⟩
        exact this)
      have hC3 := Lib.hid (hC1.out.trans hC2)
      clear hI2 hC2 hg2 hC1
      go_wp2_with fail
      go_roundw
      case rel => exact ⟨j + 1, m + 1 + ts[j].need.length, by omega, by go_num, by go_num, hmn, Hn.out.2, Hn.out.1, hC3.out⟩
      case measure => simp [intOf]; omega
    · have e : j = ts.length := by omega
      subst e
      have Hi := Lib.hid hi
      have HC := Lib.hid hC
      have e2 : m = wt ts := by have := Hm2.out; rwa [List.take_length] at this
      subst e2
      clear hi hC
      go_wp2
      go_ret
      exact ⟨rfl, by have := Hi.out; rwa [blendL_all (markTs_len k ts)] at this, HC.out⟩

set_option maxHeartbeats 1000000 in
theorem heldTaskS_any (v : Value) (ts : List T) (k : Int) (w : World) (h : Tasks w v (markTs k ts)) (h0 : 0 ≤ k) (h1 : k ≤ 900000000) (hl : wt ts ≤ 4194304) :
    Calls Try.prog 58 #[v, .int .i64 k] w fun e w' => e = .returned (.int .i64 (k + (wt ts : Int))) ∧ Ext w w' := by
  obtain ⟨a, c, rfl, h⟩ := h.open
  have hl2 : ts.length ≤ 4194304 := by unfold wt at hl; omega
  have hml := markTs_len k ts
  rw [hml] at h ⊢
  have H := Lib.hid h
  have Hl := Lib.hid hl
  have Hml := Lib.hid hml
  clear h hl hml
  go_enter Try.func58, Try.ntmps58
  go_wp2
  go_loop [1, 5] (fun q i => ∃ (j : Nat) (m : Nat), j ≤ ts.length ∧ i = .int .i64 j ∧ q = .int .i64 (k + (m : Int)) ∧ m ≤ 4194304 ∧ m = wt (ts.take j)) (fun _ i => ts.length - (intOf i).toNat)
  case atStart => exact ⟨0, 0, by omega, rfl, by go_num, by omega, by simp [wt, needs]⟩
  case round =>
    obtain ⟨j, m, hj, rfl, rfl, hm, hm2⟩ := hrel
    have Hm2 := Lib.hid hm2
    clear hm2
    by_cases hlt : j < ts.length
    · have hjm : j < (markTs k ts).length := by rw [Hml.out]; exact hlt
      obtain ⟨b, off, nd, rfl, c0, c1, hn⟩ := H.out.at hjm
      rw [markTs_get hjm hlt, ← Hm2.out] at c0 hn
      have Hn := Lib.hid hn
      have Hnl := Lib.hid (wt_part hlt)
      have Hst := Lib.hid (wt_step hlt)
      have hmn : m + 1 + ts[j].need.length ≤ 4194304 := by have := Hnl.out; have := Hl.out; have := Hm2.out; omega
      have Hn2 := Lib.hid (show m + 1 + ts[j].need.length = wt (ts.take (j + 1)) by rw [Hst.out, ← Hm2.out])
      have hne : ((k + (m : Int)) != (k + (m : Int))) = false := by simp
      clear hn hjm
      go_wp2_with fail
      refine (heldIntS_any _ _ _ _ Hn.out (by omega) (by omega)).mono ?_
      rintro e w2 ⟨rfl, rfl⟩
      go_wp2_with fail
      go_round
      case rel => exact ⟨j + 1, m + 1 + ts[j].need.length, by omega, by go_num, by go_num, hmn, Hn2.out⟩
      case measure => simp [intOf]; omega
    · have e : j = ts.length := by omega
      subst e
      have e2 : m = wt ts := by have := Hm2.out; rwa [List.take_length] at this
      subst e2
      go_wp2
      go_ret
      exact ⟨rfl, Ext.refl _⟩

/-- Nodes in memory of their own, each node's tasks in blocks of its own. -/
def BinsU (w : World) (L U : Nat) (v : Value) (bs : List (List T)) : Prop :=
  ∃ (xs : List Value) (S : Nat → Nat), w.ownsRow L 27 1 v bs.length xs ∧ L ≤ S 0 ∧ (∀ g, v.ownBlock = some g → g < S 0) ∧ S bs.length ≤ U ∧ (∀ i, i < bs.length → S i ≤ S (i + 1)) ∧
    ∀ k (h : k < bs.length), ∃ n, xs[k]? = some n ∧ TasksU w (S k) (S (k + 1)) n bs[k]
theorem mono_S {S : Nat → Nat} {n : Nat} (h : ∀ i, i < n → S i ≤ S (i + 1)) : ∀ d i, i + d ≤ n → S i ≤ S (i + d) := by
  intro d
  induction d with
  | zero => intro i _; exact Nat.le_refl _
  | succ d ih => intro i hi; exact Nat.le_trans (ih i (by omega)) (h (i + d) (by omega))
theorem BinsU.s {w : World} {L U : Nat} {v : Value} {bs : List (List T)} (h : BinsU w L U v bs) : BinsS w L v bs := by
  obtain ⟨xs, S, h1, hL, hg, hU, hm, h2⟩ := h
  exact ⟨xs, h1, fun k hk => let ⟨n, a, b⟩ := h2 k hk; ⟨n, a, b.s.base (by have := mono_S hm k 0 (by omega); simp at this; omega)⟩⟩
theorem BinsU.bins {w : World} {L U : Nat} {v : Value} {bs : List (List T)} (h : BinsU w L U v bs) (hl : bs.length + weigh bs ≤ lim) : Bins w v bs := h.s.bins hl
theorem BinsU.ext {L U : Nat} {w w' : World} {v : Value} {bs : List (List T)} (h : BinsU w L U v bs) (k : Ext w w') : BinsU w' L U v bs := by
  obtain ⟨xs, S, h1, hL, hg, hU, hm, h2⟩ := h
  exact ⟨xs, S, ownsRow_ext h1 k, hL, hg, hU, hm, fun j hj => let ⟨n, a, b⟩ := h2 j hj; ⟨n, a, b.ext k⟩⟩
theorem BinsU.chg {L U A B : Nat} {w w' : World} {v : Value} {bs : List (List T)} (h : BinsU w A B v bs) (k : Chg L U w w') (hd : B ≤ L ∨ U ≤ A) : BinsU w' A B v bs := by
  obtain ⟨xs, S, h1, hL, hg, hU, hm, h2⟩ := h
  have m1 : ∀ i, i ≤ bs.length → S 0 ≤ S i ∧ S i ≤ S bs.length := fun i hi => ⟨by have := mono_S hm i 0 (by omega); simpa using this, by have := mono_S hm (bs.length - i) i (by omega); rwa [show i + (bs.length - i) = bs.length by omega] at this⟩
  have m0 := m1 0 (by omega)
  refine ⟨xs, S, ownsRow_chg h1 k fun g e => ?_, hL, hg, hU, hm, fun j hj => ?_⟩
  · have := (h1.lt g e).1
    have := hg g e
    omega
  · obtain ⟨n, a, b⟩ := h2 j hj
    have := m1 j (by omega)
    have := m1 (j + 1) (by omega)
    exact ⟨n, a, b.chg k (by omega)⟩
theorem BinsU.form {w : World} {L U : Nat} {v : Value} {bs : List (List T)} (h : BinsU w L U v bs) : ∃ a c, v = .slice a bs.length c := by
  obtain ⟨xs, S, ⟨_, h1⟩, _⟩ := h
  rcases h1 with ⟨rfl, hn⟩ | ⟨g, cap, cur, rfl, _⟩
  · exact ⟨none, 0, by rw [hn]⟩
  · exact ⟨_, cap, rfl⟩
/-- One node, and what it is to change that node alone. -/
theorem BinsU.at {w : World} {L U : Nat} {v : Value} {bs : List (List T)} (h : BinsU w L U v bs) {k : Nat} (hk : k < bs.length) :
    ∃ b c n A B, v = .slice (some ⟨b, 0, none⟩) bs.length c ∧ w.cell? ⟨b, k, none⟩ = some n ∧ TasksU w A B n bs[k] ∧ L ≤ A ∧ B ≤ U ∧ ∀ w' ts, Chg A B w w' → TasksU w' A B n ts → BinsU w' L U v (bs.set k ts) := by
  obtain ⟨xs, S, h1, hL, hg, hU, hm, h2⟩ := h
  have m1 : ∀ i, i ≤ bs.length → S 0 ≤ S i ∧ S i ≤ S bs.length := fun i hi => ⟨by have := mono_S hm i 0 (by omega); simpa using this, by have := mono_S hm (bs.length - i) i (by omega); rwa [show i + (bs.length - i) = bs.length by omega] at this⟩
  have hx := h1.1
  obtain ⟨a, m, c, rfl⟩ : ∃ a m c, v = .slice a m c := by
    rcases h1.2 with ⟨rfl, hn⟩ | ⟨g, cap, cur, rfl, _⟩
    · exact ⟨_, _, _, rfl⟩
    · exact ⟨_, _, _, rfl⟩
  obtain ⟨b, rfl, rfl, hA, hlt, hc, ho⟩ := ownsRow_at h1 (by omega)
  obtain ⟨n, hn, ht⟩ := h2 k hk
  have q1 := m1 k (by omega)
  have q2 := m1 (k + 1) (by omega)
  refine ⟨b, c, n, S k, S (k + 1), rfl, by rw [hc k (by omega), hn], ht, by omega, by omega, fun w' ts hC hT => ?_⟩
  refine ⟨xs, S, ?_, hL, hg, by simpa using hU, by simpa using hm, fun j hj => ?_⟩
  · have := ownsRow_chg h1 hC fun g e => by have := hg g e; omega
    simpa using this
  · simp only [List.length_set] at hj
    by_cases e : k = j
    · subst e
      exact ⟨n, hn, by rw [List.getElem_set_self]; exact hT⟩
    · obtain ⟨m, a, b⟩ := h2 j hj
      rw [List.getElem_set_ne e]
      refine ⟨m, a, b.chg hC ?_⟩
      rcases Nat.lt_or_gt_of_ne e with h | h
      · have := mono_S hm (j - (k + 1)) (k + 1) (by omega)
        rw [show k + 1 + (j - (k + 1)) = j by omega] at this
        omega
      · have := mono_S hm (k - (j + 1)) (j + 1) (by omega)
        rw [show j + 1 + (k - (j + 1)) = k by omega] at this
        omega

theorem weigh_wt {bs : List (List T)} {k : Nat} (h : k < bs.length) : weigh (bs.take (k + 1)) = weigh (bs.take k) + wt bs[k] := by rw [weigh_step h]; rfl
theorem weigh_part {bs : List (List T)} {k : Nat} (h : k < bs.length) : weigh (bs.take k) + wt bs[k] ≤ weigh bs := by
  rw [← weigh_wt h]
  have h1 : weigh bs = weigh (bs.take (k + 1)) + weigh (bs.drop (k + 1)) := by
    unfold weigh
    rw [← List.sum_append, ← List.map_append, List.take_append_drop]
  omega

set_option maxHeartbeats 1000000 in
theorem markTaskSS_any (v : Value) (bs : List (List T)) (k : Int) (L U : Nat) (w : World) (h : BinsU w L U v bs) (h0 : 0 ≤ k) (h1 : k ≤ 800000000) (hl : bs.length + weigh bs ≤ 4194304) :
    Calls Try.prog 55 #[v, .int .i64 k] w fun e w' => e = .returned (.int .i64 (k + (weigh bs : Int))) ∧ Chg L U w w' := by
  obtain ⟨a, c, rfl⟩ := h.form
  have hl2 : bs.length ≤ 4194304 := by omega
  have H0 := Lib.hid h
  have Hl := Lib.hid hl
  clear h hl
  go_enter Try.func55, Try.ntmps55
  go_wp2
  go_loopw [1, 5] (fun q i wr => ∃ (j m : Nat) (cs : List (List T)), j ≤ bs.length ∧ i = .int .i64 j ∧ q = .int .i64 (k + (m : Int)) ∧ m ≤ 4194304 ∧ m = weigh (bs.take j) ∧ cs.length = bs.length ∧ (∀ x (h1 : x < bs.length) (h2 : x < cs.length), j ≤ x → cs[x] = bs[x]) ∧ BinsU wr L U (.slice a bs.length c) cs ∧ Chg L U w wr) (fun _ i _ => bs.length - (intOf i).toNat)
  case atStart => exact ⟨0, 0, bs, by omega, rfl, by go_num, by omega, by simp [weigh], rfl, fun _ _ _ _ => rfl, H0.out, Chg.refl _ _ _⟩
  case round =>
    obtain ⟨j, m, cs, hj, rfl, rfl, hm, hm2, hcl, hcs, hi, hC⟩ := hrel
    have Hm2 := Lib.hid hm2
    have Hcs := Lib.hid hcs
    have Hcl := Lib.hid hcl
    clear hm2 hcs hcl
    by_cases hlt : j < bs.length
    · have hjc : j < cs.length := by rw [Hcl.out]; exact hlt
      obtain ⟨b, cc, n, A, B, hv, c0, ht, hA, hB, hput⟩ := hi.at hjc
      simp only [Value.slice.injEq] at hv
      obtain ⟨rfl, -, rfl⟩ := hv
      rw [Hcs.out j hlt hjc (Nat.le_refl _)] at ht
      have Hw := Lib.hid (weigh_wt hlt)
      have hwl : m + wt bs[j] ≤ 4194304 := by have := weigh_part hlt; have := Hl.out; have := Hm2.out; omega
      have Ht := Lib.hid ht
      have Hput := Lib.hid hput
      have HC := Lib.hid hC
      have hA' := Lib.hid hA
      have hB' := Lib.hid hB
      clear ht hput hC hi hA hB
      go_wp2_with fail
      refine (markTaskS_any _ _ _ _ _ _ Ht.out (by omega) (by omega) (by omega)).mono ?_
      rintro e w2 ⟨rfl, hT, hC2⟩
      have Hn := Lib.hid (Hput.out w2 _ hC2 hT)
      have hC3 := Lib.hid (HC.out.trans (hC2.mono hA'.out hB'.out))
      have Hc2 := Lib.hid (show (cs.set j (markTs (k + (m : Int)) bs[j])).length = bs.length ∧ ∀ x (h1 : x < bs.length) (h2 : x < (cs.set j (markTs (k + (m : Int)) bs[j])).length), j + 1 ≤ x → (cs.set j (markTs (k + (m : Int)) bs[j]))[x] = bs[x] from
        ⟨by rw [List.length_set]; exact Hcl.out, fun x h1 h2 hx => by rw [List.getElem_set_ne (by omega)]; exact Hcs.out x h1 (by simpa using h2) (by omega)⟩)
      have Hm3 := Lib.hid (show m + wt bs[j] = weigh (bs.take (j + 1)) by rw [Hw.out, ← Hm2.out])
      clear hT hC2 HC
      go_wp2_with fail
      go_roundw
      case rel => exact ⟨j + 1, m + wt bs[j], _, by omega, by go_num, by go_num, hwl, Hm3.out, Hc2.out.1, Hc2.out.2, Hn.out, hC3.out⟩
      case measure => simp [intOf]; omega
    · have e : j = bs.length := by omega
      subst e
      have HC := Lib.hid hC
      have e2 : m = weigh bs := by have := Hm2.out; rwa [List.take_length] at this
      subst e2
      clear hi hC
      go_wp2
      go_ret
      exact ⟨rfl, HC.out⟩

set_option maxHeartbeats 1000000 in
theorem toTaskSSU_any (v : Value) (bs : List (List T)) (w : World) (h : ArgBins w v bs) (hl : bs.length + weigh bs ≤ 2097152) :
    Calls Try.prog 33 #[v] w fun e w' => ∃ g, e = .returned (.slice (some ⟨g, 0, none⟩) bs.length bs.length) ∧ Ext w w' ∧ BinsU w' w.heap.size w'.heap.size (.slice (some ⟨g, 0, none⟩) bs.length bs.length) bs := by
  obtain ⟨_, a, cap, rfl, hc⟩ := h
  have Hc := Lib.hid hc
  clear hc
  obtain ⟨i0, hi, hz, hs, hby⟩ := info_parts info_bin
  have HN := Lib.hid (fun k (hk : k < bs.length) => weigh_le hk)
  go_enter Try.func33, Try.ntmps33
  go_wp2_with (at_make; refine wpList_make_full _ rfl _ _ 33 rfl w.heap.size 27 i0 (.slice none 0 0) 1 under_bins hi hz hs .i64 .i64 _ _ bs.length rfl rfl rfl rfl (by rw [hby]; omega) (by unfold maxLen; omega) (Nat.le_refl _) ?_; intro w1 hown hg)
  have hE : Ext w w1 := Below.grown (Below.refl _ _) hg (Nat.le_refl _) (by simp)
  have hg1 : w.heap.size < w1.heap.size := (hown.lt _ rfl).2
  have Ho := Lib.hid hown
  clear hown hg hi hz hs hby
  go_loopw [4] (fun i wr => ∃ (k : Nat) (xs : List Value) (S : Nat → Nat), k ≤ bs.length ∧ i = .int .i64 k ∧ Ext w wr ∧ wr.ownsRow w.heap.size 27 1 (.slice (some ⟨w.heap.size, 0, none⟩) bs.length bs.length) bs.length xs ∧ w.heap.size < S 0 ∧ S k ≤ wr.heap.size ∧ (∀ i, i < k → S i ≤ S (i + 1)) ∧ ∀ j (h : j < bs.length), j < k → ∃ n, xs[j]? = some n ∧ TasksU wr (S j) (S (j + 1)) n bs[j]) (fun i _ => bs.length - (intOf i).toNat)
  case atStart => exact ⟨0, _, fun _ => w1.heap.size, by omega, rfl, hE, Ho.out, hg1, Nat.le_refl _, fun _ h => by omega, fun _ _ h => by omega⟩
  case round =>
    clear Ho hE hg1
    obtain ⟨k, xs, S, hk, rfl, hE, hown, hS0, hSk, hSm, hcs⟩ := hrel
    by_cases hlt : k < bs.length
    · obtain ⟨b, off, rfl, hc⟩ := Hc.out (by omega)
      obtain ⟨n, c1, hn⟩ := hc k hlt
      have c1' := hE.cell c1
      have Hn := Lib.hid (hn.ext hE)
      obtain ⟨an, cn, rfl, -⟩ := hn.2
      have hx := hown.1
      have hnl : bs[k].length + needs bs[k] ≤ 2097152 := by have := HN.out k hlt; omega
      have Hcs := Lib.hid hcs
      have Ho := Lib.hid hown
      have HS := Lib.hid (show w.heap.size < S 0 ∧ S k ≤ wr.heap.size ∧ ∀ i, i < k → S i ≤ S (i + 1) from ⟨hS0, hSk, hSm⟩)
      clear c1 hc hn hcs hown hS0 hSk hSm
      go_wp2_with fail
      refine (toTaskS_any _ _ _ Hn.out hnl).mono ?_
      rintro e w1 ⟨g, rfl, hE2, hns⟩
      have ho1 := ownsRow_ext Ho.out hE2
      obtain ⟨p1, p2, p3, f1⟩ := ownsRow_put ho1 (k := k) (by omega) (.slice (some ⟨g, 0, none⟩) bs[k].length bs[k].length)
      have d0 := ho1.cellAt k (by omega)
      rw [List.getElem?_eq_getElem (by omega)] at d0
      have hE3 := (hE.trans hE2).below p3
      have le2 := Lib.hid hE2.le
      have St := Lib.hid p1
      have hput : ∀ (v : Value) (A B : Nat) (ts : List T), TasksU w1 A B v ts → w.heap.size < A → TasksU (w1.setCell ⟨w.heap.size, k, none⟩ (.slice (some ⟨g, 0, none⟩) bs[k].length bs[k].length)) A B v ts := fun v A B ts h hA =>
        h.chg (Chg.only (grownBy_put w1 w.heap.size k _)) (by omega)
      have Hc2 : Hid (∀ j (h : j < bs.length), j < k + 1 → ∃ n, (xs.set k (.slice (some ⟨g, 0, none⟩) bs[k].length bs[k].length))[j]? = some n ∧ TasksU (w1.setCell ⟨w.heap.size, k, none⟩ (.slice (some ⟨g, 0, none⟩) bs[k].length bs[k].length)) ((fun x => if x ≤ k then S x else w1.heap.size) j) ((fun x => if x ≤ k then S x else w1.heap.size) (j + 1)) n bs[j]) := by
        intro j hj hjk
        have mS := mono_S HS.out.2.2
        by_cases e : k = j
        · subst e
          refine ⟨_, by rw [List.getElem?_set_self (by omega)], ?_⟩
          dsimp only
          rw [if_pos (Nat.le_refl _), if_neg (by omega)]
          have q := mS k 0 (by omega)
          simp only [Nat.zero_add] at q
          exact hput _ _ _ _ (hns.upto.base HS.out.2.1) (by have := HS.out.1; omega)
        · obtain ⟨n, hn, ht⟩ := Hcs.out j hj (by omega)
          refine ⟨n, by rw [List.getElem?_set_ne e, hn], ?_⟩
          dsimp only
          rw [if_pos (by omega), if_pos (by omega)]
          have q := mS j 0 (by omega)
          simp only [Nat.zero_add] at q
          exact hput _ _ _ _ (ht.ext hE2) (by have := HS.out.1; omega)
      have HS2 : Hid (w.heap.size < (fun x => if x ≤ k then S x else w1.heap.size) 0 ∧ (fun x => if x ≤ k then S x else w1.heap.size) (k + 1) ≤ (w1.setCell ⟨w.heap.size, k, none⟩ (.slice (some ⟨g, 0, none⟩) bs[k].length bs[k].length)).heap.size ∧ ∀ i, i < k + 1 → (fun x => if x ≤ k then S x else w1.heap.size) i ≤ (fun x => if x ≤ k then S x else w1.heap.size) (i + 1)) := by
        dsimp only
        refine ⟨by rw [if_pos (by omega)]; exact HS.out.1, by rw [if_neg (by omega)]; simp, fun i hi => ?_⟩
        rw [if_pos (by omega)]
        split
        · exact HS.out.2.2 i (by omega)
        · have : i = k := by omega
          subst this
          have := HS.out.2.1
          have := le2.out
          omega
      clear p1 p2 p3 ho1 hns hE hE2 hput
      go_wp2_with fail
      go_roundw
      case rel => exact ⟨k + 1, _, fun x => if x ≤ k then S x else w1.heap.size, by omega, by go_num, hE3, St.out, HS2.out.1, HS2.out.2.1, HS2.out.2.2, Hc2.out⟩
      case measure => simp [intOf]; omega
    · have e : k = bs.length := by omega
      subst e
      have Ho1 := Lib.hid (show BinsU wr w.heap.size wr.heap.size (.slice (some ⟨w.heap.size, 0, none⟩) bs.length bs.length) bs from ⟨xs, S, hown, by omega, fun g e => by simp only [Value.ownBlock, Option.some.injEq] at e; omega, hSk, hSm, fun j hj => hcs j hj hj⟩)
      clear hown hcs hS0 hSk hSm
      go_wp2
      go_ret
      exact ⟨_, rfl, hE, Ho1.out⟩

end Go.Proofs.Ytnjgljeejdkbmaa
