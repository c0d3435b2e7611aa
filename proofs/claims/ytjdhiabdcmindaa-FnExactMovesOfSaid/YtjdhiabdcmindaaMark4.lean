/- A law's marks over nodes that a call owns whole; that the marks are found again. No condition. -/
import Derived.Test.YtjdhiabdcmindaaNestS
import Derived.Test.YtjdhiabdcmindaaMark
namespace Go.Proofs.Ytjdhiabdcmindaa
set_option maxRecDepth 100000
open Go.RowKit

/-- Blocks with P may have changed, and new ones have come. -/
structure ChgP (P : Nat → Prop) (w w' : World) : Prop where
  os : w'.os = w.os
  tape : w'.tape = w.tape
  output : w'.output = w.output
  size : w.heap.size ≤ w'.heap.size
  block : ∀ b, b < w.heap.size → ¬ P b → w'.heap[b]? = w.heap[b]?
theorem ChgP.refl (P : Nat → Prop) (w : World) : ChgP P w w := ⟨rfl, rfl, rfl, Nat.le_refl _, fun _ _ _ => rfl⟩
theorem ChgP.trans {P : Nat → Prop} {a b c : World} (h : ChgP P a b) (k : ChgP P b c) : ChgP P a c :=
  ⟨k.os.trans h.os, k.tape.trans h.tape, k.output.trans h.output, Nat.le_trans h.size k.size, fun i hi hx => (k.block i (Nat.lt_of_lt_of_le hi h.size) hx).trans (h.block i hi hx)⟩
theorem ChgP.weaken {P Q : Nat → Prop} {w w' : World} (h : ChgP P w w') (k : ∀ b, P b → Q b) : ChgP Q w w' := ⟨h.os, h.tape, h.output, h.size, fun b hb hq => h.block b hb fun hp => hq (k b hp)⟩
theorem ChgP.of_grown {P : Nat → Prop} {w w' : World} {g : Nat} (h : w.grownBy w' (some g)) (hg : P g) : ChgP P w w' :=
  ⟨h.os, h.tape, h.output, h.size, fun i hi hx => h.block i hi (fun e => hx (by simp only [Option.some.injEq] at e; rw [e]; exact hg))⟩
theorem ChgP.chg {A B : Nat} {P : Nat → Prop} {w w' : World} (h : ChgP P w w') (k : ∀ b, P b → A ≤ b ∧ b < B) : Chg A B w w' :=
  ⟨h.os, h.tape, h.output, h.size, fun b hb hx => h.block b hb fun hp => by have := k b hp; omega⟩
theorem NeedS.lift {w : World} {L L' g : Nat} {v : Value} {need : List Int} (h : NeedS w L g v need) (hb : L' ≤ g) : NeedS w L' g v need := by
  obtain ⟨⟨cap, rfl⟩, h2⟩ := h
  exact ⟨⟨cap, rfl⟩, ownsRow_raise h2 fun g' e => by simp only [Value.ownBlock, Option.some.injEq] at e; subst e; exact hb⟩

/-- One task of a row. -/
theorem TasksP.at {P : Nat → Prop} {w : World} {v : Value} {ts : List T} (h : TasksP w P v ts) {j : Nat} (hj : j < ts.length) :
    ∃ b c n g cs, v = .slice (some ⟨b, 0, none⟩) ts.length c ∧ P b ∧ w.heap[b]? = some (.cells cs 56 (0, 0)) ∧ w.cell? ⟨b, j * 2, none⟩ = some (.int .i64 ts[j].id) ∧ w.cell? ⟨b, j * 2 + 1, none⟩ = some n ∧ NeedS w 0 g n ts[j].need ∧ P g ∧ w.frozen? ⟨b, j * 2, none⟩ = false := by
  obtain ⟨xs, nb, h1, h2, h3, h4⟩ := h
  have hx := h1.1
  obtain ⟨a, m, c, rfl⟩ : ∃ a m c, v = .slice a m c := by
    rcases h1.2 with ⟨rfl, hn⟩ | ⟨g, cap, cur, rfl, _⟩
    · exact ⟨_, _, _, rfl⟩
    · exact ⟨_, _, _, rfl⟩
  obtain ⟨b, rfl, rfl, hA, hlt, hc, ho⟩ := ownsRow_at h1 (by omega)
  obtain ⟨c0, n, c1, hn⟩ := h2.1 j hj hj
  have hcs : ∃ cs, w.heap[b]? = some (.cells cs 56 (0, 0)) := by
    obtain ⟨_, h⟩ := ho
    rcases h with ⟨h, _⟩ | ⟨g', cap, cur, hv, _, hg, _⟩
    · cases h
    · simp only [Value.slice.injEq, Option.some.injEq, Addr.mk.injEq, true_and, and_true] at hv
      obtain ⟨rfl, rfl⟩ := hv
      exact ⟨cur, hg⟩
  obtain ⟨cs, hcs⟩ := hcs
  exact ⟨b, c, n, nb j, cs, rfl, h3 b rfl, hcs, by rw [hc _ (by omega), c0], by rw [hc _ (by omega), c1], hn, h4 j hj, (ownsRow_put ho (k := j * 2) (by omega) (.bool true)).2.2.2⟩
/-- One task is marked: its number, then its need. -/
theorem TasksP.put {P : Nat → Prop} {b c g j : Nat} {w w2 : World} {n : Value} {ts : List T} (h : TasksP w P (.slice (some ⟨b, 0, none⟩) ts.length c) ts) (hj : j < ts.length) (hn : w.cell? ⟨b, j * 2 + 1, none⟩ = some n) (hs : NeedS w 0 g n ts[j].need)
    (id : Int) {need : List Int} (hg : (w.setCell ⟨b, j * 2, none⟩ (.int .i64 id)).grownBy w2 (some g)) (hs2 : NeedS w2 0 g n need) : TasksP w2 P (.slice (some ⟨b, 0, none⟩) ts.length c) (ts.set j ⟨id, need⟩) := by
  obtain ⟨xs, nb, h1, h2, h3, h4⟩ := h
  have hu : TasksU w 0 (w.heap.size + 1) (.slice (some ⟨b, 0, none⟩) ts.length c) ts := ⟨xs, nb, h1, h2, fun g hg => Nat.lt_succ_of_lt (h1.lt g hg).2, fun k hk => by obtain ⟨_, n, _, hn⟩ := h2.1 k hk hk; exact Nat.lt_succ_of_lt hn.lt.2⟩
  have hx := h1.1
  obtain ⟨g', hga, _, hA, hlt, hc, ho⟩ := ownsRow_at h1 (by omega)
  simp only [Option.some.injEq, Addr.mk.injEq, and_true] at hga
  subst hga
  obtain ⟨c0, n0, c1, hn0⟩ := h2.1 j hj hj
  have e0 : n0 = n := by
    have := (hc (j * 2 + 1) (by omega)).symm.trans hn
    rw [c1] at this
    simpa using this
  subst e0
  have eg : g = nb j := by
    obtain ⟨⟨c1, e1⟩, _⟩ := hs
    obtain ⟨⟨c2, e2⟩, _⟩ := hn0
    rw [e1] at e2
    simp only [Value.slice.injEq, Option.some.injEq, Addr.mk.injEq, and_true] at e2
    exact e2.1
  subst eg
  obtain ⟨p1, p2, p3, p4⟩ := ownsRow_put ho (k := j * 2) (by omega) (.int .i64 id)
  have hne : b ≠ nb j := by
    intro e
    obtain ⟨⟨cn, rfl⟩, _, hno⟩ := hn0
    obtain ⟨_, hbo⟩ := ho
    rcases hbo with ⟨hbo, _⟩ | ⟨b', cb, ub, hvb, _, kb, _⟩
    · cases hbo
    · simp only [Value.slice.injEq, Option.some.injEq, Addr.mk.injEq, true_and, and_true] at hvb
      obtain ⟨rfl, rfl⟩ := hvb
      rcases hno with ⟨hno, _⟩ | ⟨g2, cg, ug, hvg, _, kg, _⟩
      · cases hno
      · simp only [Value.slice.injEq, Option.some.injEq, Addr.mk.injEq, true_and, and_true] at hvg
        obtain ⟨rfl, rfl⟩ := hvg
        rw [e] at kb
        rw [kb] at kg
        simp only [Option.some.injEq, Obj.cells.injEq] at kg
        exact absurd kg.2.1 (by decide)
  have k2 := Chg.only hg
  have q1 := ownsRow_chg p1 k2 fun g' e => by simp only [Value.ownBlock, Option.some.injEq] at e; omega
  refine ⟨xs.set (j * 2) (.int .i64 id), nb, by simpa using q1, ⟨fun i hi him => ?_, fun i k hik hk hkm => h2.2 i k hik (by simpa using hk) (by simpa using hkm)⟩, h3, fun k hk => h4 k (by simpa using hk)⟩
  simp only [List.length_set] at hi
  obtain ⟨a0, m, a1, hm⟩ := h2.1 i hi hi
  rw [List.getElem?_set_ne (by omega : j * 2 ≠ i * 2 + 1)]
  by_cases e : j = i
  · subst e
    rw [List.getElem?_set_self (by omega), List.getElem_set_self]
    have : m = n0 := by rw [c1] at a1; simpa using a1.symm
    subst this
    exact ⟨rfl, m, a1, hs2⟩
  · rw [List.getElem?_set_ne (by omega), List.getElem_set_ne e]
    have hd : nb j ≠ nb i := by
      rcases Nat.lt_or_gt_of_ne e with h | h
      · exact h2.2 j i h hi hi
      · exact fun x => h2.2 i j h hj hj x.symm
    exact ⟨a0, m, a1, (hm.kt p2 (by decide)).chg k2 (by omega)⟩

set_option maxHeartbeats 1000000 in
theorem markTaskSP_any (v : Value) (ts : List T) (k : Int) (P : Nat → Prop) (w : World) (h : TasksP w P v ts) (h0 : 0 ≤ k) (h1 : k ≤ 900000000) (hl : wt ts ≤ 4194304) :
    Calls Try.prog 39 #[v, .int .i64 k] w fun e w' => e = .returned (.int .i64 (k + (wt ts : Int))) ∧ TasksP w' P v (markTs k ts) ∧ ChgP P w w' := by
  obtain ⟨a, c, rfl⟩ := h.form
  have hl2 : ts.length ≤ 4194304 := by unfold wt at hl; omega
  have H0 := Lib.hid h
  have Hl := Lib.hid hl
  clear h hl
  go_enter Try.func39, Try.ntmps39
  go_wp2
  go_loopw [1, 5] (fun q i wr => ∃ (j : Nat) (m : Nat), j ≤ ts.length ∧ i = .int .i64 j ∧ q = .int .i64 (k + (m : Int)) ∧ m ≤ 4194304 ∧ m = wt (ts.take j) ∧ TasksP wr P (.slice a ts.length c) (blendL (markTs k ts) ts j) ∧ ChgP P w wr) (fun _ i _ => ts.length - (intOf i).toNat)
  case atStart => exact ⟨0, 0, by omega, rfl, by go_num, by omega, by simp [wt, needs], by rw [blendL_zero]; exact H0.out, ChgP.refl _ _⟩
  case round =>
    obtain ⟨j, m, hj, rfl, rfl, hm, hm2, hi, hC⟩ := hrel
    have Hm2 := Lib.hid hm2
    clear hm2
    by_cases hlt : j < ts.length
    · have hml := blendL_len (markTs_len k ts) hj
      obtain ⟨b, cc, n, g, cs, hv, hPb, hrow, c0, c1, hs, hPg, f0⟩ := hi.at (j := j) (by omega)
      simp only [Value.slice.injEq] at hv
      obtain ⟨rfl, hlen, rfl⟩ := hv
      rw [blendL_at (markTs_len k ts) hlt] at c0 hs
      have Hnl := Lib.hid (wt_part hlt)
      have Hst := Lib.hid (wt_step hlt)
      have hmn : m + 1 + ts[j].need.length ≤ 4194304 := by have := Hnl.out; have := Hl.out; have := Hm2.out; omega
      obtain ⟨⟨cn, rfl⟩, hso⟩ := hs
      have hs : NeedS wr 0 g (.slice (some ⟨g, 0, none⟩) ts[j].need.length cn) ts[j].need := ⟨⟨cn, rfl⟩, hso⟩
      have kt1 := KT.put (p := ⟨b, j * 2, none⟩) hrow (.int .i64 (k + (m : Int)))
      have s1 := Lib.hid (show IntsU (wr.setCell ⟨b, j * 2, none⟩ (.int .i64 (k + (m : Int)))) g (g + 1) (.slice (some ⟨g, 0, none⟩) ts[j].need.length cn) ts[j].need from ⟨((hs.lift (Nat.le_refl g)).kt kt1 (by decide)).2, fun g' e => by simp only [Value.ownBlock, Option.some.injEq] at e; omega⟩)
      have c1' : (wr.setCell ⟨b, j * 2, none⟩ (.int .i64 (k + (m : Int)))).cell? ⟨b, j * 2 + 1, none⟩ = some (.slice (some ⟨g, 0, none⟩) ts[j].need.length cn) := by
        have := heap_put (k := j * 2) hrow (.int .i64 (k + (m : Int)))
        have e1 := cell_of_heap this (j * 2 + 1)
        rw [e1]
        have e2 := cell_of_heap hrow (j * 2 + 1)
        rw [e2] at c1
        rw [Array.getElem?_setIfInBounds_ne (by omega)]
        exact c1
      have hC1 := Lib.hid (hC.trans (ChgP.of_grown (grownBy_put wr b (j * 2) (.int .i64 (k + (m : Int)))) hPb))
      have Hi := Lib.hid hi
      have Hs := Lib.hid hs
      have C1 := Lib.hid c1
      have HPg := Lib.hid hPg
      have lenm := Lib.hid hml
      have j0 : (0 : Int) ≤ (j : Int) := by omega
      have j1 : (j : Int) < (ts.length : Int) := by omega
      clear hi hs hso c1 hrow kt1 hC hml hlen hPb hPg
      go_wp2_with fail
      generalize hW : wr.setCell ⟨b, j * 2, none⟩ (.int .i64 (k + (m : Int))) = W1 at *
      have HW := Lib.hid hW
      clear hW
      refine (markIntS_any _ _ _ g (g + 1) _ s1.out (by omega) (by omega) (by omega)).mono ?_
      rintro e w2 ⟨rfl, hI2, hC2, hg2⟩
      have Hn := Lib.hid (show TasksP w2 P (.slice (some ⟨b, 0, none⟩) ts.length c) (blendL (markTs k ts) ts (j + 1)) ∧ m + 1 + ts[j].need.length = wt (ts.take (j + 1)) from by
        have e0 := Hm2.out
        refine ⟨?_, by rw [Hst.out, ← e0]⟩
        rw [← mark_mix hlt, ← e0]
        have hi' := Hi.out
        have hjm : j < (blendL (markTs k ts) ts j).length := by rw [lenm.out]; exact hlt
        rw [← lenm.out] at hi' ⊢
        have := hi'.put hjm C1.out (by rw [blendL_at (markTs_len k ts) hlt]; exact Hs.out) (k + (m : Int)) (by rw [HW.out]; exact hg2) (need := seqI (k + (m : Int) + 1) ts[j].need.length) (NeedS.base ⟨⟨cn, by rw [seqI_len]⟩, hI2.1⟩ (Nat.zero_le g))
        exact this)
      have hC3 := Lib.hid (hC1.out.trans (ChgP.of_grown hg2 HPg.out))
      clear hI2 hC2 hg2 hC1
      go_wp2_with fail
      go_roundw
      case rel => exact ⟨j + 1, m + 1 + ts[j].need.length, by omega, by go_num, by go_num, hmn, Hn.out.2, Hn.out.1, hC3.out⟩
      case measure => simp [intOf]; omega
    · have e : j = ts.length := by omega
      subst e
      have Hi := Lib.hid hi
      have HC := Lib.hid hC
      have e2 : m = wt ts := by have := Hm2.out; rwa [List.take_length] at this
      subst e2
      clear hi hC
      go_wp2
      go_ret
      exact ⟨rfl, by have := Hi.out; rwa [blendL_all (markTs_len k ts)] at this, HC.out⟩

theorem NestS.cap {w : World} {L n c : Nat} {a : Option Addr} {bs : List (List T)} (h : NestS w L (.slice a n c) bs) : bs.length ≤ c := by
  obtain ⟨xs, S, ⟨_, h1⟩, _⟩ := h
  rcases h1 with ⟨hv, hn⟩ | ⟨g, cap, cur, hv, _, _, r, _⟩
  · omega
  · cases hv; exact r
/-- The nodes, marked from k on. -/
def markBs (k : Int) (bs : List (List T)) : List (List T) := (List.range bs.length).map fun j => markTs (k + (weigh (bs.take j) : Int)) (bs.getD j [])
theorem markBs_len (k : Int) (bs : List (List T)) : (markBs k bs).length = bs.length := by simp [markBs]
theorem markBs_get {k : Int} {bs : List (List T)} {j : Nat} (h : j < (markBs k bs).length) (h' : j < bs.length) : (markBs k bs)[j] = markTs (k + (weigh (bs.take j) : Int)) bs[j] := by
  simp [markBs, List.getD_eq_getElem?_getD, List.getElem?_eq_getElem h']
theorem mark_needs (k : Int) (ts : List T) : needs (markTs k ts) = needs ts := by
  have e : (markTs k ts).map (fun t => t.need.length) = ts.map (fun t => t.need.length) := by
    refine List.ext_getElem (by simp [markTs_len]) fun j h1 h2 => ?_
    simp only [List.getElem_map]
    have h3 : j < ts.length := by simpa using h2
    rw [markTs_get (by simpa using h1) h3]
    dsimp only
    rw [seqI_len]
  unfold needs
  rw [e]
theorem markBs_weigh (k : Int) (bs : List (List T)) : weigh (markBs k bs) = weigh bs := by
  have e : (markBs k bs).map (fun b => b.length + needs b) = bs.map (fun b => b.length + needs b) := by
    refine List.ext_getElem (by simp [markBs_len]) fun j h1 h2 => ?_
    simp only [List.getElem_map]
    have h3 : j < bs.length := by simpa using h2
    rw [markBs_get (by simpa using h1) h3, markTs_len, mark_needs]
  unfold weigh
  rw [e]
theorem markBs_lim {k : Int} {bs : List (List T)} (h : bs.length + weigh bs ≤ lim) : (markBs k bs).length + weigh (markBs k bs) ≤ lim := by rw [markBs_len, markBs_weigh]; exact h

theorem weigh_small {bs : List (List T)} (hf : bs.flatten.length ≤ 14) (hn : ∀ t ∈ bs.flatten, t.need.length = 3) : weigh bs ≤ 100 := by
  have key : ∀ ts : List T, (∀ t ∈ ts, t.need.length = 3) → needs ts = 3 * ts.length := by
    intro ts
    induction ts with
    | nil => intro _; rfl
    | cons t r ih =>
      intro h
      have h1 := h t (by simp)
      have h2 := ih fun u hu => h u (by simp [hu])
      unfold needs at h2 ⊢
      simp only [List.map_cons, List.sum_cons, List.length_cons]
      omega
  have key2 : ∀ cs : List (List T), (∀ t ∈ cs.flatten, t.need.length = 3) → weigh cs = 4 * cs.flatten.length := by
    intro cs
    induction cs with
    | nil => intro _; rfl
    | cons b r ih =>
      intro h
      have h1 := key b fun t ht => h t (by simp [ht])
      have h2 := ih fun t ht => h t (by rw [List.flatten_cons]; exact List.mem_append.2 (.inr ht))
      unfold weigh at h2 ⊢
      simp only [List.map_cons, List.sum_cons, List.flatten_cons, List.length_append]
      omega
  rw [key2 bs hn]
  omega

end Go.Proofs.Ytjdhiabdcmindaa
