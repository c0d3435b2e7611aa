/- Units and clusters: the copies that a law makes of them, their comparison, their marks. No condition. -/
import Derived.Test.YtcijbpjiioodlaaUn
namespace Go.Proofs.Ytcijbpjiioodlaa
section
set_option maxRecDepth 100000
open Go.RowKit

theorem info_unit : (Try.prog.info? 38).map (fun i => (i.zero, i.size, i.bytes)) = some (some (.agg #[.bool false, .slice none 0 0]), 2, 32) := by kernel_rfl
theorem under_units : Try.prog.underlying 28 = some (.slice 38) := by kernel_rfl

/-- Units in memory of their own, each node's tasks in blocks of its own. -/
def UnitsU (w : World) (L U : Nat) (v : Value) (us : List Un) : Prop :=
  ∃ (xs : List Value) (S : Nat → Nat), w.ownsRow L 38 2 v us.length xs ∧ L ≤ S 0 ∧ (∀ g, v.ownBlock = some g → g < S 0) ∧ S us.length ≤ U ∧ (∀ i, i < us.length → S i ≤ S (i + 1)) ∧
    ∀ k (h : k < us.length), xs[k * 2]? = some (.bool us[k].op) ∧ ∃ n, xs[k * 2 + 1]? = some n ∧ TasksU w (S k) (S (k + 1)) n us[k].ts
theorem UnitsU.units {w : World} {L U : Nat} {v : Value} {us : List Un} (h : UnitsU w L U v us) (hl : weighU us ≤ lim) : Units w v us := by
  obtain ⟨xs, S, h1, hL, hg, hU, hm, h2⟩ := h
  refine Units.of_own h1 ⟨h1.1, fun k hk => ?_⟩ (by unfold weighU at hl; omega)
  obtain ⟨ha, n, hb, ht⟩ := h2 k hk
  have := weighU_le hk
  refine ⟨ha, n, hb, ht.tasks (by unfold weighU at hl; omega) fun t ht => ?_⟩
  obtain ⟨j, hj, rfl⟩ := List.getElem_of_mem ht
  have := needs_le hj
  unfold weighU at hl
  omega
theorem UnitsU.ext {L U : Nat} {w w' : World} {v : Value} {us : List Un} (h : UnitsU w L U v us) (k : Ext w w') : UnitsU w' L U v us := by
  obtain ⟨xs, S, h1, hL, hg, hU, hm, h2⟩ := h
  exact ⟨xs, S, ownsRow_ext h1 k, hL, hg, hU, hm, fun j hj => ⟨(h2 j hj).1, let ⟨n, a, b⟩ := (h2 j hj).2; ⟨n, a, b.ext k⟩⟩⟩
theorem UnitsU.chg {L U A B : Nat} {w w' : World} {v : Value} {us : List Un} (h : UnitsU w A B v us) (k : Chg L U w w') (hd : B ≤ L ∨ U ≤ A) : UnitsU w' A B v us := by
  obtain ⟨xs, S, h1, hL, hg, hU, hm, h2⟩ := h
  have m1 : ∀ i, i ≤ us.length → S 0 ≤ S i ∧ S i ≤ S us.length := fun i hi => ⟨by have := mono_S hm i 0 (by omega); simpa using this, by have := mono_S hm (us.length - i) i (by omega); rwa [show i + (us.length - i) = us.length by omega] at this⟩
  have m0 := m1 0 (by omega)
  refine ⟨xs, S, ownsRow_chg h1 k fun g e => ?_, hL, hg, hU, hm, fun j hj => ?_⟩
  · have := (h1.lt g e).1
    have := hg g e
    omega
  · obtain ⟨ha, n, a, b⟩ := h2 j hj
    have := m1 j (by omega)
    have := m1 (j + 1) (by omega)
    exact ⟨ha, n, a, b.chg k (by omega)⟩
theorem UnitsU.form {w : World} {L U : Nat} {v : Value} {us : List Un} (h : UnitsU w L U v us) : ∃ a c, v = .slice a us.length c := by
  obtain ⟨xs, S, ⟨_, h1⟩, _⟩ := h
  rcases h1 with ⟨rfl, hn⟩ | ⟨g, cap, cur, rfl, _⟩
  · exact ⟨none, 0, by rw [hn]⟩
  · exact ⟨_, cap, rfl⟩
theorem UnitsU.up {w : World} {A B B' : Nat} {v : Value} {us : List Un} (h : UnitsU w A B v us) (hb : B ≤ B') : UnitsU w A B' v us := by
  obtain ⟨xs, S, h1, hL, hg, hU, hm, h2⟩ := h
  exact ⟨xs, S, h1, hL, hg, Nat.le_trans hU hb, hm, h2⟩
/-- One unit, and what it is to change that unit alone. -/
theorem UnitsU.at {w : World} {L U : Nat} {v : Value} {us : List Un} (h : UnitsU w L U v us) {k : Nat} (hk : k < us.length) :
    ∃ b c n A B, v = .slice (some ⟨b, 0, none⟩) us.length c ∧ w.cell? ⟨b, k * 2, none⟩ = some (.bool us[k].op) ∧ w.cell? ⟨b, k * 2 + 1, none⟩ = some n ∧ w.frozen? ⟨b, k * 2, none⟩ = false ∧ TasksU w A B n us[k].ts ∧ L ≤ b ∧ b < A ∧ A ≤ B ∧ B ≤ U ∧
      ∀ w' ts q, Chg A B (w.setCell ⟨b, k * 2, none⟩ (.bool q)) w' → TasksU w' A B n ts → UnitsU w' L U v (us.set k ⟨q, ts⟩) := by
  obtain ⟨xs, S, h1, hL, hg, hU, hm, h2⟩ := h
  have m1 : ∀ i, i ≤ us.length → S 0 ≤ S i ∧ S i ≤ S us.length := fun i hi => ⟨by have := mono_S hm i 0 (by omega); simpa using this, by have := mono_S hm (us.length - i) i (by omega); rwa [show i + (us.length - i) = us.length by omega] at this⟩
  have hx := h1.1
  obtain ⟨a, m, c, rfl⟩ : ∃ a m c, v = .slice a m c := by
    rcases h1.2 with ⟨rfl, hn⟩ | ⟨g, cap, cur, rfl, _⟩
    · exact ⟨_, _, _, rfl⟩
    · exact ⟨_, _, _, rfl⟩
  obtain ⟨b, rfl, rfl, hA, hlt, hc, ho⟩ := ownsRow_at h1 (by omega)
  obtain ⟨hop, n, hn, ht⟩ := h2 k hk
  have q1 := m1 k (by omega)
  have q2 := m1 (k + 1) (by omega)
  have hb := hg b rfl
  have hput := fun q => ownsRow_put ho (k := k * 2) (by omega) (.bool q)
  refine ⟨b, c, n, S k, S (k + 1), rfl, by rw [hc _ (by omega), hop], by rw [hc _ (by omega), hn], (hput true).2.2.2, ht, hA, by omega, hm k hk, by omega, fun w' ts q hC hT => ?_⟩
  obtain ⟨p1, p2, p3, f1⟩ := hput q
  have low : Chg b (b + 1) w (w.setCell ⟨b, k * 2, none⟩ (.bool q)) := Chg.only (grownBy_put w b (k * 2) _)
  refine ⟨xs.set (k * 2) (.bool q), S, ?_, hL, hg, by simpa using hU, by simpa using hm, fun j hj => ?_⟩
  · have := ownsRow_chg p1 hC fun g e => by have := hg g e; omega
    simpa using this
  · simp only [List.length_set] at hj
    by_cases e : k = j
    · subst e
      exact ⟨by rw [List.getElem_set_self, List.getElem?_set_self (by omega)], n, by rw [List.getElem?_set_ne (by omega), hn], by rw [List.getElem_set_self]; exact hT⟩
    · obtain ⟨ha, m, a, t⟩ := h2 j hj
      rw [List.getElem_set_ne e]
      have qj := m1 j (by omega)
      refine ⟨by rw [List.getElem?_set_ne (by omega), ha], m, by rw [List.getElem?_set_ne (by omega), a], (t.chg low (by omega)).chg hC ?_⟩
      rcases Nat.lt_or_gt_of_ne e with h | h
      · have := mono_S hm (j - (k + 1)) (k + 1) (by omega)
        rw [show k + 1 + (j - (k + 1)) = j by omega] at this
        omega
      · have := mono_S hm (k - (j + 1)) (j + 1) (by omega)
        rw [show j + 1 + (k - (j + 1)) = k by omega] at this
        omega

set_option maxHeartbeats 600000 in
theorem toUnit_any (op : Bool) (n : Value) (ts : List T) (w : World) (h : ArgTasks w n ts) (hl : ts.length + needs ts ≤ 2097152) :
    Calls Try.prog 125 #[.agg #[.bool op, n]] w fun e w' => ∃ g, e = .returned (.agg #[.bool op, .slice (some ⟨g, 0, none⟩) ts.length ts.length]) ∧ Ext w w' ∧ TasksS w' w.heap.size (.slice (some ⟨g, 0, none⟩) ts.length ts.length) ts := by
  have h2 := h
  obtain ⟨_, a, cap, rfl, hh⟩ := h2
  clear hh
  go_enter Try.func125, Try.ntmps125
  go_wp2_with fail
  have hEx : Ext w _ := (((Ext.refl w).alloc (Obj.cells #[.bool op, .slice a ts.length cap] 129)).alloc (Obj.cells #[.bool false, .slice none 0 0] 38)).alloc (Obj.cells #[.bool op, .slice none 0 0] 38)
  have hb1 : (((w.alloc (Obj.cells #[.bool op, .slice a ts.length cap] 129)).alloc (Obj.cells #[.bool false, .slice none 0 0] 38)).alloc (Obj.cells #[.bool op, .slice none 0 0] 38)).heap[w.heap.size + 1]? = some (Obj.cells #[.bool false, .slice none 0 0] 38) := by
    rw [Below.heap_alloc _ _ _ (by simp)]
    simpa using heap_alloc_new (w.alloc (Obj.cells #[.bool op, .slice a ts.length cap] 129)) (Obj.cells #[.bool false, .slice none 0 0] 38)
  have hb2 : (((w.alloc (Obj.cells #[.bool op, .slice a ts.length cap] 129)).alloc (Obj.cells #[.bool false, .slice none 0 0] 38)).alloc (Obj.cells #[.bool op, .slice none 0 0] 38)).heap[w.heap.size + 1 + 1]? = some (Obj.cells #[.bool op, .slice none 0 0] 38) := by
    simpa using heap_alloc_new ((w.alloc (Obj.cells #[.bool op, .slice a ts.length cap] 129)).alloc (Obj.cells #[.bool false, .slice none 0 0] 38)) (Obj.cells #[.bool op, .slice none 0 0] 38)
  have hsz : (((w.alloc (Obj.cells #[.bool op, .slice a ts.length cap] 129)).alloc (Obj.cells #[.bool false, .slice none 0 0] 38)).alloc (Obj.cells #[.bool op, .slice none 0 0] 38)).heap.size = w.heap.size + 3 := by simp
  generalize ((w.alloc (Obj.cells #[.bool op, .slice a ts.length cap] 129)).alloc (Obj.cells #[.bool false, .slice none 0 0] 38)).alloc (Obj.cells #[.bool op, .slice none 0 0] 38) = W3 at *
  refine (toTaskS_any _ _ _ (h.ext hEx) hl).mono ?_
  rintro e w1 ⟨g, rfl, hE, ho⟩
  have k1 := (hE.block (lt_of_heap hb1)).trans hb1
  have k2 := (hE.block (lt_of_heap hb2)).trans hb2
  have Hn : Hid (TasksS w1 w.heap.size (.slice (some ⟨g, 0, none⟩) ts.length ts.length) ts) := ho.base (by omega)
  have hE1 := hEx.trans hE
  have c1 : w1.cell? ⟨w.heap.size + 1, 0, none⟩ = some (.bool false) := by simp [World.cell?, k1]
  have c2 : w1.cell? ⟨w.heap.size + 1, 1, none⟩ = some (.slice none 0 0) := by simp [World.cell?, k1]
  have c3 : w1.cell? ⟨w.heap.size + 1 + 1, 0, none⟩ = some (.bool op) := by simp [World.cell?, k2]
  have c4 : w1.cell? ⟨w.heap.size + 1 + 1, 1, none⟩ = some (.slice none 0 0) := by simp [World.cell?, k2]
  have f1 : w1.frozen? ⟨w.heap.size + 1, 0, none⟩ = false := by simp [World.frozen?, k1]
  have f2 : w1.frozen? ⟨w.heap.size + 1, 1, none⟩ = false := by simp [World.frozen?, k1]
  have f4 : w1.frozen? ⟨w.heap.size + 1 + 1, 1, none⟩ = false := by simp [World.frozen?, k2]
  have K1 := Lib.hid k1
  have K2 := Lib.hid k2
  clear hE hEx ho hb1 hb2 hsz k1 k2
  go_wp2_with fail
  have kt1 := KT.setCell (p := ⟨w.heap.size + 1 + 1, 1, none⟩) K2.out (.slice (some ⟨g, 0, none⟩) ts.length ts.length)
  have j1 := (Below.heap_setCell w1 ⟨w.heap.size + 1 + 1, 1, none⟩ (.slice (some ⟨g, 0, none⟩) ts.length ts.length) (w.heap.size + 1) (by simp)).trans K1.out
  have kt2 := KT.setCell (p := ⟨w.heap.size + 1, 0, none⟩) j1 (.bool op)
  have j2 := heap_setCell_same _ (w.heap.size + 1) 0 _ _ (.bool op) j1
  have kt3 := KT.setCell (p := ⟨w.heap.size + 1, 1, none⟩) j2 (.slice (some ⟨g, 0, none⟩) ts.length ts.length)
  have j3 := heap_setCell_same _ (w.heap.size + 1) 1 _ _ (.slice (some ⟨g, 0, none⟩) ts.length ts.length) j2
  refine bodyPost_ret (v := .agg #[.bool op, .slice (some ⟨g, 0, none⟩) ts.length ts.length]) ?_ rfl ⟨g, rfl, ?_, Hn.out.kt (kt1.trans (kt2.trans kt3)) (by decide) (by decide)⟩
  · simp [results, Try.results125, go_sem, c1, c2]
  · exact ((hE1.setCell (by simp; omega) _).setCell (by simp) _).setCell (by simp) _

set_option maxHeartbeats 1000000 in
theorem toUnitS_any (v : Value) (us : List Un) (w : World) (h : ArgUnits w v us) (hl : weighU us ≤ 2097152) :
    Calls Try.prog 77 #[v] w fun e w' => ∃ g, e = .returned (.slice (some ⟨g, 0, none⟩) us.length us.length) ∧ Ext w w' ∧ UnitsU w' w.heap.size w'.heap.size (.slice (some ⟨g, 0, none⟩) us.length us.length) us := by
  obtain ⟨_, a, cap, rfl, hc⟩ := h
  have Hc := Lib.hid hc
  clear hc
  obtain ⟨i0, hi, hz, hs, hby⟩ := info_parts info_unit
  have hul : us.length ≤ 2097152 := by unfold weighU at hl; omega
  have HN : Hid (∀ k (hk : k < us.length), us[k].ts.length + needs us[k].ts ≤ 2097152) := fun k hk => by have := weighU_le hk; unfold weighU at hl; omega
  clear hl
  go_enter Try.func77, Try.ntmps77
  go_wp2_with (at_make; refine wpList_make_full _ rfl _ _ 28 rfl w.heap.size 38 i0 (.agg #[.bool false, .slice none 0 0]) 2 under_units hi hz hs .i64 .i64 _ _ us.length rfl rfl rfl rfl (by rw [hby]; omega) (by unfold maxLen; omega) (Nat.le_refl _) ?_; intro w1 hown hg)
  have hE : Ext w w1 := Below.grown (Below.refl _ _) hg (Nat.le_refl _) (by simp)
  have hg1 : w.heap.size < w1.heap.size := (hown.lt _ rfl).2
  have Ho := Lib.hid hown
  clear hown hg hi hz hs hby
  go_loopw [4] (fun i wr => ∃ (k : Nat) (xs : List Value) (S : Nat → Nat), k ≤ us.length ∧ i = .int .i64 k ∧ Ext w wr ∧ wr.ownsRow w.heap.size 38 2 (.slice (some ⟨w.heap.size, 0, none⟩) us.length us.length) us.length xs ∧ w.heap.size < S 0 ∧ S k ≤ wr.heap.size ∧ (∀ i, i < k → S i ≤ S (i + 1)) ∧ ∀ j (h : j < us.length), j < k → xs[j * 2]? = some (.bool us[j].op) ∧ ∃ n, xs[j * 2 + 1]? = some n ∧ TasksU wr (S j) (S (j + 1)) n us[j].ts) (fun i _ => us.length - (intOf i).toNat)
  case atStart => exact ⟨0, _, fun _ => w1.heap.size, by omega, rfl, hE, Ho.out, hg1, Nat.le_refl _, fun _ h => by omega, fun _ _ h => by omega⟩
  case round =>
    clear Ho hE hg1
    obtain ⟨k, xs, S, hk, rfl, hE, hown, hS0, hSk, hSm, hcs⟩ := hrel
    by_cases hlt : k < us.length
    · obtain ⟨b, off, rfl, hc⟩ := Hc.out (by omega)
      obtain ⟨c0, n, c1, hn⟩ := hc k hlt
      have c0' := hE.cell c0
      have c1' := hE.cell c1
      have Hn := Lib.hid (hn.ext hE)
      obtain ⟨an, cn, rfl, -⟩ := hn.2
      have hx := hown.1
      have hnl := HN.out k hlt
      have Hcs := Lib.hid hcs
      have Ho := Lib.hid hown
      have HS := Lib.hid (show w.heap.size < S 0 ∧ S k ≤ wr.heap.size ∧ ∀ i, i < k → S i ≤ S (i + 1) from ⟨hS0, hSk, hSm⟩)
      clear c0 c1 hc hn hcs hown hS0 hSk hSm
      go_wp2_with fail
      refine (toUnit_any _ _ _ _ Hn.out hnl).mono ?_
      rintro e w1 ⟨g, rfl, hE2, hns⟩
      have ho1 := ownsRow_ext Ho.out hE2
      obtain ⟨p1, p2, p3, f0⟩ := ownsRow_put ho1 (k := k * 2) (by omega) (.bool us[k].op)
      obtain ⟨q1, q2, q3, f1'⟩ := ownsRow_put p1 (k := k * 2 + 1) (by simp; omega) (.slice (some ⟨g, 0, none⟩) us[k].ts.length us[k].ts.length)
      have f1 := ho1.frozenAt (k * 2 + 1)
      have d0 := ho1.cellAt (k * 2) (by omega)
      have d1 := ho1.cellAt (k * 2 + 1) (by omega)
      rw [List.getElem?_eq_getElem (by omega)] at d0 d1
      have hE3 := ((hE.trans hE2).below p3).below q3
      have le2 := Lib.hid hE2.le
      have St := Lib.hid q1
      have hput : ∀ (v : Value) (A B : Nat) (ts : List T), TasksU w1 A B v ts → w.heap.size < A → TasksU ((w1.setCell ⟨w.heap.size, k * 2, none⟩ (.bool us[k].op)).setCell ⟨w.heap.size, k * 2 + 1, none⟩ (.slice (some ⟨g, 0, none⟩) us[k].ts.length us[k].ts.length)) A B v ts := fun v A B ts h hA =>
        h.chg (Chg.only (grownBy_trans (grownBy_put w1 w.heap.size (k * 2) _) (grownBy_put _ w.heap.size (k * 2 + 1) _))) (by omega)
      have Hc2 : Hid (∀ j (h : j < us.length), j < k + 1 → ((xs.set (k * 2) (.bool us[k].op)).set (k * 2 + 1) (.slice (some ⟨g, 0, none⟩) us[k].ts.length us[k].ts.length))[j * 2]? = some (.bool us[j].op) ∧ ∃ n, ((xs.set (k * 2) (.bool us[k].op)).set (k * 2 + 1) (.slice (some ⟨g, 0, none⟩) us[k].ts.length us[k].ts.length))[j * 2 + 1]? = some n ∧ TasksU ((w1.setCell ⟨w.heap.size, k * 2, none⟩ (.bool us[k].op)).setCell ⟨w.heap.size, k * 2 + 1, none⟩ (.slice (some ⟨g, 0, none⟩) us[k].ts.length us[k].ts.length)) ((fun x => if x ≤ k then S x else w1.heap.size) j) ((fun x => if x ≤ k then S x else w1.heap.size) (j + 1)) n us[j].ts) := by
        intro j hj hjk
        have mS := mono_S HS.out.2.2
        by_cases e : k = j
        · subst e
          refine ⟨by rw [List.getElem?_set_ne (by omega), List.getElem?_set_self (by omega)], _, by rw [List.getElem?_set_self (by simp; omega)], ?_⟩
          dsimp only
          rw [if_pos (Nat.le_refl _), if_neg (by omega)]
          have q := mS k 0 (by omega)
          simp only [Nat.zero_add] at q
          exact hput _ _ _ _ (hns.upto.base HS.out.2.1) (by have := HS.out.1; omega)
        · obtain ⟨ha, n, hn, ht⟩ := Hcs.out j hj (by omega)
          refine ⟨by rw [List.getElem?_set_ne (by omega), List.getElem?_set_ne (by omega), ha], n, by rw [List.getElem?_set_ne (by omega), List.getElem?_set_ne (by omega), hn], ?_⟩
          dsimp only
          rw [if_pos (by omega), if_pos (by omega)]
          have q := mS j 0 (by omega)
          simp only [Nat.zero_add] at q
          exact hput _ _ _ _ (ht.ext hE2) (by have := HS.out.1; omega)
      have HS2 : Hid (w.heap.size < (fun x => if x ≤ k then S x else w1.heap.size) 0 ∧ (fun x => if x ≤ k then S x else w1.heap.size) (k + 1) ≤ ((w1.setCell ⟨w.heap.size, k * 2, none⟩ (.bool us[k].op)).setCell ⟨w.heap.size, k * 2 + 1, none⟩ (.slice (some ⟨g, 0, none⟩) us[k].ts.length us[k].ts.length)).heap.size ∧ ∀ i, i < k + 1 → (fun x => if x ≤ k then S x else w1.heap.size) i ≤ (fun x => if x ≤ k then S x else w1.heap.size) (i + 1)) := by
        dsimp only
        refine ⟨by rw [if_pos (by omega)]; exact HS.out.1, by rw [if_neg (by omega)]; simp, fun i hi => ?_⟩
        rw [if_pos (by omega)]
        split
        · exact HS.out.2.2 i (by omega)
        · have : i = k := by omega
          subst this
          have := HS.out.2.1
          have := le2.out
          omega
      clear p1 p2 p3 q1 q2 q3 ho1 hns hE hE2 hput f1'
      go_wp2_with fail
      go_roundw
      case rel => exact ⟨k + 1, _, fun x => if x ≤ k then S x else w1.heap.size, by omega, by go_num, hE3, St.out, HS2.out.1, HS2.out.2.1, HS2.out.2.2, Hc2.out⟩
      case measure => simp [intOf]; omega
    · have e : k = us.length := by omega
      subst e
      have Ho1 := Lib.hid (show UnitsU wr w.heap.size wr.heap.size (.slice (some ⟨w.heap.size, 0, none⟩) us.length us.length) us from ⟨xs, S, hown, by omega, fun g hg => by simp [Value.ownBlock] at hg; omega, hSk, hSm, fun j hj => hcs j hj hj⟩)
      clear hown hcs hS0 hSk hSm
      go_wp2
      go_ret
      exact ⟨_, rfl, hE, Ho1.out⟩

/-- A cluster in memory of its own. -/
def CluU (w : World) (L U : Nat) (v : Value) (c : C) : Prop := ∃ r u M, v = .agg #[r, u] ∧ IntsU w L M r c.room ∧ UnitsU w M U u c.us ∧ L ≤ M ∧ M ≤ U
theorem CluU.ext {L U : Nat} {w w' : World} {v : Value} {c : C} (h : CluU w L U v c) (k : Ext w w') : CluU w' L U v c := let ⟨r, u, M, hv, h1, h2, h3, h4⟩ := h; ⟨r, u, M, hv, h1.ext k, h2.ext k, h3, h4⟩
theorem CluU.up {w : World} {A B B' : Nat} {v : Value} {c : C} (h : CluU w A B v c) (hb : B ≤ B') : CluU w A B' v c := let ⟨r, u, M, hv, h1, h2, h3, h4⟩ := h; ⟨r, u, M, hv, h1, h2.up hb, h3, Nat.le_trans h4 hb⟩
theorem CluU.base {w : World} {A A' B : Nat} {v : Value} {c : C} (h : CluU w A B v c) (hb : A' ≤ A) : CluU w A' B v c := let ⟨r, u, M, hv, h1, h2, h3, h4⟩ := h; ⟨r, u, M, hv, h1.base hb, h2, Nat.le_trans hb h3, h4⟩
theorem CluU.chg {L U A B : Nat} {w w' : World} {v : Value} {c : C} (h : CluU w A B v c) (k : Chg L U w w') (hd : B ≤ L ∨ U ≤ A) : CluU w' A B v c := by
  obtain ⟨r, u, M, hv, h1, h2, h3, h4⟩ := h
  exact ⟨r, u, M, hv, h1.chg k (by omega), h2.chg k (by omega), h3, h4⟩
theorem CluU.cluster {L U : Nat} {w : World} {v : Value} {c : C} (h : CluU w L U v c) (hl : weighC c ≤ 2097152) : Clu w v c := by
  obtain ⟨r, u, M, hv, h1, h2, h3, h4⟩ := h
  unfold weighC at hl
  exact ⟨r, u, hv, h1.ints (by unfold lim; omega), h2.units (by unfold lim; omega)⟩

set_option maxHeartbeats 600000 in
theorem toCluster_any (v : Value) (c : C) (w : World) (h : ArgCluster w v c) (hl : weighC c ≤ 2097152) :
    Calls Try.prog 22 #[v] w fun e w' => ∃ g k, e = .returned (.agg #[.slice (some ⟨g, 0, none⟩) c.room.length c.room.length, .slice (some ⟨k, 0, none⟩) c.us.length c.us.length]) ∧ Ext w w' ∧ CluU w' w.heap.size w'.heap.size (.agg #[.slice (some ⟨g, 0, none⟩) c.room.length c.room.length, .slice (some ⟨k, 0, none⟩) c.us.length c.us.length]) c := by
  obtain ⟨r, u, rfl, hr, hu⟩ := h
  have Hr := Lib.hid hr
  have Hu := Lib.hid hu
  obtain ⟨_, ra, rc, rfl, -⟩ := hr
  obtain ⟨_, ua, uc, rfl, -⟩ := hu
  go_enter Try.func22, Try.ntmps22
  go_wp2_with fail
  have hw1 : weighU c.us ≤ 2097152 := by unfold weighC at hl; omega
  have hw2 : c.room.length ≤ 2097152 := by unfold weighC at hl; omega
  have hEx : Ext w _ := (((Ext.refl w).alloc (Obj.cells #[.slice ra c.room.length rc, .slice ua c.us.length uc] 25)).alloc (Obj.cells #[.slice none 0 0, .slice none 0 0] 30)).alloc (Obj.cells #[.slice none 0 0, .slice none 0 0] 30)
  have hb0 : (((w.alloc (Obj.cells #[.slice ra c.room.length rc, .slice ua c.us.length uc] 25)).alloc (Obj.cells #[.slice none 0 0, .slice none 0 0] 30)).alloc (Obj.cells #[.slice none 0 0, .slice none 0 0] 30)).heap[w.heap.size]? = some (Obj.cells #[.slice ra c.room.length rc, .slice ua c.us.length uc] 25) := heap_skip _ _ (heap_skip _ _ (heap_alloc_new w _))
  have hb1 : (((w.alloc (Obj.cells #[.slice ra c.room.length rc, .slice ua c.us.length uc] 25)).alloc (Obj.cells #[.slice none 0 0, .slice none 0 0] 30)).alloc (Obj.cells #[.slice none 0 0, .slice none 0 0] 30)).heap[w.heap.size + 1]? = some (Obj.cells #[.slice none 0 0, .slice none 0 0] 30) := heap_skip _ _ (heap_push _ _ (by simp))
  have hb2 : (((w.alloc (Obj.cells #[.slice ra c.room.length rc, .slice ua c.us.length uc] 25)).alloc (Obj.cells #[.slice none 0 0, .slice none 0 0] 30)).alloc (Obj.cells #[.slice none 0 0, .slice none 0 0] 30)).heap[w.heap.size + 1 + 1]? = some (Obj.cells #[.slice none 0 0, .slice none 0 0] 30) := heap_push _ _ (by simp)
  have hsz : (((w.alloc (Obj.cells #[.slice ra c.room.length rc, .slice ua c.us.length uc] 25)).alloc (Obj.cells #[.slice none 0 0, .slice none 0 0] 30)).alloc (Obj.cells #[.slice none 0 0, .slice none 0 0] 30)).heap.size = w.heap.size + 3 := by simp
  generalize ((w.alloc (Obj.cells #[.slice ra c.room.length rc, .slice ua c.us.length uc] 25)).alloc (Obj.cells #[.slice none 0 0, .slice none 0 0] 30)).alloc (Obj.cells #[.slice none 0 0, .slice none 0 0] 30) = W3 at *
  refine (toIntS_any _ _ _ (Hr.out.ext hEx) hw2).mono ?_
  rintro e w1 ⟨g, rfl, hE, ho, hg⟩
  have k0 := (hE.block (lt_of_heap hb0)).trans hb0
  have k1 := (hE.block (lt_of_heap hb1)).trans hb1
  have k2 := (hE.block (lt_of_heap hb2)).trans hb2
  have hE1 := hEx.trans hE
  have HI := Lib.hid (IntsU.upto ho)
  have m0 := cell_of_heap k0 1
  have m1 := cell_far (b' := w.heap.size + 1 + 1) (o' := 0) (u := (.slice (some ⟨g, 0, none⟩) c.room.length c.room.length)) m0 (by omega)
  have m2 := cell_of_heap k2 0
  have m3 := frozen_of_heap k2 0
  have j0 := heap_setCell_same _ (w.heap.size + 1 + 1) 0 _ _ (.slice (some ⟨g, 0, none⟩) c.room.length c.room.length) k2
  have j1 := (Below.heap_setCell w1 ⟨w.heap.size + 1 + 1, 0, none⟩ (.slice (some ⟨g, 0, none⟩) c.room.length c.room.length) (w.heap.size + 1) (by simp)).trans k1
  have hE2 := hE1.setCell (p := ⟨w.heap.size + 1 + 1, 0, none⟩) (by simp; omega) (.slice (some ⟨g, 0, none⟩) c.room.length c.room.length)
  have sz1 : (w1.setCell ⟨w.heap.size + 1 + 1, 0, none⟩ (.slice (some ⟨g, 0, none⟩) c.room.length c.room.length)).heap.size = w1.heap.size := by simp
  have le1 : w.heap.size + 3 ≤ w1.heap.size := by have := hE.le; omega
  have C1 := Lib.hid (Chg.only (grownBy_put w1 (w.heap.size + 1 + 1) 0 (.slice (some ⟨g, 0, none⟩) c.room.length c.room.length)))
  clear hE hEx ho hb0 hb1 hb2 k0 k1 k2 hE1 m0
  go_wp2_with fail
  generalize w1.setCell ⟨w.heap.size + 1 + 1, 0, none⟩ (.slice (some ⟨g, 0, none⟩) c.room.length c.room.length) = W1 at *
  refine (toUnitS_any _ _ _ (Hu.out.ext hE2) hw1).mono ?_
  rintro e w2 ⟨k, rfl, hE, hus⟩
  have k1 := (hE.block (lt_of_heap j1)).trans j1
  have k2 := (hE.block (lt_of_heap j0)).trans j0
  have hE3 := hE2.trans hE
  have c1 := cell_of_heap k1 0
  have c2 := cell_of_heap k1 1
  have c3 := cell_of_heap k2 0
  have c4 := cell_of_heap k2 1
  have f1 := frozen_of_heap k1 0
  have f2 := frozen_of_heap k1 1
  have f4 := frozen_of_heap k2 1
  have HI2 := Lib.hid ((HI.out.chg C1.out (.inr (by omega))).ext hE)
  have HUs := Lib.hid hus
  have le2 := hE.le
  have K1 := Lib.hid k1
  have K2 := Lib.hid k2
  clear hE hE2 j0 j1 m1 m2 m3 hus k1 k2 HI C1
  go_wp2_with fail
  have C2 := ((Chg.only (grownBy_put w2 (w.heap.size + 1 + 1) 1 (.slice (some ⟨k, 0, none⟩) c.us.length c.us.length))).mono (L' := w.heap.size + 1) (U' := w.heap.size + 3) (by omega) (by omega)).trans (((Chg.only (grownBy_put (w2.setCell ⟨w.heap.size + 1 + 1, 1, none⟩ (.slice (some ⟨k, 0, none⟩) c.us.length c.us.length)) (w.heap.size + 1) 0 (.slice (some ⟨g, 0, none⟩) c.room.length c.room.length))).mono (L' := w.heap.size + 1) (U' := w.heap.size + 3) (by omega) (by omega)).trans ((Chg.only (grownBy_put ((w2.setCell ⟨w.heap.size + 1 + 1, 1, none⟩ (.slice (some ⟨k, 0, none⟩) c.us.length c.us.length)).setCell ⟨w.heap.size + 1, 0, none⟩ (.slice (some ⟨g, 0, none⟩) c.room.length c.room.length)) (w.heap.size + 1) 1 (.slice (some ⟨k, 0, none⟩) c.us.length c.us.length))).mono (L' := w.heap.size + 1) (U' := w.heap.size + 3) (by omega) (by omega)))
  refine bodyPost_ret (v := .agg #[(.slice (some ⟨g, 0, none⟩) c.room.length c.room.length), (.slice (some ⟨k, 0, none⟩) c.us.length c.us.length)]) ?_ rfl ⟨g, k, rfl, ?_, ?_⟩
  · simp [results, Try.results22, go_sem, c1, c2]
  · exact C2.ext hE3 (by omega)
  · refine ⟨_, _, w1.heap.size, rfl, ((HI2.out.chg C2 (.inr (by omega))).base (by omega)), ?_, by omega, ?_⟩
    · have h1 := HUs.out.chg C2 (.inr (by omega))
      rw [sz1] at h1
      exact h1.up (by simp)
    · simp; omega

def sameU (x y : Un) : Bool := (x.op == y.op) && sameTs x.ts y.ts
theorem sameU_iff {x y : Un} : sameU x y = true ↔ x = y := by
  cases x; cases y
  simp only [sameU, Bool.and_eq_true, sameTs_iff, Un.mk.injEq, beq_iff_eq]
def sameUs (xs ys : List Un) : Bool := xs.length == ys.length && (List.zip xs ys).all fun p => sameU p.1 p.2
theorem sameUs_iff {xs ys : List Un} : sameUs xs ys = true ↔ xs = ys := by
  induction xs generalizing ys with
  | nil => cases ys <;> simp [sameUs]
  | cons x xs ih =>
    cases ys with
    | nil => simp [sameUs]
    | cons y ys =>
      have e : sameUs (x :: xs) (y :: ys) = (sameU x y && sameUs xs ys) := by
        simp only [sameUs, List.length_cons, List.zip_cons_cons, List.all_cons]
        cases h1 : sameU x y <;> simp
      rw [e, Bool.and_eq_true, sameU_iff, ih]
      simp
theorem sameUs_at {xs ys : List Un} {j : Nat} (h1 : j < xs.length) (h2 : j < ys.length) (h : sameU xs[j] ys[j] = false) : sameUs xs ys = false := by
  rw [Bool.eq_false_iff]
  intro e
  rw [sameUs_iff] at e
  subst e
  rw [Bool.eq_false_iff] at h
  exact h (sameU_iff.2 rfl)
theorem sameUs_all {xs ys : List Un} (hl : xs.length = ys.length) (h : ∀ j (h1 : j < xs.length) (h2 : j < ys.length), sameU xs[j] ys[j] = true) : sameUs xs ys = true :=
  sameUs_iff.2 (List.ext_getElem hl fun j h1 h2 => sameU_iff.1 (h j h1 h2))

set_option maxHeartbeats 400000 in
theorem eqUnit_any (x y : Un) (n1 n2 : Value) (w : World) (h1 : Tasks w n1 x.ts) (h2 : Tasks w n2 y.ts) :
    Calls Try.prog 128 #[.agg #[.bool x.op, n1], .agg #[.bool y.op, n2]] w fun e w' => e = .returned (.bool (sameU x y)) ∧ Ext w w' := by
  obtain ⟨a1, c1, rfl, h1⟩ := h1.open
  obtain ⟨a2, c2, rfl, h2⟩ := h2.open
  obtain ⟨xo, xt⟩ := x
  obtain ⟨yo, yt⟩ := y
  dsimp only at *
  cases xo <;> cases yo
  case false.false =>
    have hEx : Ext w _ := ((Ext.refl w).alloc (Obj.cells #[.bool false, .slice a1 xt.length c1] 38)).alloc (Obj.cells #[.bool false, .slice a2 yt.length c2] 38)
    have Hd : Hid (sameU ⟨false, xt⟩ ⟨false, yt⟩ = sameTs xt yt) := by show sameU _ _ = _; simp [sameU]
    go_enter Try.func128, Try.ntmps128
    cases hq : sameTs xt yt with
    | true =>
      rw [hq] at Hd
      have HQ := Lib.hid hq
      clear hq
      go_wp2_with fail
      have cc := eqTaskS_any _ _ _ _ _ (h1.ext hEx) (h2.ext hEx)
      rw [HQ.out] at cc
      refine cc.mono ?_
      clear cc
      rintro e w1 ⟨rfl, hE⟩
      have hE2 := hEx.trans hE
      clear hEx
      go_wp2_with fail
      go_ret
      exact ⟨ret_bool Hd.out.symm, hE2⟩
    | false =>
      rw [hq] at Hd
      have HQ := Lib.hid hq
      clear hq
      go_wp2_with fail
      have cc := eqTaskS_any _ _ _ _ _ (h1.ext hEx) (h2.ext hEx)
      rw [HQ.out] at cc
      refine cc.mono ?_
      clear cc
      rintro e w1 ⟨rfl, hE⟩
      have hE2 := hEx.trans hE
      clear hEx
      go_wp2_with fail
      go_ret
      exact ⟨ret_bool Hd.out.symm, hE2⟩
  case true.true =>
    have hEx : Ext w _ := ((Ext.refl w).alloc (Obj.cells #[.bool true, .slice a1 xt.length c1] 38)).alloc (Obj.cells #[.bool true, .slice a2 yt.length c2] 38)
    have Hd : Hid (sameU ⟨true, xt⟩ ⟨true, yt⟩ = sameTs xt yt) := by show sameU _ _ = _; simp [sameU]
    go_enter Try.func128, Try.ntmps128
    cases hq : sameTs xt yt with
    | true =>
      rw [hq] at Hd
      have HQ := Lib.hid hq
      clear hq
      go_wp2_with fail
      have cc := eqTaskS_any _ _ _ _ _ (h1.ext hEx) (h2.ext hEx)
      rw [HQ.out] at cc
      refine cc.mono ?_
      clear cc
      rintro e w1 ⟨rfl, hE⟩
      have hE2 := hEx.trans hE
      clear hEx
      go_wp2_with fail
      go_ret
      exact ⟨ret_bool Hd.out.symm, hE2⟩
    | false =>
      rw [hq] at Hd
      have HQ := Lib.hid hq
      clear hq
      go_wp2_with fail
      have cc := eqTaskS_any _ _ _ _ _ (h1.ext hEx) (h2.ext hEx)
      rw [HQ.out] at cc
      refine cc.mono ?_
      clear cc
      rintro e w1 ⟨rfl, hE⟩
      have hE2 := hEx.trans hE
      clear hEx
      go_wp2_with fail
      go_ret
      exact ⟨ret_bool Hd.out.symm, hE2⟩
  case false.true =>
    have hEx : Ext w _ := ((Ext.refl w).alloc (Obj.cells #[.bool false, .slice a1 xt.length c1] 38)).alloc (Obj.cells #[.bool true, .slice a2 yt.length c2] 38)
    have Hd : Hid (sameU ⟨false, xt⟩ ⟨true, yt⟩ = false) := by show sameU _ _ = _; simp [sameU]
    go_enter Try.func128, Try.ntmps128
    go_wp2_with fail
    go_ret
    exact ⟨ret_bool Hd.out.symm, hEx⟩
  case true.false =>
    have hEx : Ext w _ := ((Ext.refl w).alloc (Obj.cells #[.bool true, .slice a1 xt.length c1] 38)).alloc (Obj.cells #[.bool false, .slice a2 yt.length c2] 38)
    have Hd : Hid (sameU ⟨true, xt⟩ ⟨false, yt⟩ = false) := by show sameU _ _ = _; simp [sameU]
    go_enter Try.func128, Try.ntmps128
    go_wp2_with fail
    go_ret
    exact ⟨ret_bool Hd.out.symm, hEx⟩

set_option maxHeartbeats 600000 in
theorem eqUnitS_any (v u : Value) (xs ys : List Un) (w : World) (h : Units w v xs) (h' : Units w u ys) :
    Calls Try.prog 83 #[v, u] w fun e w' => e = .returned (.bool (sameUs xs ys)) ∧ Ext w w' := by
  obtain ⟨a, cap, rfl, h⟩ := h.open
  obtain ⟨a', cap', rfl, h'⟩ := h'.open
  have hx : xs.length ≤ 4194304 := h.1
  have hy : ys.length ≤ 4194304 := h'.1
  by_cases hl : xs.length = ys.length
  · have hb : (((xs.length : Nat) : Int) != (ys.length : Nat)) = false := by simp [hl]
    have HL := Lib.hid hl
    clear hl
    go_enter Try.func83, Try.ntmps83
    go_wp2
    go_loopw [5] (fun i wr => ∃ k : Nat, k ≤ xs.length ∧ i = .int .i64 k ∧ Ext w wr ∧ ∀ j (h1 : j < xs.length) (h2 : j < ys.length), j < k → sameU xs[j] ys[j] = true) (fun i _ => xs.length - (intOf i).toNat)
    case atStart => exact ⟨0, by omega, rfl, Ext.refl _, fun _ _ _ h => by omega⟩
    case round =>
      obtain ⟨k, hk, rfl, hE, hg⟩ := hrel
      have Hg := Lib.hid hg
      clear hg
      by_cases hlt : k < xs.length
      · have l2 : k < ys.length := by have := HL.out; omega
        obtain ⟨b, off, nd, rfl, c0, c1, hn⟩ := h.at hlt
        obtain ⟨b', off', nd', rfl, d0, d1, hn2⟩ := h'.at l2
        obtain ⟨e1, f1, rfl, hn'⟩ := (hn.ext hE).open
        obtain ⟨e2, f2, rfl, hn2'⟩ := (hn2.ext hE).open
        have c0' := hE.cell c0
        have c1' := hE.cell c1
        have d0' := hE.cell d0
        have d1' := hE.cell d1
        have Hn := Lib.hid hn'
        have Hn2 := Lib.hid hn2'
        clear hn hn' hn2 hn2' c0 c1 d0 d1
        have b1 : (k : Int) < (xs.length : Int) := by omega
        have b1' : (k : Int) < (ys.length : Int) := by omega
        have b0 : (0 : Int) ≤ (k : Int) := by omega
        cases he : sameU xs[k] ys[k] with
        | true =>
          have Hd : Hid (∀ j (h1 : j < xs.length) (h2 : j < ys.length), j < k + 1 → sameU xs[j] ys[j] = true) := by
            intro j h1 h2 hj
            by_cases e : j = k
            · subst e; exact he
            · exact Hg.out j h1 h2 (by omega)
          go_wp2
          go_still_tail 8, (by kernel_rfl)
          change wpList _ _ _ _ _ wr.drew
          go_wp2_with fail
          have cc := eqUnit_any xs[k] ys[k] _ _ _ Hn.out.drew Hn2.out.drew
          rw [he] at cc
          refine cc.mono ?_
          clear cc
          rintro e w1 ⟨rfl, hE2⟩
          have hE3 := hE.drew.trans hE2
          clear hE hE2
          go_wp2_with fail
          go_roundw
          case rel => exact ⟨k + 1, by omega, by go_num, hE3, Hd.out⟩
          case measure => simp [intOf]; omega
        | false =>
          have Hr := Lib.hid (sameUs_at hlt l2 he)
          go_wp2
          go_still_tail 8, (by kernel_rfl)
          change wpList _ _ _ _ _ wr.drew
          go_wp2_with fail
          have cc := eqUnit_any xs[k] ys[k] _ _ _ Hn.out.drew Hn2.out.drew
          rw [he] at cc
          refine cc.mono ?_
          clear cc
          rintro e w1 ⟨rfl, hE2⟩
          have hE3 := hE.drew.trans hE2
          clear hE hE2
          go_wp2_with fail
          go_ret
          exact ⟨ret_bool Hr.out.symm, hE3⟩
      · have e : k = xs.length := by omega
        subst e
        have Hr := Lib.hid (sameUs_all HL.out (fun j h1 h2 => Hg.out j h1 h2 h1))
        go_wp2
        go_ret
        exact ⟨ret_bool Hr.out.symm, hE⟩
  · have hb : (((xs.length : Nat) : Int) != (ys.length : Nat)) = true := by simp; omega
    have Hr : Hid (sameUs xs ys = false) := by
      show sameUs xs ys = false
      rw [Bool.eq_false_iff]
      exact fun e => hl (by rw [sameUs_iff.1 e])
    clear hl
    go_enter Try.func83, Try.ntmps83
    go_wp2
    go_ret
    exact ⟨ret_bool Hr.out.symm, Ext.refl _⟩

def sameC (x y : C) : Bool := (x.room == y.room) && sameUs x.us y.us
theorem sameC_iff {x y : C} : sameC x y = true ↔ x = y := by
  cases x; cases y
  simp only [sameC, Bool.and_eq_true, sameUs_iff, C.mk.injEq, beq_iff_eq]
set_option maxHeartbeats 600000 in
/-- Two copies of one cluster. -/
theorem eqCluster_any (v u : Value) (x : C) (w : World) (h : Clu w v x) (h' : Clu w u x) :
    Calls Try.prog 24 #[v, u] w fun e w' => e = .returned (.bool true) ∧ Ext w w' := by
  obtain ⟨r1, u1, rfl, hr1, hu1⟩ := h
  obtain ⟨r2, u2, rfl, hr2, hu2⟩ := h'
  obtain ⟨a1, c1, rfl, hr1⟩ := hr1.open
  obtain ⟨a2, c2, rfl, hr2⟩ := hr2.open
  obtain ⟨p1, q1, rfl, hu1⟩ := hu1.open
  obtain ⟨p2, q2, rfl, hu2⟩ := hu2.open
  have hEx : Ext w _ := ((Ext.refl w).alloc (Obj.cells #[.slice a1 x.room.length c1, .slice p1 x.us.length q1] 30)).alloc (Obj.cells #[.slice a2 x.room.length c2, .slice p2 x.us.length q2] 30)
  have hb1 : ((w.alloc (Obj.cells #[.slice a1 x.room.length c1, .slice p1 x.us.length q1] 30)).alloc (Obj.cells #[.slice a2 x.room.length c2, .slice p2 x.us.length q2] 30)).heap[w.heap.size]? = some (Obj.cells #[.slice a1 x.room.length c1, .slice p1 x.us.length q1] 30) := heap_skip _ _ (heap_alloc_new w _)
  have hb2 : ((w.alloc (Obj.cells #[.slice a1 x.room.length c1, .slice p1 x.us.length q1] 30)).alloc (Obj.cells #[.slice a2 x.room.length c2, .slice p2 x.us.length q2] 30)).heap[w.heap.size + 1]? = some (Obj.cells #[.slice a2 x.room.length c2, .slice p2 x.us.length q2] 30) := heap_push _ _ (by simp)
  go_enter Try.func24, Try.ntmps24
  go_wp2_with fail
  have cc := eqIntS_any _ _ _ _ _ (hr1.ext hEx) (hr2.ext hEx)
  generalize (w.alloc (Obj.cells #[.slice a1 x.room.length c1, .slice p1 x.us.length q1] 30)).alloc (Obj.cells #[.slice a2 x.room.length c2, .slice p2 x.us.length q2] 30) = W at *
  rw [show (x.room == x.room) = true by simp] at cc
  refine cc.mono ?_
  clear cc
  rintro e w1 ⟨rfl, m, rfl⟩
  have y0 := cell_of_heap hb1 1
  have y1 := cell_of_heap hb2 1
  have E1 := Lib.hid (hEx.drewN m)
  have z0 : (W.drewN m).cell? ⟨w.heap.size, 1, none⟩ = _ := ((Ext.refl W).drewN m).cell y0
  have z1 : (W.drewN m).cell? ⟨w.heap.size + 1, 1, none⟩ = _ := ((Ext.refl W).drewN m).cell y1
  clear hEx
  go_wp2_with fail
  have cc := eqUnitS_any _ _ _ _ _ (hu1.ext E1.out) (hu2.ext E1.out)
  rw [sameUs_iff.2 rfl] at cc
  refine cc.mono ?_
  clear cc
  rintro e w2 ⟨rfl, hE⟩
  go_wp2
  go_ret
  exact ⟨rfl, E1.out.trans hE⟩
end

section
set_option maxRecDepth 100000
open Go.RowKit Go.ChangeShapes Go.WideShapes Go.Deep
theorem cells_bool : Try.prog.cellsOf 4 = 1 := by kernel_rfl
theorem cells_lunit : Try.prog.cellsOf 129 = 2 := by kernel_rfl
theorem cells_lunits : Try.prog.cellsOf 23 = 1 := by kernel_rfl
theorem cells_lcluster : Try.prog.cellsOf 25 = 2 := by kernel_rfl
variable {H : Type} {enc : TypeId × Value → H} {w : World} {base : Nat} {spare : Nat → Bool} {held : Bool}
theorem argUnits_cells {fuel : Nat} {v : Value} {x : DataW H × List MemPlace} (h : DataW.trod enc Try.prog w base spare held fuel 23 [v] = some x) : ∃ us, ArgUnits w v us := by
  rcases open_slice_pairs Try.underlying23 Try.underlying129 cells_lunit rfl rfl cells_bool cells_ltasks h with ⟨hcs, hx⟩ | ⟨a, len, cap, m, n, V0, V1, D0, D1, P0, P1, hcs, _, hl, hm, hmm, hx, hcell⟩
  · simp only [List.cons.injEq, and_true] at hcs
    subst hcs
    exact ⟨[], by simp, none, 0, rfl, fun h => by simp at h⟩
  · simp only [List.cons.injEq, and_true] at hcs
    subst hcs
    have hlm : len ≤ m := by rw [hmm]; split <;> omega
    have each : ∀ i, i < len → ∃ t : Un, V0 i = .bool t.op ∧ ArgTasks w (V1 i) t.ts := by
      intro i hi
      obtain ⟨_, _, h0, h1⟩ := hcell i (by omega)
      obtain ⟨q, e0, _⟩ := DataW.trod_bool Try.underlying4 h0
      obtain ⟨xs, hxs⟩ := argTasks_cells h1
      simp at e0
      exact ⟨⟨q, xs⟩, e0, hxs⟩
    obtain ⟨f, hf⟩ := @choose_lt Un ⟨⟨false, []⟩⟩ len _ each
    refine ⟨(List.range len).map f, by simp; unfold maxLen at hm; omega, some a, cap, by simp, fun h0 => ?_⟩
    have h0' : 0 < m := by simp at h0; omega
    obtain ⟨b, off, spot⟩ := a
    have hspot : spot = none := by simpa [Addr.add] using World.cell?_spot (hcell 0 h0').1
    subst hspot
    refine ⟨b, off, rfl, fun k hk => ?_⟩
    have hk' : k < len := by simpa using hk
    obtain ⟨g0, g1, _, _⟩ := hcell k (by omega)
    rw [Go.WideShapes.add_plain] at g0 g1
    obtain ⟨e0, e1⟩ := hf k hk'
    rw [e0] at g0
    refine ⟨by simpa using g0, V1 k, by rw [Nat.add_assoc]; exact g1, by simpa using e1⟩
theorem argCluster_of {r : Reach} {b0 : Nat} {v : Value} {d : DataW H} {p : List MemPlace} (hv : Value.okWide Try.prog w r b0 25 v) (h : DataW.Trod enc Try.prog w base spare held 25 v d p) : ∃ c, ArgCluster w v c := by
  obtain ⟨v0, v1, y0, y1, n, rfl, -, -, h0, h1⟩ := Joins.open_agg2 Try.underlying25 (by kernel_rfl) cells_lcluster hv h
  obtain ⟨xs, hxs⟩ := argInts_cells h0
  obtain ⟨us, hus⟩ := argUnits_cells h1
  exact ⟨⟨xs, us⟩, v0, v1, rfl, hxs, hus⟩
end
end Go.Proofs.Ytcijbpjiioodlaa
