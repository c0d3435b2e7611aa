/- The program's queue of tasks: how it lies in memory, its methods. No condition. -/
import Derived.Test.YtcijbpjiioodlaaI18
import Derived.Test.YtcijbpjiioodlaaI16
import Derived.Test.YtcijbpjiioodlaaReg
import Derived.Test.YtcijbpjiioodlaaMark
namespace Go.Proofs.Ytcijbpjiioodlaa
set_option maxRecDepth 100000
open Go.RowKit

/-- The cells of tasks whose needs' blocks are known. -/
def need (y : Tb) : Value := .slice (some ⟨y.g, 0, none⟩) y.t.need.length y.c
def cellsB (ys : List Tb) : List Value := ys.flatMap fun y => [.int .i64 y.t.id, need y]
theorem cellsB_cons (p : Tb) (ps : List Tb) : cellsB (p :: ps) = .int .i64 p.t.id :: need p :: cellsB ps := by simp [cellsB]
theorem cellsB_app (ps qs : List Tb) : cellsB (ps ++ qs) = cellsB ps ++ cellsB qs := by simp [cellsB]
theorem cellsB_len (ps : List Tb) : (cellsB ps).length = ps.length * 2 := by
  induction ps with
  | nil => rfl
  | cons p ps ih => rw [cellsB_cons]; simp [ih]; omega
theorem cellsB_at {ps : List Tb} : ∀ {k : Nat} (hk : k < ps.length), (cellsB ps)[k * 2]? = some (.int .i64 ps[k].t.id) ∧ (cellsB ps)[k * 2 + 1]? = some (need ps[k]) := by
  induction ps with
  | nil => intro k hk; simp at hk
  | cons p ps ih =>
    intro k hk
    rw [cellsB_cons]
    cases k with
    | zero => exact ⟨rfl, rfl⟩
    | succ k =>
      have hk' : k < ps.length := by simpa using hk
      obtain ⟨h1, h2⟩ := ih hk'
      have e1 : (k + 1) * 2 = k * 2 + 1 + 1 := by omega
      have e2 : (k + 1) * 2 + 1 = k * 2 + 1 + 1 + 1 := by omega
      rw [e2, e1]
      simp only [List.getElem?_cons_succ, List.getElem_cons_succ]
      exact ⟨h1, h2⟩
theorem cellsB_set {ps : List Tb} {p : Tb} : ∀ {k : Nat}, k < ps.length → ((cellsB ps).set (k * 2) (.int .i64 p.t.id)).set (k * 2 + 1) (need p) = cellsB (ps.set k p) := by
  induction ps with
  | nil => intro k hk; simp at hk
  | cons q ps ih =>
    intro k hk
    rw [cellsB_cons]
    cases k with
    | zero => simp [cellsB_cons]
    | succ k =>
      have hk' : k < ps.length := by simpa using hk
      have e1 : (k + 1) * 2 = k * 2 + 1 + 1 := by omega
      have e2 : (k + 1) * 2 + 1 = k * 2 + 1 + 1 + 1 := by omega
      rw [e2, e1]
      simp only [List.set_cons_succ]
      rw [ih hk', cellsB_cons]

/-- Tasks that are owned, each need in a block of its own. -/
def Needs (w : World) (L : Nat) (ys : List Tb) : Prop := (∀ y ∈ ys, NeedS w L y.g (need y) y.t.need) ∧ (ys.map (·.g)).Nodup ∧ ∀ y ∈ ys, VecOk y.t.need
theorem Needs.ext {w w' : World} {L : Nat} {ys : List Tb} (h : Needs w L ys) (k : Ext w w') : Needs w' L ys := ⟨fun y hy => (h.1 y hy).ext k, h.2⟩
theorem Needs.kt {w w' : World} {L : Nat} {e : TypeId} {ys : List Tb} (h : Needs w L ys) (k : KT e w w') (ne : 3 ≠ e) : Needs w' L ys := ⟨fun y hy => (h.1 y hy).kt k ne, h.2⟩
theorem Needs.perm {w : World} {L : Nat} {xs ys : List Tb} (h : Needs w L xs) (hp : ys.Perm xs) : Needs w L ys :=
  ⟨fun y hy => h.1 y (hp.subset hy), (hp.map _).nodup_iff.2 h.2.1, fun y hy => h.2.2 y (hp.subset hy)⟩
def OwnQ (w : World) (L : Nat) (v : Value) (ys : List Tb) : Prop := w.ownsRow L 45 2 v ys.length (cellsB ys)
theorem OwnQ.ext {w w' : World} {L : Nat} {v : Value} {ys : List Tb} (h : OwnQ w L v ys) (k : Ext w w') : OwnQ w' L v ys := ownsRow_ext h k
theorem OwnQ.form {w : World} {L : Nat} {v : Value} {ys : List Tb} (h : OwnQ w L v ys) : ∃ a c, v = .slice a ys.length c := by
  rcases h.2 with ⟨rfl, hn⟩ | ⟨g, cap, cur, rfl, _⟩
  · exact ⟨none, 0, by rw [hn]⟩
  · exact ⟨_, cap, rfl⟩
theorem OwnQ.at {w : World} {L n c : Nat} {a : Option Addr} {ys : List Tb} (h : OwnQ w L (.slice a n c) ys) {k : Nat} (hk : k < ys.length) :
    ∃ g, a = some ⟨g, 0, none⟩ ∧ n = ys.length ∧ L ≤ g ∧ w.cell? ⟨g, k * 2, none⟩ = some (.int .i64 ys[k].t.id) ∧ w.cell? ⟨g, k * 2 + 1, none⟩ = some (need ys[k]) := by
  obtain ⟨g, rfl, rfl, hL, hlt, hc, ho⟩ := ownsRow_at h (by omega)
  have hx := cellsB_len ys
  obtain ⟨h1, h2⟩ := cellsB_at hk
  exact ⟨g, rfl, rfl, hL, by rw [hc _ (by omega), h1], by rw [hc _ (by omega), h2]⟩

set_option maxHeartbeats 400000 in
theorem qLen_any (a : Option Addr) (n c : Nat) (w : World) :
    Calls Try.prog 157 #[.slice a n c] w fun e w' => e = .returned (.int .i64 (n : Int)) ∧ w = w' := by
  go_enter Try.func157, Try.ntmps157
  go_wp2
  go_ret
  exact ⟨rfl, rfl⟩

set_option maxHeartbeats 1000000 in
theorem qLess_any (v : Value) (ys : List Tb) (i j : Nat) (L : Nat) (w : World) (h : OwnQ w L v ys) (hn : Needs w L ys) (hi : i < ys.length) (hj : j < ys.length) :
    Calls Try.prog 206 #[v, .int .i64 (i : Int), .int .i64 (j : Int)] w fun e w' => e = .returned (.bool (lessT (At ys i) (At ys j))) ∧ Ext w w' := by
  obtain ⟨a, c, rfl⟩ := h.form
  obtain ⟨g, rfl, -, -, c0, c1⟩ := h.at hi
  obtain ⟨g', e', -, -, d0, d1⟩ := h.at hj
  cases e'
  have Ni := Lib.hid ((hn.1 _ (List.getElem_mem hi)).2.done (by have := (hn.2.2 _ (List.getElem_mem hi)).1; unfold lim; omega))
  have Nj := Lib.hid ((hn.1 _ (List.getElem_mem hj)).2.done (by have := (hn.2.2 _ (List.getElem_mem hj)).1; unfold lim; omega))
  have Vi := Lib.hid (hn.2.2 _ (List.getElem_mem hi))
  have Vj := Lib.hid (hn.2.2 _ (List.getElem_mem hj))
  rw [At.get hi, At.get hj]
  have Hd := Lib.hid (cmpT_less ys[i].t ys[j].t)
  unfold need at c1 d1
  generalize ys[i] = x at *
  generalize ys[j] = y at *
  have i0 : (0 : Int) ≤ (i : Int) := by omega
  have i1 : (i : Int) < (ys.length : Int) := by omega
  have j0 : (0 : Int) ≤ (j : Int) := by omega
  have j1 : (j : Int) < (ys.length : Int) := by omega
  clear h hn hi hj
  go_enter Try.func206, Try.ntmps206
  go_wp2
  go_still_tail 8, (by kernel_rfl)
  change wpList _ _ _ _ _ w.drew
  go_wp2_with fail
  refine (compare_any x.t y.t _ _ _ Ni.out.drew Nj.out.drew Vi.out Vj.out).mono ?_
  rintro e w1 ⟨rfl, hE⟩
  have cb := cmpT_bound x.t y.t
  go_wp2_with fail
  go_ret
  exact ⟨ret_bool Hd.out, (Ext.refl w).drew.trans hE⟩

theorem cell_far1 {w : World} {b o o' : Nat} {x : Value} (h : w.cell? ⟨b, o, none⟩ = some x) (ne : o ≠ o') (y : Value) : (w.setCell ⟨b, o', none⟩ y).cell? ⟨b, o, none⟩ = some x :=
  (World.cell?_setCell_other _ _ _ _ (by intro e; cases e; exact ne rfl)).trans h
theorem grownBy_drew (w : World) (r : Option Nat) : w.grownBy w.drew r := ⟨rfl, rfl, rfl, Nat.le_refl _, fun _ _ _ => rfl⟩
/-- What an exchange leaves. -/
theorem OwnQ.put {w : World} {L g n c : Nat} {ys : List Tb} (h : OwnQ w L (.slice (some ⟨g, 0, none⟩) n c) ys) (hn : n = ys.length) {k : Nat} (hk : k < ys.length) (y : Tb) :
    OwnQ ((w.setCell ⟨g, k * 2, none⟩ (.int .i64 y.t.id)).setCell ⟨g, k * 2 + 1, none⟩ (need y)) L (.slice (some ⟨g, 0, none⟩) n c) (ys.set k y) ∧ KT 45 w ((w.setCell ⟨g, k * 2, none⟩ (.int .i64 y.t.id)).setCell ⟨g, k * 2 + 1, none⟩ (need y)) ∧ w.grownBy ((w.setCell ⟨g, k * 2, none⟩ (.int .i64 y.t.id)).setCell ⟨g, k * 2 + 1, none⟩ (need y)) (some g) := by
  subst hn
  have hx := cellsB_len ys
  obtain ⟨p1, p2, -, f1⟩ := ownsRow_put h (k := k * 2) (by omega) (.int .i64 y.t.id)
  obtain ⟨q1, q2, -, f2⟩ := ownsRow_put p1 (k := k * 2 + 1) (by simp; omega) (need y)
  rw [cellsB_set hk] at q1
  refine ⟨?_, p2.trans q2, grownBy_trans (grownBy_put w g _ _) (grownBy_put _ g _ _)⟩
  unfold OwnQ
  rw [List.length_set]
  exact q1

set_option maxHeartbeats 2000000 in
theorem qSwap_any (v : Value) (ys : List Tb) (i j : Nat) (L : Nat) (w : World) (h : OwnQ w L v ys) (hi : i < ys.length) (hj : j < ys.length) :
    Calls Try.prog 207 #[v, .int .i64 (i : Int), .int .i64 (j : Int)] w fun e w' => e = .returned (.tuple #[]) ∧ OwnQ w' L v (swapL ys i j) ∧ KT 45 w w' ∧ w.grownBy w' v.ownBlock := by
  obtain ⟨a, c, rfl⟩ := h.form
  obtain ⟨g, rfl, -, -, c0, c1⟩ := h.at hi
  obtain ⟨g', e', -, -, d0, d1⟩ := h.at hj
  cases e'
  have P1 := Lib.hid (h.put rfl hi (At ys j))
  have P2 := Lib.hid (P1.out.1.put (by simp) (k := j) (by simpa using hj) (At ys i))
  have F := Lib.hid (show OwnQ _ L (.slice (some ⟨g, 0, none⟩) ys.length c) (swapL ys i j) ∧ KT 45 w _ ∧ w.grownBy _ (some g) from ⟨P2.out.1, P1.out.2.1.trans P2.out.2.1, grownBy_trans P1.out.2.2 P2.out.2.2⟩)
  have fz : ∀ k, w.frozen? ⟨g, k, none⟩ = false := fun k => h.frozenAt k
  have f1 := fz (i * 2)
  have f2 := fz (i * 2 + 1)
  have f3 := fz (j * 2)
  have f4 := fz (j * 2 + 1)
  have hj' : j < (ys.set i (At ys j)).length := by simpa using hj
  obtain ⟨_, es, -, -, s0, s1⟩ := P1.out.1.at hj'
  cases es
  have s2 := cell_far1 s1 (show j * 2 + 1 ≠ j * 2 by omega) (.int .i64 (At ys i).t.id)
  clear P1 P2 fz h
  generalize (ys.set i (At ys j))[j] = z at *
  clear hj'
  rw [At.get hi, At.get hj] at F
  rw [At.get hj] at s0 s1
  rw [At.get hi, At.get hj] at s2
  generalize ys[i] = x at *
  generalize ys[j] = y at *
  have Hl := Lib.hid hi
  have i0 : (0 : Int) ≤ (i : Int) := by omega
  have i1 : (i : Int) < (ys.length : Int) := by omega
  have j0 : (0 : Int) ≤ (j : Int) := by omega
  have j1 : (j : Int) < (ys.length : Int) := by omega
  have cz : ∃ u, need z = u := ⟨_, rfl⟩
  obtain ⟨u, hu⟩ := cz
  rw [hu] at s1 s2
  clear hu
  unfold need at c1 d1 F s0 s1 s2
  go_enter Try.func207, Try.ntmps207
  go_wp2
  go_region
  all_goals
    go_wp2
    refine bodyPost_end (results_none rfl _ _ _) rfl ⟨rfl, F.out.1.ext (Ext.refl _).drew, F.out.2.1.trans ((Ext.refl _).drew.kt _), grownBy_trans F.out.2.2 (grownBy_drew _ _)⟩

theorem box_far2 {w : World} {b x : Nat} {u u' : Value} {o : Obj} (h : w.heap[x]? = some o) (hx : x ≠ b) : ((w.setCell ⟨b, 0, none⟩ u).setCell ⟨b, 1, none⟩ u').heap[x]? = some o :=
  ((Below.heap_setCell _ ⟨b, 1, none⟩ u' x hx).trans (Below.heap_setCell w ⟨b, 0, none⟩ u x hx)).trans h
theorem Ext.grownAny {w w' : World} (h : Ext w w') (r : Option Nat) : w.grownBy w' r := ⟨h.os, h.tape, h.output, h.le, fun _ hb _ => h.block hb⟩
theorem OwnQ.pop {w : World} {L n c m : Nat} {a : Option Addr} {ys : List Tb} (h : OwnQ w L (.slice a n c) ys) (hm : m ≤ ys.length) (h0 : 0 < ys.length) : OwnQ w L (.slice a m c) (ys.take m) := by
  obtain ⟨hl, h⟩ := h
  rcases h with ⟨_, hn⟩ | ⟨g, cap, cur, hv, hB, hg, h1, h2, h3, h4⟩
  · omega
  · simp only [Value.slice.injEq] at hv
    obtain ⟨rfl, rfl, rfl⟩ := hv
    have e1 : (ys.take m).length = m := by simp; omega
    unfold OwnQ
    rw [e1]
    refine ⟨by rw [cellsB_len, e1], .inr ⟨g, c, cur, rfl, hB, hg, by omega, h2, h3, ?_⟩⟩
    have e2 : cellsB (ys.take m) = (cellsB ys).take (m * 2) := by
      have : cellsB ys = cellsB (ys.take m) ++ cellsB (ys.drop m) := by rw [← cellsB_app, List.take_append_drop]
      rw [this, List.take_left' (by rw [cellsB_len, e1])]
    rw [e2, ← h4, List.take_take, Nat.min_eq_left (by omega)]

set_option maxHeartbeats 2000000 in
theorem qPop_any (q : Nat) (a : Option Addr) (n c : Nat) (ys : List Tb) (L : Nat) (w : World) (hq : w.heap[q]? = some (.cells #[.slice a (n + 1) c] 162 (0, 0))) (h : OwnQ w L (.slice a (n + 1) c) ys) (hn : ys.length = n + 1) (hc : n + 1 ≤ c) (hl : n ≤ 1000) :
    Calls Try.prog 208 #[.pointer (some ⟨q, 0, none⟩)] w fun e w' => e = .returned (.iface 45 (.agg #[.int .i64 (At ys n).t.id, need (At ys n)])) ∧ w'.heap[q]? = some (.cells #[.slice a n c] 162 (0, 0)) ∧ KT 162 w w' ∧ w.grownBy w' (some q) := by
  obtain ⟨g, rfl, -, -, c0, c1⟩ := h.at (k := n) (by omega)
  have q0 := cell_of_heap hq 0
  have f0 := frozen_of_heap hq 0
  rw [At.get (by omega)]
  generalize ys[n] = x at *
  have n0 : (0 : Int) ≤ (n : Int) := by omega
  have n1 : (n : Int) < (n : Int) + 1 := by omega
  have nw : IntKind.i64.wrap (n : Int) = (n : Int) := by simp (disch := omega) only [IntWalk.i64_in]
  have Hq := Lib.hid (show q ≠ w.heap.size from Nat.ne_of_lt (lt_of_heap hq))
  have Hg := Lib.hid (show g ≠ w.heap.size from Nat.ne_of_lt (World.block_lt_of_cell? w _ c0))
  unfold need at c1 ⊢
  go_enter Try.func208, Try.ntmps208
  go_wp2_with fail
  -- region
  refine wp_region_held_drew (S := fun w' => w'.heap[q]? = some (.cells #[.slice (some ⟨g, 0, none⟩) (n + 1) c] 162 (0, 0)) ∧ w'.cell? ⟨g, n * 2, none⟩ = some (.int .i64 x.t.id) ∧ w'.cell? ⟨g, n * 2 + 1, none⟩ = some (.slice (some ⟨x.g, 0, none⟩) x.t.need.length x.c)) (by kernel_rfl) ⟨hq, c0, c1⟩ (fun hHeld => ?_)
  refine takeH (i := 0) (d := some 4) (v := ?_) rfl rfl (by kernel_rfl) (by kernel_rfl) (by kernel_rfl) (fun _ _ _ h => h) (by rfl) ?_ (by assumption) ?_
  rotate_left
  · intro w hSw; (try dsimp only at hSw); (try go_simp); (try with_reducible rfl)
  try simp only [Act.put, List.setIfInBounds_toArray, List.set_cons_zero, List.set_cons_succ]
  refine takeH (i := 3) (d := some 7) (v := ?_) rfl rfl (by kernel_rfl) (by kernel_rfl) (by kernel_rfl) (fun _ _ _ h => h) (by rfl) ?_ (by assumption) ?_
  rotate_left
  · intro w hSw; (try dsimp only at hSw); (try go_simp); (try with_reducible rfl)
  try simp only [Act.put, List.setIfInBounds_toArray, List.set_cons_zero, List.set_cons_succ]
  refine takeH (i := 1) (d := some 5) (v := ?_) rfl rfl (by kernel_rfl) (by kernel_rfl) (by kernel_rfl) (fun _ _ _ h => h) (by rfl) ?_ (by assumption) ?_
  rotate_left
  · intro w hSw; (try dsimp only at hSw); (try go_simp); (try with_reducible rfl)
  try simp only [Act.put, List.setIfInBounds_toArray, List.set_cons_zero, List.set_cons_succ]
  refine takeH (i := 4) (d := some 8) (v := ?_) rfl rfl (by kernel_rfl) (by kernel_rfl) (by kernel_rfl) (fun _ _ _ h => h) (by rfl) ?_ (by assumption) ?_
  rotate_left
  · intro w hSw; (try dsimp only at hSw); (try go_simp); (try with_reducible rfl)
  try simp only [Act.put, List.setIfInBounds_toArray, List.set_cons_zero, List.set_cons_succ]
  refine takeH (i := 2) (d := some 6) (v := ?_) rfl rfl (by kernel_rfl) (by kernel_rfl) (by kernel_rfl) (fun _ _ _ h => h) (by rfl) ?_ (by assumption) ?_
  rotate_left
  · intro w hSw; (try dsimp only at hSw); (try have l0 := cell_of_heap hSw.1 0; have l1 := hSw.2.1; have l2 := hSw.2.2; go_simp); (try with_reducible rfl)
  try simp only [Act.put, List.setIfInBounds_toArray, List.set_cons_zero, List.set_cons_succ]
  refine takeH (i := 5) (d := some 9) (v := ?_) rfl rfl (by kernel_rfl) (by kernel_rfl) (by kernel_rfl) (fun _ _ _ h => h) (by rfl) ?_ (by assumption) ?_
  rotate_left
  · intro w hSw; (try dsimp only at hSw); (try have l0 := cell_of_heap hSw.1 0; have l1 := hSw.2.1; have l2 := hSw.2.2; go_simp); (try with_reducible rfl)
  try simp only [Act.put, List.setIfInBounds_toArray, List.set_cons_zero, List.set_cons_succ]
  refine takeH (i := 6) (d := some 10) (v := ?_) rfl rfl (by kernel_rfl) (by kernel_rfl) (by kernel_rfl) (fun _ _ _ h => h) (by rfl) ?_ (by assumption) ?_
  rotate_left
  · intro w hSw; (try dsimp only at hSw); (try go_simp); (try with_reducible rfl)
  try simp only [Act.put, List.setIfInBounds_toArray, List.set_cons_zero, List.set_cons_succ]
  refine takeH (i := 7) (d := some 11) (v := ?_) rfl rfl (by kernel_rfl) (by kernel_rfl) (by kernel_rfl) (fun _ _ _ h => h) (by rfl) ?_ (by assumption) ?_
  rotate_left
  · intro w hSw; (try dsimp only at hSw); (try go_simp); (try with_reducible rfl)
  try simp only [Act.put, List.setIfInBounds_toArray, List.set_cons_zero, List.set_cons_succ]
  refine takeH (i := 8) (d := some 12) (v := ?_) rfl rfl (by kernel_rfl) (by kernel_rfl) (by kernel_rfl) (fun _ _ _ h => h) (by rfl) ?_ (by assumption) ?_
  rotate_left
  · intro w hSw; (try dsimp only at hSw); (try go_simp); (try with_reducible rfl)
  try simp only [Act.put, List.setIfInBounds_toArray, List.set_cons_zero, List.set_cons_succ]
  refine takeH (i := 9) (d := some 13) (v := ?_) rfl rfl (by kernel_rfl) (by kernel_rfl) (by kernel_rfl) (fun _ _ _ h => h) (by rfl) ?_ (by assumption) ?_
  rotate_left
  · intro w hSw; (try dsimp only at hSw); (try have l0 := cell_of_heap hSw.1 0; have l1 := hSw.2.1; have l2 := hSw.2.2; go_simp); (try with_reducible rfl)
  try simp only [Act.put, List.setIfInBounds_toArray, List.set_cons_zero, List.set_cons_succ]
  refine oneH (i := 10) (by kernel_rfl) rfl (by rfl) (fun K hK => ?_)
  go_simp
  try dsimp only
  refine hK.out _ _ (⟨heap_skip _ _ hHeld.1, ((Ext.refl w.drew).alloc _).cell hHeld.2.1, ((Ext.refl w.drew).alloc _).cell hHeld.2.2⟩) (fun hHeld => ?_)
  clear hK K
  try simp only [Act.put, List.setIfInBounds_toArray, List.set_cons_zero, List.set_cons_succ]
  refine oneH (i := 11) (by kernel_rfl) rfl (by rfl) (fun K hK => ?_)
  go_simp
  try dsimp only
  refine hK.out _ _ (⟨heap_skip w _ hq, ((Ext.refl w).alloc _).drew.cell c0, ((Ext.refl w).alloc _).drew.cell c1⟩) (fun hHeld => ?_)
  clear hK K
  try simp only [Act.put, List.setIfInBounds_toArray, List.set_cons_zero, List.set_cons_succ]
  refine wpAnyH_done (by kernel_rfl) ?_ _
  -- end region
  have zb := heap_alloc_new w (Obj.cells #[.int .i64 x.t.id, .slice (some ⟨x.g, 0, none⟩) x.t.need.length x.c] 45)
  have hE := (Ext.refl w).alloc (Obj.cells #[.int .i64 x.t.id, .slice (some ⟨x.g, 0, none⟩) x.t.need.length x.c] 45)
  have hq2 := heap_skip w (Obj.cells #[.int .i64 x.t.id, .slice (some ⟨x.g, 0, none⟩) x.t.need.length x.c] 45) hq
  clear hHeld q0 f0 c0 c1
  generalize w.alloc (Obj.cells #[.int .i64 x.t.id, .slice (some ⟨x.g, 0, none⟩) x.t.need.length x.c] 45) = W at *
  have Zb := Lib.hid zb
  have HE := Lib.hid hE
  have Hq2 := Lib.hid hq2
  have q0 := cell_of_heap hq2 0
  have f0 := frozen_of_heap hq2 0
  have r0 := cell_far (b' := q) (o' := 0) (u := .slice (some ⟨g, 0, none⟩) n c) (cell_of_heap zb 0) (Ne.symm Hq.out)
  have r1 := cell_far (b' := q) (o' := 0) (u := .slice (some ⟨g, 0, none⟩) n c) (cell_of_heap zb 1) (Ne.symm Hq.out)
  have n3 : (n : Int) ≤ (c : Int) := by omega
  clear hq zb hE hq2
  go_wp2
  go_region
  all_goals
    go_wp2
    go_ret
    refine ⟨rfl, heap_setCell_same _ q 0 _ _ (.slice (some ⟨g, 0, none⟩) n c) Hq2.out, ?_, ?_⟩
    · exact (HE.out.kt _).trans ((KT.put (p := ⟨q, 0, none⟩) Hq2.out (.slice (some ⟨g, 0, none⟩) n c)).trans (((Ext.refl _).drew.drew).kt _))
    · exact grownBy_trans (HE.out.grownAny _) (grownBy_trans (grownBy_put _ q 0 _) (grownBy_trans (grownBy_drew _ _) (grownBy_drew _ _)))

/-- All rows of numbers are as they were. -/
def KN (w w' : World) : Prop := w.heap.size ≤ w'.heap.size ∧ ∀ (b : Nat) (cs : Array Value) (fz : Nat × Nat), w.heap[b]? = some (Obj.cells cs 3 fz) → w'.heap[b]? = w.heap[b]?
theorem KN.trans {a b c : World} (h : KN a b) (k : KN b c) : KN a c := ⟨Nat.le_trans h.1 k.1, fun x cs fz hx => (k.2 x cs fz ((h.2 x cs fz hx).trans hx)).trans (h.2 x cs fz hx)⟩
theorem KT.kn {e : TypeId} {w w' : World} (h : KT e w w') (ne : 3 ≠ e) : KN w w' := ⟨h.1, fun b cs fz hb => h.2 b cs _ fz hb ne⟩
theorem Ext.kn {w w' : World} (h : Ext w w') : KN w w' := ⟨h.le, fun _ _ _ hb => h.block (lt_of_heap hb)⟩
theorem ownsRow_kn {w w' : World} {B size n : Nat} {v : Value} {xs : List Value} (h : w.ownsRow B 3 size v n xs) (k : KN w w') : w'.ownsRow B 3 size v n xs := by
  obtain ⟨hl, h⟩ := h
  rcases h with h | ⟨g, cap, cur, hv, hB, hg, h1, h2, h3, h4⟩
  · exact ⟨hl, .inl h⟩
  · exact ⟨hl, .inr ⟨g, cap, cur, hv, hB, (k.2 _ _ _ hg).trans hg, h1, h2, h3, h4⟩⟩
theorem NeedS.kn {w w' : World} {L g : Nat} {v : Value} {need : List Int} (h : NeedS w L g v need) (k : KN w w') : NeedS w' L g v need := ⟨h.1, ownsRow_kn h.2 k⟩
theorem Needs.kn {w w' : World} {L : Nat} {ys : List Tb} (h : Needs w L ys) (k : KN w w') : Needs w' L ys := ⟨fun y hy => (h.1 y hy).kn k, h.2⟩
/-- What the queue's functions change: blocks from L on and below U, and no row of numbers. -/
def QF (L U : Nat) (w w' : World) : Prop := Chg L U w w' ∧ KN w w'
theorem QF.refl (L U : Nat) (w : World) : QF L U w w := ⟨Chg.refl _ _ _, (Ext.refl w).kn⟩
theorem QF.trans {L U : Nat} {a b c : World} (h : QF L U a b) (k : QF L U b c) : QF L U a c := ⟨h.1.trans k.1, h.2.trans k.2⟩
theorem Ext.qf {w w' : World} (h : Ext w w') (L U : Nat) : QF L U w w' := ⟨h.chg L U, h.kn⟩
theorem QF.put {L U : Nat} {w w' : World} {e : TypeId} {r : Option Nat} (h : w.grownBy w' r) (k : KT e w w') (ne : 3 ≠ e) (hg : ∀ g, r = some g → L ≤ g ∧ g < U) : QF L U w w' := by
  refine ⟨?_, k.kn ne⟩
  cases r with
  | none => exact ⟨h.os, h.tape, h.output, h.size, fun b hb _ => h.block b hb (by simp)⟩
  | some g =>
    obtain ⟨h1, h2⟩ := hg g rfl
    exact (Chg.only h).mono h1 h2
/-- The queue behind a pointer. -/
def Queue (w : World) (L U q : Nat) (ys : List Tb) : Prop :=
  ∃ a c, w.heap[q]? = some (.cells #[.slice a ys.length c] 162 (0, 0)) ∧ OwnQ w L (.slice a ys.length c) ys ∧ Needs w L ys ∧ ys.length ≤ c ∧ ys.length ≤ 1000 ∧ L ≤ q ∧ q < U ∧ ∀ g, (Value.slice a ys.length c).ownBlock = some g → L ≤ g ∧ g < U
theorem Queue.ext {w w' : World} {L U q : Nat} {ys : List Tb} (h : Queue w L U q ys) (k : Ext w w') : Queue w' L U q ys := by
  obtain ⟨a, c, h1, h2, h3, h4⟩ := h
  exact ⟨a, c, (k.block (lt_of_heap h1)).trans h1, h2.ext k, h3.ext k, h4⟩

theorem wrapChk (xt ty : TypeId) (a : Addr) (s1 s2 : String) (w : World) : (Builtin.ssaWrapNilChk_ #[xt] ty #[.pointer (some a), strVal s1, strVal s2]).run Try.prog w = .ok (.pointer (some a)) w := by rfl
set_option maxHeartbeats 400000 in
/-- A method of the queue by value, called through a pointer to it. -/
theorem meth_val (nm : String) (f : FuncId) (hi : (Try.prog.info? 164).map (fun i => (i.methods.find? (·.name == nm)).map fun m => (m.path.toList, m.func)) = some (some ([], some (f, false)))) (n q : Nat) (v : Value) (w : World) (h : w.cell? ⟨q, 0, none⟩ = some v) :
    (method (n + 1) 164 (.pointer (some ⟨q, 0, none⟩)) nm).run Try.prog w = .ok (f, v) w := by
  cases hx : Try.prog.info? 164 with
  | none => rw [hx] at hi; cases hi
  | some i =>
    rw [hx] at hi
    simp only [Option.map_some, Option.some.injEq] at hi
    cases hm : i.methods.find? (·.name == nm) with
    | none => rw [hm] at hi; cases hi
    | some m =>
      rw [hm] at hi
      simp only [Option.map_some, Option.some.injEq, Prod.mk.injEq] at hi
      obtain ⟨hp, hf⟩ := hi
      have hp2 : m.path = #[] := by simpa using hp
      unfold method
      simp [go_sem, typeInfo, hx, hm, hp2, hf, follow, receiverAt, Place.get, wrapChk, h]
theorem meth_len (n q : Nat) (v : Value) (w : World) (h : w.cell? ⟨q, 0, none⟩ = some v) : (method (n + 1) 164 (.pointer (some ⟨q, 0, none⟩)) "Len").run Try.prog w = .ok (157, v) w := meth_val _ _ (by kernel_rfl) n q v w h
theorem meth_less (n q : Nat) (v : Value) (w : World) (h : w.cell? ⟨q, 0, none⟩ = some v) : (method (n + 1) 164 (.pointer (some ⟨q, 0, none⟩)) "Less").run Try.prog w = .ok (206, v) w := meth_val _ _ (by kernel_rfl) n q v w h
theorem meth_swap (n q : Nat) (v : Value) (w : World) (h : w.cell? ⟨q, 0, none⟩ = some v) : (method (n + 1) 164 (.pointer (some ⟨q, 0, none⟩)) "Swap").run Try.prog w = .ok (207, v) w := meth_val _ _ (by kernel_rfl) n q v w h
/-- What a walk needs of the queue, and what an exchange makes of it. -/
theorem Queue.parts {w : World} {L U q : Nat} {ys : List Tb} (h : Queue w L U q ys) : ∃ v, w.cell? ⟨q, 0, none⟩ = some v ∧ OwnQ w L v ys ∧ Needs w L ys ∧ (∀ g, v.ownBlock = some g → L ≤ g ∧ g < U) ∧ ∀ w' zs, OwnQ w' L v zs → KT 45 w w' → zs.Perm ys → Queue w' L U q zs := by
  obtain ⟨a, c, h1, h2, h3, h4, h5, h6, h7, h8⟩ := h
  refine ⟨_, cell_of_heap h1 0, h2, h3, h8, fun w' zs ho hk hp => ?_⟩
  have hl := hp.length_eq
  refine ⟨a, c, ?_, ?_, (h3.perm hp).kt hk (by decide), by omega, by omega, h6, h7, by rw [hl]; exact h8⟩
  · rw [hl]
    exact (hk.2 _ _ _ _ h1 (by decide)).trans h1
  · rw [hl]; exact ho

end Go.Proofs.Ytcijbpjiioodlaa
