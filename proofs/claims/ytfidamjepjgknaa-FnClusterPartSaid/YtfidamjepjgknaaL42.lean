/- The law FnClusterPart: whatever the codes, a cluster without a room is not valid, and one with a node closed is valid just where that node has no tasks. No condition. -/
import Derived.Test.YtfidamjepjgknaaCu
import Derived.Test.YtfidamjepjgknaaCm
import Derived.Test.YtfidamjepjgknaaHead
import Derived.OpenShut
import Derived.ChangeOld
namespace Go.Proofs.Ytfidamjepjgknaa.l42
set_option maxRecDepth 100000
open Go.RowKit Go.ChangeShapes Go.WideShapes Go.ChangeAt

theorem part_room (c : C) : clusterB ⟨[], c.us⟩ = false := by
  have : binsB [] (binsC c.us) = false := by
    rw [Bool.eq_false_iff]
    intro h
    have := (binsB_iff.1 h).1.1.1.1
    simp at this
  unfold clusterB
  rw [this, Bool.and_false, Bool.and_false]
theorem all_set {α : Type} {f : α → Bool} : ∀ {l : List α} {k : Nat} (_ : k < l.length) {u : α}, l.all f = true → (l.set k u).all f = f u
  | [], k, h, u, _ => by simp at h
  | a :: l, 0, h, u, hl => by
    rw [List.all_cons, Bool.and_eq_true] at hl
    rw [List.set_cons_zero, List.all_cons, hl.2, Bool.and_true]
  | a :: l, k + 1, h, u, hl => by
    rw [List.all_cons, Bool.and_eq_true] at hl
    rw [List.set_cons_succ, List.all_cons, hl.1, Bool.true_and]
    exact all_set (by simpa using h) hl.2
theorem part_shut {c : C} (hv : clusterB c = true) {k : Nat} (hk : k < c.us.length) : clusterB ⟨c.room, c.us.set k ⟨false, c.us[k].ts⟩⟩ = ((c.us[k].ts.length : Int) == 0) := by
  have hb : binsC (c.us.set k ⟨false, c.us[k].ts⟩) = binsC c.us := by
    unfold binsC
    rw [List.map_set]
    refine List.ext_getElem (by simp) fun i h1 h2 => ?_
    by_cases e : k = i
    · subst e; rw [List.getElem_set_self]; simp
    · rw [List.getElem_set_ne e]
  unfold clusterB at hv ⊢
  rw [Bool.and_eq_true] at hv
  rw [hb, List.length_set, hv.2, Bool.and_true, all_set hk hv.1]
  unfold okU
  by_cases h : c.us[k].ts.length = 0
  · rw [h]; rfl
  · rw [decide_eq_false h]
    have : ((c.us[k].ts.length : Int) == 0) = false := beq_eq_false_iff_ne.2 (by omega)
    rw [this]; rfl
theorem units_one {w : World} {xs : List Value} {us : List Un} (h : UnitCells w xs us) : ∀ u ∈ xs, u.oneCell' = true := by
  intro u hu
  obtain ⟨j, hj, rfl⟩ := List.getElem_of_mem hu
  have h1 := h.1
  obtain ⟨c1, n, c2, hn⟩ := h.2 (j / 2) (by omega)
  rcases Nat.mod_two_eq_zero_or_one j with e | e
  · rw [show j / 2 * 2 = j by omega, List.getElem?_eq_getElem hj] at c1
    simp only [Option.some.injEq] at c1
    rw [c1]; rfl
  · rw [show j / 2 * 2 + 1 = j by omega, List.getElem?_eq_getElem hj] at c2
    simp only [Option.some.injEq] at c2
    rw [c2]
    obtain ⟨_, a, cap, _, rfl, _⟩ := hn
    rfl
theorem units_shut {w : World} {xs : List Value} {us : List Un} (h : UnitCells w xs us) {k : Nat} (hk : k < us.length) : UnitCells w (xs.set (k * 2) (.bool false)) (us.set k ⟨false, us[k].ts⟩) := by
  have h1 := h.1
  refine ⟨by simp; omega, fun j hj => ?_⟩
  simp only [List.length_set] at hj
  obtain ⟨c1, n, c2, hn⟩ := h.2 j hj
  by_cases e : k = j
  · subst e
    refine ⟨by rw [List.getElem?_set_self (by omega), List.getElem_set_self], n, by rw [List.getElem?_set_ne (by omega), c2], ?_⟩
    rw [List.getElem_set_self]
    exact hn
  · refine ⟨by rw [List.getElem?_set_ne (by omega), c1, List.getElem_set_ne e], n, by rw [List.getElem?_set_ne (by omega), c2], ?_⟩
    rw [List.getElem_set_ne e]
    exact hn

theorem ownsRow_form' {w : World} {base size n : Nat} {e : TypeId} {v : Value} {xs : List Value} (h : w.ownsRow base e size v n xs) (hn : 0 < n) : ∃ g cap, v = .slice (some ⟨g, 0, none⟩) n cap := by
  obtain ⟨_, h1⟩ := h
  rcases h1 with ⟨_, h⟩ | ⟨g, cap, cur, rfl, _⟩
  · omega
  · exact ⟨g, cap, rfl⟩
section
variable {w : World} {ops : Array Oper} {rest : List Oper} {o : Oper} {a : Act} {Q : Exit → Act → World → Prop}
theorem app_raw (hgd : o.guard = none) (s x : Operand) (ho : o.op = .call { callee := .builtin .append, args := #[s, x], argTypes := #[24, 24] }) (B : Nat) (v : Value) (n : Nat) (xs : List Value) (hs : a.eval s = v) (hown : w.ownsRow B 31 2 v n xs) (hB : B ≤ w.heap.size)
    (src : Option Addr) (m c : Nat) (news : List Value) (hx : a.eval x = .slice src m c) (hl : news.length = m * 2) (hrow : Row w 31 src news) (h1 : ∀ u ∈ news, u.oneCell' = true) (hn : n + m ≤ lim)
    (h : ∀ v' w', w'.ownsRow B 31 2 v' (n + m) (xs ++ news) → KT 31 w w' → Below B w w' → wpList Try.prog ops Q rest (a.put o.dst v') w') : wpList Try.prog ops Q (o :: rest) a w :=
  wpList_plain hgd fun _ hK => wp_app elt_unit s x ho B v n xs hs hown hB src m c news hx hl _ hrow h1 (by unfold lim at hn; omega) (by unfold lim at hn; unfold maxLen; omega) fun v' w' k1 k2 k3 => hK _ _ (h v' w' k1 k2 k3)
end

set_option maxHeartbeats 8000000 in
theorem walk (v u : Value) (n m : Nat) (w : World) (h : ArgCode w v n) (k : ArgCode w u m) :
    Calls Try.prog 3 #[v, u] w fun e w' => e = .returned (.bool true) ∧ Ext w w' := by
  have h2 := h
  obtain ⟨_, ac, cc, rfl, -⟩ := h2
  have k2 := k
  obtain ⟨_, am, cm, rfl, -⟩ := k2
  clear k
  by_cases hbig : 1048576 < n
  · go_enter Try.func3, Try.ntmps3
    go_wp2
    go_ret
    exact ⟨rfl, Ext.refl _⟩
  have hsm : n ≤ 1048576 := by omega
  clear hbig
  by_cases hbig : 1048576 < m
  · go_enter Try.func3, Try.ntmps3
    go_wp2
    go_ret
    exact ⟨rfl, Ext.refl _⟩
  have hsm2 : m ≤ 1048576 := by omega
  clear hbig
  go_enter Try.func3, Try.ntmps3
  go_wp2_with fail
  refine (DrawClusterValid_any _ _ _ h).mono ?_
  rintro e w1 ⟨ra, rc, ua, uc, c, rfl, hc, hu, hd, E1⟩
  have C2 := Lib.hid (hc.ext ((Ext.refl w1).alloc (Obj.cells #[.slice ra c.room.length rc, .slice ua c.us.length uc] 26)))
  have F2 := Lib.hid (E1.alloc (Obj.cells #[.slice ra c.room.length rc, .slice ua c.us.length uc] 26))
  have O2 := Lib.hid (heap_alloc_new w1 (Obj.cells #[.slice ra c.room.length rc, .slice ua c.us.length uc] 26))
  have NW := Lib.hid (show weighC c ≤ 2097152 by have := hd.weigh; omega)
  have DL := Lib.hid hd
  clear hc hu hd E1 h
  go_wp2_with fail
  obtain ⟨X, hX⟩ : ∃ X, X = w1.heap.size := ⟨_, rfl⟩
  rw [← hX] at O2
  rw [← hX]
  clear hX
  generalize w1.alloc (Obj.cells #[.slice ra c.room.length rc, .slice ua c.us.length uc] 26) = w2 at *
  refine (ClusterValid_any _ c _ C2.out NW.out).mono ?_
  rintro e w3 ⟨rfl, hE⟩
  have F3 := Lib.hid (F2.out.trans hE)
  have C3 := Lib.hid (C2.out.ext hE)
  have O3 := Lib.hid ((hE.block (lt_of_heap O2.out)).trans O2.out)
  have x0 := cell_of_heap O3.out 0
  have x1 := cell_of_heap O3.out 1
  clear hE C2 F2
  go_wp2_with fail
  refine (sClusterValid_any _ c _ C3.out NW.out).mono ?_
  rintro e w5 ⟨rfl, hE⟩
  have C5 := Lib.hid (C3.out.ext hE)
  have F5 := Lib.hid (F3.out.trans hE)
  have O5 := Lib.hid ((hE.block (lt_of_heap O3.out)).trans O3.out)
  clear hE C3 F3 O3 x0 x1
  cases hv : clusterB c with
  | false =>
    go_wp2
    go_ret
    exact ⟨rfl, F5.out⟩
  | true =>
    have hpos := (clu_ok hv).2
    have hus := DL.out.us
    obtain ⟨q, hq, eq⟩ : ∃ q : Nat, q < c.us.length ∧ (m : Int) % (c.us.length : Int) = (q : Int) := ⟨m % c.us.length, Nat.mod_lt _ (by omega), by simp⟩
    have HX0 := Lib.hid (part_room c)
    have HY0 := Lib.hid (part_shut hv hq)
    have U5 := Lib.hid (show Units w5 (.slice ua c.us.length uc) c.us by obtain ⟨r, u, he, _, h2⟩ := C5.out; cases he; exact h2)
    have I5 := Lib.hid (show Ints w5 (.slice ra c.room.length rc) c.room by obtain ⟨r, u, he, h1, _⟩ := C5.out; cases he; exact h1)
    obtain ⟨ub, uo, nd, rfl, -, cq, ht⟩ := U5.out.at hq
    obtain ⟨ta, tc, rfl, -⟩ := ht.open
    have CQ := Lib.hid cq
    have x0 := cell_of_heap O5.out 0
    have x1 := cell_of_heap O5.out 1
    have NX := Lib.hid (show weighC ⟨[], c.us⟩ ≤ 2097152 by have := NW.out; unfold weighC at this ⊢; simp only [List.length_nil]; omega)
    have NY := Lib.hid (show weighC ⟨c.room, c.us.set q ⟨false, c.us[q].ts⟩⟩ ≤ 2097152 by have := (DL.out.openAt hq false).weigh; omega)
    clear cq ht hv hpos C5
    -- the copy x
    have A6 := Lib.hid (heap_alloc_new w5 (Obj.cells #[.slice ra c.room.length rc, .slice (some ⟨ub, uo, none⟩) c.us.length uc] 26))
    have E6 := Lib.hid ((Ext.refl w5).alloc (Obj.cells #[.slice ra c.room.length rc, .slice (some ⟨ub, uo, none⟩) c.us.length uc] 26))
    have X8lt := E6.out.le
    obtain ⟨X8, hX8⟩ : ∃ X8, X8 = w5.heap.size := ⟨_, rfl⟩
    rw [← hX8] at A6
    go_upto_region 9 with fail
    rw [← hX8]
    have l8 : w5.heap.size ≤ X8 := by omega
    have l8b : X8 < w5.heap.size + 1 := by omega
    clear hX8
    generalize w5.alloc (Obj.cells #[.slice ra c.room.length rc, .slice (some ⟨ub, uo, none⟩) c.us.length uc] 26) = w6 at *
    clear x0 x1
    -- its room
    have A6' := heap_skip w6 (.cells #[] 3) A6.out
    have y0 := cell_of_heap A6' 0
    have g0 := frozen_of_heap A6' 0
    have A7 := Lib.hid (heap_put (k := 0) A6' (.slice (some ⟨w6.heap.size, 0, none⟩) 0 0))
    have E7 := Lib.hid ((E6.out.alloc (.cells #[] 3)).setCell (p := ⟨X8, 0, none⟩) (show w5.heap.size ≤ X8 by omega) (.slice (some ⟨w6.heap.size, 0, none⟩) 0 0))
    obtain ⟨rz, hrz⟩ : ∃ rz, rz = w6.heap.size := ⟨_, rfl⟩
    rw [← hrz] at A7 E7
    go_upto_region 10 with fail
    rw [← hrz]
    clear y0 g0 A6' A6 E6 hrz
    generalize (w6.alloc (.cells #[] 3)).setCell ⟨X8, 0, none⟩ (.slice (some ⟨rz, 0, none⟩) 0 0) = w7 at *
    have A7b := Lib.hid (show w7.heap[X8]? = some (Obj.cells #[.slice (some ⟨rz, 0, none⟩) 0 0, .slice (some ⟨ub, uo, none⟩) c.us.length uc] 26) by simpa using A7.out)
    clear A7
    have O7 := Lib.hid ((E7.out.block (lt_of_heap O5.out)).trans O5.out)
    have x0 := cell_of_heap O7.out 0
    have x1 := cell_of_heap O7.out 1
    -- the copy y
    have A8 := Lib.hid (heap_alloc_new w7 (Obj.cells #[.slice ra c.room.length rc, .slice (some ⟨ub, uo, none⟩) c.us.length uc] 26))
    have E8 := Lib.hid (E7.out.alloc (Obj.cells #[.slice ra c.room.length rc, .slice (some ⟨ub, uo, none⟩) c.us.length uc] 26))
    obtain ⟨X9, hX9⟩ : ∃ X9, X9 = w7.heap.size := ⟨_, rfl⟩
    rw [← hX9] at A8
    have hX98 : X8 < X9 := by have := lt_of_heap A7b.out; omega
    have B8 := Lib.hid (heap_skip w7 (Obj.cells #[.slice ra c.room.length rc, .slice (some ⟨ub, uo, none⟩) c.us.length uc] 26) A7b.out)
    go_upto_region 11 with fail
    rw [← hX9]
    have l9 : w7.heap.size ≤ X9 := by omega
    clear hX9
    generalize w7.alloc (Obj.cells #[.slice ra c.room.length rc, .slice (some ⟨ub, uo, none⟩) c.us.length uc] 26) = w8 at *
    clear x0 x1
    -- its units
    obtain ⟨_, ua', uc', xs, hus', hrow, hcells⟩ := U5.out
    simp only [Value.slice.injEq, true_and] at hus'
    obtain ⟨rfl, rfl⟩ := hus'
    have E8u := Lib.hid ((Ext.refl w8).alloc (.cells #[] 31))
    have HR := Lib.hid (hrow.ext (E8.out.trans E8u.out))
    have HC := Lib.hid hcells
    have HO := Lib.hid (World.ownsRow_lit (e := 31) (size := 2) w8 #[] 0 (Nat.le_refl _) (by simp [maxLen]) rfl)
    have O8u := Lib.hid (((E8.out.alloc (.cells #[] 31)).block (lt_of_heap O5.out)).trans O5.out)
    have x0 := cell_of_heap O8u.out 0
    have x1 := cell_of_heap O8u.out 1
    clear hrow hcells
    go_upto_region 12 with (at_builtin; refine app_raw rfl _ _ rfl w8.heap.size _ 0 [] rfl HO.out E8u.out.le _ c.us.length uc xs rfl HC.out.1 HR.out (units_one HC.out) (by unfold lim; omega) ?_; intro v9 w9 hown hkt hbl; rw [List.nil_append, Nat.zero_add] at hown; obtain ⟨gy, cy, hv9, hgl⟩ : ∃ gy cy, v9 = .slice (some ⟨gy, 0, none⟩) c.us.length cy ∧ w8.heap.size ≤ gy := (by obtain ⟨g, cp, hf⟩ := ownsRow_form' hown (by omega); exact ⟨g, cp, hf, (hown.lt g (by rw [hf]; rfl)).1⟩); subst hv9; have W9 := Lib.hid hown; have E9 := Lib.hid (show Ext w8 w9 from E8u.out.below hbl); have B9 := Lib.hid ((E9.out.block (lt_of_heap B8.out)).trans B8.out); have A9 := Lib.hid ((E9.out.block (lt_of_heap A8.out)).trans A8.out); have y0 := cell_of_heap A9.out 0; have y1 := cell_of_heap A9.out 1; have f0 := frozen_of_heap A9.out 0; have f1 := frozen_of_heap A9.out 1; clear hown hkt hbl x0 x1)
    have O9 := Lib.hid ((E9.out.block (lt_of_heap ((E8.out.block (lt_of_heap O5.out)).trans O5.out))).trans ((E8.out.block (lt_of_heap O5.out)).trans O5.out))
    have hlX : X < w5.heap.size := lt_of_heap O5.out
    have P9 := cbox_put1 A9.out (.slice (some ⟨gy, 0, none⟩) c.us.length cy)
    have EF := Lib.hid (((E8.out.trans E9.out).setCell (p := ⟨X9, 1, none⟩) (show w5.heap.size ≤ X9 by omega) (.slice (some ⟨gy, 0, none⟩) c.us.length cy)))
    have AF := Lib.hid P9.2.1
    have OF := Lib.hid ((P9.2.2 X (by omega)).trans O9.out)
    have BF := Lib.hid ((P9.2.2 X8 (by omega)).trans B9.out)
    have WF := Lib.hid (ownsRow_kt W9.out P9.1 (by decide))
    clear P9 A9 O9 B9 W9 y0 y1 f0 f1 A8 B8 O8u HO HR E8u
    generalize w9.setCell ⟨X9, 1, none⟩ (.slice (some ⟨gy, 0, none⟩) c.us.length cy) = wf at *
    have x0 := cell_of_heap OF.out 0
    have x1 := cell_of_heap OF.out 1
    have y0 := cell_of_heap AF.out 0
    have y1 := cell_of_heap AF.out 1
    have m0 : ¬ (c.us.length : Int) = 0 := by omega
    have i0 : (0 : Int) ≤ (q : Int) := by omega
    have i1 : (q : Int) < (c.us.length : Int) := by omega
    obtain ⟨hopq, nq, hnq, -⟩ := HC.out.2 q hq
    have cq0 : wf.cell? ⟨gy, q * 2, none⟩ = some (.bool c.us[q].op) := (World.ownsRow.cellAt WF.out (q * 2) (by omega)).trans hopq
    have fq0 : wf.frozen? ⟨gy, q * 2, none⟩ = false := World.ownsRow.frozenAt WF.out (q * 2)
    have PG := Lib.hid (ownsRow_put WF.out (k := q * 2) (by have := HC.out.1; omega) (.bool false))
    have EG := Lib.hid (EF.out.setCell (p := ⟨gy, q * 2, none⟩) (show w5.heap.size ≤ gy by have := E8.out.le; omega) (.bool false))
    have AG := Lib.hid ((PG.out.2.1.2 _ _ _ _ AF.out (by decide)).trans AF.out)
    have OG := Lib.hid ((PG.out.2.1.2 _ _ _ _ OF.out (by decide)).trans OF.out)
    have BG := Lib.hid ((PG.out.2.1.2 _ _ _ _ BF.out (by decide)).trans BF.out)
    have WG := Lib.hid PG.out.1
    have UX := Lib.hid (show UnitCells w5 xs c.us → True from fun _ => trivial)
    clear hnq
    go_upto_region 14 with fail
    clear UX x0 x1 y0 y1 cq0 fq0 PG
    generalize wf.setCell ⟨gy, q * 2, none⟩ (.bool false) = w9' at *
    obtain ⟨w9, rfl⟩ : ∃ w, w = w9' := ⟨_, rfl⟩
    have KS := Lib.hid (show ∀ w', Ext w9 w' → w'.heap[X]? = some (Obj.cells #[.slice ra c.room.length rc, .slice (some ⟨ub, uo, none⟩) c.us.length uc] 26) ∧ w'.heap[X8]? = some (Obj.cells #[.slice (some ⟨rz, 0, none⟩) 0 0, .slice (some ⟨ub, uo, none⟩) c.us.length uc] 26) ∧ w'.heap[X9]? = some (Obj.cells #[.slice ra c.room.length rc, .slice (some ⟨gy, 0, none⟩) c.us.length cy] 26) ∧ w'.cell? ⟨ub, uo + q * 2 + 1, none⟩ = some (.slice ta c.us[q].ts.length tc) from
      fun w' h => ⟨(h.block (lt_of_heap OG.out)).trans OG.out, (h.block (lt_of_heap BG.out)).trans BG.out, (h.block (lt_of_heap AG.out)).trans AG.out, h.cell (EG.out.cell CQ.out)⟩)
    have CX := Lib.hid (show Clu w9 (.agg #[.slice (some ⟨rz, 0, none⟩) 0 0, .slice (some ⟨ub, uo, none⟩) c.us.length uc]) ⟨[], c.us⟩ from ⟨_, _, rfl, ⟨by simp [lim], _, _, rfl, .inl rfl⟩, U5.out.ext EG.out⟩)
    have CY := Lib.hid (show Clu w9 (.agg #[.slice ra c.room.length rc, .slice (some ⟨gy, 0, none⟩) c.us.length cy]) ⟨c.room, c.us.set q ⟨false, c.us[q].ts⟩⟩ from ⟨_, _, rfl, I5.out.ext EG.out, Units.of_own WG.out (units_shut (HC.out.ext EG.out) hq) (by simp [lim]; omega)⟩)
    clear WG HC U5 I5 CQ
    refine wp_region_held_drew (S := fun w' => w'.heap[X]? = some (Obj.cells #[.slice ra c.room.length rc, .slice (some ⟨ub, uo, none⟩) c.us.length uc] 26) ∧ w'.heap[X8]? = some (Obj.cells #[.slice (some ⟨rz, 0, none⟩) 0 0, .slice (some ⟨ub, uo, none⟩) c.us.length uc] 26) ∧ w'.heap[X9]? = some (Obj.cells #[.slice ra c.room.length rc, .slice (some ⟨gy, 0, none⟩) c.us.length cy] 26) ∧ w'.cell? ⟨ub, uo + q * 2 + 1, none⟩ = some (.slice ta c.us[q].ts.length tc)) (by kernel_rfl) (KS.out _ (Ext.refl w9).drew) (fun hHeld => ?_)
    refine takeH (i := 0) (d := some 55) (v := ?_) rfl rfl (by kernel_rfl) (by kernel_rfl) (by kernel_rfl) (fun _ _ _ h => h) (by rfl) ?_ (by assumption) ?_
    rotate_left
    · intro w hSw; (try dsimp only at hSw); (try have l0 := cell_of_heap hSw.2.1 0; have l1 := cell_of_heap hSw.2.1 1; go_simp); (try with_reducible rfl)
    try simp only [Act.put, List.setIfInBounds_toArray, List.set_cons_zero, List.set_cons_succ]
    refine oneH (i := 1) (by kernel_rfl) rfl (by rfl) (fun K hK => ?_)
    go_simp
    refine (ClusterValid_any _ ⟨[], c.us⟩ _ (CX.out.ext (Ext.refl w9).drew) NX.out).mono ?_; rintro e w10 ⟨rfl, hE⟩; have EA := Lib.hid ((Ext.refl w9).drew.trans hE); clear hE; rw [HX0.out]
    try dsimp only
    refine hK.out _ _ (KS.out _ EA.out) (fun hHeld => ?_)
    clear hK K
    try simp only [Act.put, List.setIfInBounds_toArray, List.set_cons_zero, List.set_cons_succ]
    refine takeH (i := 2) (d := some 57) (v := ?_) rfl rfl (by kernel_rfl) (by kernel_rfl) (by kernel_rfl) (fun _ _ _ h => h) (by rfl) ?_ (by assumption) ?_
    rotate_left
    · intro w hSw; (try dsimp only at hSw); (try go_simp); (try with_reducible rfl)
    try simp only [Act.put, List.setIfInBounds_toArray, List.set_cons_zero, List.set_cons_succ]
    refine takeH (i := 3) (d := some 58) (v := ?_) rfl rfl (by kernel_rfl) (by kernel_rfl) (by kernel_rfl) (fun _ _ _ h => h) (by rfl) ?_ (by assumption) ?_
    rotate_left
    · intro w hSw; (try dsimp only at hSw); (try go_simp); (try with_reducible rfl)
    try simp only [Act.put, List.setIfInBounds_toArray, List.set_cons_zero, List.set_cons_succ]
    refine takeH (i := 4) (d := some 59) (v := ?_) rfl rfl (by kernel_rfl) (by kernel_rfl) (by kernel_rfl) (fun _ _ _ h => h) (by rfl) ?_ (by assumption) ?_
    rotate_left
    · intro w hSw; (try dsimp only at hSw); (try have l0 := cell_of_heap hSw.2.2.1 0; have l1 := cell_of_heap hSw.2.2.1 1; go_simp); (try with_reducible rfl)
    try simp only [Act.put, List.setIfInBounds_toArray, List.set_cons_zero, List.set_cons_succ]
    refine takeH (i := 6) (d := some 61) (v := ?_) rfl rfl (by kernel_rfl) (by kernel_rfl) (by kernel_rfl) (fun _ _ _ h => h) (by rfl) ?_ (by assumption) ?_
    rotate_left
    · intro w hSw; (try dsimp only at hSw); (try go_simp); (try with_reducible rfl)
    try simp only [Act.put, List.setIfInBounds_toArray, List.set_cons_zero, List.set_cons_succ]
    refine takeH (i := 7) (d := some 62) (v := ?_) rfl rfl (by kernel_rfl) (by kernel_rfl) (by kernel_rfl) (fun _ _ _ h => h) (by rfl) ?_ (by assumption) ?_
    rotate_left
    · intro w hSw; (try dsimp only at hSw); (try have l0 := cell_of_heap hSw.1 0; have l1 := cell_of_heap hSw.1 1; go_simp); (try with_reducible rfl)
    try simp only [Act.put, List.setIfInBounds_toArray, List.set_cons_zero, List.set_cons_succ]
    refine takeH (i := 8) (d := some 63) (v := ?_) rfl rfl (by kernel_rfl) (by kernel_rfl) (by kernel_rfl) (fun _ _ _ h => h) (by rfl) ?_ (by assumption) ?_
    rotate_left
    · intro w hSw; (try dsimp only at hSw); (try go_simp); (try with_reducible rfl)
    try simp only [Act.put, List.setIfInBounds_toArray, List.set_cons_zero, List.set_cons_succ]
    refine takeH (i := 9) (d := some 64) (v := ?_) rfl rfl (by kernel_rfl) (by kernel_rfl) (by kernel_rfl) (fun _ _ _ h => h) (by rfl) ?_ (by assumption) ?_
    rotate_left
    · intro w hSw; (try dsimp only at hSw); (try go_simp); (try with_reducible rfl)
    try simp only [Act.put, List.setIfInBounds_toArray, List.set_cons_zero, List.set_cons_succ]
    refine takeH (i := 10) (d := some 65) (v := ?_) rfl rfl (by kernel_rfl) (by kernel_rfl) (by kernel_rfl) (fun _ _ _ h => h) (by rfl) ?_ (by assumption) ?_
    rotate_left
    · intro w hSw; (try dsimp only at hSw); (try go_simp); (try with_reducible rfl)
    try simp only [Act.put, List.setIfInBounds_toArray, List.set_cons_zero, List.set_cons_succ]
    refine takeH (i := 11) (d := some 66) (v := ?_) rfl rfl (by kernel_rfl) (by kernel_rfl) (by kernel_rfl) (fun _ _ _ h => h) (by rfl) ?_ (by assumption) ?_
    rotate_left
    · intro w hSw; (try dsimp only at hSw); (try have l0 := hSw.2.2.2; go_simp); (try with_reducible rfl)
    try simp only [Act.put, List.setIfInBounds_toArray, List.set_cons_zero, List.set_cons_succ]
    refine takeH (i := 12) (d := some 67) (v := ?_) rfl rfl (by kernel_rfl) (by kernel_rfl) (by kernel_rfl) (fun _ _ _ h => h) (by rfl) ?_ (by assumption) ?_
    rotate_left
    · intro w hSw; (try dsimp only at hSw); (try go_simp); (try with_reducible rfl)
    try simp only [Act.put, List.setIfInBounds_toArray, List.set_cons_zero, List.set_cons_succ]
    refine takeH (i := 13) (d := some 68) (v := ?_) rfl rfl (by kernel_rfl) (by kernel_rfl) (by kernel_rfl) (fun _ _ _ h => h) (by rfl) ?_ (by assumption) ?_
    rotate_left
    · intro w hSw; (try dsimp only at hSw); (try go_simp); (try with_reducible rfl)
    try simp only [Act.put, List.setIfInBounds_toArray, List.set_cons_zero, List.set_cons_succ]
    refine oneH (i := 5) (by kernel_rfl) rfl (by rfl) (fun K hK => ?_)
    go_simp
    refine (ClusterValid_any _ ⟨c.room, c.us.set q ⟨false, c.us[q].ts⟩⟩ _ (CY.out.ext EA.out) NY.out).mono ?_; rintro e w11 ⟨rfl, hE⟩; have EB := Lib.hid (EA.out.trans hE); clear hE; rw [HY0.out]
    try dsimp only
    refine hK.out _ _ (KS.out _ EB.out) (fun hHeld => ?_)
    clear hK K
    try simp only [Act.put, List.setIfInBounds_toArray, List.set_cons_zero, List.set_cons_succ]
    refine takeH (i := 14) (d := some 69) (v := ?_) rfl rfl (by kernel_rfl) (by kernel_rfl) (by kernel_rfl) (fun _ _ _ h => h) (by rfl) ?_ (by assumption) ?_
    rotate_left
    · intro w hSw; (try dsimp only at hSw); (try go_simp); (try with_reducible rfl)
    try simp only [Act.put, List.setIfInBounds_toArray, List.set_cons_zero, List.set_cons_succ]
    refine takeH (i := 15) (d := some 70) (v := ?_) rfl rfl (by kernel_rfl) (by kernel_rfl) (by kernel_rfl) (fun _ _ _ h => h) (by rfl) ?_ (by assumption) ?_
    rotate_left
    · intro w hSw; (try dsimp only at hSw); (try go_simp); (try with_reducible rfl)
    try simp only [Act.put, List.setIfInBounds_toArray, List.set_cons_zero, List.set_cons_succ]
    refine takeH (i := 16) (d := some 4) (v := ?_) rfl rfl (by kernel_rfl) (by kernel_rfl) (by kernel_rfl) (fun _ _ _ h => h) (by rfl) ?_ (by assumption) ?_
    rotate_left
    · intro w hSw; (try dsimp only at hSw); (try go_simp); (try with_reducible rfl)
    try simp only [Act.put, List.setIfInBounds_toArray, List.set_cons_zero, List.set_cons_succ]
    refine wpAnyH_done (by kernel_rfl) ?_ _
    go_wp2
    go_ret
    exact ⟨rfl, (F5.out.trans EG.out).trans EB.out⟩

theorem own : ownKnob Try.prog.godebug = none := by kernel_rfl
theorem laidOut : laidOutB Try.prog = true := by kernel_rfl

set_option maxRecDepth 100000 in
theorem lifted (os : Os) (started : os.Started) (H : Type) (enc : TypeId × Value → H) :
    ReturnsInHanded {} Try.checked os 3 .any (Rows.fnClusterPartSpec.pre6 enc Try.prog Try.f3 Rows.fnClusterPartRow.domain false) (Rows.fnClusterPartSpec.post enc Try.prog Try.f3 false true false false) := by
  refine returnsInHanded_of_change (C := Try.checked) own started (by kernel_rfl) Try.func3
    (ChangeSpec.witness6 (enc := enc) (C := Try.checked) false ⟨#[], #[.slice none 0 0, .slice none 0 0], []⟩ 8 (by kernel_rfl) (by kernel_rfl) (by kernel_rfl) (by kernel_rfl)) ?_
  intro W base args ds gs before hval0 hW hcnd _
  have hval : ∀ (j : Nat) t v, Try.f3.params[j]? = some t → args[j]? = some v → Value.okWide Try.prog W .any base t v := hval0
  have hW' := hW
  obtain ⟨p, q, hA0, hV, rfl, hfz, hnd⟩ := hW
  have hA : DataW.TrodAll enc Try.prog W 0 (fun _ => true) true Try.f3.params.toList args.toList ds p := hA0
  rw [Try.params3] at hA hval
  obtain ⟨v0, vs0, d0, ds0, p0, q0, hargs, rfl, rfl, h0, r0⟩ := trodAll_cons hA
  obtain ⟨v1, vs1, d1, ds1, p1, q1, rfl, rfl, rfl, h1, r1⟩ := trodAll_cons r0
  obtain ⟨rfl, rfl, rfl⟩ := trodAll_nil r1
  obtain rfl : args = #[v0, v1] := by cases args; simp_all
  obtain ⟨rfl, rfl⟩ := trodVars_none hV
  have lt0 : ∀ x ∈ p0, x.block < W.heap.size := by obtain ⟨m, hm⟩ := h0; exact DataW.trod_lt m _ _ _ hm
  have lt1 : ∀ x ∈ p1, x.block < W.heap.size := by obtain ⟨m, hm⟩ := h1; exact DataW.trod_lt m _ _ _ hm
  obtain ⟨x0, e0⟩ := argCode_of h0 (okWide_slice Try.underlying22 (hval 0 22 v0 rfl rfl))
  obtain ⟨x1, e1⟩ := argCode_of h1 (okWide_slice Try.underlying22 (hval 1 22 v1 rfl rfl))
  clear hA0 hval0
  refine (walk v0 v1 x0 x1 W e0 e1).mono fun e W' ⟨he, bel⟩ => ?_
  subst he
  exact ⟨_, rfl, _, _, _, [], _, [], hW', trodAll_mk1 (shut_bool Try.underlying4 _), (trodAll_cons_mk (Below.trod laidOut (by kernel_rfl) (of_decide_eq_true (by kernel_rfl)) h0 bel lt0) (trodAll_cons_mk (Below.trod laidOut (by kernel_rfl) (of_decide_eq_true (by kernel_rfl)) h1 bel lt1) trodAll_mk0)), rfl, Below.frame bel _, fun h => by cases h⟩

theorem closed : joinedFacts Try.prog 3 Try.f3 Rows.fnClusterPartSpec Rows.fnClusterPartRow = true := by
  unfold joinedFacts
  rw [may_enter, lifts_final, make_cut]
  kernel_rfl

theorem proved : Rows.FnClusterPartSaid :=
  OpenClaim.holds_of_wide 3 Try.f3 rfl rfl rfl rfl rfl rfl rfl ⟨rfl, rfl, rfl, rfl, rfl⟩ rfl rfl rfl rfl rfl (by kernel_rfl) Try.func3 closed
    (of_decide_eq_true (by kernel_rfl)) (by unfold Func.isWrapper; first | (rw [if_pos (by decide +kernel)]; kernel_rfl) | (rw [if_neg (by decide +kernel)]; exact ⟨rfl, rfl⟩))
    (fun os started H enc _ => lifted os started H enc)

end Go.Proofs.Ytfidamjepjgknaa.l42
