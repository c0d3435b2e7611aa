/- Clusters: the places of open nodes, by the program. No condition. -/
import Derived.Test.YtcijbpjiioodlaaSp
import Derived.Test.YtcijbpjiioodlaaI11
namespace Go.Proofs.Ytcijbpjiioodlaa
set_option maxRecDepth 100000
open Go.RowKit

set_option maxHeartbeats 1000000 in
theorem maxS_any (v : Value) (xs : List Int) (w : World) (h : Ints w v xs) (hv : VecOk xs) :
    Calls Try.prog 145 #[v] w fun e w' => (∃ m : Int, e = .returned (.int .i64 m) ∧ decide (0 < m) = decide (0 < sumN xs)) ∧ w = w' := by
  obtain ⟨a, cap, rfl, h⟩ := h.open
  obtain ⟨x, y, z, rfl, h1, h2, h3, h4, h5, h6⟩ := hv.three
  obtain ⟨b, off, rfl, hc⟩ := h.at (by simp)
  have c0 := hc 0 (by simp)
  have c1 := hc 1 (by simp)
  have c2 := hc 2 (by simp)
  simp only [List.getElem_cons_zero, List.getElem_cons_succ, Nat.add_zero] at c0 c1 c2
  have Hx : Hid (decide (0 < x) = decide (0 < sumN [x, y, z]) ∨ ¬ (y ≤ x ∧ z ≤ x)) := by
    by_cases h : y ≤ x ∧ z ≤ x
    · refine .inl (decide_eq_decide.2 ?_); simp only [sumN, List.foldl_cons, List.foldl_nil]; omega
    · exact .inr h
  have Hy : Hid (decide (0 < y) = decide (0 < sumN [x, y, z]) ∨ ¬ (x ≤ y ∧ z ≤ y)) := by
    by_cases h : x ≤ y ∧ z ≤ y
    · refine .inl (decide_eq_decide.2 ?_); simp only [sumN, List.foldl_cons, List.foldl_nil]; omega
    · exact .inr h
  have Hz : Hid (decide (0 < z) = decide (0 < sumN [x, y, z]) ∨ ¬ (x ≤ z ∧ y ≤ z)) := by
    by_cases h : x ≤ z ∧ y ≤ z
    · refine .inl (decide_eq_decide.2 ?_); simp only [sumN, List.foldl_cons, List.foldl_nil]; omega
    · exact .inr h
  clear hc h
  simp only [List.length_cons, List.length_nil]
  go_enter Try.func145, Try.ntmps145
  go_wp2
  refine wp_loop_rounds 3 ?_
  rw [rounds_succ]
  go_wp2
  all_goals (rw [rounds_succ]; go_wp2)
  all_goals (rw [rounds_succ]; go_wp2)
  all_goals go_ret
  all_goals refine ⟨⟨_, rfl, ?_⟩, rfl⟩
  all_goals first
    | exact Hx.out.resolve_right (fun h => h (by omega))
    | exact Hy.out.resolve_right (fun h => h (by omega))
    | exact Hz.out.resolve_right (fun h => h (by omega))

set_option maxHeartbeats 400000 in
theorem needValid_any (v : Value) (need : List Int) (w : World) (h : Ints w v need) :
    Calls Try.prog 93 #[v] w fun e w' => e = .returned (.bool (vecB need && decide (0 < sumN need))) ∧ w = w' := by
  cases hv : vecB need with
  | false =>
    go_enter Try.func93, Try.ntmps93
    go_wp2_with fail
    have cc := VecValid_any _ _ _ h
    rw [hv] at cc
    refine cc.mono ?_
    clear cc
    rintro e w3 ⟨rfl, rfl⟩
    go_wp2
    go_ret
    exact ⟨rfl, rfl⟩
  | true =>
    go_enter Try.func93, Try.ntmps93
    go_wp2_with fail
    have cc := VecValid_any _ _ _ h
    rw [hv] at cc
    refine cc.mono ?_
    clear cc
    rintro e w3 ⟨rfl, rfl⟩
    go_wp2_with fail
    refine (maxS_any _ _ _ h (vecB_iff.1 hv)).mono ?_
    rintro e w4 ⟨⟨m, rfl, hm⟩, rfl⟩
    have HM := Lib.hid hm
    clear hm
    go_wp2
    go_ret
    exact ⟨ret_bool (by rw [HM.out]; first | rfl | simp), rfl⟩

set_option maxHeartbeats 400000 in
theorem placer_any (ra na : Option Addr) (m k rc nc : Nat) (w : World) :
    Calls Try.prog 146 #[.slice ra m rc, .slice na k nc] w fun e w' => e = .returned (.func (.func 173) #[] #[.pointer (some ⟨w.heap.size, 0, none⟩), .pointer (some ⟨w.heap.size + 1, 0, none⟩)]) ∧ w' = (w.alloc (.cells #[.slice ra m rc] 22)).alloc (.cells #[.slice na k nc] 22) := by
  have hmf := makes_func
  go_enter Try.func146, Try.ntmps146
  go_wp2
  go_ret
  exact ⟨rfl, rfl⟩

set_option maxHeartbeats 2000000 in
theorem placerF_any (v : Value) (room need : List Int) (ts : List T) (pa pb : Nat) (ra na : Option Addr) (rc nc : Nat) (w : World) (h : Tasks w v ts) (ha : w.cell? ⟨pa, 0, none⟩ = some (.slice ra room.length rc)) (hb : w.cell? ⟨pb, 0, none⟩ = some (.slice na need.length nc)) (hr : Ints w (.slice ra room.length rc) room) (hn : Ints w (.slice na need.length nc) need)
    (hl : VecOk (addL room (loadL ts) (-1))) (hg : Good ts) (h3 : room.length = 3 ∧ Bd 1000000 room) (h4 : (loadL ts).length = 3 ∧ Bd 1000000 (loadL ts)) (hv : VecOk need) :
    Calls Try.prog 173 #[v, .pointer (some ⟨pa, 0, none⟩), .pointer (some ⟨pb, 0, none⟩)] w fun e w' => e = .returned (.int .i64 (nodeT room need ts)) ∧ Ext w w' := by
  obtain ⟨ta, tc, rfl, ht⟩ := h.open
  have HL := Lib.hid hl
  have HG := Lib.hid hg
  have H3 := Lib.hid h3
  have H4 := Lib.hid h4
  have HV := Lib.hid hv
  have Hr := Lib.hid hr
  have Hn := Lib.hid hn
  have Ht := Lib.hid ht
  have HB := Lib.hid hb
  have HA := Lib.hid ha
  clear hl hg h3 h4 hv hr hn ht h
  go_enter Try.func173, Try.ntmps173
  go_wp2_with fail
  refine wp_region_held_drew (S := fun w' => w'.cell? ⟨pa, 0, none⟩ = some (.slice ra room.length rc) ∧ w'.cell? ⟨pb, 0, none⟩ = some (.slice na need.length nc)) (by kernel_rfl) ⟨HA.out, HB.out⟩ (fun hHeld => ?_)
  refine takeH (i := 0) (d := some 9) (v := ?_) rfl rfl (by kernel_rfl) (by kernel_rfl) (by kernel_rfl) (fun _ _ _ h => h) (by rfl) ?_ (by assumption) ?_
  rotate_left
  · intro w hSw; (try dsimp only at hSw); (try have l0 := hSw.1; go_simp); (try with_reducible rfl)
  try simp only [Act.put, List.setIfInBounds_toArray, List.set_cons_zero, List.set_cons_succ]
  refine takeH (i := 1) (d := some 10) (v := ?_) rfl rfl (by kernel_rfl) (by kernel_rfl) (by kernel_rfl) (fun _ _ _ h => h) (by rfl) ?_ (by assumption) ?_
  rotate_left
  · intro w hSw; (try dsimp only at hSw); (try go_simp); (try with_reducible rfl)
  try simp only [Act.put, List.setIfInBounds_toArray, List.set_cons_zero, List.set_cons_succ]
  refine oneH (i := 2) (by kernel_rfl) rfl (by rfl) (fun K hK => ?_)
  go_simp
  refine (loadOf_any _ ts _ (Ht.out.ext (Ext.refl w).drew) HG.out).mono ?_; rintro e w2 ⟨r2, rfl, hE2, hi2⟩; have X2 := Lib.hid ((Ext.refl w).drew.trans hE2); have I2 := Lib.hid hi2; obtain ⟨ya, yc, hf2, -⟩ := hi2.open; subst hf2; clear hE2
  try dsimp only
  refine hK.out _ _ (⟨X2.out.cell HA.out, X2.out.cell HB.out⟩) (fun hHeld => ?_)
  clear hK K
  try simp only [Act.put, List.setIfInBounds_toArray, List.set_cons_zero, List.set_cons_succ]
  refine oneH (i := 3) (by kernel_rfl) rfl (by rfl) (fun K hK => ?_)
  go_simp
  refine (minus_any _ _ room (loadL ts) _ (Hr.out.ext X2.out) I2.out H3.out.1 H4.out.1 (bd_more H3.out.2) (bd_more H4.out.2)).mono ?_; rintro e w3 ⟨r3, rfl, hE3, hi3⟩; have X3 := Lib.hid (X2.out.trans hE3); obtain ⟨qa, qc, hf3, hi4⟩ := hi3.open; subst hf3; have I3 := Lib.hid hi4; clear hE3 hi4
  try dsimp only
  refine hK.out _ _ (⟨X3.out.cell HA.out, X3.out.cell HB.out⟩) (fun hHeld => ?_)
  clear hK K
  try simp only [Act.put, List.setIfInBounds_toArray, List.set_cons_zero, List.set_cons_succ]
  refine takeH (i := 4) (d := some 5) (v := ?_) rfl rfl (by kernel_rfl) (by kernel_rfl) (by kernel_rfl) (fun _ _ _ h => h) (by rfl) ?_ (by assumption) ?_
  rotate_left
  · intro w hSw; (try dsimp only at hSw); (try go_simp); (try with_reducible rfl)
  try simp only [Act.put, List.setIfInBounds_toArray, List.set_cons_zero, List.set_cons_succ]
  refine wpAnyH_done (by kernel_rfl) ?_ _
  have hcb := X3.out.cell HB.out
  obtain ⟨b, off, hqa, hc⟩ := I3.out.at (by rw [HL.out.1]; omega)
  subst hqa
  have Hc := Lib.hid hc
  have L3 := Lib.hid HL.out.1
  have N3 := Lib.hid HV.out.1
  obtain ⟨b', off', hna, hc'⟩ := (Hn.out.ext X3.out).at (by rw [N3.out]; omega)
  subst hna
  have Hc' := Lib.hid hc'
  have hd0 : Hid (nodeT room need ts = timesK (addL room (loadL ts) (-1)) need 3) := rfl
  generalize addL room (loadL ts) (-1) = l at *
  clear hc hc' ha hb
  rw [L3.out]
  go_wp2_with fail
  go_loopw [6, 15] (fun m i wr => ∃ (k : Nat) (z : Int), k ≤ need.length ∧ i = .int .i64 (k : Int) ∧ m = .int .i64 z ∧ z = timesK l need k ∧ wr = w3) (fun _ i _ => need.length - (intOf i).toNat)
  case atStart => exact ⟨0, 20, Nat.zero_le _, rfl, rfl, rfl, rfl⟩
  case round =>
    obtain ⟨k, z, hk, rfl, rfl, hz, rfl⟩ := hrel
    by_cases hlt : k < need.length
    · have c0 := Hc.out k (by rw [L3.out, ← N3.out]; exact hlt)
      have c1 := Hc'.out k hlt
      have g0 : l[k]'(by rw [L3.out, ← N3.out]; exact hlt) = l.getD k 0 := by simp [List.getD_eq_getElem?_getD, List.getElem?_eq_getElem (show k < l.length by rw [L3.out, ← N3.out]; exact hlt)]
      have g1 : need[k]'hlt = need.getD k 0 := by simp [List.getD_eq_getElem?_getD, List.getElem?_eq_getElem (hlt)]
      rw [g0] at c0
      rw [g1] at c1
      have bl := getD_vec HL.out k
      have bn := getD_vec HV.out k
      have bz := timesK_bound (n := need) HL.out k
      have Hst : Hid (timesK l need (k + 1) = if 0 < need.getD k 0 then min (timesK l need k) (l.getD k 0 / need.getD k 0) else timesK l need k) := rfl
      rw [← hz] at bz Hst
      generalize l.getD k 0 = x at *
      generalize need.getD k 0 = y at *
      have b0 : (0 : Int) ≤ (k : Int) := by omega
      have b1 : (k : Int) < (need.length : Int) := by omega
      have b3 : (k : Int) < 3 := by rw [N3.out] at hlt; omega
      obtain ⟨x0, x1⟩ := bl
      obtain ⟨y0, y1⟩ := bn
      obtain ⟨z0, z1⟩ := bz
      clear g0 g1 hz
      by_cases hy : 0 < y
      · have hy' : (y == 0) = false := beq_eq_false_iff_ne.2 (by omega)
        have Hs2 : Hid (timesK l need (k + 1) = min z (x / y)) := by show timesK l need (k + 1) = min z (x / y); rw [Hst.out, if_pos hy]
        have hq : x.tdiv y = x / y := Int.tdiv_eq_ediv_of_nonneg x0
        have d0 : 0 ≤ x / y := Int.ediv_nonneg x0 (by omega)
        have d1 : x / y ≤ 20 := Int.le_trans (Int.ediv_le_self _ x0) x1
        clear Hst
        go_wp2
        go_roundw
        case rel => exact ⟨k + 1, _, by omega, by go_num, rfl, by rw [Hs2.out]; first | rfl | (rw [hq]) | omega, trivial⟩
        case measure => simp [intOf]; omega
      · have Hs2 : Hid (timesK l need (k + 1) = z) := by show timesK l need (k + 1) = z; rw [Hst.out, if_neg hy]
        clear Hst
        go_wp2
        go_roundw
        case rel => exact ⟨k + 1, z, by omega, by go_num, rfl, Hs2.out.symm, trivial⟩
        case measure => simp [intOf]; omega
    · have e : k = need.length := by omega
      subst e
      subst hz
      go_wp2
      go_ret
      exact ⟨ret_int (by rw [hd0.out, N3.out]), X3.out⟩

set_option maxHeartbeats 2000000 in
theorem spare_any (v u : Value) (c : C) (need : List Int) (w : World) (h : Clu w v c) (hn : Ints w u need) (hb : clusterB c = true) (hv : VecOk need) :
    Calls Try.prog 94 #[v, u] w fun e w' => e = .returned (.int .i64 (spareN c.room need c.us)) ∧ Ext w w' := by
  obtain ⟨ra, rc, ua, uc, rfl, hr, hu⟩ := h.open
  obtain ⟨na, nc, rfl, hn⟩ := hn.open
  have e0 : Ext w (w.alloc (Obj.cells #[.slice ra c.room.length rc, .slice ua c.us.length uc] 30)) := (Ext.refl w).alloc _
  have R0 := Lib.hid (heap_alloc_new w (Obj.cells #[.slice ra c.room.length rc, .slice ua c.us.length uc] 30))
  have HB := Lib.hid hb
  have HV := Lib.hid hv
  have l10 := clusterB_len hb
  clear h hb hv
  go_enter Try.func94, Try.ntmps94
  go_wp2_with fail
  generalize w.alloc (Obj.cells #[.slice ra c.room.length rc, .slice ua c.us.length uc] 30) = W at *
  refine (placer_any _ _ _ _ _ _ _).mono ?_
  rintro e w1 ⟨rfl, rfl⟩
  have eP : Ext W ((W.alloc (.cells #[.slice ra c.room.length rc] 22)).alloc (.cells #[.slice na need.length nc] 22)) := ((Ext.refl W).alloc _).alloc _
  have p0 := heap_skip (W.alloc (.cells #[.slice ra c.room.length rc] 22)) (.cells #[.slice na need.length nc] 22) (heap_alloc_new W (.cells #[.slice ra c.room.length rc] 22))
  have p1 := heap_push (W.alloc (.cells #[.slice ra c.room.length rc] 22)) (.cells #[.slice na need.length nc] 22) (n := W.heap.size + 1) (by simp)
  generalize (W.alloc (.cells #[.slice ra c.room.length rc] 22)).alloc (.cells #[.slice na need.length nc] 22) = W2 at *
  have e2 := e0.trans eP
  have r2 := (eP.block (lt_of_heap R0.out)).trans R0.out
  have x0 := cell_of_heap r2 0
  have x1 := cell_of_heap r2 1
  have E2 := Lib.hid e2
  have Hr := Lib.hid (hr.ext e2)
  have Hn := Lib.hid (hn.ext e2)
  have Hu := Lib.hid (hu.ext e2)
  have P0 := Lib.hid (cell_of_heap p0 0)
  have P1 := Lib.hid (cell_of_heap p1 0)
  clear e0 eP p0 p1 r2 e2 hr hn hu
  go_wp2_with fail
  go_loopw [6, 16] (fun m i wr => ∃ (k : Nat) (z : Int), k ≤ c.us.length ∧ i = .int .i64 (k : Int) ∧ m = .int .i64 z ∧ z = spareN c.room need (c.us.take k) ∧ Ext W2 wr) (fun _ i _ => c.us.length - (intOf i).toNat)
  case atStart => exact ⟨0, 0, by omega, rfl, rfl, rfl, Ext.refl _⟩
  case round =>
    clear x0 x1
    obtain ⟨k, z, hk, rfl, rfl, hz, hE⟩ := hrel
    have bz := spareN_bound HB.out need k hk
    rw [← hz] at bz
    obtain ⟨z0, z1⟩ := bz
    by_cases hlt : k < c.us.length
    · obtain ⟨b, off, nd, rfl, c0, c1, ht⟩ := Hu.out.at hlt
      have c0' := hE.cell c0
      have c1' := hE.cell c1
      obtain ⟨ta, tc, rfl, ht⟩ := ht.open
      have Ht := Lib.hid ht
      have St := spareN_step (room := c.room) (need := need) hlt
      rw [← hz] at St
      clear c0 c1 hz ht
      cases hop : c.us[k].op with
      | true =>
        rw [hop] at c0'
        rw [if_pos hop] at St
        have ST := Lib.hid St
        have X := (Ext.refl wr).alloc (Obj.cells #[.bool true, .slice ta c.us[k].ts.length tc] 38)
        have rb := heap_alloc_new wr (Obj.cells #[.bool true, .slice ta c.us[k].ts.length tc] 38)
        have u0 := cell_of_heap rb 0
        have u1 := cell_of_heap rb 1
        have bt := timesK_bound (n := need) (left_unit HB.out hlt) 3
        obtain ⟨t0, t1⟩ := bt
        have tdef : timesK (addL c.room (loadL c.us[k].ts) (-1)) need 3 = nodeT c.room need c.us[k].ts := rfl
        rw [tdef] at t0 t1
        have EX := Lib.hid (hE.trans X)
        clear St tdef rb hE X
        go_wp2_with (go_at_call 173; refine (placerF_any _ c.room need c.us[k].ts _ _ ra na rc nc _ (Ht.out.ext EX.out) (EX.out.cell P0.out) (EX.out.cell P1.out) (Hr.out.ext EX.out) (Hn.out.ext EX.out) (left_unit HB.out hlt) (unit_good HB.out hlt) (room_ok HB.out).bd (load_good HB.out hlt) HV.out).mono ?_; rintro e w5 ⟨rfl, hE5⟩; have E5 := Lib.hid (EX.out.trans hE5); clear hE5; generalize nodeT c.room need c.us[k].ts = q at *)
        go_roundw
        case rel => exact ⟨k + 1, z + q, by omega, by go_num, by go_num, ST.out.symm, E5.out⟩
        case measure => simp [intOf]; omega
      | false =>
        rw [hop] at c0'
        rw [if_neg (by rw [hop]; simp), Int.add_zero] at St
        have ST := Lib.hid St
        have X := (Ext.refl wr).alloc (Obj.cells #[.bool false, .slice ta c.us[k].ts.length tc] 38)
        have rb := heap_alloc_new wr (Obj.cells #[.bool false, .slice ta c.us[k].ts.length tc] 38)
        have u0 := cell_of_heap rb 0
        have EX := Lib.hid (hE.trans X)
        clear St rb X hE
        go_wp2
        go_roundw
        case rel => exact ⟨k + 1, z, by omega, by go_num, rfl, ST.out.symm, EX.out⟩
        case measure => simp [intOf]; omega
    · have e : k = c.us.length := by omega
      subst e
      rw [List.take_length] at hz
      have HZ := Lib.hid hz
      clear hz
      have F := Lib.hid (E2.out.trans hE)
      go_wp2
      go_ret
      exact ⟨ret_int HZ.out, F.out⟩

set_option maxHeartbeats 1000000 in
theorem SpareCount_any (v u : Value) (c : C) (need : List Int) (w : World) (h : Clu w v c) (hw : weighC c ≤ 2097152) (hn : Ints w u need) :
    Calls Try.prog 39 #[v, u] w fun e w' => e = .returned (.int .i64 (spareI c need)) ∧ Ext w w' := by
  obtain ⟨ra, rc, ua, uc, rfl, -, -⟩ := h.open
  obtain ⟨na, nc, rfl, hn⟩ := hn.open
  have e0 : Ext w (w.alloc (Obj.cells #[.slice ra c.room.length rc, .slice ua c.us.length uc] 30)) := (Ext.refl w).alloc _
  have R0 := Lib.hid (heap_alloc_new w (Obj.cells #[.slice ra c.room.length rc, .slice ua c.us.length uc] 30))
  have HC := Lib.hid (h.ext e0)
  have Hn := Lib.hid (hn.ext e0)
  clear h hn
  cases hb : clusterB c with
  | false =>
    have Hd : Hid (spareI c need = -1) := by show spareI c need = -1; unfold spareI; rw [hb]; rfl
    go_enter Try.func39, Try.ntmps39
    go_wp2_with fail
    have cc := ClusterValid_any _ c _ HC.out hw
    rw [hb] at cc
    refine cc.mono ?_
    clear cc
    rintro e w2 ⟨rfl, hE2⟩
    go_wp2
    go_ret
    exact ⟨ret_int Hd.out.symm, e0.trans hE2⟩
  | true =>
    cases hq : (vecB need && decide (0 < sumN need)) with
    | false =>
      have Hd : Hid (spareI c need = -1) := by show spareI c need = -1; unfold spareI; rw [hb, hq]; rfl
      go_enter Try.func39, Try.ntmps39
      go_wp2_with fail
      have cc := ClusterValid_any _ c _ HC.out hw
      rw [hb] at cc
      refine cc.mono ?_
      clear cc
      rintro e w2 ⟨rfl, hE2⟩
      go_wp2_with fail
      have cc := needValid_any _ need _ (Hn.out.ext hE2)
      rw [hq] at cc
      refine cc.mono ?_
      clear cc
      rintro e w3 ⟨rfl, rfl⟩
      go_wp2
      go_ret
      exact ⟨ret_int Hd.out.symm, e0.trans hE2⟩
    | true =>
      have Hd : Hid (spareI c need = spareN c.room need c.us) := by show spareI c need = _; unfold spareI; rw [hb, hq]; rfl
      have hq2 := hq
      rw [Bool.and_eq_true] at hq2
      have HV := Lib.hid (vecB_iff.1 hq2.1)
      have HB := Lib.hid hb
      go_enter Try.func39, Try.ntmps39
      go_wp2_with fail
      have cc := ClusterValid_any _ c _ HC.out hw
      rw [hb] at cc
      refine cc.mono ?_
      clear cc
      rintro e w2 ⟨rfl, hE2⟩
      have r2 := (hE2.block (lt_of_heap R0.out)).trans R0.out
      have x0 := cell_of_heap r2 0
      have x1 := cell_of_heap r2 1
      clear r2
      go_wp2_with fail
      have cc := needValid_any _ need _ (Hn.out.ext hE2)
      rw [hq] at cc
      refine cc.mono ?_
      clear cc
      rintro e w3 ⟨rfl, rfl⟩
      go_wp2_with fail
      refine (spare_any _ _ c need _ (HC.out.ext hE2) (Hn.out.ext hE2) HB.out HV.out).mono ?_
      rintro e w4 ⟨rfl, hE4⟩
      go_wp2
      go_ret
      exact ⟨ret_int Hd.out.symm, (e0.trans hE2).trans hE4⟩

end Go.Proofs.Ytcijbpjiioodlaa
