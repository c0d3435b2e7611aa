/- Clusters: the places of open nodes, by the reference. No condition. -/
import Derived.Test.YtcijbpjiioodlaaCn
import Derived.Test.YtcijbpjiioodlaaP2
import Derived.Test.YtcijbpjiioodlaaS16
namespace Go.Proofs.Ytcijbpjiioodlaa
set_option maxRecDepth 100000
open Go.RowKit

/-- How often a need fits what is left, looking at the first dimensions. -/
def timesK (l n : List Int) : Nat → Int
  | 0 => 20
  | k + 1 => if 0 < n.getD k 0 then min (timesK l n k) (l.getD k 0 / n.getD k 0) else timesK l n k
theorem getD_vec {l : List Int} (h : VecOk l) (k : Nat) : 0 ≤ l.getD k 0 ∧ l.getD k 0 ≤ 20 := by
  rw [List.getD_eq_getElem?_getD]
  by_cases hk : k < l.length
  · rw [List.getElem?_eq_getElem hk]; exact h.2 _ (List.getElem_mem hk)
  · rw [List.getElem?_eq_none (by omega)]; simp
theorem timesK_bound {l n : List Int} (hl : VecOk l) : ∀ k, 0 ≤ timesK l n k ∧ timesK l n k ≤ 20 := by
  intro k
  induction k with
  | zero => simp [timesK]
  | succ k ih =>
    unfold timesK
    split
    · rename_i h
      have := Int.ediv_nonneg (getD_vec hl k).1 (Int.le_of_lt h)
      omega
    · exact ih
def nodeT (room need : List Int) (ts : List T) : Int := timesK (addL room (loadL ts) (-1)) need 3
def spareN (room need : List Int) (us : List Un) : Int := (us.map fun u => if u.op = true then nodeT room need u.ts else 0).sum
theorem spareN_step {room need : List Int} {us : List Un} {k : Nat} (h : k < us.length) : spareN room need (us.take (k + 1)) = spareN room need (us.take k) + if us[k].op = true then nodeT room need us[k].ts else 0 := by
  unfold spareN
  rw [List.take_succ_eq_append_getElem h, List.map_append, List.sum_append]
  simp
theorem left_vec {room : List Int} {bs : List (List T)} (h : BinsOk room bs) {b : List T} (hb : b ∈ bs) : VecOk (addL room (loadL b) (-1)) := by
  have hg : Ge0 b := h.1.ge0.sub fun t ht => List.mem_flatten.2 ⟨b, hb, ht⟩
  obtain ⟨k, hk, rfl⟩ := List.getElem_of_mem hb
  have hf := h.2.2 k hk
  obtain ⟨p, q, s, rfl, h1, h2, h3, h4, h5, h6⟩ := h.1.1.1.three
  rw [load_cmp hg.three, fitsB_three] at hf
  have hf := of_decide_eq_true hf
  have n0 := cmp_nonneg (k := 0) hg
  have n1 := cmp_nonneg (k := 1) hg
  have n2 := cmp_nonneg (k := 2) hg
  rw [load_cmp hg.three]
  refine ⟨rfl, fun n hn => ?_⟩
  simp [addL] at hn
  omega
theorem left_unit {c : C} (h : clusterB c = true) {k : Nat} (hk : k < c.us.length) : VecOk (addL c.room (loadL c.us[k].ts) (-1)) := by
  refine left_vec (binsB_iff.1 (clusterB_bins h)) ?_
  rw [← binsC_get hk]
  exact List.getElem_mem _
theorem spareN_bound {c : C} (h : clusterB c = true) (need : List Int) : ∀ k, k ≤ c.us.length → 0 ≤ spareN c.room need (c.us.take k) ∧ spareN c.room need (c.us.take k) ≤ 20 * (k : Int) := by
  intro k
  induction k with
  | zero => intro _; simp [spareN]
  | succ k ih =>
    intro hk
    have h1 := ih (by omega)
    have h2 := timesK_bound (n := need) (left_unit h (k := k) (by omega)) 3
    rw [spareN_step (by omega)]
    split
    · unfold nodeT; omega
    · omega
/-- The places of all open nodes, or -1. -/
def spareI (c : C) (need : List Int) : Int := if (clusterB c && (vecB need && decide (0 < sumN need))) = true then spareN c.room need c.us else -1
theorem unit_good {c : C} (h : clusterB c = true) {k : Nat} (hk : k < c.us.length) : Good c.us[k].ts := by
  have hb := (binsB_iff.1 (clusterB_bins h)).1.good
  refine Good.flat hb ?_
  rw [← binsC_get hk]
  exact List.getElem_mem _
theorem room_ok {c : C} (h : clusterB c = true) : RoomOk c.room := (binsB_iff.1 (clusterB_bins h)).1.1
theorem load_good {c : C} (h : clusterB c = true) {k : Nat} (hk : k < c.us.length) : (loadL c.us[k].ts).length = 3 ∧ Bd 1000000 (loadL c.us[k].ts) := by
  have hg : Ge0 c.us[k].ts := (binsB_iff.1 (clusterB_bins h)).1.ge0.sub fun t ht => List.mem_flatten.2 ⟨c.us[k].ts, by rw [← binsC_get hk]; exact List.getElem_mem _, ht⟩
  have hv := left_unit h hk
  obtain ⟨p, q, s, hr, h1, h2, h3, h4, h5, h6⟩ := (room_ok h).1.three
  rw [hr] at hv
  rw [load_cmp hg.three] at hv ⊢
  have n0 := cmp_nonneg (k := 0) hg
  have n1 := cmp_nonneg (k := 1) hg
  have n2 := cmp_nonneg (k := 2) hg
  have v := hv.2
  simp [addL] at v
  refine ⟨rfl, fun n hn => ?_⟩
  simp only [List.mem_cons, List.not_mem_nil, or_false] at hn
  rcases hn with rfl | rfl | rfl <;> omega

set_option maxHeartbeats 2000000 in
theorem l23Times_any (v u : Value) (l n : List Int) (w : World) (h : Ints w v l) (h' : Ints w u n) (hl : VecOk l) (hn : VecOk n) :
    Calls Try.prog 142 #[v, u] w fun e w' => e = .returned (.int .i64 (timesK l n 3)) ∧ Ext w w' := by
  obtain ⟨a, cap, rfl, h⟩ := h.open
  obtain ⟨a', cap', rfl, h'⟩ := h'.open
  have l3 := hl.1
  have n3 := hn.1
  obtain ⟨b, off, rfl, hc⟩ := h.at (by omega)
  obtain ⟨b', off', rfl, hc'⟩ := h'.at (by omega)
  have HL := Lib.hid hl
  have HN := Lib.hid hn
  have Hc := Lib.hid hc
  have Hc' := Lib.hid hc'
  have L3 := Lib.hid l3
  have N3 := Lib.hid n3
  rw [l3, n3]
  clear hl hn hc hc' h h' l3 n3
  go_enter Try.func142, Try.ntmps142
  go_wp2
  go_loopw [5, 6] (fun m i wr => ∃ (k : Nat) (z : Int), k ≤ 3 ∧ i = .int .i64 (k : Int) ∧ m = .int .i64 z ∧ z = timesK l n k ∧ Ext w wr) (fun _ i _ => 3 - (intOf i).toNat)
  case atStart => exact ⟨0, 20, by omega, rfl, rfl, rfl, Ext.refl _⟩
  case round =>
    obtain ⟨k, z, hk, rfl, rfl, hz, hE⟩ := hrel
    by_cases hlt : k < 3
    · have c0 := hE.cell (Hc.out k (by rw [L3.out]; exact hlt))
      have c1 := hE.cell (Hc'.out k (by rw [N3.out]; exact hlt))
      have g0 : l[k]'(by rw [L3.out]; exact hlt) = l.getD k 0 := by simp [List.getD_eq_getElem?_getD, List.getElem?_eq_getElem (show k < l.length by rw [L3.out]; exact hlt)]
      have g1 : n[k]'(by rw [N3.out]; exact hlt) = n.getD k 0 := by simp [List.getD_eq_getElem?_getD, List.getElem?_eq_getElem (show k < n.length by rw [N3.out]; exact hlt)]
      rw [g0] at c0
      rw [g1] at c1
      have bl := getD_vec HL.out k
      have bn := getD_vec HN.out k
      have bz := timesK_bound (n := n) HL.out k
      have Hst : Hid (timesK l n (k + 1) = if 0 < n.getD k 0 then min (timesK l n k) (l.getD k 0 / n.getD k 0) else timesK l n k) := rfl
      rw [← hz] at bz Hst
      generalize l.getD k 0 = x at *
      generalize n.getD k 0 = y at *
      have b0 : (0 : Int) ≤ (k : Int) := by omega
      have b1 : (k : Int) < 3 := by omega
      obtain ⟨x0, x1⟩ := bl
      obtain ⟨y0, y1⟩ := bn
      obtain ⟨z0, z1⟩ := bz
      clear g0 g1 hz
      by_cases hy : 0 < y
      · have hy' : (y == 0) = false := beq_eq_false_iff_ne.2 (by omega)
        have Hs2 : Hid (timesK l n (k + 1) = min z (x / y)) := by show timesK l n (k + 1) = min z (x / y); rw [Hst.out, if_pos hy]
        have hq : x.tdiv y = x / y := Int.tdiv_eq_ediv_of_nonneg x0
        have d0 : 0 ≤ x / y := Int.ediv_nonneg x0 (by omega)
        have d1 : x / y ≤ 20 := Int.le_trans (Int.ediv_le_self _ x0) x1
        clear Hst
        go_wp2
        go_region
        all_goals
          go_wp2_with fail
          go_roundw
          case rel => exact ⟨k + 1, _, by omega, by go_num, rfl, by rw [Hs2.out]; first | rfl | (rw [hq]) | omega, hE.drew⟩
          case measure => simp [intOf]; omega
      · have Hs2 : Hid (timesK l n (k + 1) = z) := by show timesK l n (k + 1) = z; rw [Hst.out, if_neg hy]
        clear Hst
        go_wp2
        go_roundw
        case rel => exact ⟨k + 1, z, by omega, by go_num, rfl, Hs2.out.symm, hE⟩
        case measure => simp [intOf]; omega
    · have e : k = 3 := by omega
      subst e
      subst hz
      go_wp2
      go_ret
      exact ⟨rfl, hE⟩

theorem bd_more {xs : List Int} (h : Bd 1000000 xs) : Bd 1000000000000000 xs := fun n hn => by have := h n hn; omega
set_option maxHeartbeats 2000000 in
theorem l23Node_any (v u : Value) (c : C) (need : List Int) (k : Nat) (w : World) (h : Clu w v c) (hn : Ints w u need) (hb : clusterB c = true) (hv : VecOk need) (hk : k < c.us.length) :
    Calls Try.prog 92 #[v, .int .i64 (k : Int), u] w fun e w' => e = .returned (.int .i64 (nodeT c.room need c.us[k].ts)) ∧ Ext w w' := by
  obtain ⟨ra, rc, ua, uc, rfl, hr, hu⟩ := h.open
  obtain ⟨na, nc, rfl, hn⟩ := hn.open
  have e0 : Ext w (w.alloc (Obj.cells #[.slice ra c.room.length rc, .slice ua c.us.length uc] 30)) := (Ext.refl w).alloc _
  have R0 := Lib.hid (heap_alloc_new w (Obj.cells #[.slice ra c.room.length rc, .slice ua c.us.length uc] 30))
  have HB := Lib.hid hb
  have HV := Lib.hid hv
  have b0 : (0 : Int) ≤ (k : Int) := by omega
  have b1 : (k : Int) < (c.us.length : Int) := by omega
  have l10 := clusterB_len hb
  clear h hb hv
  go_enter Try.func92, Try.ntmps92
  go_wp2_with fail
  generalize w.alloc (Obj.cells #[.slice ra c.room.length rc, .slice ua c.us.length uc] 30) = W at *
  have Hr := Lib.hid (hr.ext e0)
  have Hn := Lib.hid (hn.ext e0)
  obtain ⟨b, off, nd, rfl, -, c1, ht⟩ := (hu.ext e0).at hk
  obtain ⟨ta, tc, rfl, ht⟩ := ht.open
  have Ht := Lib.hid ht
  have K1 := Lib.hid c1
  have E0 := Lib.hid e0
  clear e0 hr hn hu ht c1
  refine wp_region_held_drew (S := fun w' => w'.heap[w.heap.size]? = some (Obj.cells #[.slice ra c.room.length rc, .slice (some ⟨b, off, none⟩) c.us.length uc] 30) ∧ w'.cell? ⟨b, off + k * 2 + 1, none⟩ = some (.slice ta c.us[k].ts.length tc)) (by kernel_rfl) ⟨R0.out, K1.out⟩ (fun hHeld => ?_)
  refine takeH (i := 0) (d := some 7) (v := ?_) rfl rfl (by kernel_rfl) (by kernel_rfl) (by kernel_rfl) (fun _ _ _ h => h) (by rfl) ?_ (by assumption) ?_
  rotate_left
  · intro w hSw; (try dsimp only at hSw); (try go_simp); (try with_reducible rfl)
  try simp only [Act.put, List.setIfInBounds_toArray, List.set_cons_zero, List.set_cons_succ]
  refine takeH (i := 2) (d := some 9) (v := ?_) rfl rfl (by kernel_rfl) (by kernel_rfl) (by kernel_rfl) (fun _ _ _ h => h) (by rfl) ?_ (by assumption) ?_
  rotate_left
  · intro w hSw; (try dsimp only at hSw); (try go_simp); (try with_reducible rfl)
  try simp only [Act.put, List.setIfInBounds_toArray, List.set_cons_zero, List.set_cons_succ]
  refine takeH (i := 4) (d := some 11) (v := ?_) rfl rfl (by kernel_rfl) (by kernel_rfl) (by kernel_rfl) (fun _ _ _ h => h) (by rfl) ?_ (by assumption) ?_
  rotate_left
  · intro w hSw; (try dsimp only at hSw); (try go_simp); (try with_reducible rfl)
  try simp only [Act.put, List.setIfInBounds_toArray, List.set_cons_zero, List.set_cons_succ]
  refine takeH (i := 10) (d := some 17) (v := ?_) rfl rfl (by kernel_rfl) (by kernel_rfl) (by kernel_rfl) (fun _ _ _ h => h) (by rfl) ?_ (by assumption) ?_
  rotate_left
  · intro w hSw; (try dsimp only at hSw); (try go_simp); (try with_reducible rfl)
  try simp only [Act.put, List.setIfInBounds_toArray, List.set_cons_zero, List.set_cons_succ]
  refine takeH (i := 1) (d := some 8) (v := ?_) rfl rfl (by kernel_rfl) (by kernel_rfl) (by kernel_rfl) (fun _ _ _ h => h) (by rfl) ?_ (by assumption) ?_
  rotate_left
  · intro w hSw; (try dsimp only at hSw); (try have l0 := cell_of_heap hSw.1 0; have l1 := cell_of_heap hSw.1 1; have l2 := hSw.2; go_simp); (try with_reducible rfl)
  try simp only [Act.put, List.setIfInBounds_toArray, List.set_cons_zero, List.set_cons_succ]
  refine takeH (i := 3) (d := some 10) (v := ?_) rfl rfl (by kernel_rfl) (by kernel_rfl) (by kernel_rfl) (fun _ _ _ h => h) (by rfl) ?_ (by assumption) ?_
  rotate_left
  · intro w hSw; (try dsimp only at hSw); (try have l0 := cell_of_heap hSw.1 0; have l1 := cell_of_heap hSw.1 1; have l2 := hSw.2; go_simp); (try with_reducible rfl)
  try simp only [Act.put, List.setIfInBounds_toArray, List.set_cons_zero, List.set_cons_succ]
  refine takeH (i := 5) (d := some 12) (v := ?_) rfl rfl (by kernel_rfl) (by kernel_rfl) (by kernel_rfl) (fun _ _ _ h => h) (by rfl) ?_ (by assumption) ?_
  rotate_left
  · intro w hSw; (try dsimp only at hSw); (try go_simp); (try with_reducible rfl)
  try simp only [Act.put, List.setIfInBounds_toArray, List.set_cons_zero, List.set_cons_succ]
  refine takeH (i := 6) (d := some 13) (v := ?_) rfl rfl (by kernel_rfl) (by kernel_rfl) (by kernel_rfl) (fun _ _ _ h => h) (by rfl) ?_ (by assumption) ?_
  rotate_left
  · intro w hSw; (try dsimp only at hSw); (try go_simp); (try with_reducible rfl)
  try simp only [Act.put, List.setIfInBounds_toArray, List.set_cons_zero, List.set_cons_succ]
  refine takeH (i := 7) (d := some 14) (v := ?_) rfl rfl (by kernel_rfl) (by kernel_rfl) (by kernel_rfl) (fun _ _ _ h => h) (by rfl) ?_ (by assumption) ?_
  rotate_left
  · intro w hSw; (try dsimp only at hSw); (try have l0 := cell_of_heap hSw.1 0; have l1 := cell_of_heap hSw.1 1; have l2 := hSw.2; go_simp); (try with_reducible rfl)
  try simp only [Act.put, List.setIfInBounds_toArray, List.set_cons_zero, List.set_cons_succ]
  refine oneH (i := 8) (by kernel_rfl) rfl (by rfl) (fun K hK => ?_)
  go_simp
  refine (l2Load_any _ c.us[k].ts _ (Ht.out.ext (Ext.refl W).drew) (unit_good HB.out hk)).mono ?_; rintro e w2 ⟨r2, rfl, hE2, hi2⟩; have X2 := Lib.hid ((Ext.refl W).drew.trans hE2); have I2 := Lib.hid hi2; obtain ⟨pa, pc, hf2, -⟩ := hi2.open; subst hf2; clear hE2
  try dsimp only
  refine hK.out _ _ (⟨(X2.out.block (lt_of_heap R0.out)).trans R0.out, X2.out.cell K1.out⟩) (fun hHeld => ?_)
  clear hK K
  try simp only [Act.put, List.setIfInBounds_toArray, List.set_cons_zero, List.set_cons_succ]
  refine oneH (i := 9) (by kernel_rfl) rfl (by rfl) (fun K hK => ?_)
  go_simp
  refine (l1Add_any _ _ c.room (loadL c.us[k].ts) (-1) _ (Hr.out.ext X2.out) I2.out (room_ok HB.out).1.1 (load_good HB.out hk).1 (.inr rfl) (bd_more (room_ok HB.out).bd.2) (bd_more (load_good HB.out hk).2)).mono ?_; rintro e w3 ⟨r3, rfl, hE3, hi3⟩; have X3 := Lib.hid (X2.out.trans hE3); have I3 := Lib.hid hi3; obtain ⟨qa, qc, hf3, -⟩ := hi3.open; subst hf3; clear hE3
  try dsimp only
  refine hK.out _ _ (⟨(X3.out.block (lt_of_heap R0.out)).trans R0.out, X3.out.cell K1.out⟩) (fun hHeld => ?_)
  clear hK K
  try simp only [Act.put, List.setIfInBounds_toArray, List.set_cons_zero, List.set_cons_succ]
  refine oneH (i := 11) (by kernel_rfl) rfl (by rfl) (fun K hK => ?_)
  go_simp
  refine (l23Times_any _ _ (addL c.room (loadL c.us[k].ts) (-1)) need _ I3.out (Hn.out.ext X3.out) (left_unit HB.out hk) HV.out).mono ?_; rintro e w4 ⟨rfl, hE4⟩; have X4 := Lib.hid (X3.out.trans hE4); clear hE4
  try dsimp only
  refine hK.out _ _ (⟨(X4.out.block (lt_of_heap R0.out)).trans R0.out, X4.out.cell K1.out⟩) (fun hHeld => ?_)
  clear hK K
  try simp only [Act.put, List.setIfInBounds_toArray, List.set_cons_zero, List.set_cons_succ]
  refine takeH (i := 12) (d := some 6) (v := ?_) rfl rfl (by kernel_rfl) (by kernel_rfl) (by kernel_rfl) (fun _ _ _ h => h) (by rfl) ?_ (by assumption) ?_
  rotate_left
  · intro w hSw; (try dsimp only at hSw); (try go_simp); (try with_reducible rfl)
  try simp only [Act.put, List.setIfInBounds_toArray, List.set_cons_zero, List.set_cons_succ]
  refine wpAnyH_done (by kernel_rfl) ?_ _
  go_wp2_with fail
  go_ret
  exact ⟨rfl, E0.out.trans X4.out⟩

set_option maxHeartbeats 1000000 in
theorem l23Ok_any (v u : Value) (c : C) (need : List Int) (w : World) (h : Clu w v c) (hw : weighC c ≤ 2097152) (hn : Ints w u need) :
    Calls Try.prog 91 #[v, u] w fun e w' => e = .returned (.bool (clusterB c && (vecB need && decide (0 < sumN need)))) ∧ Ext w w' := by
  obtain ⟨ra, rc, ua, uc, rfl, -, -⟩ := h.open
  obtain ⟨na, nc, rfl, hn⟩ := hn.open
  have e0 : Ext w (w.alloc (Obj.cells #[.slice ra c.room.length rc, .slice ua c.us.length uc] 30)) := (Ext.refl w).alloc _
  have HC := Lib.hid (h.ext e0)
  have Hn := Lib.hid (hn.ext e0)
  clear h hn
  cases hb : clusterB c with
  | false =>
    go_enter Try.func91, Try.ntmps91
    go_wp2_with fail
    have cc := sClusterValid_any _ c _ HC.out hw
    rw [hb] at cc
    refine cc.mono ?_
    clear cc
    rintro e w2 ⟨rfl, hE2⟩
    go_wp2
    go_ret
    exact ⟨rfl, e0.trans hE2⟩
  | true =>
    cases hv : vecB need with
    | false =>
      go_enter Try.func91, Try.ntmps91
      go_wp2_with fail
      have cc := sClusterValid_any _ c _ HC.out hw
      rw [hb] at cc
      refine cc.mono ?_
      clear cc
      rintro e w2 ⟨rfl, hE2⟩
      go_wp2_with fail
      have cc := sVecValid_any _ _ _ (Hn.out.ext hE2)
      rw [hv] at cc
      refine cc.mono ?_
      clear cc
      rintro e w3 ⟨rfl, rfl⟩
      go_wp2
      go_ret
      exact ⟨rfl, e0.trans hE2⟩
    | true =>
      have HV := Lib.hid (vecB_iff.1 hv)
      go_enter Try.func91, Try.ntmps91
      go_wp2_with fail
      have cc := sClusterValid_any _ c _ HC.out hw
      rw [hb] at cc
      refine cc.mono ?_
      clear cc
      rintro e w2 ⟨rfl, hE2⟩
      go_wp2_with fail
      have cc := sVecValid_any _ _ _ (Hn.out.ext hE2)
      rw [hv] at cc
      refine cc.mono ?_
      clear cc
      rintro e w3 ⟨rfl, rfl⟩
      go_wp2_with fail
      refine (l4Sum_any _ _ _ (Hn.out.ext hE2) HV.out).mono ?_
      rintro e w4 ⟨rfl, rfl⟩
      go_wp2
      go_ret
      exact ⟨by first | rfl | simp, e0.trans hE2⟩

set_option maxHeartbeats 2000000 in
theorem sSpareCount_any (v u : Value) (c : C) (need : List Int) (w : World) (h : Clu w v c) (hw : weighC c ≤ 2097152) (hn : Ints w u need) :
    Calls Try.prog 37 #[v, u] w fun e w' => e = .returned (.int .i64 (spareI c need)) ∧ Ext w w' := by
  obtain ⟨ra, rc, ua, uc, rfl, -, hu⟩ := h.open
  obtain ⟨na, nc, rfl, hn⟩ := hn.open
  have e0 : Ext w (w.alloc (Obj.cells #[.slice ra c.room.length rc, .slice ua c.us.length uc] 30)) := (Ext.refl w).alloc _
  have R0 := Lib.hid (heap_alloc_new w (Obj.cells #[.slice ra c.room.length rc, .slice ua c.us.length uc] 30))
  have HC := Lib.hid (h.ext e0)
  have Hn := Lib.hid (hn.ext e0)
  have Hu := Lib.hid (hu.ext e0)
  clear h hn hu
  cases hb : (clusterB c && (vecB need && decide (0 < sumN need))) with
  | false =>
    have Hd : Hid (spareI c need = -1) := by show spareI c need = -1; unfold spareI; rw [hb]; rfl
    go_enter Try.func37, Try.ntmps37
    go_wp2_with fail
    have cc := l23Ok_any _ _ c need _ HC.out hw Hn.out
    rw [hb] at cc
    refine cc.mono ?_
    clear cc
    rintro e w2 ⟨rfl, hE2⟩
    go_wp2
    go_ret
    exact ⟨ret_int Hd.out.symm, e0.trans hE2⟩
  | true =>
    have Hd : Hid (spareI c need = spareN c.room need c.us) := by show spareI c need = _; unfold spareI; rw [hb]; rfl
    have hb2 := hb
    rw [Bool.and_eq_true, Bool.and_eq_true] at hb2
    have HB := Lib.hid hb2.1
    have HV := Lib.hid (vecB_iff.1 hb2.2.1)
    have l10 := clusterB_len hb2.1
    clear hb2
    go_enter Try.func37, Try.ntmps37
    go_wp2_with fail
    generalize w.alloc (Obj.cells #[.slice ra c.room.length rc, .slice ua c.us.length uc] 30) = W at *
    have cc := l23Ok_any _ _ c need _ HC.out hw Hn.out
    rw [hb] at cc
    refine cc.mono ?_
    clear cc hb
    rintro e w2 ⟨rfl, hE2⟩
    have E2 := Lib.hid (e0.trans hE2)
    have Y2 := Lib.hid hE2
    have HFin := Lib.hid e0
    clear hE2 e0
    go_wp2_with fail
    go_loopw [5, 6] (fun m i wr => ∃ (k : Nat) (z : Int), k ≤ c.us.length ∧ i = .int .i64 (k : Int) ∧ m = .int .i64 z ∧ z = spareN c.room need (c.us.take k) ∧ Ext W wr) (fun _ i _ => c.us.length - (intOf i).toNat)
    case atStart => exact ⟨0, 0, by omega, rfl, rfl, rfl, Y2.out⟩
    case round =>
      obtain ⟨k, z, hk, rfl, rfl, hz, hE⟩ := hrel
      have r1 := (hE.block (lt_of_heap R0.out)).trans R0.out
      have x0 := cell_of_heap r1 0
      have x1 := cell_of_heap r1 1
      have bz := spareN_bound HB.out need k hk
      rw [← hz] at bz
      obtain ⟨z0, z1⟩ := bz
      by_cases hlt : k < c.us.length
      · obtain ⟨b, off, nd, rfl, c0, -, -⟩ := Hu.out.at hlt
        have c0' := hE.cell c0
        have b0 : (0 : Int) ≤ (k : Int) := by omega
        have b1 : (k : Int) < (c.us.length : Int) := by omega
        have St := spareN_step (room := c.room) (need := need) hlt
        rw [← hz] at St
        clear c0 hz r1
        cases hop : c.us[k].op with
        | true =>
          rw [hop] at c0'
          rw [if_pos hop] at St
          have ST := Lib.hid St
          have bt := timesK_bound (n := need) (left_unit HB.out hlt) 3
          obtain ⟨t0, t1⟩ := bt
          have tdef : timesK (addL c.room (loadL c.us[k].ts) (-1)) need 3 = nodeT c.room need c.us[k].ts := rfl
          rw [tdef] at t0 t1
          clear St tdef
          go_wp2_with fail
          refine (l23Node_any _ _ c need k _ (HC.out.ext hE) (Hn.out.ext hE) HB.out HV.out hlt).mono ?_
          rintro e w3 ⟨rfl, hE3⟩
          have hE4 := hE.trans hE3
          clear hE hE3 x0 x1 c0'
          generalize nodeT c.room need c.us[k].ts = q at *
          go_wp2_with fail
          go_roundw
          case rel => exact ⟨k + 1, z + q, by omega, by go_num, by go_num, ST.out.symm, hE4⟩
          case measure => simp [intOf]; omega
        | false =>
          rw [hop] at c0'
          rw [if_neg (by rw [hop]; simp), Int.add_zero] at St
          have ST := Lib.hid St
          clear St
          go_wp2
          go_roundw
          case rel => exact ⟨k + 1, z, by omega, by go_num, rfl, ST.out.symm, hE⟩
          case measure => simp [intOf]; omega
      · have e : k = c.us.length := by omega
        subst e
        rw [List.take_length] at hz
        have HZ := Lib.hid hz
        have b1 : ¬ ((c.us.length : Int) < (c.us.length : Int)) := by omega
        clear hz
        have F := Lib.hid hE
        go_wp2
        go_ret
        exact ⟨ret_int (by rw [Hd.out, HZ.out]), HFin.out.trans F.out⟩

end Go.Proofs.Ytcijbpjiioodlaa
