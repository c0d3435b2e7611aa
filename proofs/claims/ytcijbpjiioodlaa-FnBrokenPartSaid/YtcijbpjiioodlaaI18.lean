/- The program: sums of needs, the comparison of tasks. No condition. -/
import Derived.Test.YtcijbpjiioodlaaP5
import Derived.Test.YtcijbpjiioodlaaS9
import Derived.Test.YtcijbpjiioodlaaReg
namespace Go.Proofs.Ytcijbpjiioodlaa
set_option maxRecDepth 100000
open Go.RowKit

theorem sumN_step {xs : List Int} {k : Nat} (h : k < xs.length) : sumN (xs.take (k + 1)) = sumN (xs.take k) + xs[k] := by
  unfold sumN
  rw [List.take_succ_eq_append_getElem h, List.foldl_append]
  rfl
theorem sumN_bound {xs : List Int} (h : VecOk xs) (k : Nat) : 0 ≤ sumN (xs.take k) ∧ sumN (xs.take k) ≤ 60 := by
  obtain ⟨x, y, z, rfl, h1, h2, h3, h4, h5, h6⟩ := h.three
  match k with
  | 0 => simp [sumN]
  | 1 => simp [sumN]; omega
  | 2 => simp [sumN]; omega
  | k + 3 => simp [sumN]; omega

set_option maxHeartbeats 400000 in
theorem total_any (v : Value) (xs : List Int) (w : World) (h : Ints w v xs) (hv : VecOk xs) :
    Calls Try.prog 123 #[v] w fun e w' => e = .returned (.int .i64 (sumN xs)) ∧ w = w' := by
  obtain ⟨a, cap, rfl, h⟩ := h.open
  have hl : xs.length ≤ 4194304 := h.1
  have HV := Lib.hid hv
  clear hv
  go_enter Try.func123, Try.ntmps123
  go_wp2
  go_loop [3, 8] (fun s i => ∃ (k : Nat) (m : Int), k ≤ xs.length ∧ i = .int .i64 k ∧ s = .int .i64 m ∧ m = sumN (xs.take k)) (fun _ i => xs.length - (intOf i).toNat)
  case atStart => exact ⟨0, 0, by omega, rfl, rfl, by simp [sumN]⟩
  case round =>
    obtain ⟨k, m, hk, rfl, rfl, hm⟩ := hrel
    by_cases hlt : k < xs.length
    · obtain ⟨b, off, rfl, hc⟩ := h.at (by omega)
      have hck := hc k hlt
      have b1 := sumN_bound HV.out k
      have b2 := HV.out.2 _ (List.getElem_mem hlt)
      rw [← hm] at b1
      obtain ⟨l1, l2⟩ := b1
      obtain ⟨l3, l4⟩ := b2
      have Hm : Hid (m + xs[k] = sumN (xs.take (k + 1))) := by show m + xs[k] = sumN (xs.take (k + 1)); rw [sumN_step hlt, hm]
      clear hc hm
      go_wp2
      go_round
      case rel => exact ⟨k + 1, m + xs[k], by omega, by go_num, by go_num, Hm.out⟩
      case measure => simp [intOf]; omega
    · have e : k = xs.length := by omega
      subst e
      rw [List.take_length] at hm
      subst hm
      go_wp2
      go_ret
      exact ⟨rfl, rfl⟩

set_option maxHeartbeats 400000 in
theorem isNaN_any (x : Int) (w : World) :
    Calls Try.prog 182 #[.int .i64 x] w fun e w' => e = .returned (.bool false) ∧ w = w' := by
  have hb : (x != x) = false := by simp
  go_enter Try.func182, Try.ntmps182
  go_wp2
  go_ret
  exact ⟨by first | rfl | simp, rfl⟩

/-- Numbers compared. -/
def cmpI (a b : Int) : Int := if a < b then -1 else if b < a then 1 else 0
set_option maxHeartbeats 400000 in
theorem compareI_any (x y : Int) (w : World) :
    Calls Try.prog 163 #[.int .i64 x, .int .i64 y] w fun e w' => e = .returned (.int .i64 (cmpI x y)) ∧ w = w' := by
  by_cases h1 : x < y
  · have Hd : Hid (cmpI x y = -1) := by show cmpI x y = -1; simp [cmpI, h1]
    go_enter Try.func163, Try.ntmps163
    go_wp2_with fail
    refine (isNaN_any _ _).mono ?_; rintro e w1 ⟨rfl, rfl⟩
    go_wp2_with fail
    refine (isNaN_any _ _).mono ?_; rintro e w1 ⟨rfl, rfl⟩
    go_wp2_with fail
    go_ret
    exact ⟨ret_int Hd.out.symm, rfl⟩
  · by_cases h2 : y < x
    · have Hd : Hid (cmpI x y = 1) := by show cmpI x y = 1; simp [cmpI, h1, h2]
      go_enter Try.func163, Try.ntmps163
      go_wp2_with fail
      refine (isNaN_any _ _).mono ?_; rintro e w1 ⟨rfl, rfl⟩
      go_wp2_with fail
      refine (isNaN_any _ _).mono ?_; rintro e w1 ⟨rfl, rfl⟩
      go_wp2_with fail
      go_ret
      exact ⟨ret_int Hd.out.symm, rfl⟩
    · have Hd : Hid (cmpI x y = 0) := by show cmpI x y = 0; simp [cmpI, h1, h2]
      go_enter Try.func163, Try.ntmps163
      go_wp2_with fail
      refine (isNaN_any _ _).mono ?_; rintro e w1 ⟨rfl, rfl⟩
      go_wp2_with fail
      refine (isNaN_any _ _).mono ?_; rintro e w1 ⟨rfl, rfl⟩
      go_wp2_with fail
      go_ret
      exact ⟨ret_int Hd.out.symm, rfl⟩

/-- The first number of two that is not zero. -/
def orI (x y : Int) : Int := if x = 0 then y else x
set_option maxHeartbeats 600000 in
theorem orI_any (v : Value) (x y : Int) (w : World) (h : Ints w v [x, y]) :
    Calls Try.prog 162 #[v] w fun e w' => e = .returned (.int .i64 (orI x y)) ∧ w = w' := by
  obtain ⟨a, cap, rfl, h⟩ := h.open
  obtain ⟨b, off, rfl, hc⟩ := h.at (by simp)
  have c0 := hc 0 (by simp)
  have c1 := hc 1 (by simp)
  simp only [List.getElem_cons_zero, List.getElem_cons_succ, Nat.add_zero] at c0 c1
  clear hc h
  simp only [List.length_cons, List.length_nil]
  by_cases h0 : x = 0
  · subst h0
    by_cases h1 : y = 0
    · subst h1
      go_enter Try.func162, Try.ntmps162
      go_wp2
      refine wp_loop_rounds 3 ?_
      iterate 3 (rw [rounds_succ]; go_wp2)
      go_ret
      exact ⟨rfl, rfl⟩
    · have hb : (y != 0) = true := by simp [h1]
      have Hd : Hid (orI 0 y = y) := by show orI 0 y = y; simp [orI]
      clear h1
      go_enter Try.func162, Try.ntmps162
      go_wp2
      refine wp_loop_rounds 3 ?_
      iterate 2 (rw [rounds_succ]; go_wp2)
      go_ret
      exact ⟨ret_int Hd.out.symm, rfl⟩
  · have hb : (x != 0) = true := by simp [h0]
    have Hd : Hid (orI x y = x) := by show orI x y = x; simp [orI, h0]
    clear h0
    go_enter Try.func162, Try.ntmps162
    go_wp2
    refine wp_loop_rounds 3 ?_
    rw [rounds_succ]
    go_wp2
    go_ret
    exact ⟨ret_int Hd.out.symm, rfl⟩

/-- Tasks compared. -/
def cmpT (a b : T) : Int := orI (cmpI (sumN b.need) (sumN a.need)) (cmpI a.id b.id)
theorem cmpT_less (a b : T) : decide (cmpT a b < 0) = lessB a b := by
  unfold cmpT orI cmpI lessB
  by_cases h1 : sumN b.need < sumN a.need
  · simp [h1]
  · by_cases h2 : sumN a.need < sumN b.need
    · have h3 : ¬ (sumN a.need = sumN b.need) := by omega
      simp [h1, h2, h3]
    · have h3 : sumN a.need = sumN b.need := by omega
      by_cases h4 : a.id < b.id
      · simp [h3, h4]
      · by_cases h5 : b.id < a.id
        · simp [h3, h4, h5]
        · simp [h3, h4, h5]
theorem cmpT_bound (a b : T) : -1 ≤ cmpT a b ∧ cmpT a b ≤ 1 := by
  unfold cmpT orI cmpI
  split <;> split <;> first | omega | (split <;> omega)

set_option maxHeartbeats 2000000 in
theorem compare_any (a b : T) (na nb : Value) (w : World) (h : Ints w na a.need) (k : Ints w nb b.need) (ha : VecOk a.need) (hb : VecOk b.need) :
    Calls Try.prog 118 #[.agg #[.int .i64 a.id, na], .agg #[.int .i64 b.id, nb]] w fun e w' => e = .returned (.int .i64 (cmpT a b)) ∧ Ext w w' := by
  obtain ⟨aa, ca, rfl, h⟩ := h.open
  obtain ⟨ab, cb, rfl, k⟩ := k.open
  have hEx : Ext w _ := ((Ext.refl w).alloc (Obj.cells #[.int .i64 a.id, .slice aa a.need.length ca] 45)).alloc (Obj.cells #[.int .i64 b.id, .slice ab b.need.length cb] 45)
  have hb1 : ((w.alloc (Obj.cells #[.int .i64 a.id, .slice aa a.need.length ca] 45)).alloc (Obj.cells #[.int .i64 b.id, .slice ab b.need.length cb] 45)).heap[w.heap.size]? = some (Obj.cells #[.int .i64 a.id, .slice aa a.need.length ca] 45) := heap_skip _ _ (heap_alloc_new w _)
  have hb2 : ((w.alloc (Obj.cells #[.int .i64 a.id, .slice aa a.need.length ca] 45)).alloc (Obj.cells #[.int .i64 b.id, .slice ab b.need.length cb] 45)).heap[w.heap.size + 1]? = some (Obj.cells #[.int .i64 b.id, .slice ab b.need.length cb] 45) := heap_push _ _ (by simp)
  go_enter Try.func118, Try.ntmps118
  go_wp2
  generalize (w.alloc (Obj.cells #[.int .i64 a.id, .slice aa a.need.length ca] 45)).alloc (Obj.cells #[.int .i64 b.id, .slice ab b.need.length cb] 45) = W at *
  have HB := Lib.hid (show W.drew.heap[w.heap.size]? = some (Obj.cells #[.int .i64 a.id, .slice aa a.need.length ca] 45) ∧ W.drew.heap[w.heap.size + 1]? = some (Obj.cells #[.int .i64 b.id, .slice ab b.need.length cb] 45) from ⟨hb1, hb2⟩)
  have Ha := Lib.hid (h.ext hEx).drew
  have Hb := Lib.hid (k.ext hEx).drew
  have Va := Lib.hid ha
  have Vb := Lib.hid hb
  have E0 := Lib.hid hEx
  clear hb1 hb2 h k ha hb hEx
  -- region
  refine wp_region_held_drew (S := fun w' => w'.heap[w.heap.size]? = some (Obj.cells #[.int .i64 a.id, .slice aa a.need.length ca] 45) ∧ w'.heap[w.heap.size + 1]? = some (Obj.cells #[.int .i64 b.id, .slice ab b.need.length cb] 45)) (by kernel_rfl) (HB.out) (fun hHeld => ?_)
  refine takeH (i := 0) (d := some 5) (v := ?_) rfl rfl (by kernel_rfl) (by kernel_rfl) (by kernel_rfl) (fun _ _ _ h => h) (by rfl) ?_ (by assumption) ?_
  rotate_left
  · intro w hSw; (try dsimp only at hSw); (try go_simp); (try with_reducible rfl)
  try simp only [Act.put, List.setIfInBounds_toArray, List.set_cons_zero, List.set_cons_succ]
  refine takeH (i := 3) (d := some 8) (v := ?_) rfl rfl (by kernel_rfl) (by kernel_rfl) (by kernel_rfl) (fun _ _ _ h => h) (by rfl) ?_ (by assumption) ?_
  rotate_left
  · intro w hSw; (try dsimp only at hSw); (try go_simp); (try with_reducible rfl)
  try simp only [Act.put, List.setIfInBounds_toArray, List.set_cons_zero, List.set_cons_succ]
  refine takeH (i := 7) (d := some 12) (v := ?_) rfl rfl (by kernel_rfl) (by kernel_rfl) (by kernel_rfl) (fun _ _ _ h => h) (by rfl) ?_ (by assumption) ?_
  rotate_left
  · intro w hSw; (try dsimp only at hSw); (try go_simp); (try with_reducible rfl)
  try simp only [Act.put, List.setIfInBounds_toArray, List.set_cons_zero, List.set_cons_succ]
  refine takeH (i := 9) (d := some 14) (v := ?_) rfl rfl (by kernel_rfl) (by kernel_rfl) (by kernel_rfl) (fun _ _ _ h => h) (by rfl) ?_ (by assumption) ?_
  rotate_left
  · intro w hSw; (try dsimp only at hSw); (try go_simp); (try with_reducible rfl)
  try simp only [Act.put, List.setIfInBounds_toArray, List.set_cons_zero, List.set_cons_succ]
  refine takeH (i := 1) (d := some 6) (v := ?_) rfl rfl (by kernel_rfl) (by kernel_rfl) (by kernel_rfl) (fun _ _ _ h => h) (by rfl) ?_ (by assumption) ?_
  rotate_left
  · intro w hSw; (try dsimp only at hSw); (try have l0 := cell_of_heap hSw.1 0; have l1 := cell_of_heap hSw.1 1; have l2 := cell_of_heap hSw.2 0; have l3 := cell_of_heap hSw.2 1; go_simp); (try with_reducible rfl)
  try simp only [Act.put, List.setIfInBounds_toArray, List.set_cons_zero, List.set_cons_succ]
  refine takeH (i := 4) (d := some 9) (v := ?_) rfl rfl (by kernel_rfl) (by kernel_rfl) (by kernel_rfl) (fun _ _ _ h => h) (by rfl) ?_ (by assumption) ?_
  rotate_left
  · intro w hSw; (try dsimp only at hSw); (try have l0 := cell_of_heap hSw.1 0; have l1 := cell_of_heap hSw.1 1; have l2 := cell_of_heap hSw.2 0; have l3 := cell_of_heap hSw.2 1; go_simp); (try with_reducible rfl)
  try simp only [Act.put, List.setIfInBounds_toArray, List.set_cons_zero, List.set_cons_succ]
  refine takeH (i := 8) (d := some 13) (v := ?_) rfl rfl (by kernel_rfl) (by kernel_rfl) (by kernel_rfl) (fun _ _ _ h => h) (by rfl) ?_ (by assumption) ?_
  rotate_left
  · intro w hSw; (try dsimp only at hSw); (try have l0 := cell_of_heap hSw.1 0; have l1 := cell_of_heap hSw.1 1; have l2 := cell_of_heap hSw.2 0; have l3 := cell_of_heap hSw.2 1; go_simp); (try with_reducible rfl)
  try simp only [Act.put, List.setIfInBounds_toArray, List.set_cons_zero, List.set_cons_succ]
  refine takeH (i := 10) (d := some 15) (v := ?_) rfl rfl (by kernel_rfl) (by kernel_rfl) (by kernel_rfl) (fun _ _ _ h => h) (by rfl) ?_ (by assumption) ?_
  rotate_left
  · intro w hSw; (try dsimp only at hSw); (try have l0 := cell_of_heap hSw.1 0; have l1 := cell_of_heap hSw.1 1; have l2 := cell_of_heap hSw.2 0; have l3 := cell_of_heap hSw.2 1; go_simp); (try with_reducible rfl)
  try simp only [Act.put, List.setIfInBounds_toArray, List.set_cons_zero, List.set_cons_succ]
  refine oneH (i := 2) (by kernel_rfl) rfl (by rfl) (fun K hK => ?_)
  go_simp
  refine (total_any _ _ _ Hb.out Vb.out).mono ?_; rintro e w1 ⟨rfl, rfl⟩
  try dsimp only
  refine hK.out _ _ (hHeld) (fun hHeld => ?_)
  clear hK K
  try simp only [Act.put, List.setIfInBounds_toArray, List.set_cons_zero, List.set_cons_succ]
  refine oneH (i := 5) (by kernel_rfl) rfl (by rfl) (fun K hK => ?_)
  go_simp
  refine (total_any _ _ _ Ha.out Va.out).mono ?_; rintro e w1 ⟨rfl, rfl⟩
  try dsimp only
  refine hK.out _ _ (hHeld) (fun hHeld => ?_)
  clear hK K
  try simp only [Act.put, List.setIfInBounds_toArray, List.set_cons_zero, List.set_cons_succ]
  refine oneH (i := 6) (by kernel_rfl) rfl (by rfl) (fun K hK => ?_)
  go_simp
  refine (compareI_any _ _ _).mono ?_; rintro e w1 ⟨rfl, rfl⟩
  try dsimp only
  refine hK.out _ _ (hHeld) (fun hHeld => ?_)
  clear hK K
  try simp only [Act.put, List.setIfInBounds_toArray, List.set_cons_zero, List.set_cons_succ]
  refine oneH (i := 11) (by kernel_rfl) rfl (by rfl) (fun K hK => ?_)
  go_simp
  refine (compareI_any _ _ _).mono ?_; rintro e w1 ⟨rfl, rfl⟩
  try dsimp only
  refine hK.out _ _ (hHeld) (fun hHeld => ?_)
  clear hK K
  try simp only [Act.put, List.setIfInBounds_toArray, List.set_cons_zero, List.set_cons_succ]
  refine oneH (i := 12) (by kernel_rfl) rfl (by rfl) (fun K hK => ?_)
  go_simp
  try dsimp only
  refine hK.out _ _ (⟨heap_skip _ _ hHeld.1, heap_skip _ _ hHeld.2⟩) (fun hHeld => ?_)
  clear hK K
  try simp only [Act.put, List.setIfInBounds_toArray, List.set_cons_zero, List.set_cons_succ]
  refine oneH (i := 13) (by kernel_rfl) rfl (by rfl) (fun K hK => ?_)
  go_simp
  refine (orI_any _ _ _ _ (Ints.lit W.drew #[.int .i64 (cmpI (sumN b.need) (sumN a.need)), .int .i64 (cmpI a.id b.id)] _ 2 _ rfl rfl (by simp [lim]))).mono ?_; rintro e w1 ⟨rfl, rfl⟩
  try dsimp only
  refine hK.out _ _ (hHeld) (fun hHeld => ?_)
  clear hK K
  try simp only [Act.put, List.setIfInBounds_toArray, List.set_cons_zero, List.set_cons_succ]
  refine takeH (i := 14) (d := some 4) (v := ?_) rfl rfl (by kernel_rfl) (by kernel_rfl) (by kernel_rfl) (fun _ _ _ h => h) (by rfl) ?_ (by assumption) ?_
  rotate_left
  · intro w hSw; (try dsimp only at hSw); (try go_simp); (try with_reducible rfl)
  try simp only [Act.put, List.setIfInBounds_toArray, List.set_cons_zero, List.set_cons_succ]
  refine wpAnyH_done (by kernel_rfl) ?_ _
  go_wp2_with fail
  go_ret
  exact ⟨rfl, (E0.out.drew).alloc _⟩
  -- end region

end Go.Proofs.Ytcijbpjiioodlaa
