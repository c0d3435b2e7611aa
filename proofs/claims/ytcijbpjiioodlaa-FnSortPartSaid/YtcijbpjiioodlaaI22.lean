/- The program: the sum of tasks, whether a task comes before another, first and best fit of sorted tasks; the reference's. No condition. -/
import Derived.Test.YtcijbpjiioodlaaP6
import Derived.Test.YtcijbpjiioodlaaI21
import Derived.Test.YtcijbpjiioodlaaS14
namespace Go.Proofs.Ytcijbpjiioodlaa
set_option maxRecDepth 100000
open Go.RowKit

set_option maxHeartbeats 400000 in
theorem totalLoad_any (v : Value) (xs : List Int) (w : World) (h : Ints w v xs) (hv : LoadOk xs) :
    Calls Try.prog 123 #[v] w fun e w' => e = .returned (.int .i64 (sumN xs)) ∧ w = w' := by
  obtain ⟨a, cap, rfl, h⟩ := h.open
  have hl : xs.length ≤ 4194304 := h.1
  have HV := Lib.hid hv
  clear hv
  go_enter Try.func123, Try.ntmps123
  go_wp2
  go_loop [3, 8] (fun s i => ∃ (k : Nat) (m : Int), k ≤ xs.length ∧ i = .int .i64 k ∧ s = .int .i64 m ∧ m = sumN (xs.take k)) (fun _ i => xs.length - (intOf i).toNat)
  case atStart => exact ⟨0, 0, by omega, rfl, rfl, by simp [sumN]⟩
  case round =>
    obtain ⟨k, m, hk, rfl, rfl, hm⟩ := hrel
    by_cases hlt : k < xs.length
    · obtain ⟨b, off, rfl, hc⟩ := h.at (by omega)
      have hck := hc k hlt
      have b1 := load_bound HV.out k
      have b2 := HV.out.2 _ (List.getElem_mem hlt)
      rw [← hm] at b1
      obtain ⟨l1, l2⟩ := b1
      obtain ⟨l3, l4⟩ := b2
      have Hm : Hid (m + xs[k] = sumN (xs.take (k + 1))) := by show m + xs[k] = sumN (xs.take (k + 1)); rw [sumN_step hlt, hm]
      clear hc hm
      go_wp2
      go_round
      case rel => exact ⟨k + 1, m + xs[k], by omega, by go_num, by go_num, Hm.out⟩
      case measure => simp [intOf]; omega
    · have e : k = xs.length := by omega
      subst e
      rw [List.take_length] at hm
      subst hm
      go_wp2
      go_ret
      exact ⟨rfl, rfl⟩

theorem TasksOk.goodNeeds {room : List Int} {ts : List T} (h : TasksOk room ts) : Good ts := fun t ht => ⟨(h.vec t ht).1, fun n hn => by have := (h.vec t ht).2 n hn; omega⟩

set_option maxHeartbeats 400000 in
theorem TasksSum_any (v u : Value) (room : List Int) (ts : List T) (w : World) (hr : Ints w v room) (h : Tasks w u ts) :
    Calls Try.prog 72 #[v, u] w fun e w' => e = .returned (.int .i64 (sumTI room ts)) ∧ Ext w w' := by
  cases hb : tasksB room ts with
  | false =>
    have Hd : Hid (sumTI room ts = -1) := by show sumTI room ts = -1; simp [sumTI, hb]
    go_enter Try.func72, Try.ntmps72
    go_wp2_with fail
    have cc := TasksValid_any _ _ _ _ _ hr h
    rw [hb] at cc
    refine cc.mono ?_
    clear cc
    rintro e w2 ⟨rfl, hE2⟩
    go_wp2
    go_ret
    exact ⟨ret_int Hd.out.symm, hE2⟩
  | true =>
    have Hd : Hid (sumTI room ts = sumN (loadL ts)) := by show sumTI room ts = _; simp [sumTI, hb]
    have HK := Lib.hid (tasksB_iff.1 hb)
    go_enter Try.func72, Try.ntmps72
    go_wp2_with fail
    have cc := TasksValid_any _ _ _ _ _ hr h
    rw [hb] at cc
    refine cc.mono ?_
    clear cc
    rintro e w2 ⟨rfl, hE2⟩
    go_wp2_with fail
    refine (loadOf_any _ ts _ (h.ext hE2) HK.out.goodNeeds).mono ?_
    rintro e w3 ⟨r, rfl, hE3, hi⟩
    have Hi := Lib.hid hi
    have F := Lib.hid (hE2.trans hE3)
    clear hi hE2 hE3
    go_wp2_with fail
    refine (totalLoad_any _ _ _ Hi.out HK.out.load).mono ?_
    rintro e w4 ⟨rfl, rfl⟩
    go_wp2
    go_ret
    exact ⟨ret_int Hd.out.symm, F.out⟩

theorem inB_id {x : Int} (h : 1 ≤ x ∧ x ≤ 40) : inB x 1 40 = true := inB_true h.1 h.2
set_option maxHeartbeats 1000000 in
theorem TaskBefore_any (a b : T) (na nb : Value) (w : World) (h : Ints w na a.need) (k : Ints w nb b.need) (ha : VecOk a.need) (hb : VecOk b.need) (ia : 1 ≤ a.id ∧ a.id ≤ 40) (ib : 1 ≤ b.id ∧ b.id ≤ 40) :
    Calls Try.prog 66 #[.agg #[.int .i64 a.id, na], .agg #[.int .i64 b.id, nb]] w fun e w' => e = .returned (.bool (lessB a b)) ∧ Ext w w' := by
  obtain ⟨aa, ca, rfl, h⟩ := h.open
  obtain ⟨ab, cb, rfl, k⟩ := k.open
  have hEx : Ext w _ := ((Ext.refl w).alloc (Obj.cells #[.int .i64 a.id, .slice aa a.need.length ca] 45)).alloc (Obj.cells #[.int .i64 b.id, .slice ab b.need.length cb] 45)
  have hb1 : ((w.alloc (Obj.cells #[.int .i64 a.id, .slice aa a.need.length ca] 45)).alloc (Obj.cells #[.int .i64 b.id, .slice ab b.need.length cb] 45)).heap[w.heap.size]? = some (Obj.cells #[.int .i64 a.id, .slice aa a.need.length ca] 45) := heap_skip _ _ (heap_alloc_new w _)
  have hb2 : ((w.alloc (Obj.cells #[.int .i64 a.id, .slice aa a.need.length ca] 45)).alloc (Obj.cells #[.int .i64 b.id, .slice ab b.need.length cb] 45)).heap[w.heap.size + 1]? = some (Obj.cells #[.int .i64 b.id, .slice ab b.need.length cb] 45) := heap_push _ _ (by simp)
  go_enter Try.func66, Try.ntmps66
  go_wp2_with fail
  generalize (w.alloc (Obj.cells #[.int .i64 a.id, .slice aa a.need.length ca] 45)).alloc (Obj.cells #[.int .i64 b.id, .slice ab b.need.length cb] 45) = W at *
  have a0 := cell_of_heap hb1 0
  have a1 := cell_of_heap hb1 1
  have b0 := cell_of_heap hb2 0
  have b1 := cell_of_heap hb2 1
  have Ha := Lib.hid (h.ext hEx)
  have Hb := Lib.hid (k.ext hEx)
  have Hd := Lib.hid (cmpT_less a b)
  have cb := cmpT_bound a b
  have hvv : (vecB a.need && vecB b.need) = true := by rw [vecB_iff.2 ha, vecB_iff.2 hb]; rfl
  clear hb1 hb2 h k
  have cc := idValid_any a.id W
  rw [inB_id ia] at cc
  refine cc.mono ?_; clear cc; rintro e w1 ⟨rfl, rfl⟩
  go_wp2_with fail
  have cc := idValid_any b.id W
  rw [inB_id ib] at cc
  refine cc.mono ?_; clear cc; rintro e w1 ⟨rfl, rfl⟩
  go_wp2_with fail
  have cc := bothValid_any _ _ _ _ _ Ha.out Hb.out
  rw [hvv] at cc
  refine cc.mono ?_; clear cc; rintro e w1 ⟨rfl, rfl⟩
  go_wp2_with fail
  refine (compare_any a b _ _ _ Ha.out Hb.out ha hb).mono ?_
  rintro e w2 ⟨rfl, hE2⟩
  go_wp2_with fail
  go_ret
  exact ⟨ret_bool Hd.out, hEx.trans hE2⟩

set_option maxHeartbeats 400000 in
theorem DownAll_any (v u : Value) (room : List Int) (ts : List T) (w : World) (hr : Ints w v room) (h : Tasks w u ts) :
    Calls Try.prog 56 #[v, u] w fun e w' => ∃ a c, e = .returned (.slice a (firstAllL room (sortL room ts)).length c) ∧ Ext w w' ∧ NestS w' w.heap.size (.slice a (firstAllL room (sortL room ts)).length c) (firstAllL room (sortL room ts)) := by
  go_enter Try.func56, Try.ntmps56
  go_wp2_with fail
  refine (TasksSort_any _ _ _ _ _ hr h).mono ?_
  rintro e w1 ⟨r, rfl, hE1, ht⟩
  have HL := sortL_lim room ts
  have Ht := Lib.hid (ht.tasks HL.len HL.need)
  clear ht
  go_wp2_with fail
  refine (FirstAll_any _ _ _ (sortL room ts) _ (hr.ext hE1) Ht.out).mono ?_
  rintro e w2 ⟨a, c, rfl, hE2, hN⟩
  have HN := Lib.hid (hN.base hE1.le)
  clear hN
  go_wp2
  go_ret
  exact ⟨a, c, rfl, hE1.trans hE2, HN.out⟩

set_option maxHeartbeats 400000 in
theorem sDownAll_any (v u : Value) (room : List Int) (ts : List T) (w : World) (hr : Ints w v room) (h : Tasks w u ts) :
    Calls Try.prog 57 #[v, u] w fun e w' => ∃ a c, e = .returned (.slice a (firstAllL room (sortL room ts)).length c) ∧ Ext w w' ∧ Bins w' (.slice a (firstAllL room (sortL room ts)).length c) (firstAllL room (sortL room ts)) := by
  go_enter Try.func57, Try.ntmps57
  go_wp2_with fail
  refine (sTasksSort_any _ _ _ _ _ hr h).mono ?_
  rintro e w1 ⟨r, rfl, hE1, ht⟩
  have HL := sortL_lim room ts
  have Ht := Lib.hid (ht.done HL.len)
  clear ht
  go_wp2_with fail
  refine (sFirstAll_any _ _ _ (sortL room ts) _ (hr.ext hE1) Ht.out).mono ?_
  rintro e w2 ⟨a, c, rfl, hE2, hN⟩
  have HN := Lib.hid hN
  clear hN
  go_wp2
  go_ret
  exact ⟨a, c, rfl, hE1.trans hE2, HN.out⟩

end Go.Proofs.Ytcijbpjiioodlaa
