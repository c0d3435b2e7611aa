/- The reference: sums of needs, a task put at its place, sorting. No condition. -/
import Derived.Test.YtcijbpjiioodlaaI18
namespace Go.Proofs.Ytcijbpjiioodlaa
set_option maxRecDepth 100000
open Go.RowKit

set_option maxHeartbeats 400000 in
theorem l4Sum_any (v : Value) (xs : List Int) (w : World) (h : Ints w v xs) (hv : VecOk xs) :
    Calls Try.prog 141 #[v] w fun e w' => e = .returned (.int .i64 (sumN xs)) ∧ w = w' := by
  obtain ⟨a, cap, rfl, h⟩ := h.open
  have hl : xs.length ≤ 4194304 := h.1
  have HV := Lib.hid hv
  clear hv
  go_enter Try.func141, Try.ntmps141
  go_wp2
  go_loop [3, 4] (fun s i => ∃ (k : Nat) (m : Int), k ≤ xs.length ∧ i = .int .i64 k ∧ s = .int .i64 m ∧ m = sumN (xs.take k)) (fun _ i => xs.length - (intOf i).toNat)
  case atStart => exact ⟨0, 0, by omega, rfl, rfl, by simp [sumN]⟩
  case round =>
    obtain ⟨k, m, hk, rfl, rfl, hm⟩ := hrel
    by_cases hlt : k < xs.length
    · obtain ⟨b, off, rfl, hc⟩ := h.at (by omega)
      have hck := hc k hlt
      have b1 := sumN_bound HV.out k
      have b2 := HV.out.2 _ (List.getElem_mem hlt)
      rw [← hm] at b1
      obtain ⟨l1, l2⟩ := b1
      obtain ⟨l3, l4⟩ := b2
      have b0 : (0 : Int) ≤ (k : Int) := by omega
      have b3 : (k : Int) < (xs.length : Int) := by omega
      have Hm : Hid (m + xs[k] = sumN (xs.take (k + 1))) := by show m + xs[k] = sumN (xs.take (k + 1)); rw [sumN_step hlt, hm]
      clear hc hm
      go_wp2
      go_round
      case rel => exact ⟨k + 1, m + xs[k], by omega, by go_num, by go_num, Hm.out⟩
      case measure => simp [intOf]; omega
    · have e : k = xs.length := by omega
      subst e
      rw [List.take_length] at hm
      subst hm
      go_wp2
      go_ret
      exact ⟨rfl, rfl⟩

set_option maxHeartbeats 1000000 in
theorem l4Before_any (a b : T) (na nb : Value) (w : World) (h : Ints w na a.need) (k : Ints w nb b.need) (ha : VecOk a.need) (hb : VecOk b.need) :
    Calls Try.prog 161 #[.agg #[.int .i64 a.id, na], .agg #[.int .i64 b.id, nb]] w fun e w' => e = .returned (.bool (lessB a b)) ∧ Ext w w' := by
  obtain ⟨aa, ca, rfl, h⟩ := h.open
  obtain ⟨ab, cb, rfl, k⟩ := k.open
  have hEx : Ext w _ := ((Ext.refl w).alloc (Obj.cells #[.int .i64 a.id, .slice aa a.need.length ca] 45)).alloc (Obj.cells #[.int .i64 b.id, .slice ab b.need.length cb] 45)
  have Ha := Lib.hid (h.ext hEx)
  have Hb := Lib.hid (k.ext hEx)
  have hx : Hid (lessB a b = (decide (sumN b.need < sumN a.need) || (decide (sumN a.need = sumN b.need) && decide (a.id < b.id)))) := by
    show lessB a b = _
    unfold lessB
    rw [Bool.decide_or, Bool.decide_and]
  by_cases h1 : sumN b.need < sumN a.need
  · have Hd : Hid (lessB a b = true) := by show lessB a b = true; rw [hx.out]; simp [h1]
    clear hx
    go_enter Try.func161, Try.ntmps161
    go_wp2_with fail
    refine (l4Sum_any _ _ _ Ha.out ha).mono ?_; rintro e w1 ⟨rfl, rfl⟩
    go_wp2_with fail
    refine (l4Sum_any _ _ _ Hb.out hb).mono ?_; rintro e w1 ⟨rfl, rfl⟩
    go_wp2_with fail
    go_ret
    exact ⟨ret_bool Hd.out.symm, hEx⟩
  · by_cases h2 : sumN a.need = sumN b.need
    · have hb2 : (sumN a.need == sumN b.need) = true := by simp [h2]
      have h1b : decide (sumN b.need < sumN a.need) = false := by simp [h1]
      have Hd : Hid (lessB a b = decide (a.id < b.id)) := by show lessB a b = _; rw [hx.out]; simp [h2]
      clear hx h1 h2
      go_enter Try.func161, Try.ntmps161
      go_wp2_with fail
      refine (l4Sum_any _ _ _ Ha.out ha).mono ?_; rintro e w1 ⟨rfl, rfl⟩
      go_wp2_with fail
      refine (l4Sum_any _ _ _ Hb.out hb).mono ?_; rintro e w1 ⟨rfl, rfl⟩
      go_wp2_with fail
      go_ret
      exact ⟨ret_bool Hd.out.symm, hEx⟩
    · have hb2 : (sumN a.need == sumN b.need) = false := by simp [h2]
      have h1b : decide (sumN b.need < sumN a.need) = false := by simp [h1]
      have Hd : Hid (lessB a b = false) := by show lessB a b = _; rw [hx.out]; simp [h1, h2]
      clear hx h1 h2
      go_enter Try.func161, Try.ntmps161
      go_wp2_with fail
      refine (l4Sum_any _ _ _ Ha.out ha).mono ?_; rintro e w1 ⟨rfl, rfl⟩
      go_wp2_with fail
      refine (l4Sum_any _ _ _ Hb.out hb).mono ?_; rintro e w1 ⟨rfl, rfl⟩
      go_wp2_with fail
      go_ret
      exact ⟨ret_bool Hd.out.symm, hEx⟩

theorem putS_len (ys : List T) (x : T) : (putS ys x).length = ys.length + 1 := by have := (putS_perm ys x).length_eq; simpa using this
/-- A put under way. -/
def Putting (ts : List T) (x : T) (k : Nat) (o : List T) (done : Bool) : Prop := putS ts x = o ++ (if done = true then ts.drop k else putS (ts.drop k) x)
theorem Putting.start (ts : List T) (x : T) : Putting ts x 0 [] false := by simp [Putting]
theorem Putting.here {ts o : List T} {x : T} {k : Nat} (h : Putting ts x k o false) (hk : k < ts.length) (hl : lessB x ts[k] = true) : Putting ts x (k + 1) ((o ++ [x]) ++ [ts[k]]) true := by
  unfold Putting at *
  rw [h, List.drop_eq_getElem_cons hk]
  simp [putS, hl]
theorem Putting.not {ts o : List T} {x : T} {k : Nat} (h : Putting ts x k o false) (hk : k < ts.length) (hl : lessB x ts[k] = false) : Putting ts x (k + 1) (o ++ [ts[k]]) false := by
  unfold Putting at *
  rw [h, List.drop_eq_getElem_cons hk]
  simp [putS, hl]
theorem Putting.past {ts o : List T} {x : T} {k : Nat} (h : Putting ts x k o true) (hk : k < ts.length) : Putting ts x (k + 1) (o ++ [ts[k]]) true := by
  unfold Putting at *
  rw [h, List.drop_eq_getElem_cons hk]
  simp
theorem Putting.done {ts o : List T} {x : T} (h : Putting ts x ts.length o true) : o = putS ts x := by
  unfold Putting at h
  rw [h]; simp
theorem Putting.last {ts o : List T} {x : T} (h : Putting ts x ts.length o false) : o ++ [x] = putS ts x := by
  unfold Putting at h
  rw [h]; simp [putS]
theorem Putting.len {ts o : List T} {x : T} {k : Nat} {d : Bool} (h : Putting ts x k o d) : o.length ≤ ts.length + 1 := by
  unfold Putting at h
  have := putS_len ts x
  rw [h, List.length_append] at this
  omega

set_option maxHeartbeats 2000000 in
theorem l4Put_any (v n : Value) (ts : List T) (x : T) (w : World) (h : Tasks w v ts) (hn : Ints w n x.need) (hv : ∀ t ∈ ts, VecOk t.need) (hx : VecOk x.need) (hlen : ts.length ≤ 1000) :
    Calls Try.prog 111 #[v, .agg #[.int .i64 x.id, n]] w fun e w' => ∃ r, e = .returned r ∧ Ext w w' ∧ OwnTasks w' w.heap.size r (putS ts x) := by
  obtain ⟨a, cap, rfl, h⟩ := h.open
  obtain ⟨an, cn, rfl, hn⟩ := hn.open
  have hl : ts.length ≤ 4194304 := h.1
  have HV := Lib.hid hv
  have HX := Lib.hid hx
  have e0 : Ext w (w.alloc (Obj.cells #[.int .i64 x.id, .slice an x.need.length cn] 45)) := (Ext.refl w).alloc _
  have R0 := Lib.hid (heap_alloc_new w (Obj.cells #[.int .i64 x.id, .slice an x.need.length cn] 45))
  clear hv hx
  go_enter Try.func111, Try.ntmps111
  go_wp2
  have sz : (w.alloc (Obj.cells #[.int .i64 x.id, .slice an x.need.length cn] 45)).heap.size = w.heap.size + 1 := by simp
  generalize w.alloc (Obj.cells #[.int .i64 x.id, .slice an x.need.length cn] 45) = W at *
  have E0 := Lib.hid e0
  have Hn := Lib.hid (hn.ext e0)
  have Ht := Lib.hid (h.ext e0)
  have lw := e0.le
  clear e0
  go_loopw [5, 6, 7] (fun s q i wr => ∃ (k : Nat) (o : List T) (d : Bool), k ≤ ts.length ∧ i = .int .i64 k ∧ q = .bool d ∧ Ext W wr ∧ OwnTasks wr W.heap.size s o ∧ Putting ts x k o d) (fun _ _ i _ => ts.length - (intOf i).toNat)
  case atStart => exact ⟨0, [], false, by omega, rfl, rfl, (Ext.refl W).alloc _, OwnTasks.lit0' W W.heap.size (Nat.le_refl _) _ sz.symm, Putting.start ts x⟩
  case round =>
    obtain ⟨k, o, d, hk, rfl, rfl, hE, hs, hp⟩ := hrel
    have hol : o.length ≤ 1001 := by have := hp.len; omega
    have r1 := (hE.block (lt_of_heap R0.out)).trans R0.out
    have x0 := cell_of_heap r1 0
    have x1 := cell_of_heap r1 1
    have R1 := Lib.hid r1
    have Hs := Lib.hid hs
    have Hp := Lib.hid hp
    clear hs hp r1
    by_cases hlt : k < ts.length
    · obtain ⟨b, off, nd, rfl, c0, c1, hnd⟩ := Ht.out.at hlt
      have c0' := hE.cell c0
      have c1' := hE.cell c1
      obtain ⟨na, nc, rfl, hn'⟩ := (hnd.ext hE).open
      have Hnd := Lib.hid hn'
      have b0 : (0 : Int) ≤ (k : Int) := by omega
      have b1 : (k : Int) < (ts.length : Int) := by omega
      clear c0 c1 hnd hn'
      cases d with
      | true =>
        go_wp2
        go_quiet (fail)
        go_wp2_with (at_builtin; refine app_tasks rfl _ _ rfl W.heap.size _ _ rfl (Hs.out.ext (((Ext.refl wr).drewN nq).alloc _)) (by have := hE.le; simp; omega) _ _ _ [ts[k]] rfl (Tasks.lit1 (Hnd.out.ext ((Ext.refl wr).drewN nq)) 1) (by unfold lim; simp; omega) ?_; intro v' w1 hown hkt hbl)
        have hE1 := ((hE.drewN nq).alloc _).below hbl
        have Ho := Lib.hid hown
        clear hown hkt hbl hE
        go_roundw
        case rel => exact ⟨k + 1, _, true, by omega, by go_num, rfl, hE1, Ho.out, Hp.out.past hlt⟩
        case measure => simp [intOf]; omega
      | false =>
        cases hq : lessB x ts[k] with
        | true =>
          go_wp2
          go_still_tail 8, (by kernel_rfl)
          change wpList _ _ _ _ _ wr.drew
          go_wp2_with fail
          have cc := l4Before_any x ts[k] _ _ wr.drew (Hn.out.ext (hE.drew)) Hnd.out.drew HX.out (HV.out _ (List.getElem_mem hlt))
          rw [hq] at cc
          refine cc.mono ?_
          clear cc
          rintro e w1 ⟨rfl, hE1⟩
          have hE2 := (hE.drew).trans hE1
          have F1 := Lib.hid ((Ext.refl wr).drew.trans hE1)
          have Hs1 := Lib.hid (Hs.out.ext F1.out)
          have Hnd1 := Lib.hid (Hnd.out.ext F1.out)
          have x0' := F1.out.cell x0
          have x1' := F1.out.cell x1
          have d0' := F1.out.cell c0'
          have d1' := F1.out.cell c1'
          clear x0 x1 c0' c1' hE hE1
          go_wp2_with (at_builtin; first
            | (refine app_tasks rfl _ _ rfl W.heap.size _ _ rfl (Ho.out.alloc _) (by have := hE3.le; simp; omega) _ _ _ [ts[k]] rfl (Tasks.lit1 Hnd3.out 1) (by unfold lim; simp; omega) ?_; intro v'' w4 hown4 hkt4 hbl4)
            | (refine app_tasks rfl _ _ rfl W.heap.size _ _ rfl (Hs1.out.alloc _) (by have := hE2.le; simp; omega) _ _ _ [x] rfl (Tasks.lit1 (Hn.out.ext hE2) 1) (by unfold lim; simp; omega) ?_; intro v' w2 hown hkt hbl; have hE3 := (hE2.alloc _).below hbl; obtain ⟨b', off', nd', e', z0, z1, hnd'⟩ := Ht.out.at hlt; cases e'; have z0' := hE3.cell z0; have z1' := hE3.cell z1; obtain ⟨na', nc', rfl, hn2'⟩ := (hnd'.ext hE3).open; have Ho := Lib.hid hown; have Hnd3 := Lib.hid hn2'; clear hown hkt hbl hE2 x0' x1' d0' d1' z0 z1 hnd' hn2')
            | fail)
          have hE4 := (hE3.alloc _).below hbl4
          have Ho4 := Lib.hid hown4
          clear hown4 hkt4 hbl4 hE3
          go_roundw
          case rel => exact ⟨k + 1, _, true, by omega, by go_num, rfl, hE4, Ho4.out, Hp.out.here hlt hq⟩
          case measure => simp [intOf]; omega
        | false =>
          go_wp2
          go_still_tail 8, (by kernel_rfl)
          change wpList _ _ _ _ _ wr.drew
          go_wp2_with fail
          have cc := l4Before_any x ts[k] _ _ wr.drew (Hn.out.ext (hE.drew)) Hnd.out.drew HX.out (HV.out _ (List.getElem_mem hlt))
          rw [hq] at cc
          refine cc.mono ?_
          clear cc
          rintro e w1 ⟨rfl, hE1⟩
          have hE2 := (hE.drew).trans hE1
          have F1 := Lib.hid ((Ext.refl wr).drew.trans hE1)
          have Hs1 := Lib.hid (Hs.out.ext F1.out)
          have Hnd1 := Lib.hid (Hnd.out.ext F1.out)
          have d0' := F1.out.cell c0'
          have d1' := F1.out.cell c1'
          clear x0 x1 c0' c1' hE hE1
          go_wp2_with (at_builtin; refine app_tasks rfl _ _ rfl W.heap.size _ _ rfl (Hs1.out.alloc _) (by have := hE2.le; simp; omega) _ _ _ [ts[k]] rfl (Tasks.lit1 Hnd1.out 1) (by unfold lim; simp; omega) ?_; intro v' w2 hown hkt hbl)
          have hE3 := (hE2.alloc _).below hbl
          have Ho := Lib.hid hown
          clear hown hkt hbl hE2 d0' d1'
          go_roundw
          case rel => exact ⟨k + 1, _, false, by omega, by go_num, rfl, hE3, Ho.out, Hp.out.not hlt hq⟩
          case measure => simp [intOf]; omega
    · have e : k = ts.length := by omega
      subst e
      cases d with
      | true =>
        have Hd := Lib.hid Hp.out.done
        obtain ⟨sa, sc, rfl⟩ := OwnTasks.form Hs.out
        go_wp2
        go_ret
        exact ⟨_, rfl, E0.out.trans hE, by rw [← Hd.out]; exact Hs.out.base lw⟩
      | false =>
        have Hd := Lib.hid Hp.out.last
        go_wp2_with (at_builtin; refine app_tasks rfl _ _ rfl W.heap.size _ _ rfl (Hs.out.alloc _) (by have := hE.le; simp; omega) _ _ _ [x] rfl (Tasks.lit1 (Hn.out.ext hE) 1) (by unfold lim; simp; omega) ?_; intro v' w2 hown hkt hbl)
        have hE3 := (hE.alloc _).below hbl
        have Ho := Lib.hid (show OwnTasks w2 w.heap.size v' (putS ts x) by rw [← Hd.out]; exact hown.base lw)
        clear hown hkt hbl hE
        obtain ⟨sa, sc, rfl⟩ := OwnTasks.form Ho.out
        go_wp2
        go_ret
        exact ⟨_, rfl, E0.out.trans hE3, Ho.out⟩

theorem sortS_step {ts : List T} {k : Nat} (h : k < ts.length) : sortS (ts.take (k + 1)) = putS (sortS (ts.take k)) ts[k] := by
  unfold sortS
  rw [List.take_succ_eq_append_getElem h, List.foldl_append]
  rfl
theorem sortS_mem {ts : List T} {t : T} (h : t ∈ sortS ts) : t ∈ ts := (sortS_perm ts).subset h
theorem sortS_len (ts : List T) : (sortS ts).length = ts.length := (sortS_perm ts).length_eq
theorem TasksOk.vec {room : List Int} {ts : List T} (h : TasksOk room ts) : ∀ t ∈ ts, VecOk t.need := by
  intro t ht
  obtain ⟨k, hk, rfl⟩ := List.getElem_of_mem ht
  have := (h.2.2 k hk).2.2
  simp only [vfitsB, Bool.and_eq_true] at this
  exact vecB_iff.1 this.1.1

set_option maxHeartbeats 1000000 in
theorem sTasksSort_any (v u : Value) (room : List Int) (ts : List T) (w : World) (hr : Ints w v room) (h : Tasks w u ts) :
    Calls Try.prog 63 #[v, u] w fun e w' => ∃ r, e = .returned r ∧ Ext w w' ∧ OwnTasks w' w.heap.size r (sortL room ts) := by
  obtain ⟨a, cap, rfl, h⟩ := h.open
  have hl : ts.length ≤ 4194304 := h.1
  have E0 := Lib.hid ((Ext.refl w).alloc (.cells #[] 45))
  have N0 := Lib.hid (OwnTasks.lit0 w w.heap.size (Nat.le_refl _))
  have Hr := Lib.hid hr
  have Ht := Lib.hid h
  clear hr
  cases hb : tasksB room ts with
  | false =>
    have HB := Lib.hid hb
    have Hd : Hid (sortL room ts = []) := by show sortL room ts = []; simp [sortL, hb]
    clear hb
    go_enter Try.func63, Try.ntmps63
    go_wp2_with fail
    refine wp_loop_rounds 1 ?_
    rw [rounds_succ]
    by_cases h0 : 0 < ts.length
    · have h0' : (0 : Int) < (ts.length : Int) := by omega
      go_wp2_with fail
      have cc := sTasksValid_any _ _ _ _ _ (Hr.out.ext E0.out) (Ht.out.ext E0.out)
      rw [HB.out] at cc
      refine cc.mono ?_
      clear cc
      rintro e w2 ⟨rfl, m2, rfl⟩
      have hE2 := (Ext.refl (w.alloc (.cells #[] 45))).drewN m2
      have N2 := Lib.hid (N0.out.ext hE2)
      have F2 := Lib.hid (E0.out.trans hE2)
      clear hE2
      go_wp2_with fail
      refine (l2Copy_any _ _ _ (N2.out.done (by simp [lim])) (by simp)).mono ?_
      rintro e w3 ⟨r, rfl, hE3, ho⟩
      have Ho := Lib.hid ho
      clear ho
      obtain ⟨ra, rc, rfl⟩ := OwnTasks.form Ho.out
      go_wp2
      go_ret
      exact ⟨_, rfl, F2.out.trans hE3, by rw [Hd.out]; exact Ho.out.base F2.out.le⟩
    · have h0' : ¬ (0 : Int) < (ts.length : Int) := by omega
      go_wp2_with fail
      refine (l2Copy_any _ _ _ (N0.out.done (by simp [lim])) (by simp)).mono ?_
      rintro e w3 ⟨r, rfl, hE3, ho⟩
      have Ho := Lib.hid ho
      clear ho
      obtain ⟨ra, rc, rfl⟩ := OwnTasks.form Ho.out
      go_wp2
      go_ret
      exact ⟨_, rfl, E0.out.trans hE3, by rw [Hd.out]; exact Ho.out.base E0.out.le⟩
  | true =>
    have HB := Lib.hid hb
    have Hd : Hid (sortL room ts = sortS ts) := by show sortL room ts = _; simp [sortL, hb]
    have HV := Lib.hid (tasksB_iff.1 hb).vec
    have l14 : ts.length ≤ 14 := (tasksB_iff.1 hb).2.1
    clear hb
    go_enter Try.func63, Try.ntmps63
    go_wp2_with fail
    go_loopw [5, 6] (fun s i wr => ∃ k : Nat, k ≤ ts.length ∧ i = .int .i64 k ∧ Ext w wr ∧ OwnTasks wr w.heap.size s (sortS (ts.take k))) (fun _ i _ => ts.length - (intOf i).toNat)
    case atStart => exact ⟨0, by omega, rfl, E0.out, by simpa [sortS] using N0.out⟩
    case round =>
      clear E0 N0
      obtain ⟨k, hk, rfl, hE, hs⟩ := hrel
      by_cases hlt : k < ts.length
      · have sl := sortS_len (ts.take k)
        rw [List.length_take] at sl
        have Hst := Lib.hid (sortS_step hlt)
        have Hov := Lib.hid (show ∀ t ∈ sortS (ts.take k), VecOk t.need from fun t ht => HV.out t (List.mem_of_mem_take (sortS_mem ht)))
        generalize sortS (ts.take k) = o at *
        have ol : o.length ≤ 14 := by omega
        have Hs := Lib.hid hs
        obtain ⟨sa, sc, rfl⟩ := OwnTasks.form hs
        clear hs sl
        have b1 : (k : Int) < (ts.length : Int) := by omega
        have b0 : (0 : Int) ≤ (k : Int) := by omega
        go_wp2_with fail
        have cc := sTasksValid_any _ _ _ _ _ (Hr.out.ext hE) (Ht.out.ext hE)
        rw [HB.out] at cc
        refine cc.mono ?_
        clear cc
        rintro e w2 ⟨rfl, m2, rfl⟩
        have hE2 := (Ext.refl wr).drewN m2
        have hE3 := hE.trans hE2
        have Hs2 := Lib.hid (Hs.out.ext hE2)
        clear hE hE2 Hs
        obtain ⟨b, off, nd, rfl, c0, c1, hnd⟩ := h.at hlt
        have c0' := hE3.cell c0
        have c1' := hE3.cell c1
        obtain ⟨na, nc, rfl, hn'⟩ := (hnd.ext hE3).open
        have Hnd := Lib.hid hn'
        clear c0 c1 hnd hn'
        go_wp2_with fail
        refine (l4Put_any _ _ o ts[k] _ (Hs2.out.done (by unfold lim; omega)) Hnd.out Hov.out (HV.out _ (List.getElem_mem hlt)) (by omega)).mono ?_
        rintro e w3 ⟨r, rfl, hE4, ho⟩
        have hE5 := hE3.trans hE4
        have Ho := Lib.hid (show OwnTasks w3 w.heap.size r (sortS (ts.take (k + 1))) by rw [Hst.out]; exact ho.base hE3.le)
        clear ho hE4 hE3 c0' c1'
        go_wp2
        go_roundw
        case rel => exact ⟨k + 1, by omega, by go_num, hE5, Ho.out⟩
        case measure => simp [intOf]; omega
      · have e : k = ts.length := by omega
        subst e
        rw [List.take_length] at hs
        have Hs2 := Lib.hid hs
        obtain ⟨sa, sc, rfl⟩ := OwnTasks.form hs
        clear hs
        go_wp2_with fail
        refine (l2Copy_any _ _ _ (Hs2.out.done (by rw [sortS_len]; unfold lim; omega)) (fun t ht => by have := (HV.out t (sortS_mem ht)).1; omega)).mono ?_
        rintro e w3 ⟨r, rfl, hE3, ho⟩
        have Ho := Lib.hid ho
        clear ho
        obtain ⟨ra, rc, rfl⟩ := OwnTasks.form Ho.out
        go_wp2
        go_ret
        exact ⟨_, rfl, hE.trans hE3, by rw [Hd.out]; exact Ho.out.base hE.le⟩

end Go.Proofs.Ytcijbpjiioodlaa
