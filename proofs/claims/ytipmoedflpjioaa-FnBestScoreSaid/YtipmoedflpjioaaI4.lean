/- The program's validity of tasks and nodes. The program's nodes: all tasks together, validity, loads. The program's bounds. No condition. -/
import Derived.Test.YtipmoedflpjioaaI1
import Derived.Test.YtipmoedflpjioaaS5
import Derived.Deep.LoopGhost
namespace Go.Proofs.Ytipmoedflpjioaa
section
set_option maxRecDepth 100000
open Go.RowKit

theorem idsB (ts : List T) (k : Nat) (id : Int) : ((ts.take k).map (·.id)).contains id = hasB ts k id := by
  unfold hasB
  rw [Bool.eq_iff_iff]
  simp only [List.contains_iff_mem, List.mem_map, List.any_eq_true, beq_iff_eq]

theorem tasksB_long {room : List Int} {ts : List T} (h : ¬ ts.length ≤ 14) : tasksB room ts = false := by
  rw [Bool.eq_false_iff]
  exact fun x => h (tasksB_iff.1 x).2.1
theorem tasksB_all {room : List Int} {ts : List T} (hr : roomB room = true) (h14 : ts.length ≤ 14) (h : ∀ k (h : k < ts.length), (1 ≤ ts[k].id ∧ ts[k].id ≤ 40) ∧ hasB ts k ts[k].id = false ∧ vfitsB ts[k].need room = true) : tasksB room ts = true := by
  rw [tasksB_good hr h, decide_eq_true_eq]; omega

set_option maxHeartbeats 2000000 in
theorem TasksValid_any (v u : Value) (room : List Int) (ts : List T) (w : World) (hr : Ints w v room) (h : Tasks w u ts) :
    Calls Try.prog 24 #[v, u] w fun e w' => e = .returned (.bool (tasksB room ts)) ∧ Ext w w' := by
  obtain ⟨a, cap, rfl, h⟩ := h.open
  have hl : ts.length ≤ 4194304 := h.1
  cases h1 : roomB room with
  | false =>
    have Hd := Lib.hid (tasksB_room (ts := ts) h1)
    go_enter Try.func24, Try.ntmps24
    go_wp2_with fail
    refine (roomValid_any _ _ _ hr).mono ?_; rintro e w' ⟨rfl, rfl⟩
    go_wp2
    go_ret
    exact ⟨ret_bool Hd.out.symm, Ext.refl _⟩
  | true =>
    have Hrm := Lib.hid h1
    by_cases h14 : ts.length ≤ 14
    · have hmm := @run_makeMap Try.prog
      go_enter Try.func24, Try.ntmps24
      go_wp2_with fail
      refine (roomValid_any _ _ _ hr).mono ?_; rintro e w' ⟨rfl, rfl⟩
      go_wp2_with fail
      clear h1 hmm
      go_loopw [21] (fun i wr => ∃ k : Nat, k ≤ ts.length ∧ i = .int .i64 k ∧ Ext w wr ∧ MapIds wr w.heap.size ((ts.take k).map (·.id)) ∧ ∀ j (h : j < ts.length), j < k → (1 ≤ ts[j].id ∧ ts[j].id ≤ 40) ∧ hasB ts j ts[j].id = false ∧ vfitsB ts[j].need room = true) (fun i _ => ts.length - (intOf i).toNat)
      case atStart => exact ⟨0, by omega, rfl, (Ext.refl w).alloc _, MapIds.made w, fun _ _ h => by omega⟩
      case round =>
        obtain ⟨k, hk, rfl, hE, hmap, hg⟩ := hrel
        have Hg := Lib.hid hg
        have Hm := Lib.hid hmap
        clear hg hmap
        by_cases hlt : k < ts.length
        · obtain ⟨b, off, nd, rfl, c0, c1, hn⟩ := h.at hlt
          have c0' := hE.cell c0
          have c1' := hE.cell c1
          obtain ⟨an, cn, rfl, hn'⟩ := (hn.ext hE).open
          have Hn := Lib.hid hn'
          clear hn hn' c0 c1
          have hEx1 : Ext wr _ := (Ext.refl wr).alloc (Obj.cells #[.int .i64 ts[k].id, .slice an ts[k].need.length cn] 38)
          have HEx1 := Lib.hid hEx1
          clear hEx1
          cases b2 : hasB ts k ts[k].id with
          | true =>
            have Hd := Lib.hid (tasksB_bad (room := room) hlt (fun x => by rw [b2] at x; exact absurd x.2.1 (by simp)))
            have Hbb := Lib.hid ((idsB ts k ts[k].id).trans b2)
            clear b2
            go_wp2_with (at_lookup; refine lookup_ids rfl _ _ rfl w.heap.size _ rfl (Hm.out.ext HEx1.out) _ rfl true Hbb.out ?_; intro i1 ad1 n1 c1)
            go_ret
            exact ⟨ret_bool Hd.out.symm, (hE.trans HEx1.out).alloc _⟩
          | false =>
            have Hbb := Lib.hid ((idsB ts k ts[k].id).trans b2)
            have B2 := Lib.hid b2
            clear b2
            by_cases q1 : 1 ≤ ts[k].id ∧ ts[k].id ≤ 40
            · have b1 := inB_true q1.1 q1.2
              have Q1 := Lib.hid q1
              clear q1
              cases b3 : vfitsB ts[k].need room with
              | true =>
                have Hd : Hid (∀ j (h : j < ts.length), j < k + 1 → (1 ≤ ts[j].id ∧ ts[j].id ≤ 40) ∧ hasB ts j ts[j].id = false ∧ vfitsB ts[j].need room = true) := by
                  intro j hj hjk
                  by_cases e : j = k
                  · subst e; exact ⟨Q1.out, B2.out, b3⟩
                  · exact Hg.out j hj (by omega)
                have Hst : Hid ((ts.take (k + 1)).map (·.id) = (ts.take k).map (·.id) ++ [ts[k].id]) := by
                  show (ts.take (k + 1)).map (·.id) = _
                  rw [List.take_succ_eq_append_getElem hlt, List.map_append]; rfl
                go_wp2_with (at_lookup; refine lookup_ids rfl _ _ rfl w.heap.size _ rfl (Hm.out.ext HEx1.out) _ rfl false Hbb.out ?_; intro i1 ad1 n1 c1)
                refine (idValid_any _ _).mono ?_; rintro e w' ⟨rfl, rfl⟩
                go_wp2_with fail
                refine (VecFits_any _ _ _ _ _ (Hn.out.ext (HEx1.out.alloc _)) (hr.ext ((hE.trans HEx1.out).alloc _))).mono ?_; rintro e w' ⟨rfl, rfl⟩
                go_wp2_with (at_mapUpdate; refine update_ids rfl _ _ _ rfl w.heap.size _ rfl (Hm.out.ext (HEx1.out.alloc _)) _ rfl Hbb.out _ _ _ _ rfl ?_; intro w2 hm2 hg2)
                have hE2 := ((hE.trans HEx1.out).alloc (Obj.cells #[.int .i64 i1, .slice ad1 n1 c1] 38)).below (Below.grown (Below.refl _ _) hg2 (by have := hE.le; simp; omega) (fun k hk => by simp at hk; omega))
                have Hm2 := Lib.hid hm2
                clear hm2 hg2
                go_wp2_with fail
                go_roundw
                case rel => exact ⟨k + 1, by omega, by go_num, hE2, by rw [Hst.out]; exact Hm2.out, Hd.out⟩
                case measure => simp [intOf]; omega
              | false =>
                have Hd := Lib.hid (tasksB_bad (room := room) hlt (fun x => by rw [b3] at x; exact absurd x.2.2 (by simp)))
                go_wp2_with (at_lookup; refine lookup_ids rfl _ _ rfl w.heap.size _ rfl (Hm.out.ext HEx1.out) _ rfl false Hbb.out ?_; intro i1 ad1 n1 c1)
                refine (idValid_any _ _).mono ?_; rintro e w' ⟨rfl, rfl⟩
                go_wp2_with fail
                refine (VecFits_any _ _ _ _ _ (Hn.out.ext (HEx1.out.alloc _)) (hr.ext ((hE.trans HEx1.out).alloc _))).mono ?_; rintro e w' ⟨rfl, rfl⟩
                go_wp2
                go_ret
                exact ⟨ret_bool Hd.out.symm, (hE.trans HEx1.out).alloc _⟩
            · have b1 := inB_false q1
              have Hd := Lib.hid (tasksB_bad (room := room) hlt (fun x => q1 x.1))
              clear q1
              go_wp2_with (at_lookup; refine lookup_ids rfl _ _ rfl w.heap.size _ rfl (Hm.out.ext HEx1.out) _ rfl false Hbb.out ?_; intro i1 ad1 n1 c1)
              refine (idValid_any _ _).mono ?_; rintro e w' ⟨rfl, rfl⟩
              go_wp2
              go_ret
              exact ⟨ret_bool Hd.out.symm, (hE.trans HEx1.out).alloc _⟩
        · have e : k = ts.length := by omega
          subst e
          have Hd := Lib.hid (tasksB_all Hrm.out h14 (fun j hj => Hg.out j hj hj))
          go_wp2
          go_ret
          exact ⟨ret_bool Hd.out.symm, hE⟩
    · have Hd := Lib.hid (tasksB_long (room := room) h14)
      go_enter Try.func24, Try.ntmps24
      go_wp2_with fail
      refine (roomValid_any _ _ _ hr).mono ?_; rintro e w' ⟨rfl, rfl⟩
      go_wp2
      go_ret
      exact ⟨ret_bool Hd.out.symm, Ext.refl _⟩
end

section
set_option maxRecDepth 100000
open Go.RowKit

set_option maxHeartbeats 400000 in
theorem grow_any (n : Nat) (hn : n ≤ 4194304) (w : World) :
    Calls Try.prog 107 #[.slice none 0 0, .int .i64 n] w fun e w' => ∃ r, e = .returned r ∧ Ext w w' ∧ OwnTasks w' w.heap.size r [] := by
  by_cases h0 : 0 < n
  · have h0' : (0 : Int) < (n : Int) := by omega
    go_enter Try.func107, Try.ntmps107
    obtain ⟨cap, w1, hrun, hE, hown⟩ := run_grow0 n h0 hn w 27
    have Hown := Lib.hid hown
    clear hown
    go_wp2_with (at_builtin; refine Lib.wpList_append_run _ rfl _ _ _ _ rfl _ _ rfl rfl _ _ hrun ?_)
    go_ret
    exact ⟨_, rfl, hE, [], Hown.out, TaskCells.nil _⟩
  · have e : n = 0 := by omega
    subst e
    go_enter Try.func107, Try.ntmps107
    go_wp2
    go_ret
    exact ⟨_, rfl, Ext.refl _, OwnTasks.nil _ _⟩

set_option maxHeartbeats 1000000 in
theorem concat_any (v : Value) (bs : List (List T)) (w : World) (h : Bins w v bs) (hf : bs.flatten.length ≤ 2097152) :
    Calls Try.prog 65 #[v] w fun e w' => ∃ r, e = .returned r ∧ Ext w w' ∧ OwnTasks w' w.heap.size r bs.flatten := by
  obtain ⟨a, cap, rfl, h⟩ := h.open
  have hl : bs.length ≤ 4194304 := h.1
  go_enter Try.func65, Try.ntmps65
  go_wp2
  go_loop [3, 11] (fun s i => ∃ k m : Nat, k ≤ bs.length ∧ i = .int .i64 k ∧ s = .int .i64 m ∧ m = (bs.take k).flatten.length) (fun _ i => bs.length - (intOf i).toNat)
  case atStart => exact ⟨0, 0, by omega, rfl, rfl, by simp⟩
  case round =>
    obtain ⟨k, m, hk, rfl, rfl, hm0⟩ := hrel
    by_cases hlt : k < bs.length
    · obtain ⟨b, off, nd, rfl, c0, hn⟩ := h.at hlt
      obtain ⟨a1, cap1, rfl, hn1⟩ := hn.open
      have Hst := Lib.hid (flatten_take_succ bs hlt)
      have hm : m + bs[k].length ≤ 2097152 := by have := mem_flat_take bs hlt; omega
      have Hm0 := Lib.hid hm0
      clear hn hn1 hm0
      go_wp2
      go_round
      case rel => exact ⟨k + 1, m + bs[k].length, by omega, by go_num, by go_num, by rw [Hst.out, List.length_append, Hm0.out]⟩
      case measure => simp [intOf]; omega
    · have e : k = bs.length := by omega
      subst e
      rw [List.take_length] at hm0
      have hm : m ≤ 4194304 := by omega
      clear hm0
      go_wp2_with fail
      refine (grow_any _ hm _).mono ?_
      rintro e w1 ⟨r, rfl, hE, ho⟩
      have Ho := Lib.hid ho
      clear ho
      go_wp2_with fail
      go_loopw [6, 27] (fun s i wr => ∃ k : Nat, k ≤ bs.length ∧ i = .int .i64 k ∧ Ext w wr ∧ OwnTasks wr w.heap.size s (bs.take k).flatten) (fun _ i _ => bs.length - (intOf i).toNat)
      case atStart => exact ⟨0, by omega, rfl, hE, by simpa using Ho.out⟩
      case round =>
        clear Ho hE
        obtain ⟨k, hk, rfl, hE, hs⟩ := hrel
        by_cases hlt : k < bs.length
        · obtain ⟨b, off, nd, rfl, c0, hn⟩ := h.at hlt
          have c0' := hE.cell c0
          obtain ⟨a1, cap1, rfl, hn1⟩ := (hn.ext hE).open
          have Hst := Lib.hid (flatten_take_succ bs hlt)
          have hm := mem_flat_take bs hlt
          clear hn c0
          go_wp2_with (at_builtin; refine app_tasks rfl _ _ rfl w.heap.size _ _ rfl hs hE.le _ _ _ _ rfl hn1 (by unfold lim; omega) ?_; intro v' w1 hown1 hkt hbl)
          have hE1 := hE.below hbl
          have Ho := Lib.hid hown1
          clear hown1 hkt hbl hs hn1 hE
          go_roundw
          case rel => exact ⟨k + 1, by omega, by go_num, hE1, by rw [Hst.out]; exact Ho.out⟩
          case measure => simp [intOf]; omega
        · have e : k = bs.length := by omega
          subst e
          rw [List.take_length] at hs
          go_wp2
          go_ret
          exact ⟨_, rfl, hE, hs⟩

set_option maxHeartbeats 1000000 in
theorem BinsValid_any (v u : Value) (room : List Int) (bs : List (List T)) (w : World) (hr : Ints w v room) (h : Bins w u bs) (hf : bs.flatten.length ≤ 2097152) :
    Calls Try.prog 50 #[v, u] w fun e w' => e = .returned (.bool (binsB room bs)) ∧ Ext w w' := by
  obtain ⟨a, cap, rfl, h⟩ := h.open
  have hl : bs.length ≤ 4194304 := h.1
  have Hf := Lib.hid hf
  by_cases h14 : bs.length ≤ 14
  · cases ht : tasksB room bs.flatten with
    | false =>
      have Hd : Hid (binsB room bs = false) := by
        show binsB room bs = false
        rw [Bool.eq_false_iff]
        intro x
        rw [tasksB_iff.2 (binsB_iff.1 x).1] at ht
        cases ht
      clear hf
      go_enter Try.func50, Try.ntmps50
      go_wp2_with fail
      refine (concat_any _ _ _ h Hf.out).mono ?_
      rintro e w1 ⟨r, rfl, hE, ho⟩
      have Ho := Lib.hid (ho.done (by have := Hf.out; unfold lim; omega))
      clear ho
      go_wp2_with fail
      refine (TasksValid_any _ _ _ _ _ (hr.ext hE) Ho.out).mono ?_
      rintro e w2 ⟨rfl, hE2⟩
      go_wp2
      go_ret
      exact ⟨ret_bool Hd.out.symm, hE.trans hE2⟩
    | true =>
      have hT := tasksB_iff.1 ht
      have Hg := Lib.hid hT.good
      have Hrm := Lib.hid hT.1
      have HT := Lib.hid hT
      clear hT hf
      go_enter Try.func50, Try.ntmps50
      go_wp2_with fail
      refine (concat_any _ _ _ h Hf.out).mono ?_
      rintro e w1 ⟨r, rfl, hE, ho⟩
      have Ho := Lib.hid (ho.done (by have := Hf.out; unfold lim; omega))
      clear ho
      go_wp2_with fail
      refine (TasksValid_any _ _ _ _ _ (hr.ext hE) Ho.out).mono ?_
      rintro e w2 ⟨rfl, hE2⟩
      have hE1 := hE.trans hE2
      clear hE hE2 Ho
      go_wp2_with fail
      clear ht
      go_loopw [19] (fun i wr => ∃ k : Nat, k ≤ bs.length ∧ i = .int .i64 k ∧ Ext w wr ∧ ∀ j (h : j < bs.length), j < k → fitsB (loadL bs[j]) room = true) (fun i _ => bs.length - (intOf i).toNat)
      case atStart => exact ⟨0, by omega, rfl, hE1, fun _ _ h => by omega⟩
      case round =>
        clear hE1
        obtain ⟨k, hk, rfl, hEr, hg⟩ := hrel
        have HG := Lib.hid hg
        clear hg
        by_cases hlt : k < bs.length
        · obtain ⟨b, off, nd, rfl, c0, hn⟩ := h.at hlt
          have c0' := hEr.cell c0
          obtain ⟨a1, cap1, rfl, hn1⟩ := (hn.ext hEr).open
          have Hn := Lib.hid hn1
          have gb := Lib.hid (Hg.out.flat (List.getElem_mem hlt))
          have gl := Lib.hid (loadL_good _ gb.out)
          clear hn hn1 c0
          cases hft : fitsB (loadL bs[k]) room with
          | true =>
            have Hd : Hid (∀ j (h : j < bs.length), j < k + 1 → fitsB (loadL bs[j]) room = true) := by
              intro j hj hjk
              by_cases e : j = k
              · subst e; exact hft
              · exact HG.out j hj (by omega)
            go_wp2_with fail
            refine (loadOf_any _ _ _ Hn.out gb.out).mono ?_
            rintro e w3 ⟨r3, rfl, hE3, hi3⟩
            have hE4 := hEr.trans hE3
            have Hi := Lib.hid hi3
            clear hi3 hE3
            go_wp2_with fail
            refine (fits_any _ _ _ _ _ Hi.out (hr.ext hE4) gl.out.1 Hrm.out.1.1).mono ?_
            rintro e w5 ⟨rfl, rfl⟩
            go_wp2_with fail
            go_roundw
            case rel => exact ⟨k + 1, by omega, by go_num, hE4, Hd.out⟩
            case measure => simp [intOf]; omega
          | false =>
            have Hd := Lib.hid (binsB_bad hlt hft)
            go_wp2_with fail
            refine (loadOf_any _ _ _ Hn.out gb.out).mono ?_
            rintro e w3 ⟨r3, rfl, hE3, hi3⟩
            have hE4 := hEr.trans hE3
            have Hi := Lib.hid hi3
            clear hi3 hE3
            go_wp2_with fail
            refine (fits_any _ _ _ _ _ Hi.out (hr.ext hE4) gl.out.1 Hrm.out.1.1).mono ?_
            rintro e w5 ⟨rfl, rfl⟩
            go_wp2
            go_ret
            exact ⟨ret_bool Hd.out.symm, hE4⟩
        · have e : k = bs.length := by omega
          subst e
          have Hd : Hid (binsB room bs = true) := binsB_iff.2 ⟨HT.out, h14, fun j hj => HG.out j hj hj⟩
          go_wp2
          go_ret
          exact ⟨ret_bool Hd.out.symm, hEr⟩
  · have Hd : Hid (binsB room bs = false) := by
      show binsB room bs = false
      rw [Bool.eq_false_iff]
      exact fun x => h14 (binsB_iff.1 x).2.1
    go_enter Try.func50, Try.ntmps50
    go_wp2
    go_ret
    exact ⟨ret_bool Hd.out.symm, Ext.refl _⟩

/-- The load of valid tasks, or nothing. -/
def binLoadL (room : List Int) (ts : List T) : List Int := if tasksB room ts = true then loadL ts else []
theorem Ints.nil (w : World) : Ints w (.slice none 0 0) [] := ⟨by simp, none, 0, rfl, .inl rfl⟩

set_option maxHeartbeats 1000000 in
theorem BinLoad_any (v u : Value) (room : List Int) (ts : List T) (w : World) (hr : Ints w v room) (h : Tasks w u ts) :
    Calls Try.prog 48 #[v, u] w fun e w' => ∃ r, e = .returned r ∧ Ext w w' ∧ Ints w' r (binLoadL room ts) := by
  cases ht : tasksB room ts with
  | false =>
    have Hd : Hid (binLoadL room ts = []) := by show binLoadL room ts = []; simp [binLoadL, ht]
    go_enter Try.func48, Try.ntmps48
    go_wp2_with fail
    refine (TasksValid_any _ _ _ _ _ hr h).mono ?_
    rintro e w2 ⟨rfl, hE2⟩
    go_wp2
    go_ret
    exact ⟨_, rfl, hE2, by rw [Hd.out]; exact Ints.nil _⟩
  | true =>
    have hg := Lib.hid (tasksB_iff.1 ht).good
    have Hd : Hid (binLoadL room ts = loadL ts) := by show binLoadL room ts = loadL ts; simp [binLoadL, ht]
    go_enter Try.func48, Try.ntmps48
    go_wp2_with fail
    refine (TasksValid_any _ _ _ _ _ hr h).mono ?_
    rintro e w2 ⟨rfl, hE2⟩
    go_wp2_with fail
    refine (loadOf_any _ _ _ (h.ext hE2) hg.out).mono ?_
    rintro e w3 ⟨r3, rfl, hE3, hi3⟩
    have Hi := Lib.hid hi3
    clear hi3
    go_wp2
    go_ret
    exact ⟨_, rfl, hE2.trans hE3, by rw [Hd.out]; exact Hi.out⟩
end

section
set_option maxRecDepth 100000
open Go.RowKit

set_option maxHeartbeats 400000 in
theorem clash_any (v : Value) (room : List Int) (x y : T) (w : World) (n1 n2 : Value) (hr : Ints w v room) (h1 : Ints w n1 x.need) (h2 : Ints w n2 y.need) (r3 : room.length = 3) (g1 : Good1 x) (g2 : Good1 y) :
    Calls Try.prog 119 #[v, .agg #[.int .i64 x.id, n1], .agg #[.int .i64 y.id, n2]] w fun e w' => e = .returned (.bool (clashB room x y)) ∧ Ext w w' := by
  obtain ⟨a1, c1, rfl, h1⟩ := h1.open
  obtain ⟨a2, c2, rfl, h2⟩ := h2.open
  have R3 := Lib.hid r3
  have G1 := Lib.hid g1
  have G2 := Lib.hid g2
  clear r3 g1 g2
  go_enter Try.func119, Try.ntmps119
  go_wp2_with fail
  have hEx : Ext w _ := ((Ext.refl w).alloc (Obj.cells #[.int .i64 x.id, .slice a1 x.need.length c1] 38)).alloc (Obj.cells #[.int .i64 y.id, .slice a2 y.need.length c2] 38)
  refine (plus_any _ _ _ _ _ (h1.ext hEx) (h2.ext hEx) G1.out.1 G2.out.1 (G1.out.2.mono (by omega)) (G2.out.2.mono (by omega))).mono ?_
  rintro e w1 ⟨r, rfl, hE, hi⟩
  have hE1 := hEx.trans hE
  have Hi := Lib.hid hi
  clear hi hE hEx
  go_wp2_with fail
  refine (fits_any _ _ _ _ _ Hi.out (hr.ext hE1) (addL_get G1.out.1 G2.out.1).1 R3.out).mono ?_
  rintro e w2 ⟨rfl, rfl⟩
  go_wp2
  go_ret
  exact ⟨ret_bool rfl, hE1⟩

set_option maxHeartbeats 400000 in
theorem boundSumF_any (i : Nat) (n r : Int) (p : Nat) (b off cap : Nat) (w : World) (hi : i < 3) (hp : w.cell? ⟨p, 0, none⟩ = some (.slice (some ⟨b, off, none⟩) 3 cap)) (hc : w.cell? ⟨b, off + i, none⟩ = some (.int .i64 r)) (h1 : 1 ≤ r) (h2 : r ≤ 20) (h3 : 0 ≤ n) (h4 : n ≤ 100000000) :
    Calls Try.prog 118 #[.int .i64 i, .int .i64 n, .pointer (some ⟨p, 0, none⟩)] w fun e w' => e = .returned (.int .i64 ((n + r - 1) / r)) ∧ ∃ m, w' = w.drewN m := by
  have b1 : (i : Int) < 3 := by omega
  have b0 : (0 : Int) ≤ (i : Int) := by omega
  go_enter Try.func118, Try.ntmps118
  go_wp2
  go_region
  go_wp2
  go_ret
  exact ⟨rfl, 1, rfl⟩

set_option maxHeartbeats 1000000 in
theorem greatest_any (v : Value) (load room : List Int) (p b off cap : Nat) (w : World) (h : Ints w v load) (l3 : load.length = 3) (r3 : room.length = 3) (hp : w.cell? ⟨p, 0, none⟩ = some (.slice (some ⟨b, off, none⟩) 3 cap))
    (hc : ∀ k (hk : k < room.length), w.cell? ⟨b, off + k, none⟩ = some (.int .i64 room[k])) (hrm : RoomOk room) (hnn : ∀ n ∈ load, 0 ≤ n ∧ n ≤ 100000000) :
    Calls Try.prog 117 #[v, .func (.func 118) #[] #[.pointer (some ⟨p, 0, none⟩)]] w fun e w' => e = .returned (.int .i64 ((quoL load room).foldl max 0)) ∧ Ext w w' := by
  obtain ⟨al, capl, rfl, h⟩ := h.open
  obtain ⟨bl, ol, rfl, hcl⟩ := h.at (by omega)
  have Hcl := Lib.hid hcl
  have Hcr := Lib.hid hc
  have Hp := Lib.hid hp
  have R3 := Lib.hid r3
  have L3 := Lib.hid l3
  have Hrm := Lib.hid hrm
  have Hnn := Lib.hid hnn
  rw [l3]
  clear hcl hc hp r3 l3 h hrm hnn
  go_enter Try.func117, Try.ntmps117
  go_wp2
  go_loopw [5, 10] (fun s i wr => ∃ (k : Nat) (m : Int), k ≤ 3 ∧ i = .int .i64 k ∧ s = .int .i64 m ∧ Ext w wr ∧ m = ((quoL load room).take k).foldl max 0) (fun _ i _ => 3 - (intOf i).toNat)
  case atStart => exact ⟨0, 0, by omega, rfl, rfl, Ext.refl _, rfl⟩
  case round =>
    obtain ⟨k, m, hk, rfl, rfl, hE, hm⟩ := hrel
    have Hm := Lib.hid hm
    clear hm
    by_cases hlt : k < 3
    · have l1 : k < load.length := by have := L3.out; omega
      have l2 : k < room.length := by have := R3.out; omega
      have c1 := hE.cell (Hcl.out k l1)
      have C2 := Lib.hid (hE.cell (Hcr.out k l2))
      have Hp2 := Lib.hid (hE.cell Hp.out)
      have m0 := Hnn.out _ (List.getElem_mem l1)
      have m2 := Hrm.out.1.2 _ (List.getElem_mem l2)
      have m3 : 1 ≤ room[k] := Hrm.out.2 _ (List.getElem_mem l2)
      have Hst := Lib.hid (quoL_step L3.out R3.out hlt)
      go_wp2_with (go_at_call 118; refine (boundSumF_any k _ room[k] _ _ _ _ _ hlt Hp2.out C2.out m3 m2.2 m0.1 m0.2).mono ?_; rintro e w2 ⟨rfl, nn, rfl⟩)
      have hE2 := hE.drewN nn
      clear hE
      go_roundw
      case rel => exact ⟨k + 1, _, by omega, by go_num, rfl, hE2, by rw [Hst.out, foldl_snoc_max, ← Hm.out]; split <;> omega⟩
      case measure => simp [intOf]; omega
    · have e : k = 3 := by omega
      subst e
      have Hd : Hid ((quoL load room).foldl max 0 = m) := by
        show (quoL load room).foldl max 0 = m
        rw [Hm.out]
        rw [List.take_of_length_le (by simp [quoL]; have := L3.out; have := R3.out; omega)]
      go_wp2
      go_ret
      exact ⟨ret_int Hd.out.symm, hE⟩

set_option maxHeartbeats 600000 in
theorem BoundSum_any (v u : Value) (room : List Int) (ts : List T) (w : World) (hr : Ints w v room) (h : Tasks w u ts) :
    Calls Try.prog 85 #[v, u] w fun e w' => e = .returned (.int .i64 (if tasksB room ts = true then sumI room ts else -1)) ∧ Ext w w' := by
  obtain ⟨ar, capr, rfl, hr⟩ := hr.open
  cases ht : tasksB room ts with
  | false =>
    go_enter Try.func85, Try.ntmps85
    go_wp2_with fail
    have hEx : Ext w _ := (Ext.refl w).alloc (Obj.cells #[.slice ar room.length capr] 23)
    refine (TasksValid_any _ _ _ _ _ (hr.ext hEx) (h.ext hEx)).mono ?_
    rintro e w2 ⟨rfl, hE⟩
    have hE2 := hEx.trans hE
    clear hE hEx
    go_wp2
    go_ret
    exact ⟨ret_int (by simp), hE2⟩
  | true =>
    have HT := Lib.hid (tasksB_iff.1 ht)
    have r3 := HT.out.1.1.1
    obtain ⟨br, orr, rfl, hcr⟩ := hr.at (by omega)
    have Hcr := Lib.hid hcr
    have R3 := Lib.hid r3
    have Hr := Lib.hid hr
    rw [r3]
    rw [r3] at Hr
    clear hcr r3
    go_enter Try.func85, Try.ntmps85
    go_wp2_with fail
    have hEx : Ext w _ := (Ext.refl w).alloc (Obj.cells #[.slice (some ⟨br, orr, none⟩) 3 capr] 23)
    have hcp : (w.alloc (Obj.cells #[.slice (some ⟨br, orr, none⟩) 3 capr] 23)).cell? ⟨w.heap.size, 0, none⟩ = some (.slice (some ⟨br, orr, none⟩) 3 capr) := by simp
    refine (TasksValid_any _ _ _ _ _ (Hr.out.ext hEx) (h.ext hEx)).mono ?_
    rintro e w2 ⟨rfl, hE⟩
    have hE2 := hEx.trans hE
    have Hcp := Lib.hid (hE.cell hcp)
    clear hE hEx hcp
    have hmf : ∀ (fn : Fn) (first cap : Array Value) (w : World), (Instr.makeFunc fn first cap).run Try.prog w = .ok (.func fn first cap) w := fun _ _ _ _ => rfl
    have Hg := Lib.hid HT.out.good
    have Hl := Lib.hid (loadL_good _ HT.out.good)
    have Hnn := Lib.hid (show ∀ n ∈ loadL ts, 0 ≤ n ∧ n ≤ 100000000 from fun n hn => ⟨loadL_nonneg _ HT.out.nonneg n hn, by have h1 := Hl.out.2 n hn; have h2 := HT.out.2.1; omega⟩)
    have Hd : Hid (sumI room ts = (quoL (loadL ts) room).foldl max 0) := rfl
    go_wp2_with fail
    clear ht
    refine (loadOf_any _ _ _ (h.ext hE2) Hg.out).mono ?_
    rintro e w3 ⟨r, rfl, hE, hi⟩
    have hE3 := hE2.trans hE
    have Hi := Lib.hid hi
    have Hcp3 := Lib.hid (hE.cell Hcp.out)
    clear hi hE Hcp
    go_wp2_with fail
    refine (greatest_any _ _ room w.heap.size br orr capr _ Hi.out Hl.out.1 R3.out Hcp3.out (fun k hk => hE3.cell (Hcr.out k hk)) HT.out.1 Hnn.out).mono ?_
    rintro e w4 ⟨rfl, hE4⟩
    have hE5 := hE3.trans hE4
    clear hE3 hE4 hE2
    go_wp2_with fail
    go_ret
    exact ⟨ret_int (by rw [Hd.out]), hE5⟩

theorem addL_comm (xs ys : List Int) : addL xs ys 1 = addL ys xs 1 := by
  unfold addL
  rw [List.zipWith_comm]
  congr 1
  funext a b
  omega
theorem clashB_comm (room : List Int) (x y : T) : clashB room x y = clashB room y x := by unfold clashB; rw [addL_comm]

set_option maxHeartbeats 1000000 in
theorem BoundApart_any (v u : Value) (room : List Int) (ts : List T) (w : World) (hr : Ints w v room) (h : Tasks w u ts) :
    Calls Try.prog 86 #[v, u] w fun e w' => e = .returned (.int .i64 (if tasksB room ts = true then apartI room ts else -1)) ∧ Ext w w' := by
  obtain ⟨a, cap, rfl, h⟩ := h.open
  have hl : ts.length ≤ 4194304 := h.1
  cases ht : tasksB room ts with
  | false =>
    go_enter Try.func86, Try.ntmps86
    go_wp2_with fail
    go_step3
    go_wp2_with fail
    refine (TasksValid_any _ _ _ _ _ hr h).mono ?_
    rintro e w2 ⟨rfl, hE⟩
    go_wp2_with fail
    rw [Exit.noGoto_ret]
    go_ret
    exact ⟨ret_int (by simp), hE⟩
  | true =>
    have HT := Lib.hid (tasksB_iff.1 ht)
    have R3 := Lib.hid HT.out.1.1.1
    have HG := Lib.hid HT.out.good
    have Hr := Lib.hid hr
    go_enter Try.func86, Try.ntmps86
    go_wp2_with fail
    go_step3
    go_wp2_with fail
    refine (TasksValid_any _ _ _ _ _ hr h).mono ?_
    rintro e w2 ⟨rfl, hE0⟩
    go_wp2_with fail
    go_step3
    go_wp2_with fail
    clear ht
    go_loopg [5, 17] ts.length (fun g s i wr => ∃ k : Nat, k + g = ts.length ∧ i = .int .i64 k ∧ Ext w wr ∧ OwnTasks wr w.heap.size s (takenL room (ts.take k)))
    case atStart => exact ⟨0, by omega, rfl, hE0.alloc _, OwnTasks.lit0 w2 w.heap.size hE0.le⟩
    case round =>
      clear hE0
      obtain ⟨k, hk, rfl, hE, hs⟩ := hrel
      obtain ⟨wo, rfl⟩ : ∃ wo : World, wo = wr := ⟨_, rfl⟩
      obtain ⟨go, rfl⟩ : ∃ go : Nat, go = gk := ⟨_, rfl⟩
      by_cases hlt : k < ts.length
      · have hlen := takenL_len room ts (k := k) (by omega)
        have HL := Lib.hid (Tasks.open (hs.done (by unfold lim; omega)))
        obtain ⟨at', ct, hvt, htk⟩ := HL.out
        have Hs := Lib.hid hs
        have Htk := Lib.hid htk
        clear hs htk HL
        subst hvt
        have Hsub := Lib.hid (takenL_sub room (ts.take k))
        have Hst := Lib.hid (takenL_step (room := room) hlt)
        generalize hT : takenL room (ts.take k) = tk at *
        clear hT
        obtain ⟨b2, off2, nd2, rfl, d0, d1, hn2⟩ := h.at hlt
        obtain ⟨e2, f2, rfl, hn2'⟩ := (hn2.ext hE).open
        have d0' := hE.cell d0
        have d1' := hE.cell d1
        have Hn2 := Lib.hid hn2'
        clear hn2 hn2' d0 d1
        go_wp2_with fail
        have hEx : Ext wo _ := (Ext.refl wo).alloc (Obj.cells #[.int .i64 ts[k].id, .slice e2 ts[k].need.length f2] 38)
        have x0 : (wo.alloc (Obj.cells #[.int .i64 ts[k].id, .slice e2 ts[k].need.length f2] 38)).cell? ⟨wo.heap.size, 0, none⟩ = some (.int .i64 ts[k].id) := by simp
        have x1 : (wo.alloc (Obj.cells #[.int .i64 ts[k].id, .slice e2 ts[k].need.length f2] 38)).cell? ⟨wo.heap.size, 1, none⟩ = some (.slice e2 ts[k].need.length f2) := by simp
        generalize wo.alloc (Obj.cells #[.int .i64 ts[k].id, .slice e2 ts[k].need.length f2] 38) = W1 at *
        have X0 := Lib.hid x0
        have X1 := Lib.hid x1
        clear x0 x1 d0' d1'
        go_loopg [23] tk.length (fun g i wr => ∃ j : Nat, j + g = tk.length ∧ i = .int .i64 j ∧ (tk.take j).all (fun u => clashB room u ts[k]) = true ∧ Ext W1 wr)
        case atStart => exact ⟨0, by omega, rfl, by simp, Ext.refl _⟩
        case round =>
          obtain ⟨j, hj, rfl, hf, hE2⟩ := hrel
          have Hf := Lib.hid hf
          clear hf
          by_cases hjl : j < tk.length
          · obtain ⟨b, off, nd, rfl, c0, c1, hn⟩ := Htk.out.at hjl
            have hEa := hEx.trans hE2
            obtain ⟨e1, f1, rfl, hn'⟩ := (hn.ext hEa).open
            have c0' := hEa.cell c0
            have c1' := hEa.cell c1
            have x0' := hE2.cell X0.out
            have x1' := hE2.cell X1.out
            have Hn := Lib.hid hn'
            have Hn2b := Lib.hid (Hn2.out.ext hEa)
            have Hr2 := Lib.hid (Hr.out.ext (hE.trans hEa))
            have Ha := Lib.hid (all_take_succ (p := fun u => clashB room u ts[k]) hjl)
            have G1 : Hid (Good1 tk[j]) := HG.out _ (List.mem_of_mem_take (Hsub.out _ (List.getElem_mem hjl)))
            have G2 : Hid (Good1 ts[k]) := HG.out _ (List.getElem_mem hlt)
            have hlt' : (wo.heap.size : Nat) < wr.heap.size := by
              have := World.block_lt_of_cell? wr _ x0'
              simpa using this
            clear hn hn' c0 c1
            have hEy : Ext wr _ := (Ext.refl wr).alloc (Obj.cells #[.int .i64 tk[j].id, .slice e1 tk[j].need.length f1] 38)
            cases hb : clashB room ts[k] tk[j] with
            | true =>
              go_wp2_with fail
              refine (clash_any _ _ _ _ _ _ _ (Hr2.out.ext hEy) (Hn2b.out.ext hEy) (Hn.out.ext hEy) R3.out G2.out G1.out).mono ?_
              rintro e w3 ⟨rfl, hE3⟩
              have hE4 := hE2.trans (hEy.trans hE3)
              have Hb := Lib.hid hb
              clear hE2 hE3 hEy hEa
              go_wp2_with fail
              go_roundg (gk - 1)
              case rel => exact ⟨j + 1, by omega, by go_num, by rw [Ha.out, Hf.out, clashB_comm, Hb.out]; rfl, hE4⟩
              case measure => omega
            | false =>
              go_wp2_with fail
              refine (clash_any _ _ _ _ _ _ _ (Hr2.out.ext hEy) (Hn2b.out.ext hEy) (Hn.out.ext hEy) R3.out G2.out G1.out).mono ?_
              rintro e w3 ⟨rfl, hE3⟩
              have hE4 := hE.trans (hEx.trans (hE2.trans (hEy.trans hE3)))
              have Hs3 := Lib.hid (Hs.out.ext (hEx.trans (hE2.trans (hEy.trans hE3))))
              have Hno : Hid ((tk.all fun u => clashB room u ts[k]) = false) := by
                show (tk.all fun u => clashB room u ts[k]) = false
                rw [List.all_eq_false]
                exact ⟨tk[j], List.getElem_mem hjl, by rw [clashB_comm, hb]; simp⟩
              have Hb := Lib.hid hb
              clear hE2 hE3 hEy hEa hE hEx
              go_wp2_with fail
              go_roundg (go - 1)
              case rel => exact ⟨k + 1, by omega, by go_num, hE4, by rw [Hst.out, Hno.out]; exact Hs3.out⟩
              case measure => omega
          · have e : j = tk.length := by omega
            subst e
            have Hf2 := Lib.hid (show tk.all (fun u => clashB room u ts[k]) = true by have := Hf.out; rwa [List.take_length] at this)
            clear Hf
            have hEa := hEx.trans hE2
            have x0' := hE2.cell X0.out
            have x1' := hE2.cell X1.out
            have Hn2b := Lib.hid (Hn2.out.ext hEa)
            have Hs2 := Lib.hid (Hs.out.ext hEa)
            have hE3 := hE.trans hEa
            clear hE hEx hE2 hEa
            go_wp2_with (at_builtin; refine app_tasks rfl _ _ rfl w.heap.size _ _ rfl (Hs2.out.alloc _) (by have := hE3.le; simp; omega) _ _ _ [ts[k]] rfl (Tasks.lit1 Hn2b.out 1) (by unfold lim; simp; omega) ?_; intro v' w4 hown4 hkt hbl)
            have hE4 := (hE3.alloc _).below hbl
            have Ho := Lib.hid hown4
            clear hown4 hkt hbl hE3
            go_roundg (go - 1)
            case rel => exact ⟨k + 1, by omega, by go_num, hE4, by rw [Hst.out, Hf2.out]; exact Ho.out⟩
            case measure => omega
      · have e : k = ts.length := by omega
        subst e
        rw [List.take_length] at hs
        have hv := hs.done (by unfold lim; have := takenL_len room ts (Nat.le_refl _); rw [List.take_length] at this; omega)
        obtain ⟨at', ct, rfl, _⟩ := hv.open
        have Hd : Hid (apartI room ts = ((takenL room ts).length : Int)) := rfl
        generalize (takenL room ts).length = m at *
        go_wp2
        try rw [Exit.noGoto_ret]
        go_ret
        exact ⟨ret_int (by simp [Hd.out]), hE⟩

set_option maxHeartbeats 600000 in
theorem BoundBest_any (v u : Value) (room : List Int) (ts : List T) (w : World) (hr : Ints w v room) (h : Tasks w u ts) :
    Calls Try.prog 33 #[v, u] w fun e w' => e = .returned (.int .i64 (boundI room ts)) ∧ Ext w w' := by
  have Hd : Hid (boundI room ts = max (if tasksB room ts = true then sumI room ts else -1) (if tasksB room ts = true then apartI room ts else -1)) := by
    show boundI room ts = _
    unfold boundI
    split <;> simp
  go_enter Try.func33, Try.ntmps33
  go_wp2_with fail
  refine (BoundSum_any _ _ _ _ _ hr h).mono ?_
  rintro e w3 ⟨rfl, hE⟩
  generalize (if tasksB room ts = true then sumI room ts else -1) = x at *
  go_wp2_with fail
  refine (BoundApart_any _ _ _ _ _ (hr.ext hE) (h.ext hE)).mono ?_
  rintro e w4 ⟨rfl, hE2⟩
  generalize (if tasksB room ts = true then apartI room ts else -1) = y at *
  have hE3 := hE.trans hE2
  clear hE hE2
  go_wp2_with fail
  all_goals (go_ret; exact ⟨ret_int (by rw [Hd.out]; omega), hE3⟩)
end

end Go.Proofs.Ytipmoedflpjioaa
