/- The reference's validity of nodes, and what fits. -/
import Derived.Test.YtipmoedflpjioaaS3
import Derived.Deep.RegionWith
namespace Go.Proofs.Ytipmoedflpjioaa
set_option maxRecDepth 100000
open Go.RowKit

theorem flatten_take_succ {α : Type} (bs : List (List α)) {k : Nat} (h : k < bs.length) : (bs.take (k + 1)).flatten = (bs.take k).flatten ++ bs[k] := by
  rw [List.take_succ_eq_append_getElem h, List.flatten_append]; simp
theorem flatten_take_le {α : Type} (bs : List (List α)) (k : Nat) : (bs.take k).flatten.length ≤ bs.flatten.length := by
  have h : bs.flatten = (bs.take k).flatten ++ (bs.drop k).flatten := by rw [← List.flatten_append, List.take_append_drop]
  rw [h]; simp
theorem mem_flat_take {α : Type} (bs : List (List α)) {k : Nat} (h : k < bs.length) : (bs.take k).flatten.length + bs[k].length ≤ bs.flatten.length := by
  have h1 := flatten_take_le bs (k + 1)
  rw [flatten_take_succ bs h] at h1
  simpa using h1

set_option maxHeartbeats 400000 in
theorem l2All_any (v : Value) (bs : List (List T)) (w : World) (h : Bins w v bs) (hf : bs.flatten.length ≤ 2097152) :
    Calls Try.prog 67 #[v] w fun e w' => ∃ r, e = .returned r ∧ Ext w w' ∧ OwnTasks w' w.heap.size r bs.flatten := by
  obtain ⟨a, cap, rfl, h⟩ := h.open
  have hl : bs.length ≤ 4194304 := h.1
  go_enter Try.func67, Try.ntmps67
  go_wp2
  go_loopw [3, 4] (fun s i wr => ∃ k : Nat, k ≤ bs.length ∧ i = .int .i64 k ∧ Ext w wr ∧ OwnTasks wr w.heap.size s (bs.take k).flatten) (fun _ i _ => bs.length - (intOf i).toNat)
  case atStart => exact ⟨0, by omega, rfl, (Ext.refl w).alloc _, by simpa using OwnTasks.lit0 w w.heap.size (Nat.le_refl _)⟩
  case round =>
    obtain ⟨k, hk, rfl, hE, hs⟩ := hrel
    by_cases hlt : k < bs.length
    · obtain ⟨b, off, nd, rfl, c0, hn⟩ := h.at hlt
      have c0' := hE.cell c0
      obtain ⟨a1, cap1, rfl, hn1⟩ := (hn.ext hE).open
      have Hst := Lib.hid (flatten_take_succ bs hlt)
      have hm := mem_flat_take bs hlt
      clear hn c0
      go_wp2_with (at_builtin; refine app_tasks rfl _ _ rfl w.heap.size _ _ rfl hs hE.le _ _ _ _ rfl hn1 (by unfold lim; omega) ?_; intro v' w1 hown1 hkt hbl)
      have hE1 := hE.below hbl
      have Ho := Lib.hid hown1
      clear hown1 hkt hbl hs hn1 hE
      go_roundw
      case rel => exact ⟨k + 1, by omega, by go_num, hE1, by rw [Hst.out]; exact Ho.out⟩
      case measure => simp [intOf]; omega
    · have e : k = bs.length := by omega
      subst e
      rw [List.take_length] at hs
      go_wp2
      go_ret
      exact ⟨_, rfl, hE, hs⟩

/-- Nodes are valid. -/
def BinsOk (room : List Int) (bs : List (List T)) : Prop := TasksOk room bs.flatten ∧ bs.length ≤ 14 ∧ ∀ k (h : k < bs.length), fitsB (loadL bs[k]) room = true
instance (room : List Int) (bs : List (List T)) : Decidable (BinsOk room bs) := by unfold BinsOk; infer_instance
def binsB (room : List Int) (bs : List (List T)) : Bool := decide (BinsOk room bs)
theorem binsB_iff {room : List Int} {bs : List (List T)} : binsB room bs = true ↔ BinsOk room bs := by simp [binsB]

theorem VecOk.bd {xs : List Int} (h : VecOk xs) : xs.length = 3 ∧ Bd 1000000 xs := ⟨h.1, fun n hn => by have := h.2 n hn; omega⟩
theorem vfitsB_iff {xs ys : List Int} : vfitsB xs ys = true ↔ VecOk xs ∧ VecOk ys ∧ fitsB xs ys = true := by
  unfold vfitsB; simp [vecB_iff, and_assoc]
theorem TasksOk.good {room : List Int} {ts : List T} (h : TasksOk room ts) : Good ts := fun t ht => by
  obtain ⟨k, hk, rfl⟩ := List.getElem_of_mem ht
  exact (vfitsB_iff.1 (h.2.2 k hk).2.2).1.bd
theorem Good.flat {bs : List (List T)} (h : Good bs.flatten) {b : List T} (hb : b ∈ bs) : Good b := fun t ht => h t (List.mem_flatten.2 ⟨b, hb, ht⟩)
theorem RoomOk.bd {xs : List Int} (h : RoomOk xs) : xs.length = 3 ∧ Bd 1000000 xs := h.1.bd
theorem binsB_bad {room : List Int} {bs : List (List T)} {k : Nat} (hk : k < bs.length) (h : fitsB (loadL bs[k]) room = false) : binsB room bs = false := by
  rw [Bool.eq_false_iff]
  intro x
  rw [(binsB_iff.1 x).2.2 k hk] at h
  cases h

set_option maxHeartbeats 1000000 in
theorem sBinsValid_any (v u : Value) (room : List Int) (bs : List (List T)) (w : World) (hr : Ints w v room) (h : Bins w u bs) (hf : bs.flatten.length ≤ 2097152) :
    Calls Try.prog 23 #[v, u] w fun e w' => e = .returned (.bool (binsB room bs)) ∧ Ext w w' := by
  obtain ⟨a, cap, rfl, h⟩ := h.open
  have hl : bs.length ≤ 4194304 := h.1
  have Hf := Lib.hid hf
  cases ht : tasksB room bs.flatten with
  | false =>
    have Hd : Hid (binsB room bs = false) := by
      show binsB room bs = false
      rw [Bool.eq_false_iff]
      intro x
      rw [tasksB_iff.2 (binsB_iff.1 x).1] at ht
      cases ht
    clear hf
    go_enter Try.func23, Try.ntmps23
    go_wp2_with fail
    refine (l2All_any _ _ _ h Hf.out).mono ?_
    rintro e w1 ⟨r, rfl, hE, ho⟩
    have Ho := Lib.hid (ho.done (by have := Hf.out; unfold lim; omega))
    clear ho
    go_wp2_with fail
    refine (sTasksValid_any _ _ _ _ _ (hr.ext hE) Ho.out).mono ?_
    rintro e w2 ⟨rfl, n, rfl⟩
    go_wp2
    go_ret
    exact ⟨ret_bool Hd.out.symm, hE.drewN n⟩
  | true =>
    have hT := tasksB_iff.1 ht
    have Hg := Lib.hid hT.good
    have Hrm := Lib.hid hT.1
    have HT := Lib.hid hT
    clear hT
    by_cases h14 : bs.length ≤ 14
    · go_enter Try.func23, Try.ntmps23
      go_wp2_with fail
      refine (l2All_any _ _ _ h Hf.out).mono ?_
      rintro e w1 ⟨r, rfl, hE, ho⟩
      have Ho := Lib.hid (ho.done (by have := Hf.out; unfold lim; omega))
      clear ho
      go_wp2_with fail
      refine (sTasksValid_any _ _ _ _ _ (hr.ext hE) Ho.out).mono ?_
      rintro e w2 ⟨rfl, n, rfl⟩
      have hE1 := hE.drewN n
      go_wp2_with fail
      clear ht
      go_loopw [5] (fun i wr => ∃ k : Nat, k ≤ bs.length ∧ i = .int .i64 k ∧ Ext w wr ∧ ∀ j (h : j < bs.length), j < k → fitsB (loadL bs[j]) room = true) (fun i _ => bs.length - (intOf i).toNat)
      case atStart => exact ⟨0, by omega, rfl, hE1, fun _ _ h => by omega⟩
      case round =>
        obtain ⟨k, hk, rfl, hEr, hg⟩ := hrel
        have HG := Lib.hid hg
        clear hg
        by_cases hlt : k < bs.length
        · obtain ⟨b, off, nd, rfl, c0, hn⟩ := h.at hlt
          have c0' := hEr.cell c0
          have Hn := Lib.hid (hn.ext hEr)
          have gb := Lib.hid (Hg.out.flat (List.getElem_mem hlt))
          have gl := Lib.hid (loadL_good _ gb.out)
          clear hn c0
          cases hft : fitsB (loadL bs[k]) room with
          | true =>
            have Hd : Hid (∀ j (h : j < bs.length), j < k + 1 → fitsB (loadL bs[j]) room = true) := by
              intro j hj hjk
              by_cases e : j = k
              · subst e; exact hft
              · exact HG.out j hj (by omega)
            go_wp2_with fail
            refine (l2Load_any _ _ _ Hn.out gb.out).mono ?_
            rintro e w3 ⟨r3, rfl, hE3, hi3⟩
            have hE4 := hEr.trans hE3
            have Hi := Lib.hid hi3
            clear hi3 hE3
            go_wp2_with fail
            refine (l1Fits_any _ _ _ _ _ Hi.out (hr.ext hE4) gl.out.1 Hrm.out.1.1).mono ?_
            rintro e w5 ⟨rfl, m, rfl⟩
            have hE5 := hE4.drewN m
            go_wp2_with fail
            go_roundw
            case rel => exact ⟨k + 1, by omega, by go_num, hE5, Hd.out⟩
            case measure => simp [intOf]; omega
          | false =>
            have Hd := Lib.hid (binsB_bad hlt hft)
            go_wp2_with fail
            refine (l2Load_any _ _ _ Hn.out gb.out).mono ?_
            rintro e w3 ⟨r3, rfl, hE3, hi3⟩
            have hE4 := hEr.trans hE3
            have Hi := Lib.hid hi3
            clear hi3 hE3
            go_wp2_with fail
            refine (l1Fits_any _ _ _ _ _ Hi.out (hr.ext hE4) gl.out.1 Hrm.out.1.1).mono ?_
            rintro e w5 ⟨rfl, m, rfl⟩
            have hE5 := hE4.drewN m
            go_wp2
            go_ret
            exact ⟨ret_bool Hd.out.symm, hE5⟩
        · have e : k = bs.length := by omega
          subst e
          have Hd : Hid (binsB room bs = true) := binsB_iff.2 ⟨HT.out, h14, fun j hj => HG.out j hj hj⟩
          go_wp2
          go_ret
          exact ⟨ret_bool Hd.out.symm, hEr⟩
    · have Hd : Hid (binsB room bs = false) := by
        show binsB room bs = false
        rw [Bool.eq_false_iff]
        exact fun x => h14 (binsB_iff.1 x).2.1
      go_enter Try.func23, Try.ntmps23
      go_wp2_with fail
      refine (l2All_any _ _ _ h Hf.out).mono ?_
      rintro e w1 ⟨r, rfl, hE, ho⟩
      have Ho := Lib.hid (ho.done (by have := Hf.out; unfold lim; omega))
      clear ho
      go_wp2_with fail
      refine (sTasksValid_any _ _ _ _ _ (hr.ext hE) Ho.out).mono ?_
      rintro e w2 ⟨rfl, n, rfl⟩
      go_wp2
      go_ret
      exact ⟨ret_bool Hd.out.symm, hE.drewN n⟩

end Go.Proofs.Ytipmoedflpjioaa
