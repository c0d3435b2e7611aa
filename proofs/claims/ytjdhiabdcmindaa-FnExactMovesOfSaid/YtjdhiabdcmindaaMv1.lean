/- The next move: which it is; the reference's way to it. No condition. -/
import Derived.Test.YtjdhiabdcmindaaS10
import Derived.Test.YtjdhiabdcmindaaI10
import Derived.Test.YtjdhiabdcmindaaPut
import Derived.Test.YtjdhiabdcmindaaReg
import Derived.Test.YtjdhiabdcmindaaMvR
namespace Go.Proofs.Ytjdhiabdcmindaa
set_option maxRecDepth 100000
open Go.RowKit

/-- A task of node i and the first earlier node in which it has room. -/
def tryO (room : List Int) (bs : List (List T)) (i : Nat) (x : T) : Option (Int × Nat) := (at11 room (bs.take i) x).map fun k => (x.id, k)
/-- The move of the first task of the last of the nodes below m that can go to an earlier node. -/
def nextR (room : List Int) (bs : List (List T)) : Nat → Option (Int × Nat)
  | 0 => none
  | m + 1 => ((bs.getD m []).findSome? (tryO room bs m)).or (nextR room bs m)
def nextO (room : List Int) (bs : List (List T)) : Option (Int × Nat) := nextR room bs bs.length
theorem at11_nil (room : List Int) (x : T) : at11 room [] x = none := rfl
theorem nextR_one (room : List Int) (bs : List (List T)) {m : Nat} (h : m ≤ 1) : nextR room bs m = none := by
  match m, h with
  | 0, _ => rfl
  | 1, _ =>
    show ((bs.getD 0 []).findSome? (tryO room bs 0)).or none = none
    have : (bs.getD 0 []).findSome? (tryO room bs 0) = none := by
      rw [List.findSome?_eq_none_iff]
      intro x _
      simp [tryO, at11_nil]
    rw [this]; rfl
theorem nextR_succ (room : List Int) (bs : List (List T)) {j : Nat} (h : j < bs.length) : nextR room bs (j + 1) = ((bs[j].drop 0).findSome? (tryO room bs j)).or (nextR room bs j) := by
  show ((bs.getD j []).findSome? (tryO room bs j)).or (nextR room bs j) = _
  rw [List.getD_eq_getElem?_getD, List.getElem?_eq_getElem h]; rfl
theorem next_step {room : List Int} {bs : List (List T)} {j q : Nat} {b : List T} (hq : q < b.length) (r : Option (Int × Nat)) :
    ((b.drop q).findSome? (tryO room bs j)).or r = match at11 room (bs.take j) b[q] with | some k => some (b[q].id, k) | none => ((b.drop (q + 1)).findSome? (tryO room bs j)).or r := by
  rw [List.drop_eq_getElem_cons hq, List.findSome?_cons]
  unfold tryO
  cases at11 room (bs.take j) b[q] <;> rfl
/-- What the function answers. -/
def nextV (o : Option (Int × Nat)) : Value := match o with
  | some (id, k) => .tuple #[.agg #[.int .i64 id, .int .i64 (k : Int)], .bool true]
  | none => .tuple #[.agg #[.int .i64 0, .int .i64 0], .bool false]
theorem at11_le {room : List Int} {bs : List (List T)} {x : T} {k : Nat} (h : at11 room bs x = some k) : k < bs.length := (List.findIdx?_eq_some_iff_getElem.1 h).1

theorem next_end {w wr : World} {id k : Int} {g : Nat} {o : Option (Int × Nat)} {j : Nat} (hg : g = w.heap.size) (hk : k = (j : Int)) (ho : o = some (id, j)) (hE : Ext w wr) : Ending.returned (.tuple #[.agg #[.int .i64 id, .int .i64 k], .bool true]) = .returned (nextV o) ∧ Ext w ((wr.setCell ⟨g, 0, none⟩ (.int .i64 id)).setCell ⟨g, 1, none⟩ (.int .i64 k)) := by
  subst hg hk ho
  exact ⟨rfl, (hE.setCell (p := ⟨w.heap.size, 0, none⟩) (Nat.le_refl _) _).setCell (p := ⟨w.heap.size, 1, none⟩) (Nat.le_refl _) _⟩
theorem next_none {w wr : World} {g : Nat} {o : Option (Int × Nat)} (hg : g = w.heap.size) (ho : o = none) (hE : Ext w wr) : Ending.returned (.tuple #[.agg #[.int .i64 0, .int .i64 0], .bool false]) = .returned (nextV o) ∧ Ext w ((wr.setCell ⟨g, 0, none⟩ (.int .i64 0)).setCell ⟨g, 1, none⟩ (.int .i64 0)) := by
  subst hg ho
  exact ⟨rfl, (hE.setCell (p := ⟨w.heap.size, 0, none⟩) (Nat.le_refl _) _).setCell (p := ⟨w.heap.size, 1, none⟩) (Nat.le_refl _) _⟩

set_option maxHeartbeats 4000000 in
theorem l16Next_any (v : Value) (a : Option Addr) (c : Nat) (room : List Int) (bs : List (List T)) (w : World) (hr : Ints w v room) (h : Bins w (.slice a bs.length c) bs) (hc : bs.length ≤ c) (r3 : room.length = 3) (gb : GoodB bs) :
    Calls Try.prog 28 #[v, .slice a bs.length c] w fun e w' => e = .returned (nextV (nextO room bs)) ∧ Ext w w' := by
  have hl : bs.length ≤ 4194304 := h.1
  obtain ⟨ra, rc, rfl, hr⟩ := hr.open
  have E0 := Lib.hid ((Ext.refl w).alloc (.cells #[.int .i64 0, .int .i64 0] 28))
  have R0 := Lib.hid (heap_alloc_new w (.cells #[.int .i64 0, .int .i64 0] 28))
  have Hr := Lib.hid (hr.ext E0.out)
  have Hb := Lib.hid (h.ext E0.out)
  have R3 := Lib.hid r3
  have GB := Lib.hid gb
  clear hr h r3 gb
  go_enter Try.func28, Try.ntmps28
  go_wp2_with fail
  generalize w.alloc (.cells #[.int .i64 0, .int .i64 0] 28) = W at *
  go_loopw [6] (fun i wr => ∃ m : Nat, m ≤ bs.length ∧ i = .int .i64 ((m : Int) - 1) ∧ nextO room bs = nextR room bs m ∧ Ext W wr) (fun i _ => (intOf i + 1).toNat)
  case atStart => exact ⟨bs.length, by omega, by go_num, rfl, Ext.refl _⟩
  case round =>
    obtain ⟨m, hm, rfl, ho, hE⟩ := hrel
    have HE := Lib.hid hE
    clear hE
    by_cases h1 : 1 < m
    · obtain ⟨j, rfl⟩ : ∃ j, m = j + 1 := ⟨m - 1, by omega⟩
      have hj : j < bs.length := by omega
      have ej : ((j + 1 : Nat) : Int) - 1 = (j : Int) := by omega
      rw [ej]
      have HO := Lib.hid (ho.trans (nextR_succ room bs hj))
      have j0 : 0 < (j : Int) := by omega
      have j00 : 0 ≤ (j : Int) := by omega
      have j1 : (j : Int) < (bs.length : Int) := by omega
      have jc : (j : Int) ≤ (c : Int) := by omega
      have hd1 : decide (0 < j) = true := decide_eq_true (by omega)
      have hd2 : decide ((0 : Int) < (j : Int)) = true := decide_eq_true (by omega)
      clear ho ej h1
      go_wp2_with fail
      try simp only [hd1, hd2]
      clear hd1 hd2
      go_loopw [7] (fun i wr => ∃ q : Nat, q ≤ bs[j].length ∧ i = .int .i64 q ∧ nextO room bs = ((bs[j].drop q).findSome? (tryO room bs j)).or (nextR room bs j) ∧ Ext W wr) (fun i _ => bs[j].length - (intOf i).toNat)
      case atStart => exact ⟨0, by omega, rfl, HO.out, HE.out⟩
      case round =>
        clear HO HE j0
        obtain ⟨q, hq, rfl, ho, hE⟩ := hrel
        obtain ⟨b, off, nd, he, c0, ht⟩ := (Hb.out.ext hE).at hj
        subst he
        obtain ⟨ta, tc, rfl, ht⟩ := ht.open
        have hbl : bs[j].length ≤ 4194304 := ht.1
        have HE := Lib.hid hE
        by_cases hlt : q < bs[j].length
        · obtain ⟨b2, off2, n2, hta, d0, d1, hn⟩ := ht.at hlt
          subst hta
          obtain ⟨na, nc, rfl, hn⟩ := hn.open
          have HN := Lib.hid hn
          have HR := Lib.hid (Hr.out.ext hE)
          have HB := Lib.hid ((Hb.out.ext hE).take (Nat.le_of_lt hj))
          have HO := Lib.hid (ho.trans (next_step hlt _))
          have K0 := Lib.hid c0
          have K1 := Lib.hid d0
          have K2 := Lib.hid d1
          have q0 : (0 : Int) ≤ (q : Int) := by omega
          have q1 : (q : Int) < (bs[j].length : Int) := by omega
          clear ho hn ht hE
          go_wp2_with fail
          refine wp_region_held_drew (S := fun w' => w'.cell? ⟨b, off + j, none⟩ = some (.slice (some ⟨b2, off2, none⟩) bs[j].length tc) ∧ w'.cell? ⟨b2, off2 + q * 2, none⟩ = some (.int .i64 bs[j][q].id) ∧ w'.cell? ⟨b2, off2 + q * 2 + 1, none⟩ = some (.slice na bs[j][q].need.length nc)) (by kernel_rfl) ⟨c0, d0, d1⟩ (fun hHeld => ?_)
          refine takeH (i := 0) (d := some 25) (v := ?_) rfl rfl (by kernel_rfl) (by kernel_rfl) (by kernel_rfl) (fun _ _ _ h => h) (by rfl) ?_ (by assumption) ?_
          rotate_left
          · intro w hSw; (try dsimp only at hSw); (try have l0 := hSw.1; have l1 := hSw.2.1; have l2 := hSw.2.2; go_simp); (try with_reducible rfl)
          try simp only [Act.put, List.setIfInBounds_toArray, List.set_cons_zero, List.set_cons_succ]
          refine takeH (i := 1) (d := some 26) (v := ?_) rfl rfl (by kernel_rfl) (by kernel_rfl) (by kernel_rfl) (fun _ _ _ h => h) (by rfl) ?_ (by assumption) ?_
          rotate_left
          · intro w hSw; (try dsimp only at hSw); (try have l0 := hSw.1; have l1 := hSw.2.1; have l2 := hSw.2.2; go_simp); (try with_reducible rfl)
          try simp only [Act.put, List.setIfInBounds_toArray, List.set_cons_zero, List.set_cons_succ]
          refine takeH (i := 2) (d := some 27) (v := ?_) rfl rfl (by kernel_rfl) (by kernel_rfl) (by kernel_rfl) (fun _ _ _ h => h) (by rfl) ?_ (by assumption) ?_
          rotate_left
          · intro w hSw; (try dsimp only at hSw); (try have l0 := hSw.1; have l1 := hSw.2.1; have l2 := hSw.2.2; go_simp); (try with_reducible rfl)
          try simp only [Act.put, List.setIfInBounds_toArray, List.set_cons_zero, List.set_cons_succ]
          refine takeH (i := 3) (d := some 28) (v := ?_) rfl rfl (by kernel_rfl) (by kernel_rfl) (by kernel_rfl) (fun _ _ _ h => h) (by rfl) ?_ (by assumption) ?_
          rotate_left
          · intro w hSw; (try dsimp only at hSw); (try have l0 := hSw.1; have l1 := hSw.2.1; have l2 := hSw.2.2; go_simp); (try with_reducible rfl)
          try simp only [Act.put, List.setIfInBounds_toArray, List.set_cons_zero, List.set_cons_succ]
          refine takeH (i := 4) (d := some 29) (v := ?_) rfl rfl (by kernel_rfl) (by kernel_rfl) (by kernel_rfl) (fun _ _ _ h => h) (by rfl) ?_ (by assumption) ?_
          rotate_left
          · intro w hSw; (try dsimp only at hSw); (try have l0 := hSw.1; have l1 := hSw.2.1; have l2 := hSw.2.2; go_simp); (try with_reducible rfl)
          try simp only [Act.put, List.setIfInBounds_toArray, List.set_cons_zero, List.set_cons_succ]
          refine takeH (i := 5) (d := some 30) (v := ?_) rfl rfl (by kernel_rfl) (by kernel_rfl) (by kernel_rfl) (fun _ _ _ h => h) (by rfl) ?_ (by assumption) ?_
          rotate_left
          · intro w hSw; (try dsimp only at hSw); (try have l0 := hSw.1; have l1 := hSw.2.1; have l2 := hSw.2.2; go_simp); (try with_reducible rfl)
          try simp only [Act.put, List.setIfInBounds_toArray, List.set_cons_zero, List.set_cons_succ]
          refine takeH (i := 6) (d := some 31) (v := ?_) rfl rfl (by kernel_rfl) (by kernel_rfl) (by kernel_rfl) (fun _ _ _ h => h) (by rfl) ?_ (by assumption) ?_
          rotate_left
          · intro w hSw; (try dsimp only at hSw); (try have l0 := hSw.1; have l1 := hSw.2.1; have l2 := hSw.2.2; go_simp); (try with_reducible rfl)
          try simp only [Act.put, List.setIfInBounds_toArray, List.set_cons_zero, List.set_cons_succ]
          refine takeH (i := 7) (d := some 32) (v := ?_) rfl rfl (by kernel_rfl) (by kernel_rfl) (by kernel_rfl) (fun _ _ _ h => h) (by rfl) ?_ (by assumption) ?_
          rotate_left
          · intro w hSw; (try dsimp only at hSw); (try have l0 := hSw.1; have l1 := hSw.2.1; have l2 := hSw.2.2; go_simp); (try with_reducible rfl)
          try simp only [Act.put, List.setIfInBounds_toArray, List.set_cons_zero, List.set_cons_succ]
          refine takeH (i := 8) (d := some 33) (v := ?_) rfl rfl (by kernel_rfl) (by kernel_rfl) (by kernel_rfl) (fun _ _ _ h => h) (by rfl) ?_ (by assumption) ?_
          rotate_left
          · intro w hSw; (try dsimp only at hSw); (try have l0 := hSw.1; have l1 := hSw.2.1; have l2 := hSw.2.2; go_simp); (try with_reducible rfl)
          try simp only [Act.put, List.setIfInBounds_toArray, List.set_cons_zero, List.set_cons_succ]
          refine takeH (i := 9) (d := some 34) (v := ?_) rfl rfl (by kernel_rfl) (by kernel_rfl) (by kernel_rfl) (fun _ _ _ h => h) (by rfl) ?_ (by assumption) ?_
          rotate_left
          · intro w hSw; (try dsimp only at hSw); (try have l0 := hSw.1; have l1 := hSw.2.1; have l2 := hSw.2.2; go_simp); (try with_reducible rfl)
          try simp only [Act.put, List.setIfInBounds_toArray, List.set_cons_zero, List.set_cons_succ]
          refine takeH (i := 10) (d := some 35) (v := ?_) rfl rfl (by kernel_rfl) (by kernel_rfl) (by kernel_rfl) (fun _ _ _ h => h) (by rfl) ?_ (by assumption) ?_
          rotate_left
          · intro w hSw; (try dsimp only at hSw); (try have l0 := hSw.1; have l1 := hSw.2.1; have l2 := hSw.2.2; go_simp); (try with_reducible rfl)
          try simp only [Act.put, List.setIfInBounds_toArray, List.set_cons_zero, List.set_cons_succ]
          refine oneH (i := 11) (by kernel_rfl) rfl (by rfl) (fun K hK => ?_)
          go_simp
          refine (l11At_any _ _ _ room (bs.take j) bs[j][q] _ (HR.out.ext (Ext.refl wr).drew) (HB.out.ext (Ext.refl wr).drew) (HN.out.ext (Ext.refl wr).drew) R3.out (fun b hb => GB.out b (List.mem_of_mem_take hb)) (GB.out _ (List.getElem_mem hj) _ (List.getElem_mem hlt))).mono ?_; rintro e w2 ⟨rfl, hE2⟩; have X2 := Lib.hid ((Ext.refl wr).drew.trans hE2); clear hE2
          try dsimp only
          refine hK.out _ _ (⟨X2.out.cell K0.out, X2.out.cell K1.out, X2.out.cell K2.out⟩) (fun hHeld => ?_)
          clear hK K
          try simp only [Act.put, List.setIfInBounds_toArray, List.set_cons_zero, List.set_cons_succ]
          refine takeH (i := 12) (d := some 8) (v := ?_) rfl rfl (by kernel_rfl) (by kernel_rfl) (by kernel_rfl) (fun _ _ _ h => h) (by rfl) ?_ (by assumption) ?_
          rotate_left
          · intro w hSw; (try dsimp only at hSw); (try go_simp); (try with_reducible rfl)
          try simp only [Act.put, List.setIfInBounds_toArray, List.set_cons_zero, List.set_cons_succ]
          refine wpAnyH_done (by kernel_rfl) ?_ _
          have E2 := Lib.hid (HE.out.trans X2.out)
          have x0 := X2.out.cell K0.out
          have x1 := X2.out.cell K1.out
          have RX := (E2.out.block (lt_of_heap R0.out)).trans R0.out
          have r0 := cell_of_heap RX 0
          have r1 := cell_of_heap RX 1
          have f0 := frozen_of_heap RX 0
          have f1 := frozen_of_heap RX 1
          clear hHeld K0 K1 K2 HR HB HN c0 d0 d1 RX HE
          cases ha : at11 room (bs.take j) bs[j][q] with
          | none =>
            have HO2 := Lib.hid (by have := HO.out; rw [ha] at this; exact this : nextO room bs = ((bs[j].drop (q + 1)).findSome? (tryO room bs j)).or (nextR room bs j))
            clear x0 x1 r0 r1 f0 f1 HO
            simp only [nodeI]
            go_wp2_with fail
            go_roundw
            case rel => exact ⟨q + 1, by omega, by go_num, HO2.out, E2.out⟩
            case measure => simp [intOf]; omega
          | some k =>
            have HO2 := Lib.hid (by have := HO.out; rw [ha] at this; exact this : nextO room bs = some (bs[j][q].id, k))
            have k0 : (0 : Int) ≤ (k : Int) := by omega
            clear HO ha
            simp only [nodeI]
            go_wp2_with fail
            refine bodyPost_ret (v := .tuple #[.agg #[.int .i64 bs[j][q].id, .int .i64 (k : Int)], .bool true]) ?_ rfl (next_end rfl rfl HO2.out (E0.out.trans E2.out))
            simp [results, Try.results28, go_sem, r0, r1]
        · have e : q = bs[j].length := by omega
          subst e
          have HO2 := Lib.hid (by have := ho; rw [List.drop_length] at this; exact this : nextO room bs = nextR room bs j)
          clear ho hE ht
          go_wp2_with fail
          go_roundw
          case rel => exact ⟨j, by omega, by go_num, HO2.out, HE.out⟩
          case measure => simp [intOf] <;> omega
    · have HO := Lib.hid (ho.trans (nextR_one room bs (by omega)))
      have RX := (HE.out.block (lt_of_heap R0.out)).trans R0.out
      have r0 := cell_of_heap RX 0
      have r1 := cell_of_heap RX 1
      have f0 := frozen_of_heap RX 0
      have f1 := frozen_of_heap RX 1
      have hm1 : ¬ (0 : Int) < (m : Int) - 1 := by omega
      have hm2 : decide ((0 : Int) < (m : Int) - 1) = false := decide_eq_false hm1
      clear ho RX
      go_wp2_with fail
      refine bodyPost_ret (v := .tuple #[.agg #[.int .i64 0, .int .i64 0], .bool false]) ?_ rfl (next_none rfl HO.out (E0.out.trans HE.out))
      simp [results, Try.results28, go_sem, r0, r1]

def gatherO (room : List Int) (bs : List (List T)) : Option (Int × Nat) := if binsB room bs = true then nextO room bs else none

set_option maxHeartbeats 1000000 in
theorem sGatherNext_any (v : Value) (a : Option Addr) (c : Nat) (room : List Int) (bs : List (List T)) (w : World) (hr : Ints w v room) (h : Bins w (.slice a bs.length c) bs) (hc : bs.length ≤ c) (hf : bs.flatten.length ≤ 2097152) :
    Calls Try.prog 8 #[v, .slice a bs.length c] w fun e w' => e = .returned (nextV (gatherO room bs)) ∧ Ext w w' := by
  obtain ⟨ra, rc, rfl, hr⟩ := hr.open
  have E0 := Lib.hid ((Ext.refl w).alloc (.cells #[.int .i64 0, .int .i64 0] 28))
  have R0 := Lib.hid (heap_alloc_new w (.cells #[.int .i64 0, .int .i64 0] 28))
  have Hr := Lib.hid (hr.ext E0.out)
  have Hb := Lib.hid (h.ext E0.out)
  clear hr h
  cases hb : binsB room bs with
  | false =>
    have Hd : Hid (gatherO room bs = none) := by show gatherO room bs = none; unfold gatherO; rw [hb]; rfl
    go_enter Try.func8, Try.ntmps8
    go_wp2_with fail
    generalize w.alloc (.cells #[.int .i64 0, .int .i64 0] 28) = W at *
    have cc := sBinsValid_any _ _ room bs W Hr.out Hb.out hf
    rw [hb] at cc
    refine cc.mono ?_
    clear cc
    rintro e w2 ⟨rfl, hE2⟩
    have RX := (hE2.block (lt_of_heap R0.out)).trans R0.out
    have r0 := cell_of_heap RX 0
    have r1 := cell_of_heap RX 1
    have f0 := frozen_of_heap RX 0
    have f1 := frozen_of_heap RX 1
    have E2 := Lib.hid (E0.out.trans hE2)
    clear RX hE2
    go_wp2_with fail
    refine bodyPost_ret (v := .tuple #[.agg #[.int .i64 0, .int .i64 0], .bool false]) ?_ rfl (next_none rfl Hd.out E2.out)
    simp [results, Try.results8, go_sem, r0, r1]
  | true =>
    have Hd : Hid (gatherO room bs = nextO room bs) := by show gatherO room bs = _; unfold gatherO; rw [if_pos hb]
    have ok := binsB_iff.1 hb
    have R3 := Lib.hid ok.1.1.1.1
    have GB := Lib.hid (show GoodB bs from fun b hb => Good.flat ok.1.good hb)
    clear ok
    go_enter Try.func8, Try.ntmps8
    go_wp2_with fail
    generalize w.alloc (.cells #[.int .i64 0, .int .i64 0] 28) = W at *
    have cc := sBinsValid_any _ _ room bs W Hr.out Hb.out hf
    rw [hb] at cc
    refine cc.mono ?_
    clear cc
    rintro e w2 ⟨rfl, hE2⟩
    have RX := Lib.hid ((hE2.block (lt_of_heap R0.out)).trans R0.out)
    have E2 := Lib.hid (E0.out.trans hE2)
    have Hr2 := Lib.hid (Hr.out.ext hE2)
    have Hb2 := Lib.hid (Hb.out.ext hE2)
    clear hE2
    go_wp2_with fail
    have cc := l16Next_any _ a c room bs w2 Hr2.out Hb2.out hc R3.out GB.out
    rw [← Hd.out] at cc
    refine cc.mono ?_
    clear cc
    rintro e w3 ⟨rfl, hE3⟩
    have RY := (hE3.block (lt_of_heap RX.out)).trans RX.out
    have r0 := cell_of_heap RY 0
    have r1 := cell_of_heap RY 1
    have f0 := frozen_of_heap RY 0
    have f1 := frozen_of_heap RY 1
    have E3 := Lib.hid (E2.out.trans hE3)
    clear RY hE3 E2 RX Hd
    cases hg : gatherO room bs with
    | none =>
      simp only [nextV]
      go_wp2_with fail
      refine bodyPost_ret (v := .tuple #[.agg #[.int .i64 0, .int .i64 0], .bool false]) ?_ rfl (next_none rfl hg E3.out)
      simp [results, Try.results8, go_sem, r0, r1]
    | some p =>
      obtain ⟨id, k⟩ := p
      simp only [nextV]
      go_wp2_with fail
      refine bodyPost_ret (v := .tuple #[.agg #[.int .i64 id, .int .i64 (k : Int)], .bool true]) ?_ rfl (next_end rfl rfl hg E3.out)
      simp [results, Try.results8, go_sem, r0, r1]

end Go.Proofs.Ytjdhiabdcmindaa
