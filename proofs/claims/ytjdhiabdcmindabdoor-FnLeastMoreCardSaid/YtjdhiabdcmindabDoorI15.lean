/- The program: all tasks are put where a chooser tells: first fit and best fit; a task is put into nodes that are copied. -/
import Derived.Test.YtjdhiabdcmindabDoorI14
import Derived.Test.YtjdhiabdcmindabDoorI10
namespace Go.Proofs.YtjdhiabdcmindabDoor
set_option maxRecDepth 100000
open Go.RowKit

/-- A function that tells the node for a task. -/
def Tells (F : Nat) (room : List Int) (ts : List T) (c : List (List T) → T → Option Nat) : Prop :=
  ∀ (v u n : Value) (bs : List (List T)) (x : T) (w : World), x ∈ ts → (∀ b ∈ bs, ∀ t ∈ b, t ∈ ts) → bs.flatten.length ≤ 50 → Ints w v room → Bins w u bs → Ints w n x.need →
    Calls Tryd.prog F #[v, u, .agg #[.int .i64 x.id, n]] w fun e w' => e = .returned (.int .i64 (nodeI (c bs x))) ∧ Ext w w'
theorem tells_first {room : List Int} {ts : List T} (h : TasksOk room ts) : Tells 32 room ts (at11 room) := fun v u n bs x w hx hb _ hr hu hn =>
  firstOf_any v u n room bs x w hr hu hn h.1.1.1 (fun b hb' t ht => h.good t (hb b hb' t ht)) (h.good x hx)
/-- The nodes that hold the first tasks. -/
theorem allL_small {room : List Int} {c : List (List T) → T → Option Nat} (hc : Chooses room c) {ts : List T} (hT : TasksOk room ts) (k : Nat) : (allL c (ts.take k)).length ≤ 14 ∧ (allL c (ts.take k)).flatten.length ≤ 14 ∧ (∀ b ∈ allL c (ts.take k), ∀ t ∈ b, t ∈ ts) ∧ (∀ b ∈ allL c (ts.take k), b.length ≤ 14 ∧ ∀ t ∈ b, t.need.length ≤ 14) := by
  obtain ⟨h1, h2, h3⟩ := allL_perm hc (ts.take k)
  have hl := hT.2.1
  have ht : (ts.take k).length ≤ ts.length := by simp; omega
  have hm : ∀ b ∈ allL c (ts.take k), ∀ t ∈ b, t ∈ ts := fun b hb t ht => (List.take_subset k ts) (h1.subset (List.mem_flatten.2 ⟨b, hb, ht⟩))
  have hf : (allL c (ts.take k)).flatten.length ≤ 14 := by rw [h1.length_eq]; omega
  exact ⟨by omega, hf, hm, fun b hb => ⟨by have := (sub_flat hb).length_le; omega, fun t ht => by have := (hT.good t (hm b hb t ht)).1; omega⟩⟩

set_option maxHeartbeats 2000000 in
theorem all_first (v u : Value) (room : List Int) (ts : List T) (w : World) (hT : TasksOk room ts) (hr : Ints w v room) (h : Tasks w u ts) :
    Calls Tryd.prog 33 #[.func (.func 32) #[] #[], v, u] w fun e w' => ∃ a cc, e = .returned (.slice a (allL (at11 room) ts).length cc) ∧ Ext w w' ∧ NestS w' w.heap.size (.slice a (allL (at11 room) ts).length cc) (allL (at11 room) ts) := by
  obtain ⟨a, cap, rfl, h⟩ := h.open
  have hl : ts.length ≤ 14 := hT.2.1
  have HT := Lib.hid hT
  have HC := Lib.hid (at11_chooses room)
  have HF := Lib.hid (tells_first hT)
  have HS := Lib.hid (fun k => allL_small (at11_chooses room) hT k)
  have HP := Lib.hid (fun (k : Nat) (h : k < ts.length) => allL_step (at11 room) h)
  clear hT
  go_enter Tryd.func33, Tryd.ntmps33
  go_wp2_with fail
  go_loopw [7, 13] (fun s i wr => ∃ k : Nat, k ≤ ts.length ∧ i = .int .i64 k ∧ Ext w wr ∧ NestS wr w.heap.size s (allL (at11 room) (ts.take k))) (fun _ i _ => ts.length - (intOf i).toNat)
  case atStart => exact ⟨0, by omega, rfl, (Ext.refl w).alloc _, NestS.lit0 w w.heap.size (Nat.le_refl _)⟩
  case round =>
    obtain ⟨k, hk, rfl, hE, hs⟩ := hrel
    have HE := Lib.hid hE
    have Hs := Lib.hid hs
    clear hE
    by_cases hlt : k < ts.length
    · obtain ⟨b, off, nd, he, c0, c1, hn⟩ := (h.ext HE.out).at hlt
      subst he
      obtain ⟨na, nc, rfl, hn'⟩ := hn.open
      obtain ⟨sa, sc, rfl⟩ := hs.form
      have hwl : w.heap.size ≤ wr.heap.size := HE.out.le
      have hx3 := Lib.hid (HT.out.good _ (List.getElem_mem hlt)).1
      have E1 := Lib.hid ((Ext.refl wr).alloc (Obj.cells #[.int .i64 ts[k].id, .slice na ts[k].need.length nc] 30))
      have Hn := Lib.hid (hn'.ext E1.out)
      have Hr := Lib.hid (hr.ext (HE.out.trans E1.out))
      have Hb := Lib.hid ((hs.ext E1.out).bins (by have := (HS.out k).1; unfold lim; omega) (fun b hb => ⟨by have := ((HS.out k).2.2.2 b hb).1; unfold lim; omega, fun t ht => by have := ((HS.out k).2.2.2 b hb).2 t ht; unfold lim; omega⟩))
      clear hs hn hn'
      go_wp2_with fail
      have q0 : (wr.alloc (Obj.cells #[.int .i64 ts[k].id, .slice na ts[k].need.length nc] 30)).cell? ⟨wr.heap.size, 0, none⟩ = some (.int .i64 ts[k].id) := by rw [box_cell]; rfl
      have q1 : (wr.alloc (Obj.cells #[.int .i64 ts[k].id, .slice na ts[k].need.length nc] 30)).cell? ⟨wr.heap.size, 1, none⟩ = some (.slice na ts[k].need.length nc) := by rw [box_cell]; rfl
      generalize wr.alloc (Obj.cells #[.int .i64 ts[k].id, .slice na ts[k].need.length nc] 30) = W at *
      have KS := Lib.hid (show ∀ w', Ext W w' → w'.cell? ⟨wr.heap.size, 0, none⟩ = some (.int .i64 ts[k].id) ∧ w'.cell? ⟨wr.heap.size, 1, none⟩ = some (.slice na ts[k].need.length nc) from fun w' h => ⟨h.cell q0, h.cell q1⟩)
      clear q0 q1 c0 c1
      go_region_held3 (fun w' => w'.cell? ⟨wr.heap.size, 0, none⟩ = some (.int .i64 ts[k].id) ∧ w'.cell? ⟨wr.heap.size, 1, none⟩ = some (.slice na ts[k].need.length nc))
        (first | exact KS.out _ (Ext.refl W).drew | exact KS.out _ E2.out | exact ⟨New.cell HQ.out.2.2 (Nat.le_refl _) (KS.out _ E2.out).1, New.cell HQ.out.2.2 (Nat.le_refl _) (KS.out _ E2.out).2⟩)
        ((first
          | (go_at_call 51; refine (placed_any _ _ (allL (at11 room) (ts.take k)) (at11 room (allL (at11 room) (ts.take k)) ts[k]) ts[k] w.heap.size wr _ Hs.out (E1.out.trans E2.out) hwl (Hn.out.ext E2.out) hx3.out (fun j hj => by rcases HC.out (allL (at11 room) (ts.take k)) ts[k] with ⟨e, _⟩ | ⟨i, hi, e, _⟩; rw [e] at hj; cases hj; rw [e] at hj; cases hj; exact hi) (by have := (HS.out k).1; unfold lim; omega) (fun b hb => by have := ((HS.out k).2.2.2 b hb).1; unfold lim; omega)).mono ?_; rintro e w3 ⟨pa, pc, rfl, hN3, hB3, hW3⟩; have HQ := Lib.hid (show NestS w3 w.heap.size _ (allL (at11 room) (ts.take (k + 1))) ∧ Ext w w3 ∧ New wr.heap.size _ w3 from ⟨by rw [HP.out k hlt]; exact hN3, (HE.out.trans (E1.out.trans E2.out)).below hB3, hW3⟩); clear hN3 hB3 hW3)
          | (go_at_call 32; refine (HF.out _ _ _ (allL (at11 room) (ts.take k)) ts[k] _ (List.getElem_mem hlt) (HS.out k).2.2.1 (by have := (HS.out k).2.1; omega) (Hr.out.ext (Ext.refl W).drew) (Hb.out.ext (Ext.refl W).drew) (Hn.out.ext (Ext.refl W).drew)).mono ?_; rintro e w2 ⟨rfl, hE2⟩; have E2 := Lib.hid ((Ext.refl W).drew.trans hE2); clear hE2)))
      all_goals
        go_wp2
        go_roundw
        case rel => exact ⟨k + 1, by omega, by go_num, HQ.out.2.1, HQ.out.1⟩
        case measure => simp [intOf]; omega
    · have e : k = ts.length := by omega
      subst e
      rw [List.take_length] at hs
      have Hs2 := Lib.hid hs
      obtain ⟨sa, sc, rfl⟩ := hs.form
      clear hs Hs
      have F := HE.out
      go_wp2
      go_ret
      exact ⟨_, _, rfl, F, Hs2.out⟩

/-- All tasks put by first fit, by best fit. -/
def firstAllL (room : List Int) (ts : List T) : List (List T) := if tasksB room ts = true then allL (at11 room) ts else []
def bestAllL (room : List Int) (ts : List T) : List (List T) := if tasksB room ts = true then allL (best12 room) ts else []

set_option maxHeartbeats 1000000 in
theorem FirstAll_any (v u : Value) (room : List Int) (ts : List T) (w : World) (hr : Ints w v room) (h : Tasks w u ts) :
    Calls Tryd.prog 17 #[v, u] w fun e w' => ∃ a c, e = .returned (.slice a (firstAllL room ts).length c) ∧ Ext w w' ∧ NestS w' w.heap.size (.slice a (firstAllL room ts).length c) (firstAllL room ts) := by
  cases hb : tasksB room ts with
  | false =>
    have Hd : Hid (firstAllL room ts = []) := by show firstAllL room ts = []; simp [firstAllL, hb]
    rw [Hd.out]
    go_enter Tryd.func17, Tryd.ntmps17
    go_wp2_with fail
    have cc := TasksValid_any _ _ room ts _ hr h
    rw [hb] at cc
    refine cc.mono ?_
    clear cc
    rintro e w2 ⟨rfl, hE2⟩
    go_wp2
    go_ret
    exact ⟨none, 0, rfl, hE2, NestS.nil _ _⟩
  | true =>
    have Hd : Hid (firstAllL room ts = allL (at11 room) ts) := by show firstAllL room ts = _; simp [firstAllL, hb]
    rw [Hd.out]
    have HT := Lib.hid (tasksB_iff.1 hb)
    go_enter Tryd.func17, Tryd.ntmps17
    go_wp2_with fail
    have cc := TasksValid_any _ _ room ts _ hr h
    rw [hb] at cc
    clear hb
    refine cc.mono ?_
    clear cc
    rintro e w2 ⟨rfl, hE2⟩
    have E2 := Lib.hid hE2
    clear hE2
    go_wp2_with fail
    refine (all_first _ _ room ts _ HT.out (hr.ext E2.out) (h.ext E2.out)).mono ?_
    rintro e w3 ⟨ra, rc, rfl, hE3, hN3⟩
    have HQ := Lib.hid (show Ext w w3 ∧ NestS w3 w.heap.size (.slice ra (allL (at11 room) ts).length rc) (allL (at11 room) ts) from ⟨E2.out.trans hE3, hN3.base E2.out.le⟩)
    clear hE3 hN3
    go_wp2
    go_ret
    exact ⟨_, _, rfl, HQ.out.1, HQ.out.2⟩

end Go.Proofs.YtjdhiabdcmindabDoor
