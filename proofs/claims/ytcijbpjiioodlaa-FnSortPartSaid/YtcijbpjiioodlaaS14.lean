/- The reference: the best node; all tasks put by first fit, by best fit. -/
import Derived.Test.YtcijbpjiioodlaaS13
namespace Go.Proofs.Ytcijbpjiioodlaa
set_option maxRecDepth 100000
open Go.RowKit

theorem sTasksValid_ext (v u : Value) (room : List Int) (ts : List T) (w : World) (hr : Ints w v room) (h : Tasks w u ts) :
    Calls Try.prog 64 #[v, u] w fun e w' => e = .returned (.bool (tasksB room ts)) ∧ Ext w w' :=
  (sTasksValid_any v u room ts w hr h).mono fun _ _ ⟨e, n, hw⟩ => ⟨e, hw ▸ (Ext.refl _).drewN n⟩

theorem tells_sfirst {room : List Int} {ts : List T} (h : TasksOk room ts) : Tells 177 room ts (at11 room) := fun v u n bs x w hx hb _ hr hu hn =>
  l11At_any v u n room bs x w hr hu hn h.1.1.1 (fun b hb' t ht => h.good t (hb b hb' t ht)) (h.good x hx)
set_option maxHeartbeats 2000000 in
theorem l11All_any (v u : Value) (room : List Int) (ts : List T) (w : World) (hT : TasksOk room ts) (hr : Ints w v room) (h : Tasks w u ts) :
    Calls Try.prog 153 #[v, u] w fun e w' => ∃ a c, e = .returned (.slice a (allL (at11 room) ts).length c) ∧ Ext w w' ∧ Bins w' (.slice a (allL (at11 room) ts).length c) (allL (at11 room) ts) := by
  obtain ⟨a, cap, rfl, h⟩ := h.open
  have hl : ts.length ≤ 14 := hT.2.1
  have HT := Lib.hid hT
  have HC := Lib.hid (at11_chooses room)
  have HF := Lib.hid (tells_sfirst hT)
  have HS := Lib.hid (fun k => allL_small (at11_chooses room) hT k)
  have HP := Lib.hid (fun (k : Nat) (h : k < ts.length) => allL_step (at11 room) h)
  clear hT
  go_enter Try.func153, Try.ntmps153
  go_wp2_with fail
  go_loopw [5, 6] (fun s i wr => ∃ k : Nat, k ≤ ts.length ∧ i = .int .i64 k ∧ Ext w wr ∧ Bins wr s (allL (at11 room) (ts.take k))) (fun _ i _ => ts.length - (intOf i).toNat)
  case atStart => exact ⟨0, by omega, rfl, (Ext.refl w).alloc _, (OwnBins.lit0 w w.heap.size (Nat.le_refl _)).done (by simp [lim])⟩
  case round =>
    obtain ⟨k, hk, rfl, hE, hs⟩ := hrel
    have HE := Lib.hid hE
    have Hs := Lib.hid hs
    clear hE
    by_cases hlt : k < ts.length
    · obtain ⟨b, off, nd, he, c0, c1, hn⟩ := (h.ext HE.out).at hlt
      subst he
      obtain ⟨na, nc, rfl, hn'⟩ := hn.open
      obtain ⟨sa, sc, rfl, -⟩ := hs.open
      have Hx3 := Lib.hid (HT.out.good _ (List.getElem_mem hlt)).1
      have Hn := Lib.hid hn'
      have i0 : (0 : Int) ≤ (k : Int) := by omega
      have i1 : (k : Int) < (ts.length : Int) := by omega
      clear hs hn hn'
      go_wp2_with fail
      have KS := Lib.hid (show ∀ w', Ext wr w' → w'.cell? ⟨b, off + k * 2, none⟩ = some (.int .i64 ts[k].id) ∧ w'.cell? ⟨b, off + k * 2 + 1, none⟩ = some (.slice na ts[k].need.length nc) from fun w' h => ⟨h.cell c0, h.cell c1⟩)
      go_region_held3 (fun w' => w'.cell? ⟨b, off + k * 2, none⟩ = some (.int .i64 ts[k].id) ∧ w'.cell? ⟨b, off + k * 2 + 1, none⟩ = some (.slice na ts[k].need.length nc))
        (first | exact KS.out _ (Ext.refl wr).drew | exact KS.out _ E2.out | exact KS.out _ E3.out | fail)
        ((first
          | (go_at_call 177; refine (HF.out _ _ _ (allL (at11 room) (ts.take k)) ts[k] _ (List.getElem_mem hlt) (HS.out k).2.2.1 (by have := (HS.out k).2.1; omega) (hr.ext (HE.out.trans (Ext.refl wr).drew)) (Hs.out.ext (Ext.refl wr).drew) (Hn.out.ext (Ext.refl wr).drew)).mono ?_; rintro e w2 ⟨rfl, hE2⟩; have E2 := Lib.hid ((Ext.refl wr).drew.trans hE2); clear hE2)
          | (go_at_call 176; refine (l11Put_any _ _ (allL (at11 room) (ts.take k)) (at11 room (allL (at11 room) (ts.take k)) ts[k]) ts[k] _ (Hs.out.ext E2.out) (Hn.out.ext E2.out) (by have := Hx3.out; omega) (fun j hj => by rcases HC.out (allL (at11 room) (ts.take k)) ts[k] with ⟨e, _⟩ | ⟨i, hi, e, _⟩; rw [e] at hj; cases hj; rw [e] at hj; cases hj; exact hi) (by have := (HS.out k).1; omega) (fun b hb => ⟨by have := ((HS.out k).2.2.2 b hb).1; omega, fun t ht => by have := ((HS.out k).2.2.2 b hb).2 t ht; omega⟩)).mono ?_; rintro e w3 ⟨pa, pc, rfl, hE3, hB3⟩; have E3 := Lib.hid (E2.out.trans hE3); have HQ := Lib.hid (show Bins w3 _ (allL (at11 room) (ts.take (k + 1))) by rw [HP.out k hlt]; exact hB3); clear hE3 hB3)))
      all_goals
        have F3 := Lib.hid (HE.out.trans E3.out)
        clear c0 c1
        go_wp2
        go_roundw
        case rel => exact ⟨k + 1, by omega, by go_num, F3.out, HQ.out⟩
        case measure => simp [intOf]; omega
    · have e : k = ts.length := by omega
      subst e
      rw [List.take_length] at hs
      obtain ⟨sa, sc, rfl, hs'⟩ := hs.open
      have Hs2 := Lib.hid hs'
      clear hs hs' Hs
      have F := HE.out
      go_wp2
      go_ret
      exact ⟨_, _, rfl, F, Hs2.out⟩

set_option maxHeartbeats 1000000 in
theorem sFirstAll_any (v u : Value) (room : List Int) (ts : List T) (w : World) (hr : Ints w v room) (h : Tasks w u ts) :
    Calls Try.prog 106 #[v, u] w fun e w' => ∃ a c, e = .returned (.slice a (firstAllL room ts).length c) ∧ Ext w w' ∧ Bins w' (.slice a (firstAllL room ts).length c) (firstAllL room ts) := by
  cases hb : tasksB room ts with
  | false =>
    have Hd : Hid (firstAllL room ts = []) := by show firstAllL room ts = []; simp [firstAllL, hb]
    rw [Hd.out]
    go_enter Try.func106, Try.ntmps106
    go_wp2_with fail
    have cc := sTasksValid_ext _ _ room ts _ hr h
    rw [hb] at cc
    refine cc.mono ?_
    clear cc
    rintro e w2 ⟨rfl, hE2⟩
    have N0 := Lib.hid ((OwnBins.lit0 w2 w2.heap.size (Nat.le_refl _)).done (by simp [lim]))
    go_wp2
    go_ret
    exact ⟨_, _, rfl, hE2.alloc _, N0.out⟩
  | true =>
    have Hd : Hid (firstAllL room ts = allL (at11 room) ts) := by show firstAllL room ts = _; simp [firstAllL, hb]
    rw [Hd.out]
    have HT := Lib.hid (tasksB_iff.1 hb)
    go_enter Try.func106, Try.ntmps106
    go_wp2_with fail
    have cc := sTasksValid_ext _ _ room ts _ hr h
    rw [hb] at cc
    clear hb
    refine cc.mono ?_
    clear cc
    rintro e w2 ⟨rfl, hE2⟩
    have E2 := Lib.hid hE2
    clear hE2
    go_wp2_with fail
    refine (l11All_any _ _ room ts _ HT.out (hr.ext E2.out) (h.ext E2.out)).mono ?_
    rintro e w3 ⟨ra, rc, rfl, hE3, hN3⟩
    have HQ := Lib.hid (show Ext w w3 ∧ Bins w3 (.slice ra (allL (at11 room) ts).length rc) (allL (at11 room) ts) from ⟨E2.out.trans hE3, hN3⟩)
    clear hE3 hN3
    go_wp2
    go_ret
    exact ⟨_, _, rfl, HQ.out.1, HQ.out.2⟩

end Go.Proofs.Ytcijbpjiioodlaa
