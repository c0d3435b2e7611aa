/- The next move, by the program: its queue of candidates is gone through. No condition. -/
import Derived.Test.YtjdhiabdcmindaaMv2
namespace Go.Proofs.Ytjdhiabdcmindaa
set_option maxRecDepth 100000
open Go.RowKit

theorem cand_step {room : List Int} {bs : List (List T)} {cs : List (T × Nat)} {k : Nat} (hk : k < cs.length) :
    (cs.drop k).findSome? (fun c => tryO room bs c.2 c.1) = match at11 room (bs.take cs[k].2) cs[k].1 with | some j => some (cs[k].1.id, j) | none => (cs.drop (k + 1)).findSome? (fun c => tryO room bs c.2 c.1) := by
  rw [List.drop_eq_getElem_cons hk, List.findSome?_cons]
  unfold tryO
  cases at11 room (bs.take cs[k].2) cs[k].1 <;> rfl

set_option maxHeartbeats 4000000 in
theorem nextMove_any (v : Value) (a : Option Addr) (c : Nat) (room : List Int) (bs : List (List T)) (w : World) (hr : Ints w v room) (h : Bins w (.slice a bs.length c) bs) (hc : bs.length ≤ c) (r3 : room.length = 3) (gb : GoodB bs) (hf : bs.flatten.length ≤ 2097152) :
    Calls Try.prog 27 #[v, .slice a bs.length c] w fun e w' => e = .returned (nextV (nextO room bs)) ∧ Ext w w' := by
  have hl : bs.length ≤ 4194304 := h.1
  obtain ⟨ra, rc, rfl, hr⟩ := hr.open
  have E0 := Lib.hid ((Ext.refl w).alloc (.cells #[.int .i64 0, .int .i64 0] 28))
  have R0 := Lib.hid (heap_alloc_new w (.cells #[.int .i64 0, .int .i64 0] 28))
  have Hr := Lib.hid (hr.ext E0.out)
  have Hb := Lib.hid (h.ext E0.out)
  have R3 := Lib.hid r3
  have GB := Lib.hid gb
  have HF := Lib.hid hf
  clear hr h r3 gb hf
  go_enter Try.func27, Try.ntmps27
  go_wp2_with fail
  generalize w.alloc (.cells #[.int .i64 0, .int .i64 0] 28) = W0 at *
  refine (candidates_any _ bs W0 Hb.out HF.out).mono ?_
  rintro e w1 ⟨r, rfl, hE1, hO⟩
  obtain ⟨qa, qc, rfl, hqc⟩ := hO.form
  have O1 := Lib.hid hO
  have E1 := Lib.hid (E0.out.trans hE1)
  have R1 := Lib.hid ((hE1.block (lt_of_heap R0.out)).trans R0.out)
  have Hr1 := Lib.hid (Hr.out.ext hE1)
  have Hb1 := Lib.hid (Hb.out.ext hE1)
  have CL := Lib.hid (candR_len (bs := bs) (Nat.le_refl _))
  have CN := Lib.hid (show nextO room bs = (candR bs bs.length).findSome? (fun c => tryO room bs c.2 c.1) from (candR_next room bs bs.length).symm)
  have CM := Lib.hid (candR_node (bs := bs) (Nat.le_refl bs.length))
  have hcl : (candR bs bs.length).length ≤ 2097152 := by rw [CL.out, List.take_length]; exact HF.out
  generalize candR bs bs.length = cs at *
  clear hE1 hO Hr Hb E0 R0 CL HF
  go_wp2_with fail
  go_loopw [6] (fun q wr => ∃ (k : Nat) (a' : Option Addr) (c' : Nat), k ≤ cs.length ∧ q = .slice a' (cs.length - k) c' ∧ cs.length - k ≤ c' ∧ (k < cs.length → ∃ g, a' = some ⟨g, k * 3, none⟩ ∧ qa = some ⟨g, 0, none⟩) ∧ nextO room bs = (cs.drop k).findSome? (fun c => tryO room bs c.2 c.1) ∧ Ext w1 wr) (fun q _ => match q with | .slice _ n _ => n | _ => 0)
  case atStart => exact ⟨0, qa, qc, by omega, rfl, hqc, fun h => (let ⟨g, e, _⟩ := O1.out.at h; ⟨g, by rw [e], e⟩), CN.out, Ext.refl _⟩
  case round =>
    obtain ⟨k, a', c', hk, rfl, hc', ha', ho, hE⟩ := hrel
    by_cases hlt : k < cs.length
    · obtain ⟨g, rfl, rfl⟩ := ha' hlt
      obtain ⟨g', eg, hcell⟩ := O1.out.at (by omega)
      obtain ⟨c0, c2, nd, c1, hn⟩ := hcell k hlt
      simp only [Option.some.injEq, Addr.mk.injEq, and_true] at eg
      subst eg
      have HO := Lib.hid (ho.trans (cand_step hlt))
      obtain ⟨hfl, hfl', hmem⟩ := CM.out cs[k] (List.getElem_mem hlt)
      have GX := Lib.hid (GB.out _ (List.getElem_mem hfl') _ hmem)
      have HRc := Lib.hid (Hr1.out.ext hE)
      have HBc := Lib.hid ((Hb1.out.ext hE).take (Nat.le_of_lt hfl))
      have hNc := hn.ext hE
      obtain ⟨na, nc, rfl, hNc⟩ := hNc.open
      have d0 := hE.cell c0
      have d1 := hE.cell c1
      have d2 := hE.cell c2
      have HE := Lib.hid hE
      clear ho hcell c0 c1 c2 hn hE ha' hmem CN
      generalize hx : cs[k].1 = x at *
      generalize hff : cs[k].2 = f at *
      have hdec : decide (0 < cs.length - k) = true := decide_eq_true (by omega)
      have hn1 : 1 ≤ cs.length - k := by omega
      have i1 : (0 : Int) < ((cs.length - k : Nat) : Int) := by omega
      have i2 : (1 : Int) ≤ ((cs.length - k : Nat) : Int) := by omega
      have i3 : ((cs.length - k : Nat) : Int) ≤ (c' : Int) := by omega
      have f0 : (0 : Int) ≤ (f : Int) := by omega
      have f1 : (f : Int) ≤ (c : Int) := by omega
      have KX := Lib.hid (heap_alloc_new wr (.cells #[.int .i64 x.id, .slice na x.need.length nc, .int .i64 (f : Int)] 80))
      have EX := Lib.hid ((Ext.refl wr).alloc (.cells #[.int .i64 x.id, .slice na x.need.length nc, .int .i64 (f : Int)] 80))
      have hsub : (((cs.length - k : Nat) : Int) - 1).toNat = cs.length - (k + 1) := by omega
      clear hx hff
      generalize hm : cs.length - k = m at *
      by_cases hc1 : c' = 1
      · subst hc1
        obtain rfl : m = 1 := by omega
        have SV := Lib.hid (show ∃ (a2 : Option Addr) (c2 : Nat), Value.slice (some ⟨g, k * 3, none⟩) 0 0 = .slice a2 (cs.length - (k + 1)) c2 ∧ cs.length - (k + 1) ≤ c2 ∧ (k + 1 < cs.length → ∃ g', a2 = some ⟨g', (k + 1) * 3, none⟩ ∧ some (Addr.mk g 0 none) = some ⟨g', 0, none⟩) from ⟨_, 0, by rw [show cs.length - (k + 1) = 0 by omega], by omega, fun h => by omega⟩)
        go_wp2_with fail
        generalize Value.slice (some ⟨g, k * 3, none⟩) 0 0 = sv at *
        have KR := Lib.hid (show (wr.alloc (.cells #[.int .i64 x.id, .slice na x.need.length nc, .int .i64 (f : Int)] 80)).cell? ⟨wr.heap.size, 0, none⟩ = some (.int .i64 x.id) ∧ (wr.alloc (.cells #[.int .i64 x.id, .slice na x.need.length nc, .int .i64 (f : Int)] 80)).cell? ⟨wr.heap.size, 1, none⟩ = some (.slice na x.need.length nc) ∧ (wr.alloc (.cells #[.int .i64 x.id, .slice na x.need.length nc, .int .i64 (f : Int)] 80)).cell? ⟨wr.heap.size, 2, none⟩ = some (.int .i64 (f : Int)) from ⟨by rw [box_cell]; rfl, by rw [box_cell]; rfl, by rw [box_cell]; rfl⟩)
        have HR := Lib.hid (HRc.out.ext EX.out)
        have HB := Lib.hid (HBc.out.ext EX.out)
        have HN := Lib.hid (hNc.ext EX.out)
        have EW := Lib.hid (HE.out.trans EX.out)
        clear d0 d1 d2 hNc HRc HBc KX EX HE
        generalize hW : wr.alloc (.cells #[.int .i64 x.id, .slice na x.need.length nc, .int .i64 (f : Int)] 80) = W at *
        have K0 := Lib.hid KR.out.1
        have K1 := Lib.hid KR.out.2.1
        have K2 := Lib.hid KR.out.2.2
        have k0 := K0.out
        have k1 := K1.out
        have k2 := K2.out
        refine wp_region_held_drew (S := fun w' => w'.cell? ⟨wr.heap.size, 0, none⟩ = some (.int .i64 x.id) ∧ w'.cell? ⟨wr.heap.size, 1, none⟩ = some (.slice na x.need.length nc) ∧ w'.cell? ⟨wr.heap.size, 2, none⟩ = some (.int .i64 (f : Int))) (by kernel_rfl) ⟨k0, k1, k2⟩ (fun hHeld => ?_)
        refine takeH (i := 0) (d := some 19) (v := ?_) rfl rfl (by kernel_rfl) (by kernel_rfl) (by kernel_rfl) (fun _ _ _ h => h) (by rfl) ?_ (by assumption) ?_
        rotate_left
        · intro w hSw; (try dsimp only at hSw); (try have l0 := hSw.1; have l1 := hSw.2.1; have l2 := hSw.2.2; go_simp); (try with_reducible rfl)
        try simp only [Act.put, List.setIfInBounds_toArray, List.set_cons_zero, List.set_cons_succ]
        refine takeH (i := 1) (d := some 20) (v := ?_) rfl rfl (by kernel_rfl) (by kernel_rfl) (by kernel_rfl) (fun _ _ _ h => h) (by rfl) ?_ (by assumption) ?_
        rotate_left
        · intro w hSw; (try dsimp only at hSw); (try have l0 := hSw.1; have l1 := hSw.2.1; have l2 := hSw.2.2; go_simp); (try with_reducible rfl)
        try simp only [Act.put, List.setIfInBounds_toArray, List.set_cons_zero, List.set_cons_succ]
        refine takeH (i := 2) (d := some 21) (v := ?_) rfl rfl (by kernel_rfl) (by kernel_rfl) (by kernel_rfl) (fun _ _ _ h => h) (by rfl) ?_ (by assumption) ?_
        rotate_left
        · intro w hSw; (try dsimp only at hSw); (try have l0 := hSw.1; have l1 := hSw.2.1; have l2 := hSw.2.2; go_simp); (try with_reducible rfl)
        try simp only [Act.put, List.setIfInBounds_toArray, List.set_cons_zero, List.set_cons_succ]
        refine takeH (i := 3) (d := some 22) (v := ?_) rfl rfl (by kernel_rfl) (by kernel_rfl) (by kernel_rfl) (fun _ _ _ h => h) (by rfl) ?_ (by assumption) ?_
        rotate_left
        · intro w hSw; (try dsimp only at hSw); (try have l0 := hSw.1; have l1 := hSw.2.1; have l2 := hSw.2.2; go_simp); (try with_reducible rfl)
        try simp only [Act.put, List.setIfInBounds_toArray, List.set_cons_zero, List.set_cons_succ]
        refine takeH (i := 4) (d := some 23) (v := ?_) rfl rfl (by kernel_rfl) (by kernel_rfl) (by kernel_rfl) (fun _ _ _ h => h) (by rfl) ?_ (by assumption) ?_
        rotate_left
        · intro w hSw; (try dsimp only at hSw); (try have l0 := hSw.1; have l1 := hSw.2.1; have l2 := hSw.2.2; go_simp); (try with_reducible rfl)
        try simp only [Act.put, List.setIfInBounds_toArray, List.set_cons_zero, List.set_cons_succ]
        refine takeH (i := 5) (d := some 24) (v := ?_) rfl rfl (by kernel_rfl) (by kernel_rfl) (by kernel_rfl) (fun _ _ _ h => h) (by rfl) ?_ (by assumption) ?_
        rotate_left
        · intro w hSw; (try dsimp only at hSw); (try have l0 := hSw.1; have l1 := hSw.2.1; have l2 := hSw.2.2; go_simp); (try with_reducible rfl)
        try simp only [Act.put, List.setIfInBounds_toArray, List.set_cons_zero, List.set_cons_succ]
        refine takeH (i := 6) (d := some 25) (v := ?_) rfl rfl (by kernel_rfl) (by kernel_rfl) (by kernel_rfl) (fun _ _ _ h => h) (by rfl) ?_ (by assumption) ?_
        rotate_left
        · intro w hSw; (try dsimp only at hSw); (try have l0 := hSw.1; have l1 := hSw.2.1; have l2 := hSw.2.2; go_simp); (try with_reducible rfl)
        try simp only [Act.put, List.setIfInBounds_toArray, List.set_cons_zero, List.set_cons_succ]
        refine oneH (i := 7) (by kernel_rfl) rfl (by rfl) (fun K hK => ?_)
        go_simp
        refine (firstOf_any _ _ _ room (bs.take f) x _ (HR.out.ext (Ext.refl W).drew) (HB.out.ext (Ext.refl W).drew) (HN.out.ext (Ext.refl W).drew) R3.out (fun b hb => GB.out b (List.mem_of_mem_take hb)) GX.out).mono ?_; rintro e w2 ⟨rfl, hE2⟩; have X2 := Lib.hid ((Ext.refl W).drew.trans hE2); clear hE2
        try dsimp only
        refine hK.out _ _ (⟨X2.out.cell K0.out, X2.out.cell K1.out, X2.out.cell K2.out⟩) (fun hHeld => ?_)
        clear hK K
        try simp only [Act.put, List.setIfInBounds_toArray, List.set_cons_zero, List.set_cons_succ]
        refine takeH (i := 8) (d := some 8) (v := ?_) rfl rfl (by kernel_rfl) (by kernel_rfl) (by kernel_rfl) (fun _ _ _ h => h) (by rfl) ?_ (by assumption) ?_
        rotate_left
        · intro w hSw; (try dsimp only at hSw); (try have l0 := hSw.1; go_simp); (try with_reducible rfl)
        try simp only [Act.put, List.setIfInBounds_toArray, List.set_cons_zero, List.set_cons_succ]
        refine wpAnyH_done (by kernel_rfl) ?_ _
        clear hHeld k0 k1 k2
        have E2 := Lib.hid (EW.out.trans X2.out)
        have RX := (E2.out.block (lt_of_heap R1.out)).trans R1.out
        have r0 := cell_of_heap RX 0
        have r1 := cell_of_heap RX 1
        have f0 := frozen_of_heap RX 0
        have f1 := frozen_of_heap RX 1
        have x0 := X2.out.cell K0.out
        cases ha : at11 room (bs.take f) x with
        | none =>
          have HO2 := Lib.hid (by have := HO.out; rw [ha] at this; exact this : nextO room bs = (cs.drop (k + 1)).findSome? (fun c => tryO room bs c.2 c.1))
          obtain ⟨a2, c2, rfl, q1, q2⟩ := SV.out
          clear HO x0 r0 r1 f0 f1 RX
          simp only [nodeI]
          go_wp2_with fail
          go_roundw
          case rel => exact ⟨k + 1, a2, c2, by omega, rfl, q1, q2, HO2.out, E2.out⟩
          case measure => simp; omega
        | some j =>
          have HO2 := Lib.hid (by have := HO.out; rw [ha] at this; exact this : nextO room bs = some (x.id, j))
          have j0 : (0 : Int) ≤ (j : Int) := by omega
          have E3 := Lib.hid (E1.out.trans E2.out)
          clear HO ha RX SV
          simp only [nodeI]
          go_wp2_with fail
          refine bodyPost_ret (v := .tuple #[.agg #[.int .i64 x.id, .int .i64 (j : Int)], .bool true]) ?_ rfl (next_end rfl rfl HO2.out E3.out)
          simp [results, Try.results27, go_sem, r0, r1]
      · have SV := Lib.hid (show ∃ (a2 : Option Addr) (c2 : Nat), Value.slice (some ⟨g, k * 3 + 3, none⟩) (m - 1) (c' - 1) = .slice a2 (cs.length - (k + 1)) c2 ∧ cs.length - (k + 1) ≤ c2 ∧ (k + 1 < cs.length → ∃ g', a2 = some ⟨g', (k + 1) * 3, none⟩ ∧ some (Addr.mk g 0 none) = some ⟨g', 0, none⟩) from ⟨_, c' - 1, by congr 1; omega, by omega, fun h => ⟨g, by congr 2; omega, rfl⟩⟩)
        go_wp2_with fail
        generalize Value.slice (some ⟨g, k * 3 + 3, none⟩) (m - 1) (c' - 1) = sv at *
        have KR := Lib.hid (show (wr.alloc (.cells #[.int .i64 x.id, .slice na x.need.length nc, .int .i64 (f : Int)] 80)).cell? ⟨wr.heap.size, 0, none⟩ = some (.int .i64 x.id) ∧ (wr.alloc (.cells #[.int .i64 x.id, .slice na x.need.length nc, .int .i64 (f : Int)] 80)).cell? ⟨wr.heap.size, 1, none⟩ = some (.slice na x.need.length nc) ∧ (wr.alloc (.cells #[.int .i64 x.id, .slice na x.need.length nc, .int .i64 (f : Int)] 80)).cell? ⟨wr.heap.size, 2, none⟩ = some (.int .i64 (f : Int)) from ⟨by rw [box_cell]; rfl, by rw [box_cell]; rfl, by rw [box_cell]; rfl⟩)
        have HR := Lib.hid (HRc.out.ext EX.out)
        have HB := Lib.hid (HBc.out.ext EX.out)
        have HN := Lib.hid (hNc.ext EX.out)
        have EW := Lib.hid (HE.out.trans EX.out)
        clear d0 d1 d2 hNc HRc HBc KX EX HE
        generalize hW : wr.alloc (.cells #[.int .i64 x.id, .slice na x.need.length nc, .int .i64 (f : Int)] 80) = W at *
        have K0 := Lib.hid KR.out.1
        have K1 := Lib.hid KR.out.2.1
        have K2 := Lib.hid KR.out.2.2
        have k0 := K0.out
        have k1 := K1.out
        have k2 := K2.out
        refine wp_region_held_drew (S := fun w' => w'.cell? ⟨wr.heap.size, 0, none⟩ = some (.int .i64 x.id) ∧ w'.cell? ⟨wr.heap.size, 1, none⟩ = some (.slice na x.need.length nc) ∧ w'.cell? ⟨wr.heap.size, 2, none⟩ = some (.int .i64 (f : Int))) (by kernel_rfl) ⟨k0, k1, k2⟩ (fun hHeld => ?_)
        refine takeH (i := 0) (d := some 19) (v := ?_) rfl rfl (by kernel_rfl) (by kernel_rfl) (by kernel_rfl) (fun _ _ _ h => h) (by rfl) ?_ (by assumption) ?_
        rotate_left
        · intro w hSw; (try dsimp only at hSw); (try have l0 := hSw.1; have l1 := hSw.2.1; have l2 := hSw.2.2; go_simp); (try with_reducible rfl)
        try simp only [Act.put, List.setIfInBounds_toArray, List.set_cons_zero, List.set_cons_succ]
        refine takeH (i := 1) (d := some 20) (v := ?_) rfl rfl (by kernel_rfl) (by kernel_rfl) (by kernel_rfl) (fun _ _ _ h => h) (by rfl) ?_ (by assumption) ?_
        rotate_left
        · intro w hSw; (try dsimp only at hSw); (try have l0 := hSw.1; have l1 := hSw.2.1; have l2 := hSw.2.2; go_simp); (try with_reducible rfl)
        try simp only [Act.put, List.setIfInBounds_toArray, List.set_cons_zero, List.set_cons_succ]
        refine takeH (i := 2) (d := some 21) (v := ?_) rfl rfl (by kernel_rfl) (by kernel_rfl) (by kernel_rfl) (fun _ _ _ h => h) (by rfl) ?_ (by assumption) ?_
        rotate_left
        · intro w hSw; (try dsimp only at hSw); (try have l0 := hSw.1; have l1 := hSw.2.1; have l2 := hSw.2.2; go_simp); (try with_reducible rfl)
        try simp only [Act.put, List.setIfInBounds_toArray, List.set_cons_zero, List.set_cons_succ]
        refine takeH (i := 3) (d := some 22) (v := ?_) rfl rfl (by kernel_rfl) (by kernel_rfl) (by kernel_rfl) (fun _ _ _ h => h) (by rfl) ?_ (by assumption) ?_
        rotate_left
        · intro w hSw; (try dsimp only at hSw); (try have l0 := hSw.1; have l1 := hSw.2.1; have l2 := hSw.2.2; go_simp); (try with_reducible rfl)
        try simp only [Act.put, List.setIfInBounds_toArray, List.set_cons_zero, List.set_cons_succ]
        refine takeH (i := 4) (d := some 23) (v := ?_) rfl rfl (by kernel_rfl) (by kernel_rfl) (by kernel_rfl) (fun _ _ _ h => h) (by rfl) ?_ (by assumption) ?_
        rotate_left
        · intro w hSw; (try dsimp only at hSw); (try have l0 := hSw.1; have l1 := hSw.2.1; have l2 := hSw.2.2; go_simp); (try with_reducible rfl)
        try simp only [Act.put, List.setIfInBounds_toArray, List.set_cons_zero, List.set_cons_succ]
        refine takeH (i := 5) (d := some 24) (v := ?_) rfl rfl (by kernel_rfl) (by kernel_rfl) (by kernel_rfl) (fun _ _ _ h => h) (by rfl) ?_ (by assumption) ?_
        rotate_left
        · intro w hSw; (try dsimp only at hSw); (try have l0 := hSw.1; have l1 := hSw.2.1; have l2 := hSw.2.2; go_simp); (try with_reducible rfl)
        try simp only [Act.put, List.setIfInBounds_toArray, List.set_cons_zero, List.set_cons_succ]
        refine takeH (i := 6) (d := some 25) (v := ?_) rfl rfl (by kernel_rfl) (by kernel_rfl) (by kernel_rfl) (fun _ _ _ h => h) (by rfl) ?_ (by assumption) ?_
        rotate_left
        · intro w hSw; (try dsimp only at hSw); (try have l0 := hSw.1; have l1 := hSw.2.1; have l2 := hSw.2.2; go_simp); (try with_reducible rfl)
        try simp only [Act.put, List.setIfInBounds_toArray, List.set_cons_zero, List.set_cons_succ]
        refine oneH (i := 7) (by kernel_rfl) rfl (by rfl) (fun K hK => ?_)
        go_simp
        refine (firstOf_any _ _ _ room (bs.take f) x _ (HR.out.ext (Ext.refl W).drew) (HB.out.ext (Ext.refl W).drew) (HN.out.ext (Ext.refl W).drew) R3.out (fun b hb => GB.out b (List.mem_of_mem_take hb)) GX.out).mono ?_; rintro e w2 ⟨rfl, hE2⟩; have X2 := Lib.hid ((Ext.refl W).drew.trans hE2); clear hE2
        try dsimp only
        refine hK.out _ _ (⟨X2.out.cell K0.out, X2.out.cell K1.out, X2.out.cell K2.out⟩) (fun hHeld => ?_)
        clear hK K
        try simp only [Act.put, List.setIfInBounds_toArray, List.set_cons_zero, List.set_cons_succ]
        refine takeH (i := 8) (d := some 8) (v := ?_) rfl rfl (by kernel_rfl) (by kernel_rfl) (by kernel_rfl) (fun _ _ _ h => h) (by rfl) ?_ (by assumption) ?_
        rotate_left
        · intro w hSw; (try dsimp only at hSw); (try have l0 := hSw.1; go_simp); (try with_reducible rfl)
        try simp only [Act.put, List.setIfInBounds_toArray, List.set_cons_zero, List.set_cons_succ]
        refine wpAnyH_done (by kernel_rfl) ?_ _
        clear hHeld k0 k1 k2
        have E2 := Lib.hid (EW.out.trans X2.out)
        have RX := (E2.out.block (lt_of_heap R1.out)).trans R1.out
        have r0 := cell_of_heap RX 0
        have r1 := cell_of_heap RX 1
        have f0 := frozen_of_heap RX 0
        have f1 := frozen_of_heap RX 1
        have x0 := X2.out.cell K0.out
        cases ha : at11 room (bs.take f) x with
        | none =>
          have HO2 := Lib.hid (by have := HO.out; rw [ha] at this; exact this : nextO room bs = (cs.drop (k + 1)).findSome? (fun c => tryO room bs c.2 c.1))
          obtain ⟨a2, c2, rfl, q1, q2⟩ := SV.out
          clear HO x0 r0 r1 f0 f1 RX
          simp only [nodeI]
          go_wp2_with fail
          go_roundw
          case rel => exact ⟨k + 1, a2, c2, by omega, rfl, q1, q2, HO2.out, E2.out⟩
          case measure => simp; omega
        | some j =>
          have HO2 := Lib.hid (by have := HO.out; rw [ha] at this; exact this : nextO room bs = some (x.id, j))
          have j0 : (0 : Int) ≤ (j : Int) := by omega
          have E3 := Lib.hid (E1.out.trans E2.out)
          clear HO ha RX SV
          simp only [nodeI]
          go_wp2_with fail
          refine bodyPost_ret (v := .tuple #[.agg #[.int .i64 x.id, .int .i64 (j : Int)], .bool true]) ?_ rfl (next_end rfl rfl HO2.out E3.out)
          simp [results, Try.results27, go_sem, r0, r1]
    · have e : k = cs.length := by omega
      subst e
      have HO := Lib.hid (by rw [List.drop_length] at ho; exact ho : nextO room bs = none)
      have RX := (hE.block (lt_of_heap R1.out)).trans R1.out
      have r0 := cell_of_heap RX 0
      have r1 := cell_of_heap RX 1
      have f0 := frozen_of_heap RX 0
      have f1 := frozen_of_heap RX 1
      have E2 := Lib.hid (E1.out.trans hE)
      clear ho RX hE ha'
      simp only [Nat.sub_self]
      go_wp2_with fail
      refine bodyPost_ret (v := .tuple #[.agg #[.int .i64 0, .int .i64 0], .bool false]) ?_ rfl (next_none rfl HO.out E2.out)
      simp [results, Try.results27, go_sem, r0, r1]

set_option maxHeartbeats 1000000 in
theorem GatherNext_any (v : Value) (a : Option Addr) (c : Nat) (room : List Int) (bs : List (List T)) (w : World) (hr : Ints w v room) (h : Bins w (.slice a bs.length c) bs) (hc : bs.length ≤ c) (hf : bs.flatten.length ≤ 2097152) :
    Calls Try.prog 7 #[v, .slice a bs.length c] w fun e w' => e = .returned (nextV (gatherO room bs)) ∧ Ext w w' := by
  obtain ⟨ra, rc, rfl, hr⟩ := hr.open
  have E0 := Lib.hid ((Ext.refl w).alloc (.cells #[.int .i64 0, .int .i64 0] 28))
  have R0 := Lib.hid (heap_alloc_new w (.cells #[.int .i64 0, .int .i64 0] 28))
  have Hr := Lib.hid (hr.ext E0.out)
  have Hb := Lib.hid (h.ext E0.out)
  clear hr h
  cases hb : binsB room bs with
  | false =>
    have Hd : Hid (gatherO room bs = none) := by show gatherO room bs = none; unfold gatherO; rw [hb]; rfl
    go_enter Try.func7, Try.ntmps7
    go_wp2_with fail
    generalize w.alloc (.cells #[.int .i64 0, .int .i64 0] 28) = W at *
    have cc := BinsValid_any _ _ room bs W Hr.out Hb.out hf
    rw [hb] at cc
    refine cc.mono ?_
    clear cc
    rintro e w2 ⟨rfl, hE2⟩
    have RX := (hE2.block (lt_of_heap R0.out)).trans R0.out
    have r0 := cell_of_heap RX 0
    have r1 := cell_of_heap RX 1
    have f0 := frozen_of_heap RX 0
    have f1 := frozen_of_heap RX 1
    have E2 := Lib.hid (E0.out.trans hE2)
    clear RX hE2
    go_wp2_with fail
    refine bodyPost_ret (v := .tuple #[.agg #[.int .i64 0, .int .i64 0], .bool false]) ?_ rfl (next_none rfl Hd.out E2.out)
    simp [results, Try.results7, go_sem, r0, r1]
  | true =>
    have Hd : Hid (gatherO room bs = nextO room bs) := by show gatherO room bs = _; unfold gatherO; rw [if_pos hb]
    have ok := binsB_iff.1 hb
    have R3 := Lib.hid ok.1.1.1.1
    have GB := Lib.hid (show GoodB bs from fun b hb => Good.flat ok.1.good hb)
    clear ok
    go_enter Try.func7, Try.ntmps7
    go_wp2_with fail
    generalize w.alloc (.cells #[.int .i64 0, .int .i64 0] 28) = W at *
    have cc := BinsValid_any _ _ room bs W Hr.out Hb.out hf
    rw [hb] at cc
    refine cc.mono ?_
    clear cc
    rintro e w2 ⟨rfl, hE2⟩
    have RX := Lib.hid ((hE2.block (lt_of_heap R0.out)).trans R0.out)
    have E2 := Lib.hid (E0.out.trans hE2)
    have Hr2 := Lib.hid (Hr.out.ext hE2)
    have Hb2 := Lib.hid (Hb.out.ext hE2)
    clear hE2
    go_wp2_with fail
    have cc := nextMove_any _ a c room bs w2 Hr2.out Hb2.out hc R3.out GB.out hf
    rw [← Hd.out] at cc
    refine cc.mono ?_
    clear cc
    rintro e w3 ⟨rfl, hE3⟩
    have RY := (hE3.block (lt_of_heap RX.out)).trans RX.out
    have r0 := cell_of_heap RY 0
    have r1 := cell_of_heap RY 1
    have f0 := frozen_of_heap RY 0
    have f1 := frozen_of_heap RY 1
    have E3 := Lib.hid (E2.out.trans hE3)
    clear RY hE3 E2 RX Hd
    cases hg : gatherO room bs with
    | none =>
      simp only [nextV]
      go_wp2_with fail
      refine bodyPost_ret (v := .tuple #[.agg #[.int .i64 0, .int .i64 0], .bool false]) ?_ rfl (next_none rfl hg E3.out)
      simp [results, Try.results7, go_sem, r0, r1]
    | some p =>
      obtain ⟨id, k⟩ := p
      simp only [nextV]
      go_wp2_with fail
      refine bodyPost_ret (v := .tuple #[.agg #[.int .i64 id, .int .i64 (k : Int)], .bool true]) ?_ rfl (next_end rfl rfl hg E3.out)
      simp [results, Try.results7, go_sem, r0, r1]


end Go.Proofs.Ytjdhiabdcmindaa
