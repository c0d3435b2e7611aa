/- The law FnNextNone: whatever the code, there is a next move just where one of all possible moves goes to an earlier node. No condition. -/
import Derived.Test.YtjdhiabdcmindaaMo
import Derived.Test.YtjdhiabdcmindaaCode
import Derived.Test.YtjdhiabdcmindaaHead
import Derived.OpenShut
import Derived.ChangeOld
namespace Go.Proofs.Ytjdhiabdcmindaa.l26
set_option maxRecDepth 100000
open Go.RowKit Go.ChangeShapes Go.WideShapes Go.ChangeAt

theorem nextV_form (o : Option (Int × Nat)) : ∃ m : Pr, nextV o = .tuple #[.agg #[.int .i64 m.a, .int .i64 m.b], .bool o.isSome] := by
  rcases o with _ | ⟨id, k⟩
  · exact ⟨⟨0, 0⟩, rfl⟩
  · exact ⟨⟨id, k⟩, rfl⟩

set_option maxHeartbeats 4000000 in
theorem walk (v : Value) (n : Nat) (w : World) (h : ArgCode w v n) :
    Calls Try.prog 3 #[v] w fun e w' => e = .returned (.bool true) ∧ Ext w w' := by
  have h2 := h
  obtain ⟨_, ac, cc, rfl, -⟩ := h2
  by_cases hbig : 1048576 < n
  · go_enter Try.func3, Try.ntmps3
    go_wp2
    go_ret
    exact ⟨rfl, Ext.refl _⟩
  have hsm : n ≤ 1048576 := by omega
  clear hbig
  go_enter Try.func3, Try.ntmps3
  go_wp2_with fail
  refine (DrawGatherNext_any _ _ _ h).mono ?_
  rintro e w1 ⟨vr, ab, cb, room, bs, rfl, hd, hcap, E1⟩
  have Hd1 := Lib.hid hd
  obtain ⟨ra, rc, hvr, -⟩ := hd.1.open
  subst hvr
  have F1 := Lib.hid E1
  have hl10 : bs.length ≤ 10 := hd.2.2.2.1
  have hf20 : bs.flatten.length ≤ 20 := hd.2.2.2.2
  clear hd E1 h
  have ne := move_neq'
  have el := move_eql2
  obtain ⟨mv, hmv⟩ := nextV_form (gatherO room bs)
  obtain ⟨ok, hok⟩ : ∃ ok, (gatherO room bs).isSome = ok := ⟨_, rfl⟩
  rw [hok] at hmv
  have HK := Lib.hid hok
  have HMV := Lib.hid hmv
  have on1 : (ok != ok) = false := by simp
  have on2 : (ok == ok) = true := by simp
  clear hok hmv
  go_wp2_with fail
  have cc := GatherNext_any _ ab cb room bs w1 Hd1.out.1 Hd1.out.2.1 hcap (by omega)
  rw [HMV.out] at cc
  refine cc.mono ?_
  clear cc
  rintro e w2 ⟨rfl, hE⟩
  have F2 := Lib.hid (F1.out.trans (hE.alloc (.cells #[.int .i64 mv.a, .int .i64 mv.b] 28)))
  have Hd2 := Lib.hid (Hd1.out.ext (hE.alloc (.cells #[.int .i64 mv.a, .int .i64 mv.b] 28)))
  have R2 := Lib.hid (heap_alloc_new w2 (.cells #[.int .i64 mv.a, .int .i64 mv.b] 28))
  clear hE Hd1 F1
  go_wp2_with fail
  generalize w2.alloc (.cells #[.int .i64 mv.a, .int .i64 mv.b] 28) = W2 at *
  have cc := sGatherNext_any _ ab cb room bs W2 Hd2.out.1 Hd2.out.2.1 hcap (by omega)
  rw [HMV.out] at cc
  refine cc.mono ?_
  clear cc
  rintro e w3 ⟨rfl, hE⟩
  have E3 := hE.alloc (.cells #[.int .i64 mv.a, .int .i64 mv.b] 28)
  have F3 := Lib.hid (F2.out.trans E3)
  have Hd3 := Lib.hid (Hd2.out.ext E3)
  have R3 := Lib.hid ((E3.block (lt_of_heap R2.out)).trans R2.out)
  have S3 := Lib.hid (heap_alloc_new w3 (.cells #[.int .i64 mv.a, .int .i64 mv.b] 28))
  have c0 := cell_of_heap R3.out 0
  have c1 := cell_of_heap R3.out 1
  simp only [List.getElem?_toArray, List.getElem?_cons_zero, List.getElem?_cons_succ] at c0 c1
  clear hE F2 Hd2 E3 R2
  go_wp2_with fail
  generalize w3.alloc (.cells #[.int .i64 mv.a, .int .i64 mv.b] 28) = W3 at *
  clear c0 c1
  have cc := sBinsValid_any _ _ room bs W3 Hd3.out.1 Hd3.out.2.1 (by omega)
  cases hb : binsB room bs with
  | false =>
    rw [hb] at cc
    refine cc.mono ?_
    clear cc hb
    rintro e w4 ⟨rfl, hE⟩
    have F4 := Lib.hid (F3.out.trans hE)
    have c0 := cell_of_heap ((hE.block (lt_of_heap R3.out)).trans R3.out) 0
    have c1 := cell_of_heap ((hE.block (lt_of_heap R3.out)).trans R3.out) 1
    have d0 := cell_of_heap ((hE.block (lt_of_heap S3.out)).trans S3.out) 0
    have d1 := cell_of_heap ((hE.block (lt_of_heap S3.out)).trans S3.out) 1
    simp only [List.getElem?_toArray, List.getElem?_cons_zero, List.getElem?_cons_succ] at c0 c1 d0 d1
    clear hE F3 Hd3
    go_wp2_with fail
    go_ret
    exact ⟨ret_bool (by simp), F4.out⟩
  | true =>
    have HB := Lib.hid hb
    rw [hb] at cc
    refine cc.mono ?_
    clear cc hb
    rintro e w4 ⟨rfl, hE⟩
    have F4 := Lib.hid (F3.out.trans hE)
    have Hd4 := Lib.hid (Hd3.out.ext hE)
    clear hE F3 Hd3 R3 S3
    have em : Hid (movesOfL room bs = allM room bs bs.flatten) := by show movesOfL room bs = _; unfold movesOfL; rw [if_pos HB.out]
    have HN : Hid ((allM room bs bs.flatten).any (fun p => decide (p.b < whereI room bs p.a)) = ok) := by
      have h1 := next_any HB.out
      have h2 := HK.out
      unfold gatherO at h2
      rw [if_pos HB.out] at h2
      show _ = ok
      rw [← h1, h2]
    have PL := Lib.hid (allM_len room bs bs.flatten)
    have P2 := Lib.hid (Nat.mul_le_mul hf20 hl10)
    go_wp2_with fail
    refine (MovesOf_all _ _ room bs w4 Hd4.out.1 Hd4.out.2.1 (by omega)).mono ?_
    rintro e w5 ⟨r1, rfl, hO, hE⟩
    rw [em.out] at hO
    have T5 := Lib.hid (hO.done (by have := PL.out; have := P2.out; unfold lim; omega))
    obtain ⟨a1, c1, rfl⟩ := hO.form
    have F5 := Lib.hid (F4.out.trans hE)
    have Hd5 := Lib.hid (Hd4.out.ext hE)
    have PL2 : (allM room bs bs.flatten).length ≤ 200 := by have := PL.out; have := P2.out; omega
    clear hO hE Hd4 F4 PL P2 em HK HMV
    generalize allM room bs bs.flatten = ps at *
    go_wp2_with fail
    go_loopw [10, 11] (fun s i wr => ∃ k : Nat, k ≤ ps.length ∧ i = .int .i64 k ∧ s = .bool ((ps.take k).any fun p => decide (p.b < whereI room bs p.a)) ∧ Ext w5 wr) (fun _ i _ => ps.length - (intOf i).toNat)
    case atStart => exact ⟨0, by omega, rfl, rfl, Ext.refl _⟩
    case round =>
      obtain ⟨k, hk, rfl, hs, hE⟩ := hrel
      by_cases hlt : k < ps.length
      · have HS : Hid ((ps.take (k + 1)).any (fun p => decide (p.b < whereI room bs p.a)) = ((ps.take k).any (fun p => decide (p.b < whereI room bs p.a)) || decide (ps[k].b < whereI room bs ps[k].a))) := by
          show (ps.take (k + 1)).any _ = _
          rw [List.take_succ_eq_append_getElem hlt, List.any_append]; simp
        obtain ⟨kb, ko, rfl, d0, d1⟩ := T5.out.at hlt
        have D0 := Lib.hid d0
        have D1 := Lib.hid d1
        have i0 : (0 : Int) ≤ (k : Int) := by omega
        have i1 : (k : Int) < (ps.length : Int) := by omega
        clear d0 d1
        cases hq : (ps.take k).any (fun p => decide (p.b < whereI room bs p.a)) with
        | true =>
          rw [hq] at HS hs
          subst hs
          clear hq
          rw [Bool.true_or] at HS
          go_wp2_with fail
          refine wp_region_held_drew (S := fun w' => w'.cell? ⟨kb, ko + k * 2, none⟩ = some (.int .i64 ps[k].a) ∧ w'.cell? ⟨kb, ko + k * 2 + 1, none⟩ = some (.int .i64 ps[k].b)) (by kernel_rfl) (⟨hE.drew.cell D0.out, hE.drew.cell D1.out⟩) (fun hHeld => ?_)
          refine takeH (i := 0) (d := some 63) (v := ?_) rfl rfl (by kernel_rfl) (by kernel_rfl) (by kernel_rfl) (fun _ _ _ h => h) (by rfl) ?_ (by assumption) ?_
          rotate_left
          · intro w hSw; (try dsimp only at hSw); (try go_simp); (try with_reducible rfl)
          try simp only [Act.put, List.setIfInBounds_toArray, List.set_cons_zero, List.set_cons_succ]
          refine takeH (i := 1) (d := some 64) (v := ?_) rfl rfl (by kernel_rfl) (by kernel_rfl) (by kernel_rfl) (fun _ _ _ h => h) (by rfl) ?_ (by assumption) ?_
          rotate_left
          · intro w hSw; (try dsimp only at hSw); (try go_simp); (try with_reducible rfl)
          try simp only [Act.put, List.setIfInBounds_toArray, List.set_cons_zero, List.set_cons_succ]
          refine skipH (i := 2) (d := some 65) rfl rfl (by kernel_rfl) (by kernel_rfl) (by kernel_rfl) (fun _ _ _ h => h) (by rfl) (by assumption) ?_
          try simp only [Act.put, List.setIfInBounds_toArray, List.set_cons_zero, List.set_cons_succ]
          refine skipH (i := 3) (d := some 66) rfl rfl (by kernel_rfl) (by kernel_rfl) (by kernel_rfl) (fun _ _ _ h => h) (by rfl) (by assumption) ?_
          try simp only [Act.put, List.setIfInBounds_toArray, List.set_cons_zero, List.set_cons_succ]
          refine skipH (i := 4) (d := some 67) rfl rfl (by kernel_rfl) (by kernel_rfl) (by kernel_rfl) (fun _ _ _ h => h) (by rfl) (by assumption) ?_
          try simp only [Act.put, List.setIfInBounds_toArray, List.set_cons_zero, List.set_cons_succ]
          refine skipH (i := 5) (d := some 68) rfl rfl (by kernel_rfl) (by kernel_rfl) (by kernel_rfl) (fun _ _ _ h => h) (by rfl) (by assumption) ?_
          try simp only [Act.put, List.setIfInBounds_toArray, List.set_cons_zero, List.set_cons_succ]
          refine skipH (i := 6) (d := some 69) rfl rfl (by kernel_rfl) (by kernel_rfl) (by kernel_rfl) (fun _ _ _ h => h) (by rfl) (by assumption) ?_
          try simp only [Act.put, List.setIfInBounds_toArray, List.set_cons_zero, List.set_cons_succ]
          refine skipH (i := 7) (d := some 70) rfl rfl (by kernel_rfl) (by kernel_rfl) (by kernel_rfl) (fun _ _ _ h => h) (by rfl) (by assumption) ?_
          try simp only [Act.put, List.setIfInBounds_toArray, List.set_cons_zero, List.set_cons_succ]
          refine skipH (i := 8) (d := some 71) rfl rfl (by kernel_rfl) (by kernel_rfl) (by kernel_rfl) (fun _ _ _ h => h) (by rfl) (by assumption) ?_
          try simp only [Act.put, List.setIfInBounds_toArray, List.set_cons_zero, List.set_cons_succ]
          refine skipH (i := 9) (d := some 72) rfl rfl (by kernel_rfl) (by kernel_rfl) (by kernel_rfl) (fun _ _ _ h => h) (by rfl) (by assumption) ?_
          try simp only [Act.put, List.setIfInBounds_toArray, List.set_cons_zero, List.set_cons_succ]
          refine skipH (i := 10) (d := some 73) rfl rfl (by kernel_rfl) (by kernel_rfl) (by kernel_rfl) (fun _ _ _ h => h) (by rfl) (by assumption) ?_
          try simp only [Act.put, List.setIfInBounds_toArray, List.set_cons_zero, List.set_cons_succ]
          refine skipH (i := 11) (d := some 74) rfl rfl (by kernel_rfl) (by kernel_rfl) (by kernel_rfl) (fun _ _ _ h => h) (by rfl) (by assumption) ?_
          try simp only [Act.put, List.setIfInBounds_toArray, List.set_cons_zero, List.set_cons_succ]
          refine skipH (i := 12) (d := some 75) rfl rfl (by kernel_rfl) (by kernel_rfl) (by kernel_rfl) (fun _ _ _ h => h) (by rfl) (by assumption) ?_
          try simp only [Act.put, List.setIfInBounds_toArray, List.set_cons_zero, List.set_cons_succ]
          refine skipH (i := 13) (d := some 76) rfl rfl (by kernel_rfl) (by kernel_rfl) (by kernel_rfl) (fun _ _ _ h => h) (by rfl) (by assumption) ?_
          try simp only [Act.put, List.setIfInBounds_toArray, List.set_cons_zero, List.set_cons_succ]
          refine skipH (i := 14) (d := some 77) rfl rfl (by kernel_rfl) (by kernel_rfl) (by kernel_rfl) (fun _ _ _ h => h) (by rfl) (by assumption) ?_
          try simp only [Act.put, List.setIfInBounds_toArray, List.set_cons_zero, List.set_cons_succ]
          refine skipH (i := 15) (d := some 78) rfl rfl (by kernel_rfl) (by kernel_rfl) (by kernel_rfl) (fun _ _ _ h => h) (by rfl) (by assumption) ?_
          try simp only [Act.put, List.setIfInBounds_toArray, List.set_cons_zero, List.set_cons_succ]
          refine takeH (i := 16) (d := some 79) (v := ?_) rfl rfl (by kernel_rfl) (by kernel_rfl) (by kernel_rfl) (fun _ _ _ h => h) (by rfl) ?_ (by assumption) ?_
          rotate_left
          · intro w hSw; (try dsimp only at hSw); (try go_simp); (try with_reducible rfl)
          try simp only [Act.put, List.setIfInBounds_toArray, List.set_cons_zero, List.set_cons_succ]
          refine takeH (i := 17) (d := some 10) (v := ?_) rfl rfl (by kernel_rfl) (by kernel_rfl) (by kernel_rfl) (fun _ _ _ h => h) (by rfl) ?_ (by assumption) ?_
          rotate_left
          · intro w hSw; (try dsimp only at hSw); (try go_simp); (try with_reducible rfl)
          try simp only [Act.put, List.setIfInBounds_toArray, List.set_cons_zero, List.set_cons_succ]
          refine wpAnyH_done (by kernel_rfl) ?_ _
          go_wp2_with fail
          go_roundw
          case rel => exact ⟨k + 1, by omega, by go_num, by rw [HS.out], hE.drew⟩
          case measure => simp [intOf]; omega
        | false =>
          rw [hq] at HS hs
          subst hs
          clear hq
          rw [Bool.false_or] at HS
          go_wp2_with fail
          refine wp_region_held_drew (S := fun w' => w'.cell? ⟨kb, ko + k * 2, none⟩ = some (.int .i64 ps[k].a) ∧ w'.cell? ⟨kb, ko + k * 2 + 1, none⟩ = some (.int .i64 ps[k].b)) (by kernel_rfl) (⟨hE.drew.cell D0.out, hE.drew.cell D1.out⟩) (fun hHeld => ?_)
          refine takeH (i := 0) (d := some 63) (v := ?_) rfl rfl (by kernel_rfl) (by kernel_rfl) (by kernel_rfl) (fun _ _ _ h => h) (by rfl) ?_ (by assumption) ?_
          rotate_left
          · intro w hSw; (try dsimp only at hSw); (try go_simp); (try with_reducible rfl)
          try simp only [Act.put, List.setIfInBounds_toArray, List.set_cons_zero, List.set_cons_succ]
          refine takeH (i := 1) (d := some 64) (v := ?_) rfl rfl (by kernel_rfl) (by kernel_rfl) (by kernel_rfl) (fun _ _ _ h => h) (by rfl) ?_ (by assumption) ?_
          rotate_left
          · intro w hSw; (try dsimp only at hSw); (try go_simp); (try with_reducible rfl)
          try simp only [Act.put, List.setIfInBounds_toArray, List.set_cons_zero, List.set_cons_succ]
          refine takeH (i := 2) (d := some 65) (v := ?_) rfl rfl (by kernel_rfl) (by kernel_rfl) (by kernel_rfl) (fun _ _ _ h => h) (by rfl) ?_ (by assumption) ?_
          rotate_left
          · intro w hSw; (try dsimp only at hSw); (try go_simp); (try with_reducible rfl)
          try simp only [Act.put, List.setIfInBounds_toArray, List.set_cons_zero, List.set_cons_succ]
          refine takeH (i := 3) (d := some 66) (v := ?_) rfl rfl (by kernel_rfl) (by kernel_rfl) (by kernel_rfl) (fun _ _ _ h => h) (by rfl) ?_ (by assumption) ?_
          rotate_left
          · intro w hSw; (try dsimp only at hSw); (try go_simp); (try with_reducible rfl)
          try simp only [Act.put, List.setIfInBounds_toArray, List.set_cons_zero, List.set_cons_succ]
          refine takeH (i := 4) (d := some 67) (v := ?_) rfl rfl (by kernel_rfl) (by kernel_rfl) (by kernel_rfl) (fun _ _ _ h => h) (by rfl) ?_ (by assumption) ?_
          rotate_left
          · intro w hSw; (try dsimp only at hSw); (try go_simp); (try with_reducible rfl)
          try simp only [Act.put, List.setIfInBounds_toArray, List.set_cons_zero, List.set_cons_succ]
          refine takeH (i := 5) (d := some 68) (v := ?_) rfl rfl (by kernel_rfl) (by kernel_rfl) (by kernel_rfl) (fun _ _ _ h => h) (by rfl) ?_ (by assumption) ?_
          rotate_left
          · intro w hSw; (try dsimp only at hSw); (try go_simp); (try with_reducible rfl)
          try simp only [Act.put, List.setIfInBounds_toArray, List.set_cons_zero, List.set_cons_succ]
          refine takeH (i := 6) (d := some 69) (v := ?_) rfl rfl (by kernel_rfl) (by kernel_rfl) (by kernel_rfl) (fun _ _ _ h => h) (by rfl) ?_ (by assumption) ?_
          rotate_left
          · intro w hSw; (try dsimp only at hSw); (try obtain ⟨q0, q1⟩ := hSw; go_simp); (try with_reducible rfl)
          try simp only [Act.put, List.setIfInBounds_toArray, List.set_cons_zero, List.set_cons_succ]
          refine takeH (i := 7) (d := some 70) (v := ?_) rfl rfl (by kernel_rfl) (by kernel_rfl) (by kernel_rfl) (fun _ _ _ h => h) (by rfl) ?_ (by assumption) ?_
          rotate_left
          · intro w hSw; (try dsimp only at hSw); (try go_simp); (try with_reducible rfl)
          try simp only [Act.put, List.setIfInBounds_toArray, List.set_cons_zero, List.set_cons_succ]
          refine takeH (i := 8) (d := some 71) (v := ?_) rfl rfl (by kernel_rfl) (by kernel_rfl) (by kernel_rfl) (fun _ _ _ h => h) (by rfl) ?_ (by assumption) ?_
          rotate_left
          · intro w hSw; (try dsimp only at hSw); (try go_simp); (try with_reducible rfl)
          try simp only [Act.put, List.setIfInBounds_toArray, List.set_cons_zero, List.set_cons_succ]
          refine takeH (i := 9) (d := some 72) (v := ?_) rfl rfl (by kernel_rfl) (by kernel_rfl) (by kernel_rfl) (fun _ _ _ h => h) (by rfl) ?_ (by assumption) ?_
          rotate_left
          · intro w hSw; (try dsimp only at hSw); (try go_simp); (try with_reducible rfl)
          try simp only [Act.put, List.setIfInBounds_toArray, List.set_cons_zero, List.set_cons_succ]
          refine takeH (i := 10) (d := some 73) (v := ?_) rfl rfl (by kernel_rfl) (by kernel_rfl) (by kernel_rfl) (fun _ _ _ h => h) (by rfl) ?_ (by assumption) ?_
          rotate_left
          · intro w hSw; (try dsimp only at hSw); (try go_simp); (try with_reducible rfl)
          try simp only [Act.put, List.setIfInBounds_toArray, List.set_cons_zero, List.set_cons_succ]
          refine takeH (i := 11) (d := some 74) (v := ?_) rfl rfl (by kernel_rfl) (by kernel_rfl) (by kernel_rfl) (fun _ _ _ h => h) (by rfl) ?_ (by assumption) ?_
          rotate_left
          · intro w hSw; (try dsimp only at hSw); (try go_simp); (try with_reducible rfl)
          try simp only [Act.put, List.setIfInBounds_toArray, List.set_cons_zero, List.set_cons_succ]
          refine takeH (i := 12) (d := some 75) (v := ?_) rfl rfl (by kernel_rfl) (by kernel_rfl) (by kernel_rfl) (fun _ _ _ h => h) (by rfl) ?_ (by assumption) ?_
          rotate_left
          · intro w hSw; (try dsimp only at hSw); (try go_simp); (try with_reducible rfl)
          try simp only [Act.put, List.setIfInBounds_toArray, List.set_cons_zero, List.set_cons_succ]
          refine takeH (i := 13) (d := some 76) (v := ?_) rfl rfl (by kernel_rfl) (by kernel_rfl) (by kernel_rfl) (fun _ _ _ h => h) (by rfl) ?_ (by assumption) ?_
          rotate_left
          · intro w hSw; (try dsimp only at hSw); (try obtain ⟨q0, q1⟩ := hSw; go_simp); (try with_reducible rfl)
          try simp only [Act.put, List.setIfInBounds_toArray, List.set_cons_zero, List.set_cons_succ]
          refine oneH (i := 14) (by kernel_rfl) rfl (by rfl) (fun K hK => ?_)
          go_simp
          refine (BinsWhere_any _ _ room bs ps[k].a wr.drew (Hd5.out.ext hE.drew).1 (Hd5.out.ext hE.drew).2.1 (by omega)).mono ?_; rintro e w6 ⟨rfl, hE6⟩; have X6 := Lib.hid (hE.drew.trans hE6); clear hE6
          try dsimp only
          refine hK.out _ _ (⟨X6.out.cell D0.out, X6.out.cell D1.out⟩) (fun hHeld => ?_)
          clear hK K
          try simp only [Act.put, List.setIfInBounds_toArray, List.set_cons_zero, List.set_cons_succ]
          refine takeH (i := 15) (d := some 78) (v := ?_) rfl rfl (by kernel_rfl) (by kernel_rfl) (by kernel_rfl) (fun _ _ _ h => h) (by rfl) ?_ (by assumption) ?_
          rotate_left
          · intro w hSw; (try dsimp only at hSw); (try go_simp); (try with_reducible rfl)
          try simp only [Act.put, List.setIfInBounds_toArray, List.set_cons_zero, List.set_cons_succ]
          refine takeH (i := 16) (d := some 79) (v := ?_) rfl rfl (by kernel_rfl) (by kernel_rfl) (by kernel_rfl) (fun _ _ _ h => h) (by rfl) ?_ (by assumption) ?_
          rotate_left
          · intro w hSw; (try dsimp only at hSw); (try go_simp); (try with_reducible rfl)
          try simp only [Act.put, List.setIfInBounds_toArray, List.set_cons_zero, List.set_cons_succ]
          refine takeH (i := 17) (d := some 10) (v := ?_) rfl rfl (by kernel_rfl) (by kernel_rfl) (by kernel_rfl) (fun _ _ _ h => h) (by rfl) ?_ (by assumption) ?_
          rotate_left
          · intro w hSw; (try dsimp only at hSw); (try go_simp); (try with_reducible rfl)
          try simp only [Act.put, List.setIfInBounds_toArray, List.set_cons_zero, List.set_cons_succ]
          refine wpAnyH_done (by kernel_rfl) ?_ _
          go_wp2_with fail
          go_roundw
          case rel => exact ⟨k + 1, by omega, by go_num, by rw [HS.out], X6.out⟩
          case measure => simp [intOf]; omega
      · have e : k = ps.length := by omega
        subst e
        rw [List.take_length, HN.out] at hs
        subst hs
        have F6 := Lib.hid (F5.out.trans hE)
        clear hE F5 Hd5 T5 HN
        go_wp2
        go_ret
        exact ⟨ret_bool (by simp), F6.out⟩

theorem own : ownKnob Try.prog.godebug = none := by kernel_rfl
theorem laidOut : laidOutB Try.prog = true := by kernel_rfl

set_option maxRecDepth 100000 in
theorem lifted (os : Os) (started : os.Started) (H : Type) (enc : TypeId × Value → H) :
    ReturnsInHanded {} Try.checked os 3 .any (Rows.fnNextNoneSpec.pre6 enc Try.prog Try.f3 Rows.fnNextNoneRow.domain false) (Rows.fnNextNoneSpec.post enc Try.prog Try.f3 false true false false) := by
  refine returnsInHanded_of_change (C := Try.checked) own started (by kernel_rfl) Try.func3
    (ChangeSpec.witness6 (enc := enc) (C := Try.checked) false ⟨#[], #[.slice none 0 0], []⟩ 8 (by kernel_rfl) (by kernel_rfl) (by kernel_rfl) (by kernel_rfl)) ?_
  intro W base args ds gs before hval0 hW hcnd _
  have hval : ∀ (j : Nat) t v, Try.f3.params[j]? = some t → args[j]? = some v → Value.okWide Try.prog W .any base t v := hval0
  have hW' := hW
  obtain ⟨p, q, hA0, hV, rfl, hfz, hnd⟩ := hW
  have hA : DataW.TrodAll enc Try.prog W 0 (fun _ => true) true Try.f3.params.toList args.toList ds p := hA0
  rw [Try.params3] at hA hval
  obtain ⟨v0, vs0, d0, ds0, p0, q0, hargs, rfl, rfl, h0, r0⟩ := trodAll_cons hA
  obtain ⟨rfl, rfl, rfl⟩ := trodAll_nil r0
  obtain rfl : args = #[v0] := by cases args; simp_all
  obtain ⟨rfl, rfl⟩ := trodVars_none hV
  have lt0 : ∀ x ∈ p0, x.block < W.heap.size := by obtain ⟨m, hm⟩ := h0; exact DataW.trod_lt m _ _ _ hm
  obtain ⟨x0, e0⟩ := argCode_of h0 (okWide_slice Try.underlying22 (hval 0 22 v0 rfl rfl))
  clear hA0 hval0
  refine (walk v0 x0 W e0).mono fun e W' ⟨he, bel⟩ => ?_
  subst he
  exact ⟨_, rfl, _, _, _, [], _, [], hW', trodAll_mk1 (shut_bool Try.underlying4 _), (trodAll_cons_mk (Below.trod laidOut (by kernel_rfl) (of_decide_eq_true (by kernel_rfl)) h0 bel lt0) trodAll_mk0), rfl, Below.frame bel _, fun h => by cases h⟩

theorem closed : joinedFacts Try.prog 3 Try.f3 Rows.fnNextNoneSpec Rows.fnNextNoneRow = true := by
  unfold joinedFacts
  rw [may_enter, lifts_final, make_cut]
  kernel_rfl

theorem proved : Rows.FnNextNoneSaid :=
  OpenClaim.holds_of_wide 3 Try.f3 rfl rfl rfl rfl rfl rfl rfl ⟨rfl, rfl, rfl, rfl, rfl⟩ rfl rfl rfl rfl rfl (by kernel_rfl) Try.func3 closed
    (of_decide_eq_true (by kernel_rfl)) (by unfold Func.isWrapper; first | (rw [if_pos (by decide +kernel)]; kernel_rfl) | (rw [if_neg (by decide +kernel)]; exact ⟨rfl, rfl⟩))
    (fun os started H enc _ => lifted os started H enc)

end Go.Proofs.Ytjdhiabdcmindaa.l26
