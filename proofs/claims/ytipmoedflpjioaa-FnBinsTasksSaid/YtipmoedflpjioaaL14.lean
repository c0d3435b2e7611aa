/- The law FnBinsTasks: whatever the code, the tasks of nodes, in order. No condition. -/
import Derived.Test.YtipmoedflpjioaaDr8
import Derived.Test.YtipmoedflpjioaaS10
import Derived.Test.YtipmoedflpjioaaSame
import Derived.Test.YtipmoedflpjioaaOwn
import Derived.Test.YtipmoedflpjioaaReg
import Derived.Test.YtipmoedflpjioaaHead
import Derived.OpenShut
import Derived.ChangeOld
namespace Go.Proofs.Ytipmoedflpjioaa.l14
set_option maxRecDepth 100000
open Go.RowKit Go.ChangeShapes Go.WideShapes Go.ChangeAt

theorem flat_cut {α : Type} (bs : List (List α)) {k : Nat} (h : k < bs.length) : (bs.take (k + 1)).flatten.length = (bs.take k).flatten.length + bs[k].length ∧ (bs.take k).flatten.length + bs[k].length ≤ bs.flatten.length ∧ (bs.flatten.drop (bs.take k).flatten.length).take bs[k].length = bs[k] := by
  have e : bs.flatten = (bs.take k).flatten ++ (bs[k] ++ (bs.drop (k + 1)).flatten) := by
    conv => lhs; rw [← List.take_append_drop k bs, List.flatten_append, List.drop_eq_getElem_cons h, List.flatten_cons]
  refine ⟨by rw [List.take_succ_eq_append_getElem h, List.flatten_append, List.length_append]; simp, ?_, ?_⟩
  · rw [e, List.length_append, List.length_append]; omega
  · rw [e, List.drop_left, List.take_left]
theorem tasksL_true {room : List Int} {bs : List (List T)} (h : binsB room bs = true) : binsTasksL room bs = bs.flatten ∧ tasksB room bs.flatten = true := by
  unfold binsTasksL
  rw [if_pos h]
  exact ⟨rfl, tasksB_iff.2 (binsOk_all.1 (binsB_iff.1 h)).1⟩

set_option maxHeartbeats 4000000 in
theorem walk (v : Value) (n : Nat) (w : World) (h : ArgCode w v n) :
    Calls Try.prog 3 #[v] w fun e w' => e = .returned (.bool true) ∧ Ext w w' := by
  have h2 := h
  obtain ⟨_, ac, cc, rfl, -⟩ := h2
  by_cases hbig : 1048576 < n
  · go_enter Try.func3, Try.ntmps3
    go_wp2
    go_ret
    exact ⟨rfl, Ext.refl _⟩
  have hsm : n ≤ 1048576 := by omega
  clear hbig
  go_enter Try.func3, Try.ntmps3
  go_wp2_with fail
  refine (DrawBinsTasks_any _ _ _ h).mono ?_
  rintro e w1 ⟨vr, vb, room, bs, rfl, hd, E1⟩
  have Hd := Lib.hid hd
  clear hd
  go_wp2_with fail
  refine (BinsTasks_any _ _ _ _ _ Hd.out.1 Hd.out.2.1 (by have := Hd.out.2.2.2.2; omega)).mono ?_
  rintro e w2 ⟨vo, rfl, E2, ho⟩
  have Hd2 := Lib.hid (Hd.out.ext E2)
  have F2 := E1.trans E2
  have HL := Lib.hid (binsTasks_lim room bs)
  obtain ⟨oa, oc, rfl, hoc⟩ := ho.formc
  have Ho := Lib.hid (ho.tasks (Nat.le_trans HL.out.1 (by unfold lim; omega)) (fun t ht => Nat.le_trans (HL.out.2 t ht) (by unfold lim; omega)))
  clear E1 E2 Hd ho
  go_wp2_with fail
  refine (sBinsTasks_any _ _ _ _ _ Hd2.out.1 Hd2.out.2.1 (by have := Hd2.out.2.2.2.2; omega)).mono ?_
  rintro e w3 ⟨vw, rfl, E3, hw⟩
  have Hw := Lib.hid (hw.done (Nat.le_trans HL.out.1 (by unfold lim; omega)))
  have Ho3 := Lib.hid (Ho.out.ext E3)
  have Hd3 := Lib.hid (Hd2.out.ext E3)
  have F3 := F2.trans E3
  clear E3 F2 hw Ho Hd2
  go_wp2_with fail
  refine (sameTasks_any _ _ _ _ _ Ho3.out Hw.out).mono ?_
  rintro e w4 ⟨rfl, E4⟩
  have F4 := F3.trans E4
  have Ho4 := Lib.hid (Ho3.out.ext E4)
  have Hw4 := Lib.hid (Hw.out.ext E4)
  have Hd4 := Lib.hid (Hd3.out.ext E4)
  clear E4 F3 Hd3 Hw Ho3
  rw [sameTs_iff.2 rfl]
  go_wp2_with fail
  refine (sBinsValid_any _ _ _ _ _ Hd4.out.1 Hd4.out.2.1 (by have := Hd4.out.2.2.2.2; omega)).mono ?_
  rintro e w5 ⟨rfl, E5⟩
  have F5 := Lib.hid (F4.trans E5)
  have Ho5 := Lib.hid (Ho4.out.ext E5)
  have Hw5 := Lib.hid (Hw4.out.ext E5)
  have Hd5 := Lib.hid (Hd4.out.ext E5)
  clear E5 F4 Hd4 Hw4 Ho4
  cases hb : binsB room bs with
  | false =>
    go_wp2_with fail
    refine (sameTasks_any _ _ _ _ _ Ho5.out Hw5.out).mono ?_
    rintro e w6 ⟨rfl, E6⟩
    have F6 := F5.out.trans E6
    rw [sameTs_iff.2 rfl]
    go_wp2
    go_ret
    exact ⟨rfl, F6⟩
  | true =>
    obtain ⟨eL, hT⟩ := tasksL_true hb
    have HT := Lib.hid hT
    have HF := Lib.hid (fun (k : Nat) (h : k < bs.length) => flat_cut bs h)
    have hn20 : bs.flatten.length ≤ 20 := Hd5.out.2.2.2.2
    rw [eL] at Ho5 hoc ⊢
    clear hb hT eL HL Hw5
    obtain ⟨ab, cb, hvb, -⟩ := Hd5.out.2.1.open
    subst hvb
    have hlen : bs.length ≤ 10 := Hd5.out.2.2.2.1
    have HN := Lib.hid (show (bs.take bs.length).flatten.length = bs.flatten.length by rw [List.take_length])
    generalize bs.flatten = L at *
    go_wp2_with fail
    go_loopw [7, 8] (fun m i wr => ∃ k : Nat, k ≤ bs.length ∧ i = .int .i64 k ∧ m = .int .i64 (((bs.take k).flatten.length : Nat) : Int) ∧ Ext w5 wr) (fun _ i _ => bs.length - (intOf i).toNat)
    case atStart => exact ⟨0, by omega, by go_num, by simp, Ext.refl _⟩
    case round =>
      obtain ⟨k, hk, rfl, rfl, hE⟩ := hrel
      have HE := Lib.hid hE
      clear hE
      by_cases hlt : k < bs.length
      · obtain ⟨b, off, nd, he, c0, ht⟩ := (Hd5.out.2.1.ext HE.out).at hlt
        cases he
        obtain ⟨ta, tc, rfl, ht'⟩ := ht.open
        have Ht := Lib.hid ht'
        obtain ⟨f1, f2, f3⟩ := HF.out k hlt
        have HF1 := Lib.hid f1
        have HF3 := Lib.hid f3
        clear f1 f3 ht ht'
        have i0 : (0 : Int) ≤ (k : Int) := by omega
        have i1 : (k : Int) < (bs.length : Int) := by omega
        have q0 : (decide (bs.length ≤ k)) = false := by simp; omega
        generalize (bs.take k).flatten.length = m at *
        have g0 : decide ((L.length : Int) < (m : Int) + (bs[k].length : Int)) = false := by simp; omega
        have j0 : (0 : Int) ≤ (m : Int) := by omega
        have j1 : (m : Int) ≤ (m : Int) + (bs[k].length : Int) := by omega
        have j2 : (m : Int) + (bs[k].length : Int) ≤ (oc : Int) := by omega
        have r1 : IntKind.i64.wrap ((m : Int) + (bs[k].length : Int)) = (m : Int) + (bs[k].length : Int) := IntWalk.i64_in _ (by omega)
        have r2 : ((m : Int) + (bs[k].length : Int)).toNat = m + bs[k].length := by omega
        have KS := Lib.hid (show ∀ w', Ext wr w' → w'.cell? ⟨b, off + k, none⟩ = some (.slice ta bs[k].length tc) from fun w' h => h.cell c0)
        have Hsub := Lib.hid (Tasks.sub (Ho5.out.ext HE.out) (show m ≤ m + bs[k].length by omega) (by omega) hoc)
        clear c0
        go_wp2_with fail
        refine wp_region_held_drew (S := fun w' => w'.cell? ⟨b, off + k, none⟩ = some (.slice ta bs[k].length tc)) (by kernel_rfl) (KS.out _ (Ext.refl wr).drew) (fun hHeld => ?_)
        refine takeH (i := 0) (d := some 42) (v := ?_) rfl rfl (by kernel_rfl) (by kernel_rfl) (by kernel_rfl) (fun _ _ _ h => h) (by rfl) ?_ (by assumption) ?_
        rotate_left
        · intro w hSw; (try dsimp only at hSw); (try go_simp); (try with_reducible rfl)
        try simp only [Act.put, List.setIfInBounds_toArray, List.set_cons_zero, List.set_cons_succ]
        refine takeH (i := 1) (d := some 43) (v := ?_) rfl rfl (by kernel_rfl) (by kernel_rfl) (by kernel_rfl) (fun _ _ _ h => h) (by rfl) ?_ (by assumption) ?_
        rotate_left
        · intro w hSw; (try dsimp only at hSw); (try go_simp); (try with_reducible rfl)
        try simp only [Act.put, List.setIfInBounds_toArray, List.set_cons_zero, List.set_cons_succ]
        refine takeH (i := 2) (d := some 44) (v := ?_) rfl rfl (by kernel_rfl) (by kernel_rfl) (by kernel_rfl) (fun _ _ _ h => h) (by rfl) ?_ (by assumption) ?_
        rotate_left
        · intro w hSw; (try dsimp only at hSw); (try go_simp); (try with_reducible rfl)
        try simp only [Act.put, List.setIfInBounds_toArray, List.set_cons_zero, List.set_cons_succ]
        refine takeH (i := 3) (d := some 45) (v := ?_) rfl rfl (by kernel_rfl) (by kernel_rfl) (by kernel_rfl) (fun _ _ _ h => h) (by rfl) ?_ (by assumption) ?_
        rotate_left
        · intro w hSw; (try dsimp only at hSw); (try go_simp); (try with_reducible rfl)
        try simp only [Act.put, List.setIfInBounds_toArray, List.set_cons_zero, List.set_cons_succ]
        refine takeH (i := 4) (d := some 46) (v := ?_) rfl rfl (by kernel_rfl) (by kernel_rfl) (by kernel_rfl) (fun _ _ _ h => h) (by rfl) ?_ (by assumption) ?_
        rotate_left
        · intro w hSw; (try dsimp only at hSw); (try go_simp); (try with_reducible rfl)
        try simp only [Act.put, List.setIfInBounds_toArray, List.set_cons_zero, List.set_cons_succ]
        refine takeH (i := 5) (d := some 47) (v := ?_) rfl rfl (by kernel_rfl) (by kernel_rfl) (by kernel_rfl) (fun _ _ _ h => h) (by rfl) ?_ (by assumption) ?_
        rotate_left
        · intro w hSw; (try dsimp only at hSw); (try go_simp); (try with_reducible rfl)
        try simp only [Act.put, List.setIfInBounds_toArray, List.set_cons_zero, List.set_cons_succ]
        refine takeH (i := 6) (d := some 48) (v := ?_) rfl rfl (by kernel_rfl) (by kernel_rfl) (by kernel_rfl) (fun _ _ _ h => h) (by rfl) ?_ (by assumption) ?_
        rotate_left
        · intro w hSw; (try dsimp only at hSw); (try go_simp); (try with_reducible rfl)
        try simp only [Act.put, List.setIfInBounds_toArray, List.set_cons_zero, List.set_cons_succ]
        refine takeH (i := 7) (d := some 49) (v := ?_) rfl rfl (by kernel_rfl) (by kernel_rfl) (by kernel_rfl) (fun _ _ _ h => h) (by rfl) ?_ (by assumption) ?_
        rotate_left
        · intro w hSw; (try dsimp only at hSw); (try go_simp); (try with_reducible rfl)
        try simp only [Act.put, List.setIfInBounds_toArray, List.set_cons_zero, List.set_cons_succ]
        refine takeH (i := 8) (d := some 50) (v := ?_) rfl rfl (by kernel_rfl) (by kernel_rfl) (by kernel_rfl) (fun _ _ _ h => h) (by rfl) ?_ (by assumption) ?_
        rotate_left
        · intro w hSw; (try dsimp only at hSw); (try go_simp); (try with_reducible rfl)
        try simp only [Act.put, List.setIfInBounds_toArray, List.set_cons_zero, List.set_cons_succ]
        refine takeH (i := 9) (d := some 51) (v := ?_) rfl rfl (by kernel_rfl) (by kernel_rfl) (by kernel_rfl) (fun _ _ _ h => h) (by rfl) ?_ (by assumption) ?_
        rotate_left
        · intro w hSw; (try dsimp only at hSw); (try go_simp); (try with_reducible rfl)
        try simp only [Act.put, List.setIfInBounds_toArray, List.set_cons_zero, List.set_cons_succ]
        refine takeH (i := 10) (d := some 52) (v := ?_) rfl rfl (by kernel_rfl) (by kernel_rfl) (by kernel_rfl) (fun _ _ _ h => h) (by rfl) ?_ (by assumption) ?_
        rotate_left
        · intro w hSw; (try dsimp only at hSw); (try go_simp); (try with_reducible rfl)
        try simp only [Act.put, List.setIfInBounds_toArray, List.set_cons_zero, List.set_cons_succ]
        refine takeH (i := 11) (d := some 53) (v := ?_) rfl rfl (by kernel_rfl) (by kernel_rfl) (by kernel_rfl) (fun _ _ _ h => h) (by rfl) ?_ (by assumption) ?_
        rotate_left
        · intro w hSw; (try dsimp only at hSw); (try go_simp); (try with_reducible rfl)
        try simp only [Act.put, List.setIfInBounds_toArray, List.set_cons_zero, List.set_cons_succ]
        refine takeH (i := 12) (d := some 54) (v := ?_) rfl rfl (by kernel_rfl) (by kernel_rfl) (by kernel_rfl) (fun _ _ _ h => h) (by rfl) ?_ (by assumption) ?_
        rotate_left
        · intro w hSw; (try dsimp only at hSw); (try go_simp); (try with_reducible rfl)
        try simp only [Act.put, List.setIfInBounds_toArray, List.set_cons_zero, List.set_cons_succ]
        refine takeH (i := 13) (d := some 55) (v := ?_) rfl rfl (by kernel_rfl) (by kernel_rfl) (by kernel_rfl) (fun _ _ _ h => h) (by rfl) ?_ (by assumption) ?_
        rotate_left
        · intro w hSw; (try dsimp only at hSw); (try go_simp); (try with_reducible rfl)
        try simp only [Act.put, List.setIfInBounds_toArray, List.set_cons_zero, List.set_cons_succ]
        refine takeH (i := 14) (d := some 56) (v := ?_) rfl rfl (by kernel_rfl) (by kernel_rfl) (by kernel_rfl) (fun _ _ _ h => h) (by rfl) ?_ (by assumption) ?_
        rotate_left
        · intro w hSw; (try dsimp only at hSw); (try go_simp); (try with_reducible rfl)
        try simp only [Act.put, List.setIfInBounds_toArray, List.set_cons_zero, List.set_cons_succ]
        refine takeH (i := 15) (d := some 57) (v := ?_) rfl rfl (by kernel_rfl) (by kernel_rfl) (by kernel_rfl) (fun _ _ _ h => h) (by rfl) ?_ (by assumption) ?_
        rotate_left
        · intro w hSw; (try dsimp only at hSw); (try go_simp); (try with_reducible rfl)
        try simp only [Act.put, List.setIfInBounds_toArray, List.set_cons_zero, List.set_cons_succ]
        refine takeH (i := 16) (d := some 58) (v := ?_) rfl rfl (by kernel_rfl) (by kernel_rfl) (by kernel_rfl) (fun _ _ _ h => h) (by rfl) ?_ (by assumption) ?_
        rotate_left
        · intro w hSw; (try dsimp only at hSw); (try go_simp); (try with_reducible rfl)
        try simp only [Act.put, List.setIfInBounds_toArray, List.set_cons_zero, List.set_cons_succ]
        refine takeH (i := 17) (d := some 59) (v := ?_) rfl rfl (by kernel_rfl) (by kernel_rfl) (by kernel_rfl) (fun _ _ _ h => h) (by rfl) ?_ (by assumption) ?_
        rotate_left
        · intro w hSw; (try dsimp only at hSw); (try go_simp); (try with_reducible rfl)
        try simp only [Act.put, List.setIfInBounds_toArray, List.set_cons_zero, List.set_cons_succ]
        refine takeH (i := 18) (d := some 60) (v := ?_) rfl rfl (by kernel_rfl) (by kernel_rfl) (by kernel_rfl) (fun _ _ _ h => h) (by rfl) ?_ (by assumption) ?_
        rotate_left
        · intro w hSw; (try dsimp only at hSw); (try go_simp); (try with_reducible rfl)
        try simp only [Act.put, List.setIfInBounds_toArray, List.set_cons_zero, List.set_cons_succ]
        refine takeH (i := 19) (d := some 61) (v := ?_) rfl rfl (by kernel_rfl) (by kernel_rfl) (by kernel_rfl) (fun _ _ _ h => h) (by rfl) ?_ (by assumption) ?_
        rotate_left
        · intro w hSw; (try dsimp only at hSw); (try go_simp); (try with_reducible rfl)
        try simp only [Act.put, List.setIfInBounds_toArray, List.set_cons_zero, List.set_cons_succ]
        refine takeH (i := 20) (d := some 62) (v := ?_) rfl rfl (by kernel_rfl) (by kernel_rfl) (by kernel_rfl) (fun _ _ _ h => h) (by rfl) ?_ (by assumption) ?_
        rotate_left
        · intro w hSw; (try dsimp only at hSw); (try go_simp); (try with_reducible rfl)
        try simp only [Act.put, List.setIfInBounds_toArray, List.set_cons_zero, List.set_cons_succ]
        refine takeH (i := 21) (d := some 63) (v := ?_) rfl rfl (by kernel_rfl) (by kernel_rfl) (by kernel_rfl) (fun _ _ _ h => h) (by rfl) ?_ (by assumption) ?_
        rotate_left
        · intro w hSw; (try dsimp only at hSw); (try go_simp); (try with_reducible rfl)
        try simp only [Act.put, List.setIfInBounds_toArray, List.set_cons_zero, List.set_cons_succ]
        refine takeH (i := 22) (d := some 64) (v := ?_) rfl rfl (by kernel_rfl) (by kernel_rfl) (by kernel_rfl) (fun _ _ _ h => h) (by rfl) ?_ (by assumption) ?_
        rotate_left
        · intro w hSw; (try dsimp only at hSw); (try go_simp); (try with_reducible rfl)
        try simp only [Act.put, List.setIfInBounds_toArray, List.set_cons_zero, List.set_cons_succ]
        refine takeH (i := 23) (d := some 65) (v := ?_) rfl rfl (by kernel_rfl) (by kernel_rfl) (by kernel_rfl) (fun _ _ _ h => h) (by rfl) ?_ (by assumption) ?_
        rotate_left
        · intro w hSw; (try dsimp only at hSw); (try go_simp); (try with_reducible rfl)
        try simp only [Act.put, List.setIfInBounds_toArray, List.set_cons_zero, List.set_cons_succ]
        refine takeH (i := 24) (d := some 66) (v := ?_) rfl rfl (by kernel_rfl) (by kernel_rfl) (by kernel_rfl) (fun _ _ _ h => h) (by rfl) ?_ (by assumption) ?_
        rotate_left
        · intro w hSw; (try dsimp only at hSw); (try go_simp); (try with_reducible rfl)
        try simp only [Act.put, List.setIfInBounds_toArray, List.set_cons_zero, List.set_cons_succ]
        refine oneH (i := 25) (by kernel_rfl) rfl (by rfl) (fun K hK => ?_)
        go_simp
        have Hs : Tasks wr (Value.slice (if oc = m then oa else Option.map (fun x => x.add (m * 2)) oa) bs[k].length (oc - m)) bs[k] := by
          have h := Hsub.out
          rw [Nat.add_sub_cancel_left, HF3.out] at h
          simpa [sliced] using h
        refine (sameTasks_any _ _ _ _ _ Hs.drew Ht.out.drew).mono ?_
        rintro e w6 ⟨rfl, E6'⟩
        have E6 := Lib.hid ((Ext.refl wr).drew.trans E6')
        clear E6' Hs
        rw [sameTs_iff.2 rfl]
        try dsimp only
        refine hK.out _ _ (KS.out _ E6.out) (fun hHeld => ?_)
        clear hK K
        try simp only [Act.put, List.setIfInBounds_toArray, List.set_cons_zero, List.set_cons_succ]
        refine takeH (i := 26) (d := some 68) (v := ?_) rfl rfl (by kernel_rfl) (by kernel_rfl) (by kernel_rfl) (fun _ _ _ h => h) (by rfl) ?_ (by assumption) ?_
        rotate_left
        · intro w hSw; (try dsimp only at hSw); (try go_simp); (try with_reducible rfl)
        try simp only [Act.put, List.setIfInBounds_toArray, List.set_cons_zero, List.set_cons_succ]
        refine takeH (i := 27) (d := some 69) (v := ?_) rfl rfl (by kernel_rfl) (by kernel_rfl) (by kernel_rfl) (fun _ _ _ h => h) (by rfl) ?_ (by assumption) ?_
        rotate_left
        · intro w hSw; (try dsimp only at hSw); (try go_simp); (try with_reducible rfl)
        try simp only [Act.put, List.setIfInBounds_toArray, List.set_cons_zero, List.set_cons_succ]
        refine wpAnyH_done (by kernel_rfl) ?_ _
        clear r1 r2
        have HF2 := Lib.hid (HE.out.trans E6.out)
        go_wp2
        go_roundw
        case rel => exact ⟨k + 1, by omega, by go_num, by rw [HF1.out]; go_num, HF2.out⟩
        case measure => simp [intOf]; omega
      · have e : k = bs.length := by omega
        subst e
        rw [HN.out]
        have e1 : ((L.length : Int) == (L.length : Int)) = true := by simp
        go_wp2_with fail
        refine (TasksValid_any _ _ _ _ _ (Hd5.out.1.ext HE.out) (Ho5.out.ext HE.out)).mono ?_
        rintro e w6 ⟨rfl, hE6⟩
        have F := F5.out.trans (HE.out.trans hE6)
        rw [HT.out]
        go_wp2
        go_ret
        exact ⟨rfl, F⟩

theorem own : ownKnob Try.prog.godebug = none := by kernel_rfl
theorem laidOut : laidOutB Try.prog = true := by kernel_rfl

set_option maxRecDepth 100000 in
theorem lifted (os : Os) (started : os.Started) (H : Type) (enc : TypeId × Value → H) :
    ReturnsInHanded {} Try.checked os 3 .any (Rows.fnBinsTasksSpec.pre6 enc Try.prog Try.f3 Rows.fnBinsTasksRow.domain false) (Rows.fnBinsTasksSpec.post enc Try.prog Try.f3 false true false false) := by
  refine returnsInHanded_of_change (C := Try.checked) own started (by kernel_rfl) Try.func3
    (ChangeSpec.witness6 (enc := enc) (C := Try.checked) false ⟨#[], #[.slice none 0 0], []⟩ 8 (by kernel_rfl) (by kernel_rfl) (by kernel_rfl) (by kernel_rfl)) ?_
  intro W base args ds gs before hval0 hW hcnd _
  have hval : ∀ (j : Nat) t v, Try.f3.params[j]? = some t → args[j]? = some v → Value.okWide Try.prog W .any base t v := hval0
  have hW' := hW
  obtain ⟨p, q, hA0, hV, rfl, hfz, hnd⟩ := hW
  have hA : DataW.TrodAll enc Try.prog W 0 (fun _ => true) true Try.f3.params.toList args.toList ds p := hA0
  rw [Try.params3] at hA hval
  obtain ⟨v0, vs0, d0, ds0, p0, q0, hargs, rfl, rfl, h0, r0⟩ := trodAll_cons hA
  obtain ⟨rfl, rfl, rfl⟩ := trodAll_nil r0
  obtain rfl : args = #[v0] := by cases args; simp_all
  obtain ⟨rfl, rfl⟩ := trodVars_none hV
  have lt0 : ∀ x ∈ p0, x.block < W.heap.size := by obtain ⟨m, hm⟩ := h0; exact DataW.trod_lt m _ _ _ hm
  obtain ⟨x0, e0⟩ := argCode_of h0 (okWide_slice Try.underlying22 (hval 0 22 v0 rfl rfl))
  clear hA0 hval0
  refine (walk v0 x0 W e0).mono fun e W' ⟨he, bel⟩ => ?_
  subst he
  exact ⟨_, rfl, _, _, _, [], _, [], hW', trodAll_mk1 (shut_bool Try.underlying4 _), (trodAll_cons_mk (Below.trod laidOut (by kernel_rfl) (of_decide_eq_true (by kernel_rfl)) h0 bel lt0) trodAll_mk0), rfl, Below.frame bel _, fun h => by cases h⟩

theorem closed : joinedFacts Try.prog 3 Try.f3 Rows.fnBinsTasksSpec Rows.fnBinsTasksRow = true := by
  unfold joinedFacts
  rw [may_enter, lifts_final, make_cut]
  kernel_rfl

theorem proved : Rows.FnBinsTasksSaid :=
  OpenClaim.holds_of_wide 3 Try.f3 rfl rfl rfl rfl rfl rfl rfl ⟨rfl, rfl, rfl, rfl, rfl⟩ rfl rfl rfl rfl rfl (by kernel_rfl) Try.func3 closed
    (of_decide_eq_true (by kernel_rfl)) (by unfold Func.isWrapper; first | (rw [if_pos (by decide +kernel)]; kernel_rfl) | (rw [if_neg (by decide +kernel)]; exact ⟨rfl, rfl⟩))
    (fun os started H enc _ => lifted os started H enc)

end Go.Proofs.Ytipmoedflpjioaa.l14
