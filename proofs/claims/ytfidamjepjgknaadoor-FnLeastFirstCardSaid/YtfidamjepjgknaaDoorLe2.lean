/- The fewest nodes, by the reference: all ways, the first nodes first. No condition. -/
import Derived.Test.YtfidamjepjgknaaDoorP9
import Derived.Test.YtfidamjepjgknaaDoorS13
import Derived.Test.YtfidamjepjgknaaDoorS8
import Derived.Test.YtfidamjepjgknaaDoorReg
namespace Go.Proofs.YtfidamjepjgknaaDoor
set_option maxRecDepth 100000
open Go.RowKit

theorem rfind_none {α : Type} {f : Nat → Option α} {n : Nat} (h : ∀ j, j < n → f j = none) : (List.range n).findSome? f = none := by
  rw [List.findSome?_eq_none_iff]
  intro j hj
  exact h j (List.mem_range.1 hj)
theorem rfind_some {α : Type} {f : Nat → Option α} {k : Nat} {b : α} (h : ∀ j, j < k → f j = none) (hb : f k = some b) : ∀ n, k < n → (List.range n).findSome? f = some b := by
  intro n
  induction n with
  | zero => intro h; omega
  | succ n ih =>
    intro hk
    rw [List.range_succ, List.findSome?_append]
    by_cases e : k = n
    · subst e
      rw [rfind_none h]
      simp [hb]
    · rw [ih (by omega)]; rfl
/-- What a node gives where the task is put into it. -/
def tryAt (room : List Int) (most : Nat) (r : List T) (bs : List (List T)) (x : T) (i : Nat) : Option (List (List T)) := if fits11 room (bs.getD i []) x = true then tryL room most r (putL bs (some i) x) else none
theorem tryL_step (room : List Int) (most : Nat) (x : T) (r : List T) (bs : List (List T)) : tryL room most (x :: r) bs = ((List.range bs.length).findSome? (tryAt room most r bs x)).or (if bs.length < most then tryL room most r (putL bs none x) else none) := rfl

set_option maxHeartbeats 4000000 in
theorem l14Try_any {room : List Int} {ts : List T} {most : Nat} (hT : TasksOk room ts) (h7 : ts.length ≤ 7) (hm : most ≤ 100) : ∀ (n p : Nat) (bs : List (List T)) (v u t : Value) (w : World), p + n = ts.length → Ints w v room → Bins w u bs → Tasks w t ts →
    bs.length ≤ p → (∀ b ∈ bs, b.length ≤ p ∧ ∀ y ∈ b, y ∈ ts) →
    Calls Tryd.prog 16 #[v, u, t, .int .i64 (p : Int), .int .i64 (most : Int)] w fun e w' => ∃ r, e = .returned (.tuple #[r, .bool (tryL room most (ts.drop p) bs).isSome]) ∧ Ext w w' ∧ Bins w' r ((tryL room most (ts.drop p) bs).getD []) := by
  have HT := Lib.hid hT
  have H7 := Lib.hid h7
  have R3 := Lib.hid hT.1.1.1
  clear hT h7
  intro n
  induction n with
  | zero =>
    intro p bs v u t w hp hr hb ht _ _
    obtain ⟨ba, bc, rfl, hb'⟩ := hb.open
    obtain ⟨ta, tc, rfl, ht'⟩ := ht.open
    have hl := ht.1
    obtain rfl : p = ts.length := by omega
    have Hb := Lib.hid hb'
    clear hr hb ht hb' ht'
    go_enter Tryd.func16, Tryd.ntmps16
    go_wp2_with fail
    go_ret2
    exact ⟨_, by rw [List.drop_length]; rfl, Ext.refl _, by rw [List.drop_length]; exact Hb.out⟩
  | succ n ih =>
    intro p bs v u t w hp hr hb ht hbl hbm
    obtain ⟨ra, rc, rfl, hr⟩ := hr.open
    obtain ⟨ba0, bc0, rfl, hb⟩ := hb.open
    obtain ⟨ta, tc, rfl, ht⟩ := ht.open
    have hpl : p < ts.length := by omega
    have HO := Lib.hid (show tryL room most (ts.drop p) bs = ((List.range bs.length).findSome? (tryAt room most (ts.drop (p + 1)) bs ts[p])).or (if bs.length < most then tryL room most (ts.drop (p + 1)) (putL bs none ts[p]) else none) by rw [List.drop_eq_getElem_cons hpl, tryL_step])
    have Hr := Lib.hid hr
    have Hb := Lib.hid hb
    have Ht := Lib.hid ht
    have IH := Lib.hid ih
    have HBM := Lib.hid hbm
    have HN1 := Lib.hid (show ∀ t ∈ ts, t.need.length = 3 from fun t ht => (HT.out.good t ht).1)
    have GX := Lib.hid (HT.out.good _ (List.getElem_mem hpl))
    have h7 := H7.out
    have hpne : ((p : Int) == (ts.length : Int)) = false := by simp; omega
    have hpn' : ¬ (p : Int) = (ts.length : Int) := by omega
    have p0 : (0 : Int) ≤ (p : Int) := by omega
    have p1 : (p : Int) < (ts.length : Int) := by omega
    have HLB := Lib.hid (show ∀ b ∈ bs, b.length ≤ 1000 ∧ ∀ t ∈ b, t.need.length ≤ 1000 from fun b hb => ⟨by have := (hbm b hb).1; omega, fun t ht => by have := HN1.out t ((hbm b hb).2 t ht); omega⟩)
    have HPB := Lib.hid (show ∀ o, ∀ b ∈ putL bs o ts[p], b.length ≤ p + 1 ∧ ∀ y ∈ b, y ∈ ts from fun o b hb => by
      cases o with
      | none =>
        rw [putL_none] at hb
        rcases List.mem_append.1 hb with hb | hb
        · exact ⟨by have := (hbm b hb).1; omega, (hbm b hb).2⟩
        · simp at hb; subst hb; exact ⟨by simp, fun y hy => by simp at hy; subst hy; exact List.getElem_mem hpl⟩
      | some i =>
        by_cases hi : i < bs.length
        · rw [putL_some hi] at hb
          rcases List.mem_or_eq_of_mem_set hb with hb | rfl
          · exact ⟨by have := (hbm b hb).1; omega, (hbm b hb).2⟩
          · have := hbm _ (List.getElem_mem hi)
            refine ⟨by simp; omega, fun y hy => ?_⟩
            rcases List.mem_append.1 hy with hy | hy
            · exact this.2 y hy
            · simp at hy; subst hy; exact List.getElem_mem hpl
        · rw [putL, List.set_eq_of_length_le (by omega)] at hb
          exact ⟨by have := (hbm b hb).1; omega, (hbm b hb).2⟩)
    have HPL := Lib.hid (show ∀ o, (putL bs o ts[p]).length ≤ p + 1 from fun o => by cases o <;> simp [putL] <;> omega)
    clear ih hr hb ht hbm
    go_enter Tryd.func16, Tryd.ntmps16
    go_wp2_with fail
    go_loopw [12] (fun i wr => ∃ k : Nat, k ≤ bs.length ∧ i = .int .i64 (k : Int) ∧ (∀ j, j < k → tryAt room most (ts.drop (p + 1)) bs ts[p] j = none) ∧ Ext w wr) (fun i _ => bs.length - (intOf i).toNat)
    case atStart => exact ⟨0, by omega, rfl, fun j hj => by omega, Ext.refl _⟩
    case round =>
      obtain ⟨k, hk, rfl, hn, hE⟩ := hrel
      have HE := Lib.hid hE
      have HF := Lib.hid hn
      by_cases hlt : k < bs.length
      · obtain ⟨b, off, nd, he, c0, htb⟩ := (Hb.out.ext hE).at hlt
        subst he
        obtain ⟨ba, bc, rfl, htb⟩ := htb.open
        obtain ⟨b2, off2, n2, hta, d0, d1, hnn⟩ := (Ht.out.ext hE).at hpl
        subst hta
        obtain ⟨na, nc, rfl, hnn⟩ := hnn.open
        have HN := Lib.hid hnn
        have HB := Lib.hid htb
        have HR := Lib.hid (Hr.out.ext hE)
        have K0 := Lib.hid c0
        have K1 := Lib.hid d0
        have K2 := Lib.hid d1
        have GB := Lib.hid (show Good bs[k] from fun t ht => HT.out.good t ((HBM.out _ (List.getElem_mem hlt)).2 t ht))
        have k0 : (0 : Int) ≤ (k : Int) := by omega
        have k1 : (k : Int) < (bs.length : Int) := by omega
        clear hn hnn htb hE
        go_wp2_with fail
        refine wp_region_held_drew (S := fun w' => w'.cell? ⟨b, off + k, none⟩ = some (.slice ba bs[k].length bc) ∧ w'.cell? ⟨b2, off2 + p * 2, none⟩ = some (.int .i64 ts[p].id) ∧ w'.cell? ⟨b2, off2 + p * 2 + 1, none⟩ = some (.slice na ts[p].need.length nc)) (by kernel_rfl) ⟨c0, d0, d1⟩ (fun hHeld => ?_)
        refine takeH (i := 0) (d := some 26) (v := ?_) rfl rfl (by kernel_rfl) (by kernel_rfl) (by kernel_rfl) (fun _ _ _ h => h) (by rfl) ?_ (by assumption) ?_
        rotate_left
        · intro w hSw; (try dsimp only at hSw); (try have l0 := hSw.1; have l1 := hSw.2.1; have l2 := hSw.2.2; go_simp); (try with_reducible rfl)
        try simp only [Act.put, List.setIfInBounds_toArray, List.set_cons_zero, List.set_cons_succ]
        refine takeH (i := 1) (d := some 27) (v := ?_) rfl rfl (by kernel_rfl) (by kernel_rfl) (by kernel_rfl) (fun _ _ _ h => h) (by rfl) ?_ (by assumption) ?_
        rotate_left
        · intro w hSw; (try dsimp only at hSw); (try have l0 := hSw.1; have l1 := hSw.2.1; have l2 := hSw.2.2; go_simp); (try with_reducible rfl)
        try simp only [Act.put, List.setIfInBounds_toArray, List.set_cons_zero, List.set_cons_succ]
        refine takeH (i := 2) (d := some 28) (v := ?_) rfl rfl (by kernel_rfl) (by kernel_rfl) (by kernel_rfl) (fun _ _ _ h => h) (by rfl) ?_ (by assumption) ?_
        rotate_left
        · intro w hSw; (try dsimp only at hSw); (try have l0 := hSw.1; have l1 := hSw.2.1; have l2 := hSw.2.2; go_simp); (try with_reducible rfl)
        try simp only [Act.put, List.setIfInBounds_toArray, List.set_cons_zero, List.set_cons_succ]
        refine takeH (i := 3) (d := some 29) (v := ?_) rfl rfl (by kernel_rfl) (by kernel_rfl) (by kernel_rfl) (fun _ _ _ h => h) (by rfl) ?_ (by assumption) ?_
        rotate_left
        · intro w hSw; (try dsimp only at hSw); (try have l0 := hSw.1; have l1 := hSw.2.1; have l2 := hSw.2.2; go_simp); (try with_reducible rfl)
        try simp only [Act.put, List.setIfInBounds_toArray, List.set_cons_zero, List.set_cons_succ]
        refine takeH (i := 4) (d := some 30) (v := ?_) rfl rfl (by kernel_rfl) (by kernel_rfl) (by kernel_rfl) (fun _ _ _ h => h) (by rfl) ?_ (by assumption) ?_
        rotate_left
        · intro w hSw; (try dsimp only at hSw); (try have l0 := hSw.1; have l1 := hSw.2.1; have l2 := hSw.2.2; go_simp); (try with_reducible rfl)
        try simp only [Act.put, List.setIfInBounds_toArray, List.set_cons_zero, List.set_cons_succ]
        refine takeH (i := 5) (d := some 31) (v := ?_) rfl rfl (by kernel_rfl) (by kernel_rfl) (by kernel_rfl) (fun _ _ _ h => h) (by rfl) ?_ (by assumption) ?_
        rotate_left
        · intro w hSw; (try dsimp only at hSw); (try have l0 := hSw.1; have l1 := hSw.2.1; have l2 := hSw.2.2; go_simp); (try with_reducible rfl)
        try simp only [Act.put, List.setIfInBounds_toArray, List.set_cons_zero, List.set_cons_succ]
        refine takeH (i := 6) (d := some 32) (v := ?_) rfl rfl (by kernel_rfl) (by kernel_rfl) (by kernel_rfl) (fun _ _ _ h => h) (by rfl) ?_ (by assumption) ?_
        rotate_left
        · intro w hSw; (try dsimp only at hSw); (try have l0 := hSw.1; have l1 := hSw.2.1; have l2 := hSw.2.2; go_simp); (try with_reducible rfl)
        try simp only [Act.put, List.setIfInBounds_toArray, List.set_cons_zero, List.set_cons_succ]
        refine takeH (i := 7) (d := some 33) (v := ?_) rfl rfl (by kernel_rfl) (by kernel_rfl) (by kernel_rfl) (fun _ _ _ h => h) (by rfl) ?_ (by assumption) ?_
        rotate_left
        · intro w hSw; (try dsimp only at hSw); (try have l0 := hSw.1; have l1 := hSw.2.1; have l2 := hSw.2.2; go_simp); (try with_reducible rfl)
        try simp only [Act.put, List.setIfInBounds_toArray, List.set_cons_zero, List.set_cons_succ]
        refine takeH (i := 8) (d := some 34) (v := ?_) rfl rfl (by kernel_rfl) (by kernel_rfl) (by kernel_rfl) (fun _ _ _ h => h) (by rfl) ?_ (by assumption) ?_
        rotate_left
        · intro w hSw; (try dsimp only at hSw); (try have l0 := hSw.1; have l1 := hSw.2.1; have l2 := hSw.2.2; go_simp); (try with_reducible rfl)
        try simp only [Act.put, List.setIfInBounds_toArray, List.set_cons_zero, List.set_cons_succ]
        refine oneH (i := 9) (by kernel_rfl) rfl (by rfl) (fun K hK => ?_)
        go_simp
        refine (l11Fits_any _ _ _ room bs[k] ts[p] _ (HR.out.ext (Ext.refl wr).drew) (HB.out.ext (Ext.refl wr).drew) (HN.out.ext (Ext.refl wr).drew) R3.out GB.out GX.out).mono ?_; rintro e w2 ⟨rfl, hE2⟩; have X2 := Lib.hid ((Ext.refl wr).drew.trans hE2); clear hE2
        try dsimp only
        refine hK.out _ _ (⟨X2.out.cell K0.out, X2.out.cell K1.out, X2.out.cell K2.out⟩) (fun hHeld => ?_)
        clear hK K
        try simp only [Act.put, List.setIfInBounds_toArray, List.set_cons_zero, List.set_cons_succ]
        refine wpAnyH_done (by kernel_rfl) ?_ _
        have E2 := Lib.hid (HE.out.trans X2.out)
        have z0 := X2.out.cell K1.out
        have z1 := X2.out.cell K2.out
        have HN2 := Lib.hid (HN.out.ext X2.out)
        clear hHeld K0 K1 K2 HR HB HN c0 d0 d1 HE
        cases hf : fits11 room bs[k] ts[p] with
        | false =>
          have HF2 := Lib.hid (show ∀ j, j < k + 1 → tryAt room most (ts.drop (p + 1)) bs ts[p] j = none from fun j hj => by
            by_cases e : j = k
            · subst e; unfold tryAt; rw [getD_at hlt, hf]; rfl
            · exact HF.out j (by omega))
          clear z0 z1
          go_wp2_with fail
          go_roundw
          case rel => exact ⟨k + 1, by omega, by go_num, HF2.out, E2.out⟩
          case measure => simp [intOf]; omega
        | true =>
          have HAT := Lib.hid (show tryAt room most (ts.drop (p + 1)) bs ts[p] k = tryL room most (ts.drop (p + 1)) (putL bs (some k) ts[p]) by unfold tryAt; rw [getD_at hlt, hf]; rfl)
          have e1 : ((p + 1 : Nat) : Int) = (p : Int) + 1 := by omega
          go_wp2_with fail
          clear z0 z1
          refine (l11Put_any _ _ bs (some k) ts[p] w2 (Hb.out.ext E2.out) HN2.out (by have := HN1.out _ (List.getElem_mem hpl); omega) (fun j hj => by cases hj; exact hlt) (by omega) HLB.out).mono ?_
          rintro e w3 ⟨a3, c3, rfl, hE3, hB3⟩
          have E3 := Lib.hid (E2.out.trans hE3)
          have B3 := Lib.hid hB3
          clear hE3 hB3 HN2 E2
          go_wp2_with fail
          have cc := IH.out (p + 1) (putL bs (some k) ts[p]) _ _ _ w3 (by omega) (Hr.out.ext E3.out) B3.out (Ht.out.ext E3.out) (HPL.out _) (HPB.out _)
          rw [e1] at cc
          rw [HAT.out.symm] at cc
          refine cc.mono ?_
          clear cc
          rintro e w4 ⟨r4, rfl, hE4, hB4⟩
          have E4 := Lib.hid (E3.out.trans hE4)
          obtain ⟨a4, c4, rfl, hB4⟩ := hB4.open
          have B4 := Lib.hid hB4
          clear hE4 hB4 E3 B3 HAT
          cases ho : tryAt room most (ts.drop (p + 1)) bs ts[p] k with
          | none =>
            have HF2 := Lib.hid (show ∀ j, j < k + 1 → tryAt room most (ts.drop (p + 1)) bs ts[p] j = none from fun j hj => by
              by_cases e : j = k
              · subst e; exact ho
              · exact HF.out j (by omega))
            clear ho B4
            simp only [Option.isSome_none]
            go_wp2_with fail
            go_roundw
            case rel => exact ⟨k + 1, by omega, by go_num, HF2.out, E4.out⟩
            case measure => simp [intOf]; omega
          | some out =>
            have HS := Lib.hid (show tryL room most (ts.drop p) bs = some out by rw [HO.out, rfind_some HF.out ho _ hlt]; rfl)
            rw [ho] at B4
            clear ho
            simp only [Option.isSome_some]
            go_wp2_with fail
            go_ret2
            exact ⟨_, by rw [HS.out]; rfl, E4.out, by rw [HS.out]; exact B4.out⟩
      · obtain rfl : k = bs.length := by omega
        have HS := Lib.hid (show tryL room most (ts.drop p) bs = if bs.length < most then tryL room most (ts.drop (p + 1)) (putL bs none ts[p]) else none by rw [HO.out, rfind_none HF.out]; rfl)
        clear hn hE hlt HF
        by_cases hm' : bs.length < most
        · have HS2 := Lib.hid (show tryL room most (ts.drop p) bs = tryL room most (ts.drop (p + 1)) (putL bs none ts[p]) by rw [HS.out, if_pos hm'])
          have hd : decide ((bs.length : Int) < (most : Int)) = true := decide_eq_true (by omega)
          have hd' : (bs.length : Int) < (most : Int) := by omega
          obtain ⟨b2, off2, n2, hta, d0, d1, hnn⟩ := (Ht.out.ext HE.out).at hpl
          subst hta
          obtain ⟨na, nc, rfl, hnn⟩ := hnn.open
          have HN := Lib.hid hnn
          have e1 : ((p + 1 : Nat) : Int) = (p : Int) + 1 := by omega
          clear hnn HS
          go_wp2_with fail
          clear d0 d1
          have cc := l11Put_any _ _ bs none ts[p] wr (Hb.out.ext HE.out) HN.out (by have := HN1.out _ (List.getElem_mem hpl); omega) (fun j hj => by cases hj) (by omega) HLB.out
          refine cc.mono ?_
          clear cc
          rintro e w3 ⟨a3, c3, rfl, hE3, hB3⟩
          have E3 := Lib.hid (HE.out.trans hE3)
          have B3 := Lib.hid hB3
          clear hE3 hB3 HN HE
          go_wp2_with fail
          have cc := IH.out (p + 1) (putL bs none ts[p]) _ _ _ w3 (by omega) (Hr.out.ext E3.out) B3.out (Ht.out.ext E3.out) (HPL.out _) (HPB.out _)
          rw [e1, ← HS2.out] at cc
          refine cc.mono ?_
          clear cc
          rintro e w4 ⟨r4, rfl, hE4, hB4⟩
          have E4 := Lib.hid (E3.out.trans hE4)
          obtain ⟨a4, c4, rfl, hB4⟩ := hB4.open
          have B4 := Lib.hid hB4
          clear hE4 hB4 E3 B3 HS2 HO
          generalize hz : (tryL room most (ts.drop p) bs).isSome = z
          have HZ := Lib.hid hz
          clear hz
          go_wp2_with fail
          go_ret2
          exact ⟨_, by rw [HZ.out]; rfl, E4.out, B4.out⟩
        · have HS2 := Lib.hid (show tryL room most (ts.drop p) bs = none by rw [HS.out, if_neg hm'])
          have hd : decide ((bs.length : Int) < (most : Int)) = false := decide_eq_false (by omega)
          have hd' : ¬ (bs.length : Int) < (most : Int) := by omega
          have BL := Lib.hid ((OwnBins.lit0 wr wr.heap.size (Nat.le_refl _)).done (by simp [lim]))
          clear HS
          go_wp2_with fail
          go_ret2
          exact ⟨_, by rw [HS2.out]; rfl, HE.out.alloc _, by rw [HS2.out]; exact BL.out⟩

set_option maxHeartbeats 1000000 in
theorem l14Ok_any (v u : Value) (room : List Int) (ts : List T) (w : World) (hr : Ints w v room) (h : Tasks w u ts) :
    Calls Tryd.prog 15 #[v, u] w fun e w' => e = .returned (.bool (fewB room ts)) ∧ Ext w w' := by
  have cc := sTasksValid_any v u room ts w hr h
  obtain ⟨a, c, rfl, h⟩ := h.open
  obtain ⟨ra, rc, rfl, hr⟩ := hr.open
  have hl : ts.length ≤ 4194304 := h.1
  clear h hr
  cases hb : tasksB room ts with
  | false =>
    have Hf : Hid (fewB room ts = false) := by show fewB room ts = _; unfold fewB; rw [hb, Bool.and_false]
    rw [hb] at cc
    clear hb
    go_enter Tryd.func15, Tryd.ntmps15
    go_wp2_with fail
    refine cc.mono ?_
    clear cc
    rintro e w1 ⟨rfl, m, rfl⟩
    go_wp2
    go_ret
    exact ⟨ret_bool Hf.out.symm, (Ext.refl w).drewN m⟩
  | true =>
    rw [hb] at cc
    have Hf : Hid (fewB room ts = decide ((ts.length : Int) ≤ 7)) := by
      show fewB room ts = _
      unfold fewB
      rw [hb, Bool.and_true]
      by_cases h : ts.length ≤ 7
      · rw [decide_eq_true h, decide_eq_true (by omega)]
      · rw [decide_eq_false h, decide_eq_false (by omega)]
    clear hb
    go_enter Tryd.func15, Tryd.ntmps15
    go_wp2_with fail
    refine cc.mono ?_
    clear cc
    rintro e w1 ⟨rfl, m, rfl⟩
    go_wp2
    go_ret
    exact ⟨ret_bool Hf.out.symm, (Ext.refl w).drewN m⟩

def leastAllL (room : List Int) (ts : List T) : List (List T) := if fewB room ts = true then leastW room ts else []
set_option maxHeartbeats 4000000 in
theorem sLeastAll_any (v u : Value) (room : List Int) (ts : List T) (w : World) (hr : Ints w v room) (h : Tasks w u ts) :
    Calls Tryd.prog 6 #[v, u] w fun e w' => ∃ a c, e = .returned (.slice a (leastAllL room ts).length c) ∧ Ext w w' ∧ Bins w' (.slice a (leastAllL room ts).length c) (leastAllL room ts) := by
  obtain ⟨a, c, rfl, h⟩ := h.open
  obtain ⟨ra, rc, rfl, hr⟩ := hr.open
  have hl : ts.length ≤ 4194304 := h.1
  have Hr := Lib.hid hr
  have Ht := Lib.hid h
  clear h hr
  cases hb : fewB room ts with
  | false =>
    have Hd : Hid (leastAllL room ts = []) := by show leastAllL room ts = _; unfold leastAllL; rw [hb]; rfl
    have cc := l14Ok_any _ _ room ts w Hr.out Ht.out
    rw [hb] at cc
    clear hb
    have hd : decide ((0 : Int) ≤ (ts.length : Int)) = true := decide_eq_true (by omega)
    have hd' : (0 : Int) ≤ (ts.length : Int) := by omega
    go_enter Tryd.func6, Tryd.ntmps6
    go_wp2_with fail
    go_loopw [5] (fun i wr => i = .int .i64 0 ∧ wr = w) (fun i _ => 0)
    case atStart => exact ⟨rfl, rfl⟩
    case round =>
      obtain ⟨rfl, rfl⟩ := hrel
      go_wp2_with fail
      refine cc.mono ?_
      clear cc
      rintro e w1 ⟨rfl, hE⟩
      have E1 := Lib.hid hE
      have BL := Lib.hid ((OwnBins.lit0 w1 w1.heap.size (Nat.le_refl _)).done (by simp [lim]))
      clear hE
      go_wp2_with fail
      go_ret
      exact ⟨_, _, by rw [Hd.out]; rfl, E1.out.alloc _, by rw [Hd.out]; exact BL.out⟩
  | true =>
    obtain ⟨h7, hT⟩ := fewB_iff.1 hb
    have HT := Lib.hid hT
    have H7 := Lib.hid h7
    have Hd : Hid (leastAllL room ts = leastF room ts (ts.length + 1) 0) := by show leastAllL room ts = _; unfold leastAllL; rw [hb]; rfl
    have HB := Lib.hid hb
    clear hb hT
    go_enter Tryd.func6, Tryd.ntmps6
    go_wp2_with fail
    go_loopw [5] (fun i wr => ∃ k : Nat, k ≤ ts.length + 1 ∧ i = .int .i64 (k : Int) ∧ leastAllL room ts = leastF room ts (ts.length + 1 - k) k ∧ Ext w wr) (fun i _ => ts.length + 1 - (intOf i).toNat)
    case atStart => exact ⟨0, by omega, rfl, Hd.out, Ext.refl _⟩
    case round =>
      obtain ⟨k, hk, rfl, ho, hE⟩ := hrel
      have HE := Lib.hid hE
      clear hE
      by_cases hlt : k ≤ ts.length
      · have hd : decide ((k : Int) ≤ (ts.length : Int)) = true := decide_eq_true (by omega)
        have hd' : (k : Int) ≤ (ts.length : Int) := by omega
        have HO := Lib.hid (show leastAllL room ts = match tryL room k ts [] with | some o => o | none => leastF room ts (ts.length + 1 - (k + 1)) (k + 1) by
          rw [ho, show ts.length + 1 - k = (ts.length - k) + 1 by omega, leastF, show ts.length + 1 - (k + 1) = ts.length - k by omega]
          cases tryL room k ts [] <;> rfl)
        clear ho
        go_wp2_with fail
        have cc := l14Ok_any _ _ room ts wr (Hr.out.ext HE.out) (Ht.out.ext HE.out)
        rw [HB.out] at cc
        refine cc.mono ?_
        clear cc
        rintro e w1 ⟨rfl, hE1⟩
        have E1 := Lib.hid (HE.out.trans hE1)
        have BL := Lib.hid ((OwnBins.lit0 w1 w1.heap.size (Nat.le_refl _)).done (by simp [lim]))
        clear hE1 HE
        go_wp2_with fail
        have E2 := Lib.hid (E1.out.alloc (.cells #[] 24))
        have cc := l14Try_any (room := room) (ts := ts) (most := k) HT.out H7.out (by omega) ts.length 0 [] _ _ _ (w1.alloc (.cells #[] 24)) (by omega) (Hr.out.ext E2.out) BL.out (Ht.out.ext E2.out) (by simp) (by simp)
        rw [List.drop_zero] at cc
        refine cc.mono ?_
        clear cc
        rintro e w2 ⟨r, rfl, hE2, hB⟩
        have E3 := Lib.hid (E2.out.trans hE2)
        obtain ⟨xa, xc, rfl, hB⟩ := hB.open
        have B3 := Lib.hid hB
        clear hE2 hB E1 E2 BL
        cases hy : tryL room k ts [] with
        | none =>
          have HO2 := Lib.hid (by have := HO.out; rw [hy] at this; exact this : leastAllL room ts = leastF room ts (ts.length + 1 - (k + 1)) (k + 1))
          clear B3 HO hy
          simp only [Option.isSome_none]
          go_wp2_with fail
          go_roundw
          case rel => exact ⟨k + 1, by omega, by go_num, HO2.out, E3.out⟩
          case measure => simp [intOf]; omega
        | some o =>
          have HO2 := Lib.hid (by have := HO.out; rw [hy] at this; exact this : leastAllL room ts = o)
          rw [hy] at B3
          clear HO hy
          simp only [Option.isSome_some]
          go_wp2_with fail
          go_ret
          exact ⟨_, _, by rw [HO2.out]; rfl, E3.out, by rw [HO2.out]; exact B3.out⟩
      · have e : k = ts.length + 1 := by omega
        subst e
        have HO := Lib.hid (by rw [Nat.sub_self] at ho; exact ho : leastAllL room ts = [])
        have hd : decide (((ts.length + 1 : Nat) : Int) ≤ (ts.length : Int)) = false := decide_eq_false (by omega)
        have hd' : ¬ ((ts.length + 1 : Nat) : Int) ≤ (ts.length : Int) := by omega
        have BL := Lib.hid ((OwnBins.lit0 wr wr.heap.size (Nat.le_refl _)).done (by simp [lim]))
        clear ho
        generalize ((ts.length + 1 : Nat) : Int) = z at *
        go_wp2_with fail
        go_ret
        exact ⟨_, _, by rw [HO.out]; rfl, HE.out.alloc _, by rw [HO.out]; exact BL.out⟩

end Go.Proofs.YtfidamjepjgknaaDoor
