/- The law FnFirstPut: whatever the code, a task is put into one node, and the others stay. No condition. -/
import Derived.Test.YtapkpphdkdbclaaS15
import Derived.Test.YtapkpphdkdbclaaP4
import Derived.Test.YtapkpphdkdbclaaDr9
import Derived.Test.YtapkpphdkdbclaaSame2
import Derived.Test.YtapkpphdkdbclaaPut
import Derived.Test.YtapkpphdkdbclaaReg
import Derived.Test.YtapkpphdkdbclaaHead
import Derived.OpenShut
import Derived.ChangeOld
namespace Go.Proofs.Ytapkpphdkdbclaa.l53
set_option maxRecDepth 100000
open Go.RowKit Go.ChangeShapes Go.WideShapes Go.ChangeAt

set_option maxHeartbeats 4000000 in
theorem walk (v : Value) (n : Nat) (w : World) (h : ArgCode w v n) :
    Calls Try.prog 10 #[v] w fun e w' => e = .returned (.bool true) ∧ Ext w w' := by
  have h2 := h
  obtain ⟨_, ac, cc, rfl, -⟩ := h2
  by_cases hbig : 1048576 < n
  · go_enter Try.func10, Try.ntmps10
    go_wp2
    go_ret
    exact ⟨rfl, Ext.refl _⟩
  have hsm : n ≤ 1048576 := by omega
  clear hbig
  go_enter Try.func10, Try.ntmps10
  go_wp2_with fail
  refine (DrawFirstPut_any _ _ _ h).mono ?_
  rintro e w1 ⟨vr, vb, nx, room, bs, x, rfl, hd, E1, na, nn, nc, rfl⟩
  obtain rfl : nn = x.need.length := hd.2.1.parts.1
  have Eb : Ext w1 (w1.alloc (.cells #[.int .i64 x.id, .slice na x.need.length nc] 42)) := (Ext.refl w1).alloc _
  have F1 := Lib.hid (E1.trans Eb)
  have Hd := Lib.hid (hd.ext Eb)
  have b0 : (w1.alloc (.cells #[.int .i64 x.id, .slice na x.need.length nc] 42)).cell? ⟨w1.heap.size, 0, none⟩ = some (.int .i64 x.id) := by rw [box_cell]; rfl
  have b1 : (w1.alloc (.cells #[.int .i64 x.id, .slice na x.need.length nc] 42)).cell? ⟨w1.heap.size, 1, none⟩ = some (.slice na x.need.length nc) := by rw [box_cell]; rfl
  have hws : w1.heap.size < (w1.alloc (.cells #[.int .i64 x.id, .slice na x.need.length nc] 42)).heap.size := by simp
  clear hd E1 Eb
  go_wp2_with fail
  generalize w1.alloc (.cells #[.int .i64 x.id, .slice na x.need.length nc] 42) = W1 at *
  have KB := Lib.hid (show ∀ w', Ext W1 w' → w'.cell? ⟨w1.heap.size, 0, none⟩ = some (.int .i64 x.id) ∧ w'.cell? ⟨w1.heap.size, 1, none⟩ = some (.slice na x.need.length nc) from fun w' h => ⟨h.cell b0, h.cell b1⟩)
  refine (FirstPut_any _ _ _ room bs x _ Hd.out.1.1 Hd.out.1.2.1 Hd.out.2.1 (by have := Hd.out.1.2.2.2.2; omega)).mono ?_
  clear b0 b1
  rintro e w2 ⟨oa, oc, rfl, E2, hN⟩
  have E2' := Lib.hid E2
  have O2 := Lib.hid (hN.upto.bins (firstPutL_lim room bs x))
  have Hoc := Lib.hid hN.cap
  obtain ⟨c0, c1⟩ := KB.out w2 E2
  clear E2 hN
  go_wp2_with fail
  clear c0 c1
  refine (sFirstPut_any _ _ _ room bs x _ (Hd.out.1.1.ext E2'.out) (Hd.out.1.2.1.ext E2'.out) (Hd.out.2.1.ext E2'.out) (by have := Hd.out.1.2.2.2.2; omega)).mono ?_
  rintro e w3 ⟨wa, wc, rfl, E3, hB⟩
  have W3 := Lib.hid hB
  have O3 := Lib.hid (O2.out.ext E3)
  have F3 := Lib.hid (F1.out.trans (E2'.out.trans E3))
  have E3' := Lib.hid (E2'.out.trans E3)
  have Hd3 := Lib.hid (Hd.out.ext E3'.out)
  clear E3 F1 E2' Hd hB O2
  cases hok : ok11 room bs x with
  | false =>
    go_wp2_with fail
    refine (sameBins_any _ _ _ _ _ O3.out W3.out).mono ?_
    rintro e w4 ⟨rfl, hE⟩
    have W4 := Lib.hid (W3.out.ext hE)
    have O4 := Lib.hid (O3.out.ext hE)
    have F4 := Lib.hid (F3.out.trans hE)
    rw [sameBs_iff.2 rfl]
    clear hE
    go_wp2_with fail
    refine (sameBins_any _ _ _ _ _ O4.out W4.out).mono ?_
    rintro e w5 ⟨rfl, hE⟩
    have F := F4.out.trans hE
    rw [sameBs_iff.2 rfl]
    go_wp2
    go_ret
    exact ⟨rfl, F⟩
  | true =>
    have HK := Lib.hid hok
    have Hfp := Lib.hid (firstPutL_yes hok)
    have Hfa := Lib.hid (show firstAtI room bs x = nodeI (at11 room bs x) by simp [firstAtI, hok])
    clear hok
    go_wp2_with fail
    refine (sameBins_any _ _ _ _ _ O3.out W3.out).mono ?_
    rintro e w4 ⟨rfl, hE⟩
    have O4 := Lib.hid (O3.out.ext hE)
    have F4 := Lib.hid (F3.out.trans hE)
    have Hd4 := Lib.hid (Hd3.out.ext hE)
    have E4' := Lib.hid (E3'.out.trans hE)
    rw [sameBs_iff.2 rfl]
    obtain ⟨c0, c1⟩ := KB.out w4 E4'.out
    clear hE F3 O3 W3 Hd3 E3'
    go_wp2_with fail
    clear c0 c1
    refine (FirstAt_any _ _ _ room bs x _ Hd4.out.1.1 Hd4.out.1.2.1 Hd4.out.2.1 (by have := Hd4.out.1.2.2.2.2; omega)).mono ?_
    rintro e w5 ⟨rfl, hE⟩
    have O5 := Lib.hid (O4.out.ext hE)
    have F5 := Lib.hid (F4.out.trans hE)
    have Hd5 := Lib.hid (Hd4.out.ext hE)
    have E5' := Lib.hid (E4'.out.trans hE)
    have HO := Lib.hid (ok11_facts HK.out)
    rw [Hfa.out]
    clear hE F4 O4 Hd4 E4'
    obtain ⟨ab, cb, hvb, -⟩ := Hd5.out.1.2.1.open
    subst hvb
    have hlen : bs.length ≤ 10 := Hd5.out.1.2.2.2.1
    have HBO := Lib.hid (put_ok HK.out)
    have hpl := Hfp.out
    cases ho : at11 room bs x with
    | none =>
      rw [ho, putL_none] at hpl
      rw [show nodeI none = -1 from rfl]
      rw [hpl] at O5 Hoc ⊢
      have hol : (bs ++ [[x]]).length = bs.length + 1 := by simp
      have hO8 := O5.out.take (q := bs.length) (by omega)
      rw [List.take_left] at hO8
      have O8 := Lib.hid hO8
      obtain ⟨ob, ooff, on, he, cl, htl⟩ := O5.out.at (k := bs.length) (by omega)
      subst he
      rw [List.getElem_append_right (Nat.le_refl _)] at htl
      simp only [Nat.sub_self, List.getElem_cons_zero] at htl
      obtain ⟨la, lc, rfl, htl'⟩ := htl.open
      have Tl := Lib.hid htl'
      have hoc : bs.length + 1 ≤ oc := by have := Hoc.out; omega
      have hoc0 : ¬ oc = 0 := by omega
      obtain ⟨c0, c1⟩ := KB.out w5 E5'.out
      have KL := Lib.hid (show ∀ w', Ext w5 w' → w'.cell? ⟨ob, ooff + bs.length, none⟩ = some (.slice la 1 lc) ∧ w'.cell? ⟨w1.heap.size, 0, none⟩ = some (.int .i64 x.id) ∧ w'.cell? ⟨w1.heap.size, 1, none⟩ = some (.slice na x.need.length nc) from fun w' h => ⟨h.cell cl, h.cell c0, h.cell c1⟩)
      have g2 : (bs.length : Int) ≤ (oc : Int) := by omega
      have g3 : (0 : Int) ≤ (bs.length : Int) := by omega
      obtain ⟨n1, hn1⟩ : ∃ n1 : Nat, n1 = bs.length + 1 := ⟨_, rfl⟩
      have g1 : ((n1 : Int) == (bs.length : Int) + 1) = true := by rw [hn1]; simp
      have g4 : (bs.length : Int) < (n1 : Int) := by omega
      have r1 : IntKind.i64.wrap ((bs.length : Int) + 1) = (bs.length : Int) + 1 := IntWalk.i64_in _ (by omega)
      rw [hol, ← hn1]
      clear Hoc hol hO8 ho hpl htl htl' cl c0 c1 hn1
      go_wp2_with fail
      refine wp_region_held_drew (S := fun w' => w'.cell? ⟨ob, ooff + bs.length, none⟩ = some (.slice la 1 lc) ∧ w'.cell? ⟨w1.heap.size, 0, none⟩ = some (.int .i64 x.id) ∧ w'.cell? ⟨w1.heap.size, 1, none⟩ = some (.slice na x.need.length nc)) (by kernel_rfl) (KL.out _ (Ext.refl w5).drew) (fun hHeld => ?_)
      refine takeH (i := 0) (d := some 62) (v := ?_) rfl rfl (by kernel_rfl) (by kernel_rfl) (by kernel_rfl) (fun _ _ _ h => h) (by rfl) ?_ (by assumption) ?_
      rotate_left
      · intro w hSw; (try dsimp only at hSw); (try go_simp); (try with_reducible rfl)
      try simp only [Act.put, List.setIfInBounds_toArray, List.set_cons_zero, List.set_cons_succ]
      refine takeH (i := 1) (d := some 63) (v := ?_) rfl rfl (by kernel_rfl) (by kernel_rfl) (by kernel_rfl) (fun _ _ _ h => h) (by rfl) ?_ (by assumption) ?_
      rotate_left
      · intro w hSw; (try dsimp only at hSw); (try go_simp); (try with_reducible rfl)
      try simp only [Act.put, List.setIfInBounds_toArray, List.set_cons_zero, List.set_cons_succ]
      refine takeH (i := 2) (d := some 64) (v := ?_) rfl rfl (by kernel_rfl) (by kernel_rfl) (by kernel_rfl) (fun _ _ _ h => h) (by rfl) ?_ (by assumption) ?_
      rotate_left
      · intro w hSw; (try dsimp only at hSw); (try go_simp); (try with_reducible rfl)
      try simp only [Act.put, List.setIfInBounds_toArray, List.set_cons_zero, List.set_cons_succ]
      refine takeH (i := 3) (d := some 65) (v := ?_) rfl rfl (by kernel_rfl) (by kernel_rfl) (by kernel_rfl) (fun _ _ _ h => h) (by rfl) ?_ (by assumption) ?_
      rotate_left
      · intro w hSw; (try dsimp only at hSw); (try go_simp); (try with_reducible rfl)
      try simp only [Act.put, List.setIfInBounds_toArray, List.set_cons_zero, List.set_cons_succ]
      refine takeH (i := 4) (d := some 66) (v := ?_) rfl rfl (by kernel_rfl) (by kernel_rfl) (by kernel_rfl) (fun _ _ _ h => h) (by rfl) ?_ (by assumption) ?_
      rotate_left
      · intro w hSw; (try dsimp only at hSw); (try go_simp); (try with_reducible rfl)
      try simp only [Act.put, List.setIfInBounds_toArray, List.set_cons_zero, List.set_cons_succ]
      refine takeH (i := 5) (d := some 67) (v := ?_) rfl rfl (by kernel_rfl) (by kernel_rfl) (by kernel_rfl) (fun _ _ _ h => h) (by rfl) ?_ (by assumption) ?_
      rotate_left
      · intro w hSw; (try dsimp only at hSw); (try go_simp); (try with_reducible rfl)
      try simp only [Act.put, List.setIfInBounds_toArray, List.set_cons_zero, List.set_cons_succ]
      refine takeH (i := 6) (d := some 68) (v := ?_) rfl rfl (by kernel_rfl) (by kernel_rfl) (by kernel_rfl) (fun _ _ _ h => h) (by rfl) ?_ (by assumption) ?_
      rotate_left
      · intro w hSw; (try dsimp only at hSw); (try go_simp); (try with_reducible rfl)
      try simp only [Act.put, List.setIfInBounds_toArray, List.set_cons_zero, List.set_cons_succ]
      refine takeH (i := 7) (d := some 69) (v := ?_) rfl rfl (by kernel_rfl) (by kernel_rfl) (by kernel_rfl) (fun _ _ _ h => h) (by rfl) ?_ (by assumption) ?_
      rotate_left
      · intro w hSw; (try dsimp only at hSw); (try go_simp); (try with_reducible rfl)
      try simp only [Act.put, List.setIfInBounds_toArray, List.set_cons_zero, List.set_cons_succ]
      refine takeH (i := 8) (d := some 70) (v := ?_) rfl rfl (by kernel_rfl) (by kernel_rfl) (by kernel_rfl) (fun _ _ _ h => h) (by rfl) ?_ (by assumption) ?_
      rotate_left
      · intro w hSw; (try dsimp only at hSw); (try go_simp); (try with_reducible rfl)
      try simp only [Act.put, List.setIfInBounds_toArray, List.set_cons_zero, List.set_cons_succ]
      refine takeH (i := 9) (d := some 71) (v := ?_) rfl rfl (by kernel_rfl) (by kernel_rfl) (by kernel_rfl) (fun _ _ _ h => h) (by rfl) ?_ (by assumption) ?_
      rotate_left
      · intro w hSw; (try dsimp only at hSw); (try go_simp); (try with_reducible rfl)
      try simp only [Act.put, List.setIfInBounds_toArray, List.set_cons_zero, List.set_cons_succ]
      refine takeH (i := 10) (d := some 72) (v := ?_) rfl rfl (by kernel_rfl) (by kernel_rfl) (by kernel_rfl) (fun _ _ _ h => h) (by rfl) ?_ (by assumption) ?_
      rotate_left
      · intro w hSw; (try dsimp only at hSw); (try go_simp); (try with_reducible rfl)
      try simp only [Act.put, List.setIfInBounds_toArray, List.set_cons_zero, List.set_cons_succ]
      refine takeH (i := 11) (d := some 73) (v := ?_) rfl rfl (by kernel_rfl) (by kernel_rfl) (by kernel_rfl) (fun _ _ _ h => h) (by rfl) ?_ (by assumption) ?_
      rotate_left
      · intro w hSw; (try dsimp only at hSw); (try go_simp); (try with_reducible rfl)
      try simp only [Act.put, List.setIfInBounds_toArray, List.set_cons_zero, List.set_cons_succ]
      refine oneH (i := 12) (by kernel_rfl) rfl (by rfl) (fun K hK => ?_)
      go_simp
      refine (sameBins_any _ _ bs bs _ (O8.out.ext (Ext.refl w5).drew) (Hd5.out.1.2.1.ext (Ext.refl w5).drew)).mono ?_
      rintro e w6 ⟨rfl, hE⟩
      have E6 := Lib.hid ((Ext.refl w5).drew.trans hE)
      rw [sameBs_iff.2 rfl]
      clear hE
      try dsimp only
      refine hK.out _ _ (KL.out _ E6.out) (fun hHeld => ?_)
      clear hK K
      try simp only [Act.put, List.setIfInBounds_toArray, List.set_cons_zero, List.set_cons_succ]
      refine takeH (i := 13) (d := some 75) (v := ?_) rfl rfl (by kernel_rfl) (by kernel_rfl) (by kernel_rfl) (fun _ _ _ h => h) (by rfl) ?_ (by assumption) ?_
      rotate_left
      · intro w hSw; (try dsimp only at hSw); (try go_simp); (try with_reducible rfl)
      try simp only [Act.put, List.setIfInBounds_toArray, List.set_cons_zero, List.set_cons_succ]
      refine takeH (i := 14) (d := some 76) (v := ?_) rfl rfl (by kernel_rfl) (by kernel_rfl) (by kernel_rfl) (fun _ _ _ h => h) (by rfl) ?_ (by assumption) ?_
      rotate_left
      · intro w hSw; (try dsimp only at hSw); (try go_simp); (try with_reducible rfl)
      try simp only [Act.put, List.setIfInBounds_toArray, List.set_cons_zero, List.set_cons_succ]
      refine takeH (i := 15) (d := some 77) (v := ?_) rfl rfl (by kernel_rfl) (by kernel_rfl) (by kernel_rfl) (fun _ _ _ h => h) (by rfl) ?_ (by assumption) ?_
      rotate_left
      · intro w hSw; (try dsimp only at hSw); (try go_simp); (try with_reducible rfl)
      try simp only [Act.put, List.setIfInBounds_toArray, List.set_cons_zero, List.set_cons_succ]
      refine takeH (i := 16) (d := some 78) (v := ?_) rfl rfl (by kernel_rfl) (by kernel_rfl) (by kernel_rfl) (fun _ _ _ h => h) (by rfl) ?_ (by assumption) ?_
      rotate_left
      · intro w hSw; (try dsimp only at hSw); (try go_simp); (try with_reducible rfl)
      try simp only [Act.put, List.setIfInBounds_toArray, List.set_cons_zero, List.set_cons_succ]
      refine takeH (i := 17) (d := some 79) (v := ?_) rfl rfl (by kernel_rfl) (by kernel_rfl) (by kernel_rfl) (fun _ _ _ h => h) (by rfl) ?_ (by assumption) ?_
      rotate_left
      · intro w hSw; (try dsimp only at hSw); (try go_simp); (try with_reducible rfl)
      try simp only [Act.put, List.setIfInBounds_toArray, List.set_cons_zero, List.set_cons_succ]
      refine takeH (i := 18) (d := some 80) (v := ?_) rfl rfl (by kernel_rfl) (by kernel_rfl) (by kernel_rfl) (fun _ _ _ h => h) (by rfl) ?_ (by assumption) ?_
      rotate_left
      · intro w hSw; (try dsimp only at hSw); (try go_simp); (try with_reducible rfl)
      try simp only [Act.put, List.setIfInBounds_toArray, List.set_cons_zero, List.set_cons_succ]
      refine takeH (i := 19) (d := some 81) (v := ?_) rfl rfl (by kernel_rfl) (by kernel_rfl) (by kernel_rfl) (fun _ _ _ h => h) (by rfl) ?_ (by assumption) ?_
      rotate_left
      · intro w hSw; (try dsimp only at hSw); (try go_simp); (try with_reducible rfl)
      try simp only [Act.put, List.setIfInBounds_toArray, List.set_cons_zero, List.set_cons_succ]
      refine takeH (i := 20) (d := some 82) (v := ?_) rfl rfl (by kernel_rfl) (by kernel_rfl) (by kernel_rfl) (fun _ _ _ h => h) (by rfl) ?_ (by assumption) ?_
      rotate_left
      · intro w hSw; (try dsimp only at hSw); (try go_simp); (try with_reducible rfl)
      try simp only [Act.put, List.setIfInBounds_toArray, List.set_cons_zero, List.set_cons_succ]
      refine oneH (i := 21) (by kernel_rfl) rfl (by rfl) (fun K hK => ?_)
      go_simp
      try dsimp only
      refine hK.out _ _ (KL.out _ (E6.out.alloc _)) (fun hHeld => ?_)
      clear hK K
      try simp only [Act.put, List.setIfInBounds_toArray, List.set_cons_zero, List.set_cons_succ]
      refine oneH (i := 22) (by kernel_rfl) rfl (by rfl) (fun K hK => ?_)
      go_simp
      refine (sameTasks_any _ _ [x] [x] _ (Tl.out.ext (E6.out.alloc _)) (Tasks.lit1 (Hd5.out.2.1.ext E6.out) 1)).mono ?_
      rintro e w7 ⟨rfl, hE⟩
      have E7 := Lib.hid ((E6.out.alloc (.cells #[.int .i64 x.id, .slice na x.need.length nc] 42)).trans hE)
      rw [sameTs_iff.2 rfl]
      clear hE
      try dsimp only
      refine hK.out _ _ (KL.out _ E7.out) (fun hHeld => ?_)
      clear hK K
      try simp only [Act.put, List.setIfInBounds_toArray, List.set_cons_zero, List.set_cons_succ]
      refine takeH (i := 23) (d := some 85) (v := ?_) rfl rfl (by kernel_rfl) (by kernel_rfl) (by kernel_rfl) (fun _ _ _ h => h) (by rfl) ?_ (by assumption) ?_
      rotate_left
      · intro w hSw; (try dsimp only at hSw); (try go_simp); (try with_reducible rfl)
      try simp only [Act.put, List.setIfInBounds_toArray, List.set_cons_zero, List.set_cons_succ]
      refine oneH (i := 24) (by kernel_rfl) rfl (by rfl) (fun K hK => ?_)
      go_simp
      try dsimp only
      refine hK.out _ _ (KL.out _ E7.out) (fun hHeld => ?_)
      clear hK K
      try simp only [Act.put, List.setIfInBounds_toArray, List.set_cons_zero, List.set_cons_succ]
      refine wpAnyH_done (by kernel_rfl) ?_ _
      have F := F5.out.trans E7.out
      go_wp2
      go_ret
      exact ⟨rfl, F⟩
    | some k =>
      obtain ⟨hk, -⟩ : ∃ h : k < bs.length, fits11 room bs[k] x = true := by
        rcases at11_chooses room bs x with ⟨e, _⟩ | ⟨i, hi, e, hf⟩
        · rw [ho] at e; cases e
        · rw [ho] at e; cases e; exact ⟨hi, hf⟩
      rw [ho, putL_some hk] at hpl
      rw [show nodeI (some k) = (k : Int) from rfl]
      have hneg : ¬ ((k : Int) < 0) := by omega
      have Hst := Lib.hid hpl
      obtain ⟨xb, xoff, kn, he, ck, htk⟩ := Hd5.out.1.2.1.at hk
      subst he
      obtain ⟨ka, kc, rfl, htk'⟩ := htk.open
      have Tk := Lib.hid htk'
      have CK := Lib.hid ck
      have hxb : xb < w5.heap.size := World.block_lt_of_cell? w5 _ ck
      have lk : bs[k].length ≤ 20 := by have := bin_len (List.getElem_mem hk); have := Hd5.out.1.2.2.2.2; omega
      have hw5 : w1.heap.size < w5.heap.size := Nat.lt_of_lt_of_le hws E5'.out.le
      clear htk htk' ck hpl ho
      go_wp2_with (at_builtin; refine app_bins rfl _ _ rfl w5.heap.size _ [] rfl (OwnBins.lit0 w5 w5.heap.size (Nat.le_refl _)) (by simp) _ _ _ bs rfl (Hd5.out.1.2.1.ext ((Ext.refl w5).alloc _)) (by unfold lim; simp; omega) ?_; intro vy wy hown hkt hbl)
      have EY := Lib.hid (((Ext.refl w5).alloc (.cells #[] 47)).below hbl)
      rw [List.nil_append] at hown
      obtain ⟨ya, yc, rfl⟩ := OwnBins.form hown
      obtain ⟨yb, yu, hya, -, hyB, -, -⟩ := hown.at hk
      subst hya
      have HY := Lib.hid hown
      have ky0 : (0 : Int) ≤ (k : Int) := by omega
      have ky1 : (k : Int) < (bs.length : Int) := by omega
      have hne1 : xb ≠ yb := by omega
      have hne2 : w1.heap.size ≠ yb := by omega
      have KY := Lib.hid (show ∀ w', Ext wy w' → w'.cell? ⟨xb, xoff + k, none⟩ = some (.slice ka bs[k].length kc) ∧ w'.cell? ⟨w1.heap.size, 0, none⟩ = some (.int .i64 x.id) ∧ w'.cell? ⟨w1.heap.size, 1, none⟩ = some (.slice na x.need.length nc) from fun w' h => ⟨(EY.out.trans h).cell CK.out, (KB.out w' (E5'.out.trans (EY.out.trans h))).1, (KB.out w' (E5'.out.trans (EY.out.trans h))).2⟩)
      have Tky := Lib.hid (Tk.out.ext EY.out)
      have Hny := Lib.hid (Hd5.out.2.1.ext EY.out)
      clear hown hkt hbl
      go_wp2_with fail
      go_region_held3 (fun w' => w'.cell? ⟨xb, xoff + k, none⟩ = some (.slice ka bs[k].length kc) ∧ w'.cell? ⟨w1.heap.size, 0, none⟩ = some (.int .i64 x.id) ∧ w'.cell? ⟨w1.heap.size, 1, none⟩ = some (.slice na x.need.length nc))
        (first | exact KY.out _ (Ext.refl wy).drew | exact KY.out _ ((Ext.refl wy).alloc _).drew | exact KY.out _ (((Ext.refl wy).alloc _).alloc _).drew | exact KY.out _ E8.out | exact KY.out _ (E8.out.alloc _) | exact KY.out _ E9.out | exact ⟨cell_far (KY.out _ E9.out).1 hne1, cell_far (KY.out _ E9.out).2.1 hne2, cell_far (KY.out _ E9.out).2.2 hne2⟩ | fail)
        ((first
          | (refine step_app2_tasks (by rfl) _ _ (by rfl) wy.heap.size _ [] (by rfl) (by first | exact (OwnTasks.lit0 wy wy.heap.size (Nat.le_refl _)).drew | exact ((OwnTasks.lit0 wy wy.heap.size (Nat.le_refl _)).alloc _).drew | exact (OwnTasks.lit0' (wy.alloc _) wy.heap.size (by simp) (wy.heap.size + 1) (by simp)).drew) (by simp <;> omega) _ _ _ bs[k] (by rfl) (Tky.out.ext (by first | exact ((Ext.refl wy).alloc _).drew | exact (((Ext.refl wy).alloc _).alloc _).drew)) (by unfold lim; simp; omega) ?_; intro v8 w8 hown hg hk4; have e8 : Ext wy w8 := (by first | exact ((Ext.refl wy).alloc _).drew.of_grown hg (by simp) | exact (((Ext.refl wy).alloc _).alloc _).drew.of_grown hg (by simp)); have E8 := Lib.hid e8; rw [List.nil_append] at hown; have Ho := Lib.hid hown; (first | (have LF : Hid (Tasks w8 (.slice (some ⟨wy.heap.size, 0, none⟩) 1 1) [x]) := Lib.hid (Tasks.of_heap (grown_heap (g := wy.heap.size + 1) (heap1 wy (.cells #[.int .i64 x.id, .slice na x.need.length nc] 42) (.cells #[] 42)) hg (by omega)) (Hny.out.ext e8))) | (have LF : Hid (Tasks w8 (.slice (some ⟨wy.heap.size + 1, 0, none⟩) 1 1) [x]) := Lib.hid (Tasks.of_heap (grown_heap (g := wy.heap.size) (heap2 wy (.cells #[] 42) (.cells #[.int .i64 x.id, .slice na x.need.length nc] 42)) hg (by omega)) (Hny.out.ext e8))) | skip); clear hown hg hk4 e8)
          | (refine step_app_tasks (by rfl) _ _ (by rfl) wy.heap.size _ bs[k] (by rfl) (by first | exact Ho.out | exact Ho.out.alloc _) (by first | exact E8.out.le | exact (E8.out.alloc _).le) _ _ _ [x] (by rfl) (by first | exact LF.out | exact Tasks.lit1 (Hny.out.ext E8.out) 1) (by unfold lim; simp; omega) ?_; intro v9 w9 hown hkt hbl9; have E9 := Lib.hid (show Ext wy w9 from (by first | exact Below.trans E8.out hbl9 | exact Below.trans (E8.out.alloc _) hbl9)); obtain ⟨za, zc, rfl⟩ := hown.form; have Hz := Lib.hid (hown.done (by unfold lim; simp; omega)); obtain ⟨yb', yu', hya, -, -, cy, fy⟩ := (HY.out.ext E9.out).at hk; simp only [Option.some.injEq, Addr.mk.injEq, and_true] at hya; subst hya; clear hown hkt hbl9)))
      all_goals
        have hP := (HY.out.ext E9.out).put hk Hz.out (by unfold lim; omega)
        have el : (bs[k] ++ [x]).length = bs[k].length + 1 := by simp
        try rw [el] at hP
        have HP := Lib.hid hP
        have E10 := Lib.hid ((EY.out.trans E9.out).below HP.out.2)
        have O10 := Lib.hid (O5.out.ext E10.out)
        have F10 := Lib.hid (F5.out.trans E10.out)
        have HV := Lib.hid (binsB_iff.2 HBO.out)
        clear cy fy hP
        go_wp2_with fail
        refine (sameBins_any _ _ _ _ _ O10.out HP.out.1).mono ?_
        rintro e w11 ⟨rfl, hE⟩
        have O11 := Lib.hid (O10.out.ext hE)
        have F11 := Lib.hid (F10.out.trans hE)
        have Hd11 := Lib.hid (Hd5.out.ext (E10.out.trans hE))
        rw [← Hst.out, sameBs_iff.2 rfl]
        clear hE
        go_wp2_with fail
        refine (BinsValid_any _ _ room _ _ Hd11.out.1.1 O11.out (by rw [Hfp.out]; have := HBO.out.1.2.1; omega)).mono ?_
        rintro e w12 ⟨rfl, hE⟩
        have F := F11.out.trans hE
        rw [Hfp.out, HV.out]
        go_wp2
        go_ret
        exact ⟨rfl, F⟩

theorem own : ownKnob Try.prog.godebug = none := by kernel_rfl
theorem laidOut : laidOutB Try.prog = true := by kernel_rfl

set_option maxRecDepth 100000 in
theorem lifted (os : Os) (started : os.Started) (H : Type) (enc : TypeId × Value → H) :
    ReturnsInHanded {} Try.checked os 10 .any (Rows.fnFirstPutSpec.pre6 enc Try.prog Try.f10 Rows.fnFirstPutRow.domain false) (Rows.fnFirstPutSpec.post enc Try.prog Try.f10 false true false false) := by
  refine returnsInHanded_of_change (C := Try.checked) own started (by kernel_rfl) Try.func10
    (ChangeSpec.witness6 (enc := enc) (C := Try.checked) false ⟨#[], #[.slice none 0 0], []⟩ 8 (by kernel_rfl) (by kernel_rfl) (by kernel_rfl) (by kernel_rfl)) ?_
  intro W base args ds gs before hval0 hW hcnd _
  have hval : ∀ (j : Nat) t v, Try.f10.params[j]? = some t → args[j]? = some v → Value.okWide Try.prog W .any base t v := hval0
  have hW' := hW
  obtain ⟨p, q, hA0, hV, rfl, hfz, hnd⟩ := hW
  have hA : DataW.TrodAll enc Try.prog W 0 (fun _ => true) true Try.f10.params.toList args.toList ds p := hA0
  rw [Try.params10] at hA hval
  obtain ⟨v0, vs0, d0, ds0, p0, q0, hargs, rfl, rfl, h0, r0⟩ := trodAll_cons hA
  obtain ⟨rfl, rfl, rfl⟩ := trodAll_nil r0
  obtain rfl : args = #[v0] := by cases args; simp_all
  obtain ⟨rfl, rfl⟩ := trodVars_none hV
  have lt0 : ∀ x ∈ p0, x.block < W.heap.size := by obtain ⟨m, hm⟩ := h0; exact DataW.trod_lt m _ _ _ hm
  obtain ⟨x0, e0⟩ := argCode_of h0 (okWide_slice Try.underlying40 (hval 0 40 v0 rfl rfl))
  clear hA0 hval0
  refine (walk v0 x0 W e0).mono fun e W' ⟨he, bel⟩ => ?_
  subst he
  exact ⟨_, rfl, _, _, _, [], _, [], hW', trodAll_mk1 (shut_bool Try.underlying4 _), (trodAll_cons_mk (Below.trod laidOut (by kernel_rfl) (of_decide_eq_true (by kernel_rfl)) h0 bel lt0) trodAll_mk0), rfl, Below.frame bel _, fun h => by cases h⟩

theorem closed : joinedFacts Try.prog 10 Try.f10 Rows.fnFirstPutSpec Rows.fnFirstPutRow = true := by
  unfold joinedFacts
  rw [may_enter, lifts_final, make_cut]
  kernel_rfl

theorem proved : Rows.FnFirstPutSaid :=
  OpenClaim.holds_of_wide 10 Try.f10 rfl rfl rfl rfl rfl rfl rfl ⟨rfl, rfl, rfl, rfl, rfl⟩ rfl rfl rfl rfl rfl (by kernel_rfl) Try.func10 closed
    (of_decide_eq_true (by kernel_rfl)) (by unfold Func.isWrapper; first | (rw [if_pos (by decide +kernel)]; kernel_rfl) | (rw [if_neg (by decide +kernel)]; exact ⟨rfl, rfl⟩))
    (fun os started H enc _ => lifted os started H enc)

end Go.Proofs.Ytapkpphdkdbclaa.l53
