/- The law FnLeastFirst (a tied card): whatever the code, the first task is in the first node, and the nodes' first tasks are in the order of the tasks. No condition beyond the card's own: math/bits' tables lie as the program's text lays them. -/
import Derived.Test.YtfidamjepjgknaaDoorDr13
import Derived.Test.YtfidamjepjgknaaDoorLl
import Derived.Test.YtfidamjepjgknaaDoorLd
import Derived.Test.YtfidamjepjgknaaDoorSame2
import Derived.Test.YtfidamjepjgknaaDoorHead
import Derived.OpenShut
import Derived.ChangeOld
namespace Go.Proofs.YtfidamjepjgknaaDoor.l57
set_option maxRecDepth 100000
open Go.RowKit Go.ChangeShapes Go.WideShapes Go.ChangeAt

theorem leastAllL_lim (room : List Int) (ts : List T) : (leastAllL room ts).length ≤ 7 ∧ ∀ b ∈ leastAllL room ts, b.length ≤ 7 ∧ ∀ t ∈ b, t.need.length ≤ lim := by
  unfold leastAllL
  split
  · rename_i hb
    obtain ⟨h7, hT⟩ := fewB_iff.1 hb
    obtain ⟨h1, h2, -⟩ := tryL_sound ts [] _ (leastW_spec hT).1 (by simp) (by simp) (fun x hx => alone_fits hT hx)
    have hp : (leastW room ts).flatten.Perm ts := by simpa using h2
    refine ⟨Nat.le_trans h1 (Nat.le_trans (leastW_spec hT).2.1 h7), fun b hb => ⟨?_, fun t ht => ?_⟩⟩
    · have := (sub_flat hb).length_le
      have := hp.length_eq
      omega
    · have := (hT.good t (hp.mem_iff.1 (List.mem_flatten.2 ⟨b, hb, ht⟩))).1
      unfold lim; omega
  · exact ⟨by simp, fun b hb => by cases hb⟩

set_option maxHeartbeats 8000000 in
theorem walk (v : Value) (n : Nat) (w : World) (h : ArgCode w v n) (ht : TabW w) :
    Calls Tryd.prog 3 #[v] w fun e w' => e = .returned (.bool true) ∧ Ext w w' := by
  have HTW := Lib.hid ht
  clear ht
  have h2 := h
  obtain ⟨_, ac, cc, rfl, -⟩ := h2
  by_cases hbig : 1048576 < n
  · go_enter Tryd.func3, Tryd.ntmps3
    go_wp2
    go_ret
    exact ⟨rfl, Ext.refl _⟩
  have hsm : n ≤ 1048576 := by omega
  clear hbig
  go_enter Tryd.func3, Tryd.ntmps3
  go_wp2_with fail
  refine (DrawLeastAll_any _ _ _ h).mono ?_
  rintro e w1 ⟨vr, vt, room, ts, rfl, hd, E1⟩
  have Hd1 := Lib.hid hd
  obtain ⟨ra, rc, hvr, -⟩ := hd.1.open
  obtain ⟨ta, tc, hvt, htc⟩ := hd.2.2.2.2
  subst hvr hvt
  have F1 := Lib.hid E1
  clear hd E1 h
  have hl20 : ts.length ≤ 20 := Hd1.out.2.2.2.1
  have Htc := Lib.hid htc
  clear htc
  have HLIM := Lib.hid (leastAllL_lim room ts)
  go_wp2_with fail
  refine (LeastAll_any _ _ room ts _ Hd1.out.1 Hd1.out.2.1 (HTW.out.ext F1.out)).mono ?_
  rintro e w2 ⟨oa, oc, rfl, hE, hN⟩
  have N2 := Lib.hid hN
  have O2 := Lib.hid (hN.bins (by have := HLIM.out.1; unfold lim; omega) (fun b hb => ⟨by have := (HLIM.out.2 b hb).1; unfold lim; omega, (HLIM.out.2 b hb).2⟩))
  have Hd2 := Lib.hid (Hd1.out.ext hE)
  have F2 := Lib.hid (F1.out.trans hE)
  clear hE hN Hd1 F1 HTW
  go_wp2_with fail
  refine (sLeastAll_any _ _ room ts _ Hd2.out.1 Hd2.out.2.1).mono ?_
  rintro e w3 ⟨wa, wc, rfl, hE, hB⟩
  have W3 := Lib.hid hB
  have O3 := Lib.hid (O2.out.ext hE)
  have N3 := Lib.hid (N2.out.ext hE)
  have Hd3 := Lib.hid (Hd2.out.ext hE)
  have F3 := Lib.hid (F2.out.trans hE)
  clear hE hB Hd2 F2 O2 N2
  go_wp2_with fail
  refine (sameBins_any _ _ _ _ _ O3.out W3.out).mono ?_
  rintro e w4 ⟨rfl, hE⟩
  have W4 := Lib.hid (W3.out.ext hE)
  have O4 := Lib.hid (O3.out.ext hE)
  have N4 := Lib.hid (N3.out.ext hE)
  have Hd4 := Lib.hid (Hd3.out.ext hE)
  have F4 := Lib.hid (F3.out.trans hE)
  clear hE Hd3 F3 O3 W3 N3
  rw [sameBs_iff.2 rfl]
  by_cases h0 : (leastAllL room ts).length = 0
  · have hz : ((((leastAllL room ts).length : Nat) : Int) == 0) = true := by simp [h0]
    clear h0
    go_wp2_with fail
    refine (sameBins_any _ _ _ _ _ O4.out W4.out).mono ?_
    rintro e w6 ⟨rfl, hE⟩
    have F := F4.out.trans hE
    rw [sameBs_iff.2 rfl]
    go_wp2
    go_ret
    exact ⟨rfl, F⟩
  · have hz : ((((leastAllL room ts).length : Nat) : Int) == 0) = false := beq_eq_false_iff_ne.2 (by omega)
    have hfew : fewB room ts = true := by
      cases hb : fewB room ts with
      | true => rfl
      | false => exact absurd (show (leastAllL room ts).length = 0 by unfold leastAllL; rw [hb]; rfl) h0
    have hW : leastAllL room ts = leastW room ts := by unfold leastAllL; rw [hfew]; rfl
    obtain ⟨h7, hT⟩ := fewB_iff.1 hfew
    obtain ⟨fs, hfs, hfl, hfi, hf0⟩ := least_firsts hT
    rw [hW] at O4 N4 hz h0
    rw [hW]
    clear W4 hfew hT
    generalize leastW room ts = bs at *
    have hb7 : bs.length ≤ 7 := by have := HLIM.out.1; rw [hW] at this; exact this
    have HBL := Lib.hid (show ∀ b ∈ bs, b.length ≤ 7 by have := HLIM.out.2; rw [hW] at this; exact fun b hb => (this b hb).1)
    clear HLIM hW
    have hbp : 0 < bs.length := by omega
    obtain ⟨htp, s0, hs0⟩ := hf0 hbp
    have HFI := Lib.hid hfi
    have HFS := Lib.hid hfs
    have HFL := Lib.hid hfl
    -- the first node
    obtain ⟨ob, nd0, xs0, hoa, -, -, -, cw, hrow, ⟨na, nc, hnd⟩, -⟩ := N4.out.at hbp
    subst hoa
    subst hnd
    obtain ⟨l0, hl0⟩ : ∃ l0, l0 = bs[0].length := ⟨_, rfl⟩
    have hl1 : 0 < l0 := by rw [hl0, hs0]; simp
    rw [← hl0] at hrow
    obtain ⟨nb, hna, -, -, -, -, ho⟩ := ownsRow_at hrow hl1
    subst hna
    have hnc : l0 ≤ nc := (ownsRow_room ho).1
    rw [← hl0] at cw
    obtain ⟨_, _, nd1, e1, c1, ht1⟩ := O4.out.at hbp
    simp only [Option.some.injEq, Addr.mk.injEq, and_true] at e1
    obtain ⟨rfl, rfl⟩ := e1
    rw [Nat.zero_add, cw] at c1
    simp only [Option.some.injEq] at c1
    subst c1
    have T0 := Lib.hid (show Tasks w4 (.slice (some ⟨nb, 0, none⟩) 1 nc) [ts[0]] from by
      have ht2 : Tasks w4 (.slice (some ⟨nb, 0, none⟩) bs[0].length nc) bs[0] := by rw [← hl0]; exact ht1
      have := ht2.take (q := 1) (by omega)
      rw [hs0] at this
      exact this)
    have L0 := Lib.hid (show Tasks w4 (.slice ta 1 tc) [ts[0]] from by
      have := Hd4.out.2.1.take (q := 1) (by omega)
      rwa [List.take_one, List.head?_eq_getElem?, List.getElem?_eq_getElem htp] at this)
    obtain ⟨tb, toff, _, rfl, -, -, -⟩ := Hd4.out.2.1.at htp
    have CW0 := Lib.hid cw
    have hnc1 : (1 : Int) ≤ (nc : Int) := by omega
    have hnc2 : ¬ nc = 0 := by omega
    have htc1 : (1 : Int) ≤ (tc : Int) := by have := Htc.out; omega
    have htc2 : ¬ tc = 0 := by have := Htc.out; omega
    clear cw hrow ho ht1 hs0 hl0 h0 hfi hfs hfl hf0
    go_wp2_with fail
    go_loopw [7, 8] (fun a i wr => ∃ p k : Nat, a = .int .i64 (p : Int) ∧ i = .int .i64 (k : Int) ∧ k ≤ bs.length ∧ p ≤ ts.length ∧ (fs.drop k).Sublist (ts.drop p) ∧ (0 < k → p < ts.length) ∧ Ext w4 wr) (fun _ i _ => bs.length - (intOf i).toNat)
    case atStart => exact ⟨0, 0, rfl, rfl, by omega, by omega, HFS.out, fun h => by omega, Ext.refl _⟩
    case round =>
      obtain ⟨wo, rfl⟩ : ∃ wo : World, wo = wr := ⟨_, rfl⟩
      obtain ⟨p, k, rfl, rfl, hk, hp, hsub, hpl, hE⟩ := hrel
      have HE := Lib.hid hE
      have HS := Lib.hid hsub
      clear hE hsub
      by_cases hlt : k < bs.length
      · have k0 : (0 : Int) ≤ (k : Int) := by omega
        have k1 : (k : Int) < (bs.length : Int) := by omega
        have hkf : k < fs.length := by have := HFL.out; omega
        go_wp2_with fail
        go_loopw [7] (fun a wx => ∃ p : Nat, a = .int .i64 (p : Int) ∧ p ≤ ts.length ∧ (fs.drop k).Sublist (ts.drop p) ∧ Ext w4 wx) (fun a _ => ts.length - (intOf a).toNat)
        case atStart => exact ⟨p, rfl, hp, HS.out, HE.out⟩
        case round =>
          obtain ⟨wx, rfl⟩ : ∃ wx : World, wx = wr := ⟨_, rfl⟩
          clear HS hp hpl
          obtain ⟨p, rfl, hp, hsub, hE⟩ := hrel
          have HX := Lib.hid hE
          have hd := drop_firsts hsub hkf
          obtain ⟨hpt, hskip⟩ := sub_skip hd
          obtain ⟨s, hs⟩ := HFI.out k hkf hlt
          have p0 : (0 : Int) ≤ (p : Int) := by omega
          have p1 : (p : Int) < (ts.length : Int) := by omega
          obtain ⟨_, _, nd, e1, c0, -, -⟩ := (Hd4.out.2.1.ext hE).at hpt
          simp only [Option.some.injEq, Addr.mk.injEq, and_true] at e1
          obtain ⟨rfl, rfl⟩ := e1
          obtain ⟨_, _, nd2, e2, d0, ht⟩ := (O4.out.ext hE).at hlt
          simp only [Option.some.injEq, Addr.mk.injEq, and_true] at e2
          obtain ⟨rfl, rfl⟩ := e2
          have hlk : 0 < bs[k].length := by rw [hs]; simp
          obtain ⟨a2, c2, rfl, ht⟩ := ht.open
          obtain ⟨b3, o3, nd3, rfl, f0, -, -⟩ := ht.at hlk
          rw [show bs[k][0].id = fs[k].id by simp only [hs, List.getElem_cons_zero]] at f0
          have l1 : (0 : Int) < (bs[k].length : Int) := by omega
          simp only [Nat.zero_mul, Nat.add_zero, Nat.zero_add] at f0 d0
          have HSK := Lib.hid (hskip hpt)
          have HD := Lib.hid hd
          clear hE hsub hskip hd hs ht
          by_cases hid : ts[p].id = fs[k].id
          · have hb : (ts[p].id != fs[k].id) = false := by simp [hid]
            have hb2 : (ts[p].id == fs[k].id) = true := by simp [hid]
            clear HSK hid
            go_wp2
            go_quiet (fail)
            go_wp2
            go_roundw
            case rel => exact ⟨p, k + 1, rfl, by go_num, by omega, hp, (List.sublist_cons_self _ _).trans HD.out, fun _ => hpt, HX.out.trans ((Ext.refl _).drewN _)⟩
            case measure => simp [intOf]; omega
          · have hb : (ts[p].id != fs[k].id) = true := by simp [hid]
            have hb2 : (ts[p].id == fs[k].id) = false := by simp [hid]
            have HN := Lib.hid (HSK.out hid)
            clear HSK hid HD
            go_wp2
            go_quiet (fail)
            go_wp2
            go_roundw
            case rel => exact ⟨p + 1, by go_num, by omega, by rw [List.drop_eq_getElem_cons hkf]; exact HN.out, HX.out.trans ((Ext.refl _).drewN _)⟩
            case measure => simp [intOf]; omega
      · have e : k = bs.length := by omega
        subst e
        have hpt := hpl hbp
        have p1 : (p : Int) < (ts.length : Int) := by omega
        have b0 : (0 : Int) < (bs.length : Int) := by omega
        have CW := Lib.hid (HE.out.cell CW0.out)
        obtain ⟨wr, rfl⟩ : ∃ wr : World, wr = wo := ⟨_, rfl⟩
        clear HS hpl
        go_wp2_with fail
        refine wp_region_held_drew (S := fun w' => w'.cell? ⟨ob, 0, none⟩ = some (.slice (some ⟨nb, 0, none⟩) l0 nc)) (by kernel_rfl) (CW.out) (fun hHeld => ?_)
        refine takeH (i := 0) (d := some 62) (v := ?_) rfl rfl (by kernel_rfl) (by kernel_rfl) (by kernel_rfl) (fun _ _ _ h => h) (by rfl) ?_ (by assumption) ?_
        rotate_left
        · intro w hSw; (try dsimp only at hSw); (try go_simp); (try with_reducible rfl)
        try simp only [Act.put, List.setIfInBounds_toArray, List.set_cons_zero, List.set_cons_succ]
        refine takeH (i := 1) (d := some 63) (v := ?_) rfl rfl (by kernel_rfl) (by kernel_rfl) (by kernel_rfl) (fun _ _ _ h => h) (by rfl) ?_ (by assumption) ?_
        rotate_left
        · intro w hSw; (try dsimp only at hSw); (try go_simp); (try with_reducible rfl)
        try simp only [Act.put, List.setIfInBounds_toArray, List.set_cons_zero, List.set_cons_succ]
        refine takeH (i := 2) (d := some 64) (v := ?_) rfl rfl (by kernel_rfl) (by kernel_rfl) (by kernel_rfl) (fun _ _ _ h => h) (by rfl) ?_ (by assumption) ?_
        rotate_left
        · intro w hSw; (try dsimp only at hSw); (try go_simp); (try with_reducible rfl)
        try simp only [Act.put, List.setIfInBounds_toArray, List.set_cons_zero, List.set_cons_succ]
        refine takeH (i := 3) (d := some 65) (v := ?_) rfl rfl (by kernel_rfl) (by kernel_rfl) (by kernel_rfl) (fun _ _ _ h => h) (by rfl) ?_ (by assumption) ?_
        rotate_left
        · intro w hSw; (try dsimp only at hSw); (try go_simp); (try with_reducible rfl)
        try simp only [Act.put, List.setIfInBounds_toArray, List.set_cons_zero, List.set_cons_succ]
        refine takeH (i := 4) (d := some 66) (v := ?_) rfl rfl (by kernel_rfl) (by kernel_rfl) (by kernel_rfl) (fun _ _ _ h => h) (by rfl) ?_ (by assumption) ?_
        rotate_left
        · intro w hSw; (try dsimp only at hSw); (try go_simp); (try with_reducible rfl)
        try simp only [Act.put, List.setIfInBounds_toArray, List.set_cons_zero, List.set_cons_succ]
        refine takeH (i := 5) (d := some 67) (v := ?_) rfl rfl (by kernel_rfl) (by kernel_rfl) (by kernel_rfl) (fun _ _ _ h => h) (by rfl) ?_ (by assumption) ?_
        rotate_left
        · intro w hSw; (try dsimp only at hSw); (try go_simp); (try with_reducible rfl)
        try simp only [Act.put, List.setIfInBounds_toArray, List.set_cons_zero, List.set_cons_succ]
        refine takeH (i := 6) (d := some 68) (v := ?_) rfl rfl (by kernel_rfl) (by kernel_rfl) (by kernel_rfl) (fun _ _ _ h => h) (by rfl) ?_ (by assumption) ?_
        rotate_left
        · intro w hSw; (try dsimp only at hSw); (try go_simp); (try with_reducible rfl)
        try simp only [Act.put, List.setIfInBounds_toArray, List.set_cons_zero, List.set_cons_succ]
        refine takeH (i := 7) (d := some 69) (v := ?_) rfl rfl (by kernel_rfl) (by kernel_rfl) (by kernel_rfl) (fun _ _ _ h => h) (by rfl) ?_ (by assumption) ?_
        rotate_left
        · intro w hSw; (try dsimp only at hSw); (try have l0 := hSw; go_simp); (try with_reducible rfl)
        try simp only [Act.put, List.setIfInBounds_toArray, List.set_cons_zero, List.set_cons_succ]
        refine takeH (i := 8) (d := some 70) (v := ?_) rfl rfl (by kernel_rfl) (by kernel_rfl) (by kernel_rfl) (fun _ _ _ h => h) (by rfl) ?_ (by assumption) ?_
        rotate_left
        · intro w hSw; (try dsimp only at hSw); (try go_simp); (try with_reducible rfl)
        try simp only [Act.put, List.setIfInBounds_toArray, List.set_cons_zero, List.set_cons_succ]
        refine takeH (i := 9) (d := some 71) (v := ?_) rfl rfl (by kernel_rfl) (by kernel_rfl) (by kernel_rfl) (fun _ _ _ h => h) (by rfl) ?_ (by assumption) ?_
        rotate_left
        · intro w hSw; (try dsimp only at hSw); (try go_simp); (try with_reducible rfl)
        try simp only [Act.put, List.setIfInBounds_toArray, List.set_cons_zero, List.set_cons_succ]
        refine takeH (i := 10) (d := some 72) (v := ?_) rfl rfl (by kernel_rfl) (by kernel_rfl) (by kernel_rfl) (fun _ _ _ h => h) (by rfl) ?_ (by assumption) ?_
        rotate_left
        · intro w hSw; (try dsimp only at hSw); (try go_simp); (try with_reducible rfl)
        try simp only [Act.put, List.setIfInBounds_toArray, List.set_cons_zero, List.set_cons_succ]
        refine oneH (i := 11) (by kernel_rfl) rfl (by rfl) (fun K hK => ?_)
        go_simp
        refine (sameTasks_any _ _ [ts[0]] [ts[0]] _ (T0.out.ext (HE.out.trans (Ext.refl wr).drew)) (L0.out.ext (HE.out.trans (Ext.refl wr).drew))).mono ?_; rintro e w9 ⟨rfl, hE⟩; have E9 := Lib.hid ((Ext.refl wr).drew.trans hE); clear hE; rw [sameTs_iff.2 rfl]
        try dsimp only
        refine hK.out _ _ (E9.out.cell CW.out) (fun hHeld => ?_)
        clear hK K
        try simp only [Act.put, List.setIfInBounds_toArray, List.set_cons_zero, List.set_cons_succ]
        refine takeH (i := 12) (d := some 74) (v := ?_) rfl rfl (by kernel_rfl) (by kernel_rfl) (by kernel_rfl) (fun _ _ _ h => h) (by rfl) ?_ (by assumption) ?_
        rotate_left
        · intro w hSw; (try dsimp only at hSw); (try go_simp); (try with_reducible rfl)
        try simp only [Act.put, List.setIfInBounds_toArray, List.set_cons_zero, List.set_cons_succ]
        refine takeH (i := 13) (d := some 2) (v := ?_) rfl rfl (by kernel_rfl) (by kernel_rfl) (by kernel_rfl) (fun _ _ _ h => h) (by rfl) ?_ (by assumption) ?_
        rotate_left
        · intro w hSw; (try dsimp only at hSw); (try go_simp); (try with_reducible rfl)
        try simp only [Act.put, List.setIfInBounds_toArray, List.set_cons_zero, List.set_cons_succ]
        refine wpAnyH_done (by kernel_rfl) ?_ _
        go_wp2
        go_ret
        exact ⟨rfl, (F4.out.trans HE.out).trans E9.out⟩

theorem own : ownKnob Tryd.prog.godebug = none := by kernel_rfl
theorem laidOut : laidOutB Tryd.prog = true := by kernel_rfl

set_option maxRecDepth 100000 in
theorem lifted (os : Os) (started : os.Started) (H : Type) (enc : TypeId × Value → H) :
    ReturnsInHanded {} Tryd.checked os 3 .any (fun w args => (Rows.fnLeastFirstSpec.pre enc Tryd.prog Tryd.f3 [] false w args ∧ laidMetH Tryd.prog laidL w) ∧ sizedMet enc Tryd.prog Tryd.f3 (OpenSpec.ofChange Rows.fnLeastFirstSpec) false w args) (Rows.fnLeastFirstSpec.post enc Tryd.prog Tryd.f3 false true false false) := by
  refine returnsInHanded_of_change_and (C := Tryd.checked) (X := fun w _ => laidMetH Tryd.prog laidL w) (fun _ _ _ hh h => h.of_heap hh) own started (by kernel_rfl) Tryd.func3
    (ChangeSpec.witness_shaped (enc := enc) (C := Tryd.checked) (os := os) (X := fun w _ => laidMetH Tryd.prog laidL w) false (World.doorLaid Tryd.prog 19 os) #[.slice none 0 0] 8 rfl (World.shaped_of_RefB (by kernel_rfl) (by kernel_rfl)) (by kernel_rfl) (by kernel_rfl) (by kernel_rfl) (door_met os _)) ?_
  intro W base args ds gs before hval0 hW _ _ hL _
  have hval : ∀ (j : Nat) t v, Tryd.f3.params[j]? = some t → args[j]? = some v → Value.okWide Tryd.prog W .any base t v := hval0
  have hW' := hW
  obtain ⟨p, q, hA0, hV, rfl, hfz, hnd⟩ := hW
  have hA : DataW.TrodAll enc Tryd.prog W 0 (fun _ => true) true Tryd.f3.params.toList args.toList ds p := hA0
  rw [Tryd.params3] at hA hval
  obtain ⟨v0, vs0, d0, ds0, p0, q0, hargs, rfl, rfl, h0, r0⟩ := trodAll_cons hA
  obtain ⟨rfl, rfl, rfl⟩ := trodAll_nil r0
  obtain rfl : args = #[v0] := by cases args; simp_all
  obtain ⟨rfl, rfl⟩ := trodVars_none hV
  have lt0 : ∀ x ∈ p0, x.block < W.heap.size := by obtain ⟨m, hm⟩ := h0; exact DataW.trod_lt m _ _ _ hm
  obtain ⟨x0, e0⟩ := argCode_of h0 (okWide_slice Tryd.underlying22 (hval 0 22 v0 rfl rfl))
  clear hA0 hval0
  refine (walk v0 x0 W e0 (met_tab hL)).mono fun e W' ⟨he, bel⟩ => ?_
  subst he
  exact ⟨_, rfl, _, _, _, [], _, [], hW', trodAll_mk1 (shut_bool Tryd.underlying4 _), (trodAll_cons_mk (Below.trod laidOut (by kernel_rfl) (of_decide_eq_true (by kernel_rfl)) h0 bel lt0) trodAll_mk0), rfl, Below.frame bel _, fun h => by cases h⟩

theorem closed : joinedFacts Tryd.prog 3 Tryd.f3 Rows.fnLeastFirstSpec Rows.fnLeastFirstRow = true := by
  unfold joinedFacts
  rw [may_enter, lifts_final, make_cut]
  kernel_rfl

theorem row_holds : Rows.FnLeastFirstSaid :=
  OpenClaim.holds_of_wide 3 Tryd.f3 rfl rfl rfl rfl rfl rfl rfl ⟨rfl, rfl, rfl, rfl, rfl⟩ rfl rfl rfl rfl rfl (by kernel_rfl) Tryd.func3 closed
    (of_decide_eq_true (by kernel_rfl)) (by unfold Func.isWrapper; first | (rw [if_pos (by decide +kernel)]; kernel_rfl) | (rw [if_neg (by decide +kernel)]; exact ⟨rfl, rfl⟩))
    (fun os started H enc _ => lifted os started H enc)

theorem proved : Rows.FnLeastFirstCardSaid :=
  Claim7.holds_tied_plain_at .later [] [.data, .data] true Rows.fnLeastFirstCard.stood.harness Rows.fnLeastFirstCard.stood.looks
    row_holds (fun _ h => by cases h) (by kernel_rfl) (fun _ h => by cases h) fnLeastFirst_row_tie rfl ⟨rfl, rfl⟩ (by kernel_rfl) rfl
    (fun f fn hf hfn => by
      obtain rfl : f = 3 := Option.some.inj ((show Tryd.prog.funcNamed "loop.example/vectorpacker/laws.FnLeastFirst" = some 3 by kernel_rfl).symm.trans hf) |>.symm
      obtain rfl : fn = Tryd.f3 := (Option.some.inj (Tryd.func3.symm.trans hfn)).symm
      exact ⟨by kernel_rfl, fun j t ht => by
        rw [Tryd.params3] at ht
        have hm : t ∈ [22] := by simpa using Array.mem_of_getElem? ht
        have hall : ([22].all fun u => !Tryd.prog.wantsStandIn u) = true := by kernel_rfl
        exact (show Tryd.prog.wantsStandIn t = false by simpa using List.all_eq_true.1 hall t hm)⟩)
    (by kernel_rfl)

end Go.Proofs.YtfidamjepjgknaaDoor.l57
