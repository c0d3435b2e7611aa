/- Drawn nodes and pairs. No condition. -/
import Derived.Test.YtcijbpjiioodlaaDr11
namespace Go.Proofs.Ytcijbpjiioodlaa
set_option maxRecDepth 100000
open Go.RowKit

/-- Drawn room, nodes and pairs. -/
def DrawnPrs (w : World) (vr vb vp : Value) (room : List Int) (bs : List (List T)) (ps : List Pr) : Prop := DrawnBins w vr vb room bs ∧ Twos 73 w vp ps ∧ ps.length ≤ 50 ∧ ∃ a c, vp = .slice a ps.length c ∧ ps.length ≤ c
theorem DrawnPrs.ext {w w' : World} {vr vb vp : Value} {room : List Int} {bs : List (List T)} {ps : List Pr} (h : DrawnPrs w vr vb vp room bs ps) (k : Ext w w') : DrawnPrs w' vr vb vp room bs ps := ⟨h.1.ext k, h.2.1.ext k, h.2.2⟩

set_option maxHeartbeats 8000000 in
theorem DrawPairsBroken_any (v : Value) (n : Nat) (w : World) (h : ArgCode w v n) :
    Calls Try.prog 50 #[v] w fun e w' => ∃ (vr vb vp : Value) (room : List Int) (bs : List (List T)) (ps : List Pr), e = .returned (.tuple #[vr, vb, vp]) ∧ DrawnPrs w' vr vb vp room bs ps ∧ Ext w w' := by
  go_enter Try.func50, Try.ntmps50
  go_wp2_with fail
  refine (l6Open_any _ _ _ h).mono ?_
  rintro e w1 ⟨r, rfl, hE, hr⟩
  have RB : Hid (∃ B, B = w.heap.size) := ⟨_, rfl⟩
  go_wp2_with fail
  refine (l91Bins_any _ _ _ _ hr (by omega)).mono ?_
  rintro e w2 ⟨vr, room, vb, bs, rfl, hi, hz, hd, h5, h11, dr⟩
  have Hd := Lib.hid (show DrawnBins w2 vr vb room bs from ⟨hi, hz.bins (by omega) (by omega), hd, by omega, by omega⟩)
  obtain ⟨ra, rc, rfl, -⟩ := hi.open
  obtain ⟨ba, bc, rfl, -⟩ := Hd.out.2.1.open
  have E2 := Lib.hid (hE.below dr.bl)
  have rd := Lib.hid dr.rd
  clear hi hz dr hE hd
  go_wp2_with fail
  refine (l92Pairs_any _ _ _ _ rd.out (by omega)).mono ?_
  rintro e w3 ⟨vp, p0, rfl, ho, hp, d3⟩
  obtain ⟨pa, pc, rfl⟩ := ho.form
  have O3 := Lib.hid ho
  have D3 := Lib.hid d3
  clear ho d3 rd
  have LA := Lib.hid (Nat.le_refl w2.heap.size)
  have BL : Hid (bs.length ≤ 5 ∧ bs.flatten.length ≤ 11) := ⟨h5, h11⟩
  go_wp2_with fail
  go_loopw [8, 9] (fun s i wr => ∃ (k : Nat) (ps : List Pr), k ≤ bs.length ∧ i = .int .i64 (k : Int) ∧ ps.length ≤ 31 + k ∧ OwnTwos 73 wr w2.heap.size s ps ∧ Dr _ r (300 + 2 * k) w2 wr) (fun _ i _ => bs.length - (intOf i).toNat)
  case atStart => exact ⟨0, p0, by omega, rfl, by omega, O3.out, D3.out.mono (by omega)⟩
  case round =>
    clear O3 D3
    obtain ⟨k, ps, hk, rfl, hps, ho, hd⟩ := hrel
    have HD := Lib.hid hd
    have HO := Lib.hid ho
    obtain ⟨sa, sc, rfl⟩ := ho.form
    clear hd ho
    by_cases hlt : k < bs.length
    · have b0 : (0 : Int) ≤ (k : Int) := by omega
      have b1 : (k : Int) < (bs.length : Int) := by omega
      go_wp2_with fail
      refine (pick_any _ _ _ 4 _ HD.out.rd (by omega) (by omega) (by omega)).mono ?_
      rintro e w4 ⟨k4, rfl, b4, d4⟩
      have O4 := Lib.hid (HO.out.kt d4.kt (by decide))
      have D4 := Lib.hid (HD.out.trans d4)
      clear d4 HD HO
      by_cases h4 : k4 = 0
      · have hb4 : decide ((0 : Int) < ((k4 : Nat) : Int)) = false := decide_eq_false (by omega)
        have hb4' : decide (0 < k4) = false := decide_eq_false (by omega)
        clear h4
        go_wp2
        go_ret3
        exact ⟨_, _, _, room, bs, ps, rfl, ⟨⟨Hd.out.1.kt D4.out.kt (by decide), Hd.out.2.1.kt D4.out.kt (by decide) (by decide) (by decide), Hd.out.2.2⟩, O4.out.done (by unfold lim; omega), by omega, O4.out.formc⟩, E2.out.below D4.out.bl⟩
      · have hb4 : (0 : Int) < ((k4 : Nat) : Int) := by omega
        clear h4
        have Hb4 := Hd.out.2.1.kt D4.out.kt (by decide) (by decide) (by decide)
        obtain ⟨bb, bo, nd, hba, c0, ht⟩ := Hb4.at hlt
        subst hba
        obtain ⟨ta, tc, rfl, ht⟩ := ht.open
        have hbl : bs[k].length ≤ 11 := by have := bin_len (List.getElem_mem hlt); omega
        clear Hb4
        by_cases hone : 1 < bs[k].length
        · have o1 : (1 : Int) < (bs[k].length : Int) := by omega
          obtain ⟨ql, hlast, pw⟩ : ∃ ql : Nat, ql < bs[k].length ∧ IntKind.i64.wrap ((bs[k].length : Int) - 1) = (ql : Int) := ⟨bs[k].length - 1, by omega, by rw [IntWalk.i64_in _ (by omega)]; omega⟩
          obtain ⟨tb, tq, n0, hta, d0, -, -⟩ := ht.at (show 0 < bs[k].length by omega)
          subst hta
          obtain ⟨tb', tq', n1, hta, cl, -, -⟩ := ht.at hlast
          simp only [Option.some.injEq, Addr.mk.injEq, and_true] at hta
          obtain ⟨rfl, rfl⟩ := hta
          simp only [Nat.zero_mul, Nat.add_zero] at d0
          have p0 : (0 : Int) ≤ (ql : Int) := by omega
          have p1 : (ql : Int) < (bs[k].length : Int) := by omega
          clear ht
          go_wp2_with fail
          refine wp_region_held_drew (S := fun w' => w'.cell? ⟨bb, bo + k, none⟩ = some (.slice (some ⟨tb, tq, none⟩) bs[k].length tc) ∧ w'.cell? ⟨tb, tq + ql * 2, none⟩ = some (.int .i64 (bs[k][ql]'hlast).id)) (by kernel_rfl) ⟨c0, cl⟩ (fun hHeld => ?_)
          refine takeH (i := 0) (d := some 46) (v := ?_) rfl rfl (by kernel_rfl) (by kernel_rfl) (by kernel_rfl) (fun _ _ _ h => h) (by rfl) ?_ (by assumption) ?_
          rotate_left
          · intro w hSw; (try dsimp only at hSw); (try have l0 := hSw.1; have l1 := hSw.2; go_simp); (try with_reducible rfl)
          try simp only [Act.put, List.setIfInBounds_toArray, List.set_cons_zero, List.set_cons_succ]
          refine takeH (i := 1) (d := some 47) (v := ?_) rfl rfl (by kernel_rfl) (by kernel_rfl) (by kernel_rfl) (fun _ _ _ h => h) (by rfl) ?_ (by assumption) ?_
          rotate_left
          · intro w hSw; (try dsimp only at hSw); (try have l0 := hSw.1; have l1 := hSw.2; go_simp); (try with_reducible rfl)
          try simp only [Act.put, List.setIfInBounds_toArray, List.set_cons_zero, List.set_cons_succ]
          refine takeH (i := 2) (d := some 48) (v := ?_) rfl rfl (by kernel_rfl) (by kernel_rfl) (by kernel_rfl) (fun _ _ _ h => h) (by rfl) ?_ (by assumption) ?_
          rotate_left
          · intro w hSw; (try dsimp only at hSw); (try have l0 := hSw.1; have l1 := hSw.2; go_simp); (try with_reducible rfl)
          try simp only [Act.put, List.setIfInBounds_toArray, List.set_cons_zero, List.set_cons_succ]
          refine takeH (i := 3) (d := some 49) (v := ?_) rfl rfl (by kernel_rfl) (by kernel_rfl) (by kernel_rfl) (fun _ _ _ h => h) (by rfl) ?_ (by assumption) ?_
          rotate_left
          · intro w hSw; (try dsimp only at hSw); (try have l0 := hSw.1; have l1 := hSw.2; go_simp); (try with_reducible rfl)
          try simp only [Act.put, List.setIfInBounds_toArray, List.set_cons_zero, List.set_cons_succ]
          refine takeH (i := 4) (d := some 50) (v := ?_) rfl rfl (by kernel_rfl) (by kernel_rfl) (by kernel_rfl) (fun _ _ _ h => h) (by rfl) ?_ (by assumption) ?_
          rotate_left
          · intro w hSw; (try dsimp only at hSw); (try have l0 := hSw.1; have l1 := hSw.2; go_simp); (try with_reducible rfl)
          try simp only [Act.put, List.setIfInBounds_toArray, List.set_cons_zero, List.set_cons_succ]
          refine takeH (i := 5) (d := some 51) (v := ?_) rfl rfl (by kernel_rfl) (by kernel_rfl) (by kernel_rfl) (fun _ _ _ h => h) (by rfl) ?_ (by assumption) ?_
          rotate_left
          · intro w hSw; (try dsimp only at hSw); (try have l0 := hSw.1; have l1 := hSw.2; go_simp); (try with_reducible rfl)
          try simp only [Act.put, List.setIfInBounds_toArray, List.set_cons_zero, List.set_cons_succ]
          refine takeH (i := 6) (d := some 52) (v := ?_) rfl rfl (by kernel_rfl) (by kernel_rfl) (by kernel_rfl) (fun _ _ _ h => h) (by rfl) ?_ (by assumption) ?_
          rotate_left
          · intro w hSw; (try dsimp only at hSw); (try have l0 := hSw.1; have l1 := hSw.2; go_simp); (try with_reducible rfl)
          try simp only [Act.put, List.setIfInBounds_toArray, List.set_cons_zero, List.set_cons_succ]
          refine takeH (i := 7) (d := some 53) (v := ?_) rfl rfl (by kernel_rfl) (by kernel_rfl) (by kernel_rfl) (fun _ _ _ h => h) (by rfl) ?_ (by assumption) ?_
          rotate_left
          · intro w hSw; (try dsimp only at hSw); (try have l0 := hSw.1; have l1 := hSw.2; go_simp); (try with_reducible rfl)
          try simp only [Act.put, List.setIfInBounds_toArray, List.set_cons_zero, List.set_cons_succ]
          refine takeH (i := 8) (d := some 54) (v := ?_) rfl rfl (by kernel_rfl) (by kernel_rfl) (by kernel_rfl) (fun _ _ _ h => h) (by rfl) ?_ (by assumption) ?_
          rotate_left
          · intro w hSw; (try dsimp only at hSw); (try have l0 := hSw.1; have l1 := hSw.2; go_simp); (try with_reducible rfl)
          try simp only [Act.put, List.setIfInBounds_toArray, List.set_cons_zero, List.set_cons_succ]
          refine takeH (i := 9) (d := some 55) (v := ?_) rfl rfl (by kernel_rfl) (by kernel_rfl) (by kernel_rfl) (fun _ _ _ h => h) (by rfl) ?_ (by assumption) ?_
          rotate_left
          · intro w hSw; (try dsimp only at hSw); (try have l0 := hSw.1; have l1 := hSw.2; go_simp; try rw [pw]); (try with_reducible rfl)
          try simp only [Act.put, List.setIfInBounds_toArray, List.set_cons_zero, List.set_cons_succ]
          refine takeH (i := 10) (d := some 56) (v := ?_) rfl rfl (by kernel_rfl) (by kernel_rfl) (by kernel_rfl) (fun _ _ _ h => h) (by rfl) ?_ (by assumption) ?_
          rotate_left
          · intro w hSw; (try dsimp only at hSw); (try have l0 := hSw.1; have l1 := hSw.2; go_simp); (try with_reducible rfl)
          try simp only [Act.put, List.setIfInBounds_toArray, List.set_cons_zero, List.set_cons_succ]
          refine takeH (i := 11) (d := some 57) (v := ?_) rfl rfl (by kernel_rfl) (by kernel_rfl) (by kernel_rfl) (fun _ _ _ h => h) (by rfl) ?_ (by assumption) ?_
          rotate_left
          · intro w hSw; (try dsimp only at hSw); (try have l0 := hSw.1; have l1 := hSw.2; go_simp); (try with_reducible rfl)
          try simp only [Act.put, List.setIfInBounds_toArray, List.set_cons_zero, List.set_cons_succ]
          refine takeH (i := 12) (d := some 58) (v := ?_) rfl rfl (by kernel_rfl) (by kernel_rfl) (by kernel_rfl) (fun _ _ _ h => h) (by rfl) ?_ (by assumption) ?_
          rotate_left
          · intro w hSw; (try dsimp only at hSw); (try have l0 := hSw.1; have l1 := hSw.2; go_simp); (try with_reducible rfl)
          try simp only [Act.put, List.setIfInBounds_toArray, List.set_cons_zero, List.set_cons_succ]
          refine takeH (i := 13) (d := some 11) (v := ?_) rfl rfl (by kernel_rfl) (by kernel_rfl) (by kernel_rfl) (fun _ _ _ h => h) (by rfl) ?_ (by assumption) ?_
          rotate_left
          · intro w hSw; (try dsimp only at hSw); (try have l0 := hSw.1; have l1 := hSw.2; go_simp); (try with_reducible rfl)
          try simp only [Act.put, List.setIfInBounds_toArray, List.set_cons_zero, List.set_cons_succ]
          refine wpAnyH_done (by kernel_rfl) ?_ _
          have D5 := Lib.hid (D4.out.ext (Ext.refl w4).drew)
          have O5 := Lib.hid (O4.out.ext (Ext.refl w4).drew)
          clear d0 cl c0 D4 O4
          go_wp2_with fail
          refine (pick_any _ _ _ 2 _ D5.out.rd (by omega) (by omega) (by omega)).mono ?_
          rintro e w6 ⟨k6, rfl, b6, d6⟩
          have O6 := Lib.hid (O5.out.kt d6.kt (by decide))
          have D6 := Lib.hid (D5.out.trans d6)
          clear d6 D5 O5 o1 p0 p1 pw b0 b1 hb4
          go_upto_if 61 with fail
          go_cut [8] from 22 to 77 (fun s8 wx => ∃ qs0, OwnTwos 73 wx w2.heap.size s8 qs0 ∧ qs0.length ≤ 31 + k ∧ Dr _ r (300 + 2 * k + 2) w2 wx)
          case first =>
            by_cases h6 : k6 = 0
            · subst h6
              go_wp2_with fail
              go_meet
              exact ⟨[], (OwnTwos.lit0 73 w6 w6.heap.size (Nat.le_refl _)).base D6.out.size, by simp, (D6.out.ext ((Ext.refl w6).alloc (.cells #[] 73))).mono (by omega)⟩
            · have hb6 : (((k6 : Nat) : Int) == 0) = false := by simp; omega
              clear h6
              go_wp2_with fail
              go_meet
              exact ⟨ps, O6.out, by omega, D6.out.mono (by omega)⟩
          case rest =>
            obtain ⟨qs0, q1, q2, q3⟩ := hcut
            obtain ⟨ja, jc, rfl⟩ := q1.form
            have Q1 := Lib.hid q1
            have Q3 := Lib.hid q3
            have Q2 := Lib.hid q2
            clear q1 q3 O6 D6
            go_upto_region 12 with fail

            have T4 := Lib.hid (Q1.out.done (by unfold lim; omega))
            have LT := Lib.hid Q1.out.lt
            have le4 := Q3.out.size
            go_cut [12] from 22 to 77 (fun sx wx => ∃ qs, OwnTwos 73 wx wc.heap.size sx qs ∧ qs.length ≤ 31 + k + 1 ∧ Ext wc wx)
            case first =>
              go_wp2_with (first
                | (at_builtin; refine app_prs rfl _ _ rfl wc.heap.size _ qs0 rfl (N5.out.alloc _) (by simp <;> omega) _ _ _ [⟨_, _⟩] rfl (Twos.lit1 _ _ _ _ _) (by unfold lim; simp <;> omega) ?_; intro v7 w7 hown hkt hbl; generalize hqs : qs0 ++ [Pr.mk _ _] = qs at hown; have hql := congrArg List.length hqs; simp only [List.length_append, List.length_cons, List.length_nil, Nat.zero_add] at hql; clear hqs; have N7 := Lib.hid hown; obtain ⟨ma, mc, hv7⟩ := hown.form; subst hv7; have X7 := Lib.hid ((X5.out.alloc _).below hbl); clear hown hkt hbl N5 X5)
                | (at_builtin; refine app_prs rfl _ _ rfl wc.heap.size _ [] rfl (OwnTwos.lit0 73 wc wc.heap.size (Nat.le_refl _)) (by simp) _ _ _ qs0 rfl (T4.out.ext ((Ext.refl wc).alloc _)) (by unfold lim; simp <;> omega) ?_; intro v5 w5 hown hkt hbl; rw [List.nil_append] at hown; have X5 := Lib.hid (((Ext.refl wc).alloc (.cells #[] 73)).below hbl); have N5 := Lib.hid hown; obtain ⟨na, nc, hv5⟩ := hown.form; subst hv5; have l5 := X5.out.le; clear hown hkt hbl))
              all_goals
                go_meet
                exact ⟨qs, N7.out, by omega, X7.out⟩
            case rest =>
              obtain ⟨qs, q7, ql7, x7⟩ := hcut
              obtain ⟨ma, mc, rfl⟩ := q7.form
              have N7 := Lib.hid q7
              have X7 := Lib.hid x7
              have D7 := Lib.hid (Q3.out.ext x7)
              have O7 := Lib.hid (Q1.out.ext x7)
              have le7 := Nat.le_trans LA.out le4
              clear q7 x7 T4 LT Q1 Q3 le4
              go_wp2_with fail
              have T7 := Lib.hid (N7.out.done (by unfold lim; omega))
              have cc := sPairsValid_any _ qs _ T7.out
              cases hb : pairsB qs with
              | true =>
                rw [hb] at cc
                refine cc.mono ?_
                clear cc
                rintro e w8 ⟨rfl, hE8⟩
                have N8 := Lib.hid ((N7.out.base le7).ext hE8)
                have D8 := Lib.hid (D7.out.ext hE8)
                clear hE8 N7 D7 O7 T7 X7
                go_wp2
                go_roundw
                case rel => exact ⟨k + 1, qs, by omega, by go_num, by omega, N8.out, D8.out.mono (by omega)⟩
                case measure => simp [intOf]; omega
              | false =>
                rw [hb] at cc
                refine cc.mono ?_
                clear cc
                rintro e w8 ⟨rfl, hE8⟩
                have N8 := Lib.hid (O7.out.ext hE8)
                have D8 := Lib.hid (D7.out.ext hE8)
                clear hE8 N7 D7 O7 T7 X7
                go_wp2
                go_roundw
                case rel => exact ⟨k + 1, qs0, by omega, by go_num, by omega, N8.out, D8.out.mono (by omega)⟩
                case measure => simp [intOf]; omega
        · have hb7 : decide ((1 : Int) < (bs[k].length : Int)) = false := decide_eq_false (by omega)
          have hb8 : decide (1 < bs[k].length) = false := decide_eq_false hone
          clear ht hone
          go_wp2_with fail
          go_roundw
          case rel => exact ⟨k + 1, ps, by omega, by go_num, by omega, O4.out, D4.out.mono (by omega)⟩
          case measure => simp [intOf]; omega
    · have e : k = bs.length := by omega
      subst e
      go_wp2
      go_ret3
      exact ⟨_, _, _, room, bs, ps, rfl, ⟨⟨Hd.out.1.kt HD.out.kt (by decide), Hd.out.2.1.kt HD.out.kt (by decide) (by decide) (by decide), Hd.out.2.2⟩, HO.out.done (by unfold lim; omega), by omega, HO.out.formc⟩, E2.out.below HD.out.bl⟩

end Go.Proofs.Ytcijbpjiioodlaa
