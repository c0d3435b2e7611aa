/- Pairs: which are broken, by the program and by the reference. No condition. -/
import Derived.Test.YtcijbpjiioodlaaPc
namespace Go.Proofs.Ytcijbpjiioodlaa
set_option maxRecDepth 100000
open Go.RowKit

set_option maxHeartbeats 2000000 in
theorem PairsBroken_any (v u x : Value) (room : List Int) (bs : List (List T)) (ps : List Pr) (w : World) (hr : Ints w v room) (h : Bins w u bs) (hp : Twos 73 w x ps) (hf : bs.flatten.length ≤ 2097152) :
    Calls Try.prog 45 #[v, u, x] w fun e w' => ∃ r, e = .returned r ∧ Ext w w' ∧ NeedX w' w.heap.size r (brokenI room bs ps) := by
  have E0 := Lib.hid ((Ext.refl w).alloc (.cells #[] 3))
  have N0 := Lib.hid (NeedX.lit0 w w.heap.size (Nat.le_refl _))
  have Hb := Lib.hid h
  have Hp := Lib.hid hp
  have Hr := Lib.hid hr
  clear h hp hr
  cases hb : binsB room bs with
  | false =>
    have Hd : Hid (brokenI room bs ps = []) := by show brokenI room bs ps = []; simp [brokenI, hb]
    go_enter Try.func45, Try.ntmps45
    go_wp2_with fail
    have cc := BinsValid_any _ _ _ _ _ (Hr.out.ext E0.out) (Hb.out.ext E0.out) hf
    rw [hb] at cc
    refine cc.mono ?_
    clear cc
    rintro e w2 ⟨rfl, hE2⟩
    have N2 := Lib.hid (N0.out.ext hE2)
    go_wp2
    go_ret
    exact ⟨_, rfl, E0.out.trans hE2, by rw [Hd.out]; exact N2.out⟩
  | true =>
    cases hpb : pairsB ps with
    | false =>
      have Hd : Hid (brokenI room bs ps = []) := by show brokenI room bs ps = []; simp [brokenI, hpb]
      go_enter Try.func45, Try.ntmps45
      go_wp2_with fail
      have cc := BinsValid_any _ _ _ _ _ (Hr.out.ext E0.out) (Hb.out.ext E0.out) hf
      rw [hb] at cc
      refine cc.mono ?_
      clear cc
      rintro e w2 ⟨rfl, hE2⟩
      have F2 := Lib.hid (E0.out.trans hE2)
      have N2 := Lib.hid (N0.out.ext hE2)
      clear hE2
      go_wp2_with fail
      have cc := PairsValid_any _ _ _ (Hp.out.ext F2.out)
      rw [hpb] at cc
      refine cc.mono ?_
      clear cc
      rintro e w3 ⟨rfl, hE3⟩
      have N3 := Lib.hid (N2.out.ext hE3)
      go_wp2
      go_ret
      exact ⟨_, rfl, F2.out.trans hE3, by rw [Hd.out]; exact N3.out⟩
    | true =>
      have Hd : Hid (brokenI room bs ps = brokenL bs ps) := by show brokenI room bs ps = _; simp [brokenI, hb, hpb]
      have p8 : ps.length ≤ 8 := (pairsB_iff.1 hpb).1
      obtain ⟨a, cap, rfl, hp⟩ := Hp.out.open
      obtain ⟨ua, uc, hu, -⟩ := Hb.out.open
      subst hu
      go_enter Try.func45, Try.ntmps45
      go_wp2_with fail
      have cc := BinsValid_any _ _ _ _ _ (Hr.out.ext E0.out) (Hb.out.ext E0.out) hf
      rw [hb] at cc
      refine cc.mono ?_
      clear cc
      rintro e w2 ⟨rfl, hE2⟩
      have F2 := Lib.hid (E0.out.trans hE2)
      have N2 := Lib.hid (N0.out.ext hE2)
      clear hE2
      go_wp2_with fail
      have cc := PairsValid_any _ _ _ (Hp.out.ext F2.out)
      rw [hpb] at cc
      refine cc.mono ?_
      clear cc
      rintro e w3 ⟨rfl, hE3⟩
      have F3 := Lib.hid (F2.out.trans hE3)
      have N3 := Lib.hid (N2.out.ext hE3)
      clear hE3 N2 F2
      go_wp2_with fail
      go_loopw [7, 24] (fun s i wr => ∃ k : Nat, k ≤ ps.length ∧ i = .int .i64 k ∧ Ext w wr ∧ NeedX wr w.heap.size s (brokenL bs (ps.take k))) (fun _ i _ => ps.length - (intOf i).toNat)
      case atStart => exact ⟨0, by omega, rfl, F3.out, N3.out⟩
      case round =>
        clear F3 N3 E0 N0
        obtain ⟨k, hk, rfl, hE, hs⟩ := hrel
        have Hs := Lib.hid hs
        obtain ⟨g, ⟨sc, rfl⟩, -⟩ := hs
        by_cases hlt : k < ps.length
        · obtain ⟨b, off, rfl, c0, c1⟩ := hp.at hlt
          have c0' := hE.cell c0
          have c1' := hE.cell c1
          have Hst := Lib.hid (brokenL_step (bs := bs) hlt)
          have len := brokenL_len bs (ps.take k)
          rw [List.length_take] at len
          have hX : Ext wr _ := (Ext.refl wr).alloc (Obj.cells #[.int .i64 ps[k].a, .int .i64 ps[k].b] 73)
          have Rb := heap_alloc_new wr (Obj.cells #[.int .i64 ps[k].a, .int .i64 ps[k].b] 73)
          clear c0 c1
          go_wp2_with fail
          generalize wr.alloc (Obj.cells #[.int .i64 ps[k].a, .int .i64 ps[k].b] 73) = W at *
          have E1 := Lib.hid (hE.trans hX)
          have X1 := Lib.hid hX
          have RB := Lib.hid Rb
          clear hX Rb hE c0' c1'
          refine (whereOf_any _ bs ps[k].a _ (Hb.out.ext E1.out)).mono ?_
          rintro e w4 ⟨rfl, hE4⟩
          have r4 := (hE4.block (lt_of_heap RB.out)).trans RB.out
          have d0 := cell_of_heap r4 0
          have d1 := cell_of_heap r4 1
          have E4 := Lib.hid (E1.out.trans hE4)
          have X4 := Lib.hid (X1.out.trans hE4)
          clear hE4 r4
          cases hw : where0 bs ps[k].a with
          | none =>
            have hb0 : Hid (brkB bs ps[k] = false) := by show brkB bs ps[k] = false; simp [brkB, hw]
            have n1 : nodeI none = -1 := rfl
            rw [n1]
            go_wp2_with fail
            go_roundw
            case rel => exact ⟨k + 1, by omega, by go_num, E4.out, by rw [Hst.out, if_neg (by rw [hb0.out]; simp)]; exact Hs.out.ext X4.out⟩
            case measure => simp [intOf]; omega
          | some q =>
            have n1 : nodeI (some q) = (q : Int) := rfl
            have q0 : (0 : Int) ≤ (q : Int) := by omega
            rw [n1]
            go_wp2_with fail
            refine (whereOf_any _ bs ps[k].b _ (Hb.out.ext E4.out)).mono ?_
            rintro e w5 ⟨rfl, hE5⟩
            have E5 := Lib.hid (E4.out.trans hE5)
            have X5 := Lib.hid (X4.out.trans hE5)
            clear hE5 d0 d1
            by_cases hq : where0 bs ps[k].a = where0 bs ps[k].b
            · have hb1 : Hid (brkB bs ps[k] = true) := by show brkB bs ps[k] = true; simp [brkB, hq]; rw [← hq, hw]; rfl
              have n2 : nodeI (where0 bs ps[k].b) = (q : Int) := by rw [← hq, hw]; rfl
              rw [n2]
              have qq : ((q : Int) == (q : Int)) = true := by simp
              clear hq
              have len2 : (brokenL bs (ps.take k)).length ≤ 8 := by omega
              go_wp2_with (at_builtin; refine app_ints rfl _ _ rfl w.heap.size _ _ rfl ((Hs.out.own.ext X5.out).alloc _) (by have := E5.out.le; simp; omega) _ _ _ [(k : Int)] rfl (Ints.lit1 w5 _ 1) (by unfold lim; simp; omega) ?_; intro v' w6 hown hkt hbl)
              have hE6 := (E5.out.alloc _).below hbl
              have Hn : Hid (NeedX w6 w.heap.size v' (brokenL bs (ps.take (k + 1)))) := by
                show NeedX w6 w.heap.size v' (brokenL bs (ps.take (k + 1)))
                rw [Hst.out, if_pos hb1.out]
                exact NeedS.of_own hown (by simp)
              clear hown hkt hbl
              go_roundw
              case rel => exact ⟨k + 1, by omega, by go_num, hE6, Hn.out⟩
              case measure => simp [intOf]; omega
            · have hb1 : Hid (brkB bs ps[k] = false) := by show brkB bs ps[k] = false; simp [brkB, hq]
              have qq : ((q : Int) == nodeI (where0 bs ps[k].b)) = false := beq_eq_false_iff_ne.2 fun e => hq (by rw [hw]; exact nodeI_eq.1 e)
              clear hq
              generalize nodeI (where0 bs ps[k].b) = z at *
              go_wp2_with fail
              go_roundw
              case rel => exact ⟨k + 1, by omega, by go_num, E5.out, by rw [Hst.out, if_neg (by rw [hb1.out]; simp)]; exact Hs.out.ext X5.out⟩
              case measure => simp [intOf]; omega
        · have e : k = ps.length := by omega
          subst e
          have Hn := Lib.hid (show NeedX wr w.heap.size (.slice (some ⟨g, 0, none⟩) (brokenL bs (ps.take ps.length)).length sc) (brokenI room bs ps) by have := Hs.out; rw [Hd.out]; rw [List.take_length] at this ⊢; exact this)
          go_wp2
          go_ret
          first
            | exact ⟨_, rfl, hE, Hn.out⟩
            | exact ⟨_, rfl, hE, by have := Hn.out; rw [List.take_length] at this; exact this⟩

set_option maxHeartbeats 2000000 in
theorem sPairsBroken_any (v u x : Value) (room : List Int) (bs : List (List T)) (ps : List Pr) (w : World) (hr : Ints w v room) (h : Bins w u bs) (hp : Twos 73 w x ps) (hf : bs.flatten.length ≤ 2097152) :
    Calls Try.prog 42 #[v, u, x] w fun e w' => ∃ r, e = .returned r ∧ Ext w w' ∧ NeedX w' w.heap.size r (brokenI room bs ps) := by
  have E0 := Lib.hid ((Ext.refl w).alloc (.cells #[] 3))
  have N0 := Lib.hid (NeedX.lit0 w w.heap.size (Nat.le_refl _))
  have Hb := Lib.hid h
  have Hp := Lib.hid hp
  have Hr := Lib.hid hr
  obtain ⟨a, cap, rfl, hp⟩ := hp.open
  obtain ⟨ua, uc, hu, -⟩ := h.open
  subst hu
  have pl : ps.length ≤ 4194304 := hp.1
  clear h hr
  by_cases h0 : ps.length = 0
  · have e : ps = [] := List.eq_nil_of_length_eq_zero h0
    subst e
    have Hd : Hid (brokenI room bs [] = []) := by show brokenI room bs [] = []; unfold brokenI; split <;> rfl
    go_enter Try.func42, Try.ntmps42
    go_wp2_with fail
    refine wp_loop_rounds 1 ?_
    rw [rounds_succ]
    go_wp2
    go_ret
    exact ⟨_, rfl, E0.out, by rw [Hd.out]; exact N0.out⟩
  have h0' : (0 : Int) < (ps.length : Int) := by omega
  cases hb : binsB room bs with
  | false =>
    have Hd : Hid (brokenI room bs ps = []) := by show brokenI room bs ps = []; simp [brokenI, hb]
    go_enter Try.func42, Try.ntmps42
    go_wp2_with fail
    refine wp_loop_rounds 1 ?_
    rw [rounds_succ]
    go_wp2_with fail
    have cc := sBinsValid_any _ _ _ _ _ (Hr.out.ext E0.out) (Hb.out.ext E0.out) hf
    rw [hb] at cc
    refine cc.mono ?_
    clear cc
    rintro e w2 ⟨rfl, hE2⟩
    have N2 := Lib.hid (N0.out.ext hE2)
    go_wp2
    go_ret
    exact ⟨_, rfl, E0.out.trans hE2, by rw [Hd.out]; exact N2.out⟩
  | true =>
    cases hpb : pairsB ps with
    | false =>
      have Hd : Hid (brokenI room bs ps = []) := by show brokenI room bs ps = []; simp [brokenI, hpb]
      go_enter Try.func42, Try.ntmps42
      go_wp2_with fail
      refine wp_loop_rounds 1 ?_
      rw [rounds_succ]
      go_wp2_with fail
      have cc := sBinsValid_any _ _ _ _ _ (Hr.out.ext E0.out) (Hb.out.ext E0.out) hf
      rw [hb] at cc
      refine cc.mono ?_
      clear cc
      rintro e w2 ⟨rfl, hE2⟩
      have F2 := Lib.hid (E0.out.trans hE2)
      have N2 := Lib.hid (N0.out.ext hE2)
      clear hE2
      go_wp2_with fail
      have cc := sPairsValid_any _ _ _ (Hp.out.ext F2.out)
      rw [hpb] at cc
      refine cc.mono ?_
      clear cc
      rintro e w3 ⟨rfl, hE3⟩
      have N3 := Lib.hid (N2.out.ext hE3)
      go_wp2
      go_ret
      exact ⟨_, rfl, F2.out.trans hE3, by rw [Hd.out]; exact N3.out⟩
    | true =>
      have Hd : Hid (brokenI room bs ps = brokenL bs ps) := by show brokenI room bs ps = _; simp [brokenI, hb, hpb]
      have p8 : ps.length ≤ 8 := (pairsB_iff.1 hpb).1
      have HBb := Lib.hid hb
      have HPb := Lib.hid hpb
      clear hb hpb h0 h0'
      go_enter Try.func42, Try.ntmps42
      go_wp2_with fail
      go_loopw [7, 8] (fun s i wr => ∃ k : Nat, k ≤ ps.length ∧ i = .int .i64 k ∧ Ext w wr ∧ NeedX wr w.heap.size s (brokenL bs (ps.take k))) (fun _ i _ => ps.length - (intOf i).toNat)
      case atStart => exact ⟨0, by omega, rfl, E0.out, N0.out⟩
      case round =>
        clear E0 N0
        obtain ⟨k, hk, rfl, hE, hs⟩ := hrel
        have Hs := Lib.hid hs
        obtain ⟨g, ⟨sc, rfl⟩, -⟩ := hs
        by_cases hlt : k < ps.length
        · have b0 : (0 : Int) ≤ (k : Int) := by omega
          have b1 : (k : Int) < (ps.length : Int) := by omega
          have Hst := Lib.hid (brokenL_step (bs := bs) hlt)
          have len := brokenL_len bs (ps.take k)
          rw [List.length_take] at len
          go_wp2_with fail
          have cc := sBinsValid_any _ _ _ _ _ (Hr.out.ext hE) (Hb.out.ext hE) hf
          rw [HBb.out] at cc
          refine cc.mono ?_
          clear cc
          rintro e w2 ⟨rfl, hE2⟩
          have F2 := Lib.hid (hE.trans hE2)
          have X2 := Lib.hid hE2
          clear hE2 hE
          go_wp2_with fail
          have cc := sPairsValid_any _ _ _ (Hp.out.ext F2.out)
          rw [HPb.out] at cc
          refine cc.mono ?_
          clear cc
          rintro e w3 ⟨rfl, hE3⟩
          have E3 := Lib.hid (F2.out.trans hE3)
          have X3 := Lib.hid (X2.out.trans hE3)
          clear hE3 F2 X2
          obtain ⟨b, off, rfl, c0, c1⟩ := hp.at hlt
          have c0' := E3.out.cell c0
          go_wp2_with fail
          refine (l2Where_any _ bs ps[k].a _ (Hb.out.ext E3.out)).mono ?_
          rintro e w4 ⟨rfl, hE4⟩
          have E4 := Lib.hid (E3.out.trans hE4)
          have X4 := Lib.hid (X3.out.trans hE4)
          have c1' := E4.out.cell c1
          clear hE4 c0 c0' c1
          cases hw : where0 bs ps[k].a with
          | none =>
            have hb0 : Hid (brkB bs ps[k] = false) := by show brkB bs ps[k] = false; simp [brkB, hw]
            have n1 : nodeI none = -1 := rfl
            rw [n1]
            go_wp2_with fail
            go_roundw
            case rel => exact ⟨k + 1, by omega, by go_num, E4.out, by rw [Hst.out, if_neg (by rw [hb0.out]; simp)]; exact Hs.out.ext X4.out⟩
            case measure => simp [intOf]; omega
          | some q =>
            have n1 : nodeI (some q) = (q : Int) := rfl
            have q0 : (0 : Int) ≤ (q : Int) := by omega
            rw [n1]
            go_wp2_with fail
            refine (l2Where_any _ bs ps[k].b _ (Hb.out.ext E4.out)).mono ?_
            rintro e w5 ⟨rfl, hE5⟩
            have E5 := Lib.hid (E4.out.trans hE5)
            have X5 := Lib.hid (X4.out.trans hE5)
            clear hE5 c1'
            by_cases hq : where0 bs ps[k].a = where0 bs ps[k].b
            · have hb1 : Hid (brkB bs ps[k] = true) := by show brkB bs ps[k] = true; simp [brkB, hq]; rw [← hq, hw]; rfl
              have n2 : nodeI (where0 bs ps[k].b) = (q : Int) := by rw [← hq, hw]; rfl
              rw [n2]
              have qq : ((q : Int) == (q : Int)) = true := by simp
              clear hq
              have len2 : (brokenL bs (ps.take k)).length ≤ 8 := by omega
              go_wp2_with (at_builtin; refine app_ints rfl _ _ rfl w.heap.size _ _ rfl ((Hs.out.own.ext X5.out).alloc _) (by have := E5.out.le; simp; omega) _ _ _ [(k : Int)] rfl (Ints.lit1 w5 _ 1) (by unfold lim; simp; omega) ?_; intro v' w6 hown hkt hbl)
              have hE6 := (E5.out.alloc _).below hbl
              have Hn : Hid (NeedX w6 w.heap.size v' (brokenL bs (ps.take (k + 1)))) := by
                show NeedX w6 w.heap.size v' (brokenL bs (ps.take (k + 1)))
                rw [Hst.out, if_pos hb1.out]
                exact NeedS.of_own hown (by simp)
              clear hown hkt hbl
              go_roundw
              case rel => exact ⟨k + 1, by omega, by go_num, hE6, Hn.out⟩
              case measure => simp [intOf]; omega
            · have hb1 : Hid (brkB bs ps[k] = false) := by show brkB bs ps[k] = false; simp [brkB, hq]
              have qq : ((q : Int) == nodeI (where0 bs ps[k].b)) = false := beq_eq_false_iff_ne.2 fun e => hq (by rw [hw]; exact nodeI_eq.1 e)
              clear hq
              generalize nodeI (where0 bs ps[k].b) = z at *
              go_wp2_with fail
              go_roundw
              case rel => exact ⟨k + 1, by omega, by go_num, E5.out, by rw [Hst.out, if_neg (by rw [hb1.out]; simp)]; exact Hs.out.ext X5.out⟩
              case measure => simp [intOf]; omega
        · have e : k = ps.length := by omega
          subst e
          have Hn := Lib.hid (show NeedX wr w.heap.size (.slice (some ⟨g, 0, none⟩) (brokenL bs (ps.take ps.length)).length sc) (brokenI room bs ps) by have := Hs.out; rw [Hd.out]; rw [List.take_length] at this ⊢; exact this)
          have b1 : ¬ ((ps.length : Int) < (ps.length : Int)) := by omega
          go_wp2
          go_ret
          first
            | exact ⟨_, rfl, hE, Hn.out⟩
            | exact ⟨_, rfl, hE, by have := Hn.out; rw [List.take_length] at this; exact this⟩

end Go.Proofs.Ytcijbpjiioodlaa
