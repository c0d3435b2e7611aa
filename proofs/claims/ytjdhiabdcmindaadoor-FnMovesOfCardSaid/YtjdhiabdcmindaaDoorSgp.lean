/- The plan, the reference; two lists of moves compared; a plan's question drawn. No condition. -/
import Derived.Test.YtjdhiabdcmindaaDoorGp
import Derived.Test.YtjdhiabdcmindaaDoorTk
import Derived.Test.YtjdhiabdcmindaaDoorPuc
namespace Go.Proofs.YtjdhiabdcmindaaDoor
set_option maxRecDepth 100000
open Go.RowKit

section
variable {w : World} {ops : Array Oper} {rest : List Oper} {o : Oper} {a : Act} {Q : Exit → Act → World → Prop}
theorem app2_mvs (hgd : o.guard = none) (s x : Operand) (ho : o.op = .call { callee := .builtin .append, args := #[s, x], argTypes := #[27, 27] }) (B : Nat) (v : Value) (ps : List Pr) (hs : a.eval s = v) (hown : OwnTwos 35 w B v ps) (hB : B ≤ w.heap.size)
    (src : Option Addr) (m c : Nat) (qs : List Pr) (hx : a.eval x = .slice src m c) (hsrc : Twos 35 w (.slice src m c) qs) (hl : ps.length + qs.length ≤ lim)
    (h : ∀ v' w', OwnTwos 35 w' B v' (ps ++ qs) → w.grownBy w' v.ownBlock → wpList Tryd.prog ops Q rest (a.put o.dst v') w') : wpList Tryd.prog ops Q (o :: rest) a w := by
  obtain ⟨hql, a', c', hv, hr⟩ := hsrc
  simp only [Value.slice.injEq] at hv
  obtain ⟨rfl, rfl, rfl⟩ := hv
  unfold lim at hl
  have hx2 := cellsP_len qs
  obtain ⟨v', w', hrn, h2, h3, h4⟩ := run_app2 elt_move o.type w B v ps.length (cellsP ps) hown hB src qs.length c (cellsP qs) (by omega) _ hr (cellsP_one qs) (by omega) (by unfold maxLen; omega)
  refine wpList_plain hgd fun _ hK => ?_
  unfold Oper.wp execOp
  simp only [ho, resolve, invoke, builtin, Sem.run_bind, Sem.run_pure, Result.andThen_ok, List.map_toArray, List.map_cons, List.map_nil, hs, hx, hrn]
  exact hK _ _ (h v' w' (by unfold OwnTwos; rw [cellsP_app, List.length_append]; exact h2) h3)
end
theorem Move.lit1' (w : World) (x y : Int) (c n : Nat) (e : TypeId) (hn : n = w.heap.size) : Twos e (w.alloc (.cells #[.int .i64 x, .int .i64 y] e)) (.slice (some ⟨n, 0, none⟩) 1 c) [⟨x, y⟩] := by subst hn; exact Move.lit1 w x y c e

set_option maxHeartbeats 4000000 in
theorem l15Do_any (u : Value) (room : List Int) (id : Int) (k i dst : Nat) (bs : List (List T)) (w : World) (h : Bins w u bs) (hv : binsB room bs = true) (can : CanL room bs id k i dst) :
    Calls Tryd.prog 28 #[u, .agg #[.int .i64 id, .int .i64 (dst : Int)]] w fun e w' => ∃ a c, e = .returned (.slice a bs.length c) ∧ bs.length ≤ c ∧ Ext w w' ∧ Bins w' (.slice a bs.length c) (movL bs k i dst ((bs[k]'can.hk)[i]'can.hi)) := by
  obtain ⟨a, c, rfl, h⟩ := h.open
  have ok := binsB_iff.1 hv
  have okT := ok.1
  have GB : GoodB bs := fun b hb => Good.flat okT.good hb
  have hf14 : bs.flatten.length ≤ 14 := okT.2.1
  have hl14 : bs.length ≤ 14 := ok.2.1
  have HLB := Lib.hid (show ∀ b ∈ bs, b.length ≤ 1000 from fun b hb => by have := (sub_flat hb).length_le; omega)
  have HRB := Lib.hid (show ∀ b ∈ restL bs id, b.length ≤ 1000 ∧ ∀ t ∈ b, t.need.length ≤ 1000 from fun b hb => by
    obtain ⟨b', hb', rfl⟩ := List.mem_map.1 hb
    exact ⟨Nat.le_trans (List.length_filter_le _ _) (HLB.out b' hb'), fun t ht => by have := (GB b' hb' t (List.mem_filter.1 ht).1).1; omega⟩)
  have HFC := Lib.hid (found_can okT can ⟨0, []⟩)
  have HDC := Lib.hid (do_can okT can)
  have H3 := Lib.hid (show (foundL id bs.flatten ⟨0, []⟩).need.length ≤ 1000 from by rw [HFC.out]; have := (GB _ (List.getElem_mem can.hk) _ (List.getElem_mem can.hi)).1; omega)
  have HTO := Lib.hid (show dst < (restL bs id).length from by rw [rest_len]; exact can.hto)
  have Hb := Lib.hid h
  have E0 := Lib.hid ((Ext.refl w).alloc (.cells #[.int .i64 id, .int .i64 (dst : Int)] 35))
  have H0 := Lib.hid (heap_alloc_new w (.cells #[.int .i64 id, .int .i64 (dst : Int)] 35))
  clear h hv ok okT GB
  go_enter Tryd.func28, Tryd.ntmps28
  go_wp2_with fail
  generalize w.alloc (.cells #[.int .i64 id, .int .i64 (dst : Int)] 35) = W0 at *
  refine (l15Take_any _ id bs W0 (Hb.out.ext E0.out) (by omega) HLB.out).mono ?_
  rintro e w1 ⟨oa, oc, na, nc, x, hx, rfl, hE1, hN1, hI1⟩
  have E1 := Lib.hid (E0.out.trans hE1)
  have EA := Lib.hid ((Ext.refl w1).alloc (.cells #[.int .i64 x.id, .slice na x.need.length nc] 61))
  have H1m := Lib.hid ((hE1.block (lt_of_heap H0.out)).trans H0.out)
  have HA := Lib.hid (heap_alloc_new w1 (.cells #[.int .i64 x.id, .slice na x.need.length nc] 61))
  have N1 := Lib.hid (show Bins w1 (.slice oa (restL bs id).length oc) (restL bs id) from by rw [rest_len]; exact hN1)
  have I1 := Lib.hid hI1
  have HX := Lib.hid hx
  clear hE1 hN1 hI1 H0 E0 Hb hx
  have H2m := (EA.out.block (lt_of_heap H1m.out)).trans H1m.out
  have m1 := cell_of_heap H2m 1
  simp only [List.getElem?_toArray, List.getElem?_cons_zero, List.getElem?_cons_succ] at m1
  have h3x : x.need.length ≤ 1000 := by rw [HX.out]; exact H3.out
  have CC := l11Put_oldc _ _ dst (restL bs id) x _ (N1.out.ext EA.out) (I1.out.ext EA.out) h3x HTO.out (by rw [rest_len]; omega) HRB.out
  simp only [rest_len] at CC
  go_wp2_with fail
  refine CC.mono ?_
  clear CC
  rintro e w2 ⟨ra, rc, rfl, hrc, hE2, hN2⟩
  have F := Lib.hid (show Ext w w2 ∧ Bins w2 (.slice ra bs.length rc) (movL bs k i dst ((bs[k]'can.hk)[i]'can.hi)) from ⟨E1.out.trans (EA.out.trans hE2), by
    rw [← HDC.out, getD_at HTO.out, ← HX.out]; exact hN2⟩)
  clear hE2 hN2 H2m m1
  go_wp2_with fail
  go_ret
  exact ⟨_, _, rfl, hrc, F.out.1, F.out.2⟩

set_option maxHeartbeats 4000000 in
theorem sGatherPlan_any (v : Value) (room : List Int) (bs : List (List T)) (most : Int) (c : Nat) (a : Option Addr) (w : World) (hr : Ints w v room) (h : Bins w (.slice a bs.length c) bs) (hc : bs.length ≤ c) (hf : bs.flatten.length ≤ 2097152) :
    Calls Tryd.prog 8 #[v, .slice a bs.length c, .int .i64 most] w fun e w' => ∃ r, e = .returned r ∧ OwnTwos 35 w' 0 r (gplanL room bs most) ∧ Ext w w' := by
  obtain ⟨ra, rc, rfl, hr⟩ := hr.open
  have E0 := Lib.hid ((Ext.refl w).alloc (.cells #[] 35))
  have O0 := Lib.hid (OwnTwos.lit0 35 w w.heap.size (Nat.le_refl _))
  have Hr := Lib.hid (hr.ext E0.out)
  have Hb := Lib.hid (h.ext E0.out)
  have BV := Lib.hid (sBinsValid_any _ _ room bs _ Hr.out Hb.out hf)
  clear hr h
  cases hv : binsB room bs with
  | false =>
    have cc := BV.out
    rw [hv] at cc
    have HP := Lib.hid (gplan_no (most := most) (show (binsB room bs && inB most 0 20) = false by rw [hv]; rfl))
    clear hv
    go_enter Tryd.func8, Tryd.ntmps8
    go_wp2_with (go_at_call 10; refine cc.mono ?_; clear cc; rintro e w1 ⟨rfl, hE1⟩)
    have F := Lib.hid (show OwnTwos 35 w1 0 (.slice (some ⟨w.heap.size, 0, none⟩) 0 0) (gplanL room bs most) ∧ Ext w w1 from ⟨by rw [HP.out]; exact ownsRow_base (O0.out.ext hE1) (Nat.zero_le _), E0.out.trans hE1⟩)
    clear hE1 HP
    go_ret
    exact ⟨_, rfl, F.out.1, F.out.2⟩
  | true =>
    have HV := Lib.hid hv
    have cc := BV.out
    rw [hv] at cc
    clear hv BV
    by_cases hm : 0 ≤ most ∧ most ≤ 20
    · obtain ⟨n, rfl⟩ : ∃ n : Nat, most = (n : Int) := ⟨most.toNat, by omega⟩
      have hn20 : n ≤ 20 := by omega
      have hin : inB (n : Int) 0 20 = true := inB_true (by omega) (by omega)
      have HP := Lib.hid (gplan_yes HV.out hn20)
      clear hm
      go_enter Tryd.func8, Tryd.ntmps8
      generalize hn0 : bs.length = n0 at *
      go_wp2_with (first | (go_at_call 10; refine cc.mono ?_; clear cc; rintro e w1 ⟨rfl, hE1⟩; have E1 := Lib.hid hE1; clear hE1) | (go_at_call 26; refine (l6In_any _ _ _ _).mono ?_; rintro e w2 ⟨rfl, rfl⟩; rw [hin]) | fail)
      have EW1 := Lib.hid (E0.out.trans E1.out)
      have Hr1 := Lib.hid (Hr.out.ext E1.out)
      have Hb1 := Lib.hid (Hb.out.ext E1.out)
      have O1 := Lib.hid (O0.out.ext E1.out)
      clear E0 E1 Hr Hb O0
      go_loopw [7, 8] (fun s m wr => ∃ (ps : List Pr) (cur : List (List T)) (sa : Option Addr) (sc : Nat) (na : Option Addr) (nc : Nat), s = .slice sa ps.length sc ∧ m = .slice na n0 nc ∧ n0 ≤ nc ∧ OwnTwos 35 wr w.heap.size (.slice sa ps.length sc) ps ∧ Bins wr (.slice na n0 nc) cur ∧ cur.length = n0 ∧ binsB room cur = true ∧ planL room n bs = ps ++ planL room (n - ps.length) cur ∧ Ext w wr ∧ Ints wr (.slice ra room.length rc) room) (fun s _ _ => n - (match s with | .slice _ n _ => n | _ => 0))
      case atStart => exact ⟨[], bs, _, _, _, _, rfl, rfl, hc, O1.out, Hb1.out, hn0, HV.out, rfl, EW1.out, Hr1.out⟩
      case round =>
        clear EW1 Hr1 Hb1 O1 HV hn0
        obtain ⟨ps, cur, sa, sc, na, nc, rfl, rfl, hnc, ho, hn, hcl, hok, hpl, hE, hri⟩ := hrel
        have PL := Lib.hid hpl
        by_cases hlt : ps.length < n
        · have b1 : (ps.length : Int) < (n : Int) := by omega
          have O0 := Lib.hid ho
          have HE := Lib.hid hE
          have okT := (binsB_iff.1 hok).1
          have R3 := Lib.hid okT.1.1.1
          have GB := Lib.hid (show GoodB cur from fun b hb => Good.flat okT.good hb)
          have HOK := Lib.hid hok
          have Bn := Lib.hid hn
          have HRr := Lib.hid hri
          have CL := Lib.hid hcl
          have CC := Lib.hid (l16Next_any (.slice ra room.length rc) na nc room cur wr hri (by rw [hcl]; exact hn) (by omega) R3.out GB.out)
          have szr := hE.le
          clear ho hn hE okT hok hcl hpl hri
          go_wp2_with fail
          have cc := CC.out
          rw [CL.out] at cc
          cases hg : nextO room cur with
          | none =>
            have HP2 := Lib.hid (show gplanL room bs (n : Int) = ps from by rw [HP.out, PL.out, plan_stop hg, List.append_nil])
            rw [hg] at cc
            refine cc.mono ?_
            clear cc hg CC
            rintro e w2 ⟨rfl, hE⟩
            have E2 := Lib.hid (hE.alloc (.cells #[.int .i64 0, .int .i64 0] 35))
            have F := Lib.hid (show OwnTwos 35 (w2.alloc (.cells #[.int .i64 0, .int .i64 0] 35)) 0 (.slice sa ps.length sc) (gplanL room bs n) ∧ Ext w (w2.alloc (.cells #[.int .i64 0, .int .i64 0] 35)) from by rw [HP2.out]; exact ⟨ownsRow_base (O0.out.ext E2.out) (Nat.zero_le _), HE.out.trans E2.out⟩)
            clear hE E2 HP2 HP
            simp only [nextV]
            go_wp2_with fail
            go_ret
            exact ⟨_, rfl, F.out.1, F.out.2⟩
          | some p =>
            obtain ⟨id, tt⟩ := p
            obtain ⟨k, i, -, can⟩ := next_can HOK.out hg
            have CAN := Lib.hid can
            have HG := Lib.hid hg
            rw [hg] at cc
            refine cc.mono ?_
            clear cc hg can CC
            rintro e w2 ⟨rfl, hE⟩
            have E2 := Lib.hid (hE.alloc (.cells #[.int .i64 id, .int .i64 (tt : Int)] 35))
            have R2 := Lib.hid (heap_alloc_new w2 (.cells #[.int .i64 id, .int .i64 (tt : Int)] 35))
            have hEw := hE.le
            clear hE
            simp only [nextV]
            have sz2 : wr.heap.size ≤ w2.heap.size := hEw
            have ob : ∀ g, (Value.slice sa ps.length sc).ownBlock = some g → g < wr.heap.size := fun g hg => (World.ownsRow.lt O0.out g hg).2
            have P5 := Lib.hid (plan_step (m := n - ps.length) (by omega) HG.out (step_can CAN.out))
            have V5 := Lib.hid (mov_ok HOK.out CAN.out)
            go_wp2_with (first | (at_builtin; refine app2_mvs rfl _ _ rfl w.heap.size _ ps rfl (O0.out.ext (E2.out.alloc _)) (by simp; omega) _ _ _ [⟨id, (tt : Int)⟩] rfl (Move.lit1' (w2.alloc _) id (tt : Int) 1 _ _ (by simp)) (by unfold lim; simp; omega) ?_; intro v' w5 hown hg5; have E5 := Lib.hid (E2.out.alloc (.cells #[.int .i64 id, .int .i64 (tt : Int)] 35)); have X5 := Lib.hid (show Ext w w5 from Below.trans (HE.out.trans E5.out) (grownBy_below (O0.out.ext E5.out) (by simp; omega) hg5)); have K5 := Lib.hid (grownBy_kt (O0.out.ext E5.out) hg5); have R5 := Lib.hid ((hg5.block w2.heap.size (by simp <;> omega) (fun e => by have := ob _ e.symm; omega)).trans (heap_skip _ (.cells #[.int .i64 id, .int .i64 (tt : Int)] 35) R2.out)); have O5 := Lib.hid hown; obtain ⟨pa, pc, rfl⟩ := hown.form; clear hown hg5; have B5 := Lib.hid (show Bins w5 (.slice na cur.length nc) cur from by rw [CL.out]; exact (Bn.out.ext E5.out).kt K5.out (by decide) (by decide) (by decide)); have I5 := Lib.hid ((HRr.out.ext E5.out).kt K5.out (by decide)); have c0 := cell_of_heap R5.out 0; have c1 := cell_of_heap R5.out 1; simp only [List.getElem?_toArray, List.getElem?_cons_zero, List.getElem?_cons_succ] at c0 c1) | (go_at_call 28; have cc := l15Do_any _ room id k i tt cur w5 B5.out HOK.out CAN.out; rw [CL.out] at cc; refine cc.mono ?_; clear cc c0 c1; rintro e w6 ⟨qa, qc, rfl, hqc, hE6, hN6⟩) | fail)
            have el : (ps ++ [(⟨id, (tt : Int)⟩ : Pr)]).length = ps.length + 1 := by simp
            have O6 := Lib.hid (O5.out.ext hE6)
            have N6 := Lib.hid hN6
            have I6 := Lib.hid (I5.out.ext hE6)
            have X6 := Lib.hid (X5.out.trans hE6)
            clear hE6 hN6 ob
            go_roundw
            case rel => exact ⟨ps ++ [⟨id, (tt : Int)⟩], _, pa, pc, qa, qc, by rw [el], rfl, hqc, O6.out, N6.out, (mov_len _ _ _ _ _).trans CL.out, V5.out, by rw [PL.out, P5.out, el, List.append_assoc, show n - ps.length - 1 = n - (ps.length + 1) by omega]; rfl, X6.out, I6.out⟩
            case measure => simp; omega
        · have HP2 := Lib.hid (show gplanL room bs (n : Int) = ps from by rw [HP.out, hpl, show n - ps.length = 0 by omega]; simp [planL])
          have b1 : ¬ (ps.length : Int) < (n : Int) := by omega
          have F := Lib.hid (show OwnTwos 35 wr 0 (.slice sa ps.length sc) (gplanL room bs n) ∧ Ext w wr from by rw [HP2.out]; exact ⟨ownsRow_base ho (Nat.zero_le _), hE⟩)
          clear ho hn hE hok hpl PL HP HP2
          go_wp2_with fail
          go_ret
          exact ⟨_, rfl, F.out.1, F.out.2⟩
    · have hin : inB most 0 20 = false := by unfold inB; exact decide_eq_false hm
      have HP := Lib.hid (gplan_no (most := most) (show (binsB room bs && inB most 0 20) = false by rw [hin, Bool.and_false]))
      clear hm
      go_enter Tryd.func8, Tryd.ntmps8
      go_wp2_with (first | (go_at_call 10; refine cc.mono ?_; clear cc; rintro e w1 ⟨rfl, hE1⟩; have E1 := Lib.hid hE1; clear hE1) | (go_at_call 26; refine (l6In_any _ _ _ _).mono ?_; rintro e w2 ⟨rfl, rfl⟩; rw [hin]) | fail)
      have F := Lib.hid (show OwnTwos 35 w1 0 (.slice (some ⟨w.heap.size, 0, none⟩) 0 0) (gplanL room bs most) ∧ Ext w w1 from ⟨by rw [HP.out]; exact ownsRow_base (O0.out.ext E1.out) (Nat.zero_le _), E0.out.trans E1.out⟩)
      clear HP
      go_ret
      exact ⟨_, rfl, F.out.1, F.out.2⟩

end Go.Proofs.YtjdhiabdcmindaaDoor
