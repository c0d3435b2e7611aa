/- The plan, the program. No condition. -/
import Derived.Test.YtjdhiabdcmindaaDoorPl
import Derived.Test.YtjdhiabdcmindaaDoorMv3
import Derived.Test.YtjdhiabdcmindaaDoorDr14
namespace Go.Proofs.YtjdhiabdcmindaaDoor
set_option maxRecDepth 100000
open Go.RowKit

theorem Ints.km {w w' : World} {v : Value} {xs : List Int} (h : Ints w v xs) (k : KM w w') : Ints w' v xs := by
  obtain ⟨hl, a, cap, hv, hr⟩ := h
  refine ⟨hl, a, cap, hv, ?_⟩
  rcases hr with h | ⟨b, off, cs, ha, hb, hc⟩
  · exact .inl h
  · exact .inr ⟨b, off, cs, ha, (k.2 _ _ _ _ hb (by decide) (by decide)).trans hb, hc⟩
theorem Move.lit1 (w : World) (x y : Int) (c : Nat) (e : TypeId) : Twos e (w.alloc (.cells #[.int .i64 x, .int .i64 y] e)) (.slice (some ⟨w.heap.size, 0, none⟩) 1 c) [⟨x, y⟩] :=
  ⟨by unfold lim; simp, _, c, rfl, Row.lit w #[.int .i64 x, .int .i64 y] e⟩
section
variable {w : World} {ops : Array Oper} {rest : List Oper} {o : Oper} {a : Act} {Q : Exit → Act → World → Prop}
theorem app_mvs (hgd : o.guard = none) (s x : Operand) (ho : o.op = .call { callee := .builtin .append, args := #[s, x], argTypes := #[27, 27] }) (B : Nat) (v : Value) (ps : List Pr) (hs : a.eval s = v) (hown : OwnTwos 35 w B v ps) (hB : B ≤ w.heap.size)
    (src : Option Addr) (m c : Nat) (qs : List Pr) (hx : a.eval x = .slice src m c) (hsrc : Twos 35 w (.slice src m c) qs) (hl : ps.length + qs.length ≤ lim)
    (h : ∀ v' w', OwnTwos 35 w' B v' (ps ++ qs) → KT 35 w w' → Below B w w' → wpList Tryd.prog ops Q rest (a.put o.dst v') w') : wpList Tryd.prog ops Q (o :: rest) a w := by
  obtain ⟨hql, a', c', hv, hr⟩ := hsrc
  simp only [Value.slice.injEq] at hv
  obtain ⟨rfl, rfl, rfl⟩ := hv
  unfold lim at hl
  have hx2 := cellsP_len qs
  exact wpList_plain hgd fun _ hK => wp_app elt_move s x ho B v ps.length (cellsP ps) hs hown hB src qs.length c (cellsP qs) hx (by omega) _ hr (cellsP_one qs) (by omega) (by unfold maxLen; omega)
    (fun v' w' h1 h2 h3 => hK _ _ (h v' w' (by unfold OwnTwos; rw [cellsP_app, List.length_append]; exact h1) h2 h3))
end
theorem plan_step {room : List Int} {m : Nat} {cur : List (List T)} {id : Int} {tt : Nat} {cur' : List (List T)} (hm : 0 < m) (h : nextO room cur = some (id, tt)) (hs : stepL cur id tt = cur') : planL room m cur = ⟨id, (tt : Int)⟩ :: planL room (m - 1) cur' := by
  obtain ⟨n, rfl⟩ : ∃ n, m = n + 1 := ⟨m - 1, by omega⟩
  rw [planL, h, ← hs]
  rfl
theorem plan_stop {room : List Int} {m : Nat} {cur : List (List T)} (h : nextO room cur = none) : planL room m cur = [] := by
  cases m with
  | zero => rfl
  | succ n => rw [planL, h]

set_option maxHeartbeats 4000000 in
theorem plan_any (v : Value) (room : List Int) (bs : List (List T)) (most B c : Nat) (a : Option Addr) (w : World) (hr : Ints w v room) (hb : Nest w B B (.slice a bs.length c) bs) (hB : B ≤ w.heap.size) (hc : bs.length ≤ c) (hv : binsB room bs = true) (hm : most ≤ 20) :
    Calls Tryd.prog 24 #[v, .slice a bs.length c, .int .i64 (most : Int)] w fun e w' => ∃ r, e = .returned r ∧ OwnTwos 35 w' w.heap.size r (planL room most bs) ∧ Below B w w' := by
  obtain ⟨ra, rc, rfl, hr⟩ := hr.open
  have Hr := Lib.hid hr
  have Hb := Lib.hid hb
  have HV := Lib.hid hv
  have hbl14 : bs.length ≤ 14 := (binsB_iff.1 hv).2.1
  clear hr hb hv
  go_enter Tryd.func24, Tryd.ntmps24
  go_wp2_with fail
  generalize hn0 : bs.length = n0 at *
  go_loopw [7] (fun s wr => ∃ (ps : List Pr) (cur : List (List T)) (sa : Option Addr) (sc : Nat), s = .slice sa ps.length sc ∧ OwnTwos 35 wr w.heap.size (.slice sa ps.length sc) ps ∧ Nest wr B B (.slice a n0 c) cur ∧ cur.length = n0 ∧ binsB room cur = true ∧ planL room most bs = ps ++ planL room (most - ps.length) cur ∧ Below B w wr ∧ Ints wr (.slice ra room.length rc) room) (fun s _ => most - (match s with | .slice _ n _ => n | _ => 0))
  case atStart => exact ⟨[], bs, _, _, rfl, OwnTwos.lit0 _ w _ (Nat.le_refl _), Hb.out.ext ((Ext.refl w).alloc _), hn0, HV.out, rfl, Below.mono ((Ext.refl w).alloc _) hB, Hr.out.ext ((Ext.refl w).alloc _)⟩
  case round =>
    clear Hb HV hn0
    obtain ⟨ps, cur, sa, sc, rfl, ho, hn, hcl, hok, hpl, hbw, hkm⟩ := hrel
    have PL := Lib.hid hpl
    by_cases hlt : ps.length < most
    · have b1 : (ps.length : Int) < (most : Int) := by omega
      have O0 := Lib.hid ho
      have N0 := Lib.hid hn
      have BW := Lib.hid hbw
      have okT := (binsB_iff.1 hok).1
      have R3 := Lib.hid okT.1.1.1
      have GB := Lib.hid (show GoodB cur from fun b hb => Good.flat okT.good hb)
      have hf14 : cur.flatten.length ≤ 14 := okT.2.1
      have hlb : ∀ b ∈ cur, b.length ≤ 1000 := fun b hb => by have := (sub_flat hb).length_le; omega
      have HLB := Lib.hid hlb
      have HOK := Lib.hid hok
      have Bn := Lib.hid (show Bins wr (.slice a cur.length c) cur from by have h := hn.done (by unfold lim; omega) (fun b hb => by have := hlb b hb; unfold lim; omega); rw [hcl]; exact h)
      have HRr := Lib.hid hkm
      have CL := Lib.hid hcl
      have CC := Lib.hid (nextMove_any _ a c room cur wr HRr.out Bn.out (by omega) R3.out GB.out (by omega))
      have szr := hbw.size
      clear ho hn hbw hkm okT hlb hok hcl hpl
      go_wp2_with fail
      have cc := CC.out
      rw [CL.out] at cc
      cases hg : nextO room cur with
      | none =>
        have HP := Lib.hid (show planL room most bs = ps from by rw [PL.out, plan_stop hg, List.append_nil])
        rw [hg] at cc
        refine cc.mono ?_
        clear cc hg CC
        rintro e w2 ⟨rfl, hE⟩
        have E2 := Lib.hid (hE.alloc (.cells #[.int .i64 0, .int .i64 0] 35))
        have F := Lib.hid (show OwnTwos 35 (w2.alloc (.cells #[.int .i64 0, .int .i64 0] 35)) w.heap.size (.slice sa ps.length sc) (planL room most bs) ∧ Below B w (w2.alloc (.cells #[.int .i64 0, .int .i64 0] 35)) from by rw [HP.out]; exact ⟨O0.out.ext E2.out, Below.trans BW.out (Below.mono E2.out (Nat.le_trans hB szr))⟩)
        clear hE E2 HP
        simp only [nextV]
        go_wp2_with fail
        go_ret
        exact ⟨_, rfl, F.out.1, F.out.2⟩
      | some p =>
        obtain ⟨id, tt⟩ := p
        obtain ⟨k, i, -, can⟩ := next_can HOK.out hg
        have CAN := Lib.hid can
        have HG := Lib.hid hg
        rw [hg] at cc
        refine cc.mono ?_
        clear cc hg can CC
        rintro e w2 ⟨rfl, hE⟩
        have E2 := Lib.hid (hE.alloc (.cells #[.int .i64 id, .int .i64 (tt : Int)] 35))
        have R2 := Lib.hid (heap_alloc_new w2 (.cells #[.int .i64 id, .int .i64 (tt : Int)] 35))
        clear hE
        simp only [nextV]
        go_wp2_with fail
        generalize w2.alloc (.cells #[.int .i64 id, .int .i64 (tt : Int)] 35) = W2 at *
        have c0 := cell_of_heap R2.out 0
        have c1 := cell_of_heap R2.out 1
        simp only [List.getElem?_toArray, List.getElem?_cons_zero, List.getElem?_cons_succ] at c0 c1
        have sz2 : wr.heap.size ≤ W2.heap.size := E2.out.le
        have cc := move_any _ room cur id k i tt B c a W2 (HRr.out.ext E2.out) (by rw [CL.out]; exact N0.out.ext E2.out) (by omega) R3.out GB.out (by have := CL.out; omega) HLB.out CAN.out.hk CAN.out.hto CAN.out.ne CAN.out.hi CAN.out.wh CAN.out.fd CAN.out.fit
        rw [CL.out] at cc
        go_wp2_with (first | (go_at_call 36; refine cc.mono ?_; clear cc c0 c1; rintro e w3 ⟨rfl, hB3, hN3, hK3⟩; have R4 := Lib.hid ((hK3.2 _ _ _ _ R2.out (by decide) (by decide)).trans R2.out); have c0 := cell_of_heap R4.out 0; have c1 := cell_of_heap R4.out 1; simp only [List.getElem?_toArray, List.getElem?_cons_zero, List.getElem?_cons_succ] at c0 c1; have K3 := Lib.hid hK3; have B3 := Lib.hid hB3; have N3 := Lib.hid hN3; have O3 := Lib.hid (show OwnTwos 35 w3 w.heap.size (.slice sa ps.length sc) ps from ownsRow_km (O0.out.ext E2.out) hK3 (by decide) (by decide)); have sz3 : W2.heap.size ≤ w3.heap.size := hK3.1; clear hK3 hB3 hN3) | (at_builtin; refine app_mvs rfl _ _ rfl w.heap.size _ ps rfl (O3.out.ext ((Ext.refl w3).alloc _)) (by simp; omega) _ _ _ [⟨id, (tt : Int)⟩] rfl (Move.lit1 w3 id (tt : Int) 1 _) (by unfold lim; simp; omega) ?_; intro v' w5 hown hkt hbl))
        obtain ⟨pa, pc, rfl⟩ := hown.form
        have el : (ps ++ [(⟨id, (tt : Int)⟩ : Pr)]).length = ps.length + 1 := by simp
        have E5 := Lib.hid ((Ext.refl w3).alloc (.cells #[.int .i64 id, .int .i64 (tt : Int)] 35))
        have N5 := Lib.hid ((N3.out.ext E5.out).kt hkt (by decide) (by decide) (by decide))
        have B5 := Lib.hid (show Below B w w5 from Below.trans (Below.trans BW.out (Below.mono E2.out (by omega))) (Below.trans B3.out (Below.trans (Below.mono E5.out (by omega)) (Below.mono hbl hB))))
        have I5 := Lib.hid ((((HRr.out.ext E2.out).km K3.out).ext E5.out).kt hkt (by decide))
        have O5 := Lib.hid hown
        have P5 := Lib.hid (plan_step (m := most - ps.length) (by omega) HG.out (step_can CAN.out))
        have V5 := Lib.hid (mov_ok HOK.out CAN.out)
        clear hown hkt hbl c0 c1
        go_wp2_with fail
        go_roundw
        case rel => exact ⟨_, _, _, _, rfl, O5.out, N5.out, (mov_len _ _ _ _ _).trans CL.out, V5.out, by rw [PL.out, P5.out, el, List.append_assoc, show most - ps.length - 1 = most - (ps.length + 1) by omega]; rfl, B5.out, I5.out⟩
        case measure => simp; omega
    · have HP := Lib.hid (show planL room most bs = ps from by rw [hpl, show most - ps.length = 0 by omega]; simp [planL])
      have b1 : ¬ (ps.length : Int) < (most : Int) := by omega
      have F := Lib.hid (show OwnTwos 35 wr w.heap.size (.slice sa ps.length sc) (planL room most bs) ∧ Below B w wr from by rw [HP.out]; exact ⟨ho, hbw⟩)
      clear ho hn hbw hkm hok hpl PL HP
      go_wp2_with fail
      go_ret
      exact ⟨_, rfl, F.out.1, F.out.2⟩

theorem gplan_no {room : List Int} {bs : List (List T)} {most : Int} (h : (binsB room bs && inB most 0 20) = false) : gplanL room bs most = [] := by unfold gplanL; rw [h]; rfl
theorem gplan_yes {room : List Int} {bs : List (List T)} {n : Nat} (h : binsB room bs = true) (hn : n ≤ 20) : gplanL room bs (n : Int) = planL room n bs := by
  unfold gplanL
  rw [h, inB_true (by omega) (by omega)]
  rfl
theorem OwnTwos.formc' {e : TypeId} {w : World} {B : Nat} {v : Value} {ps : List Pr} (h : OwnTwos e w B v ps) : ∃ a c, v = .slice a ps.length c ∧ ps.length ≤ c := by
  obtain ⟨_, h1⟩ := h
  rcases h1 with ⟨rfl, hn⟩ | ⟨g, cap, cur, rfl, _, _, r, _⟩
  · exact ⟨none, 0, by rw [hn], by omega⟩
  · exact ⟨_, _, rfl, r⟩
theorem OwnTwos.none0 (e : TypeId) (w : World) : OwnTwos e w 0 (.slice none 0 0) [] := World.ownsRow_nil _ _ _ _

set_option maxHeartbeats 2000000 in
theorem GatherPlan_any (v : Value) (room : List Int) (bs : List (List T)) (most : Int) (c : Nat) (a : Option Addr) (w : World) (hr : Ints w v room) (h : Bins w (.slice a bs.length c) bs) (hf : bs.flatten.length ≤ 2097152) :
    Calls Tryd.prog 7 #[v, .slice a bs.length c, .int .i64 most] w fun e w' => ∃ r, e = .returned r ∧ OwnTwos 35 w' 0 r (gplanL room bs most) ∧ Ext w w' := by
  have Hr := Lib.hid hr
  have Hb := Lib.hid h
  have BV := Lib.hid (BinsValid_any v _ room bs w hr h hf)
  clear hr h
  cases hv : binsB room bs with
  | false =>
    have cc := BV.out
    rw [hv] at cc
    have HP := Lib.hid (gplan_no (most := most) (show (binsB room bs && inB most 0 20) = false by rw [hv]; rfl))
    clear hv
    go_enter Tryd.func7, Tryd.ntmps7
    go_wp2_with (go_at_call 22; refine cc.mono ?_; clear cc; rintro e w1 ⟨rfl, hE1⟩)
    have F := Lib.hid (show OwnTwos 35 w1 0 (.slice none 0 0) (gplanL room bs most) ∧ Ext w w1 from ⟨by rw [HP.out]; exact OwnTwos.none0 _ _, hE1⟩)
    clear hE1 HP
    go_ret
    exact ⟨_, rfl, F.out.1, F.out.2⟩
  | true =>
    have HV := Lib.hid hv
    have cc := BV.out
    rw [hv] at cc
    clear hv BV
    by_cases hm : 0 ≤ most ∧ most ≤ 20
    · obtain ⟨n, rfl⟩ : ∃ n : Nat, most = (n : Int) := ⟨most.toNat, by omega⟩
      have hn20 : n ≤ 20 := by omega
      have hin : inB (n : Int) 0 20 = true := inB_true (by omega) (by omega)
      have HP := Lib.hid (gplan_yes HV.out hn20)
      have okT := (binsB_iff.1 HV.out).1
      have G3 := Lib.hid (show ∀ b ∈ bs, ∀ t ∈ b, t.need.length = 3 from fun b hb t ht => ((show GoodB bs from fun b hb => Good.flat okT.good hb) b hb t ht).1)
      clear okT hm
      go_enter Tryd.func7, Tryd.ntmps7
      go_wp2_with (first | (go_at_call 22; refine cc.mono ?_; clear cc; rintro e w1 ⟨rfl, hE1⟩; have E1 := Lib.hid hE1; clear hE1) | (go_at_call 23; refine (within_any _ _ _ _).mono ?_; rintro e w2 ⟨rfl, rfl⟩; rw [hin]) | (go_at_call 25; refine (copyBins_any _ bs w1 (Hb.out.ext E1.out) G3.out).mono ?_; rintro e w2 ⟨oa, oc, rfl, hE2, hN2⟩; have E2 := Lib.hid hE2; have N2 := Lib.hid (hN2.nest (fun b hb t ht => by rw [G3.out b hb t ht]; unfold lim; omega)); clear hE2 hN2) | (go_at_call 24; obtain ⟨na, nc, nv, hnc⟩ := nest_formc N2.out; simp only [Value.slice.injEq, true_and] at nv; obtain ⟨rfl, rfl⟩ := nv; refine (plan_any _ room bs n w1.heap.size oc oa w2 (Hr.out.ext (E1.out.trans E2.out)) N2.out E2.out.le hnc HV.out hn20).mono ?_; rintro e w3 ⟨r, rfl, hO3, hB3⟩) | fail)
      have F := Lib.hid (show OwnTwos 35 w3 0 r (gplanL room bs n) ∧ Ext w w3 from ⟨by rw [HP.out]; exact ownsRow_base hO3 (Nat.zero_le _), Below.trans E1.out (Below.trans (Below.mono E2.out E1.out.le) (Below.mono hB3 E1.out.le))⟩)
      clear hO3 hB3 HP
      go_ret
      exact ⟨_, rfl, F.out.1, F.out.2⟩
    · have hin : inB most 0 20 = false := by unfold inB; exact decide_eq_false hm
      have HP := Lib.hid (gplan_no (most := most) (show (binsB room bs && inB most 0 20) = false by rw [hin, Bool.and_false]))
      clear hm
      go_enter Tryd.func7, Tryd.ntmps7
      go_wp2_with (first | (go_at_call 22; refine cc.mono ?_; clear cc; rintro e w1 ⟨rfl, hE1⟩; have E1 := Lib.hid hE1; clear hE1) | (go_at_call 23; refine (within_any _ _ _ _).mono ?_; rintro e w2 ⟨rfl, rfl⟩; rw [hin]) | fail)
      have F := Lib.hid (show OwnTwos 35 w1 0 (.slice none 0 0) (gplanL room bs most) ∧ Ext w w1 from ⟨by rw [HP.out]; exact OwnTwos.none0 _ _, E1.out⟩)
      clear HP
      go_ret
      exact ⟨_, rfl, F.out.1, F.out.2⟩

end Go.Proofs.YtjdhiabdcmindaaDoor
