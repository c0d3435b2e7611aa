/- The law FnMovesOf (a tied card): whatever the codes, no two of all possible moves are the same, and each can be done. No condition beyond the card's own: the variable of the error is laid as the program's text lays it. -/
import Derived.Test.YtjdhiabdcmindaaDoorMo
import Derived.Test.YtjdhiabdcmindaaDoorDr14
import Derived.Test.YtjdhiabdcmindaaDoorMe
import Derived.Test.YtjdhiabdcmindaaDoorEr
import Derived.Test.YtjdhiabdcmindaaDoorCode
import Derived.Test.YtjdhiabdcmindaaDoorHead
import Derived.OpenShut
import Derived.ChangeOld
namespace Go.Proofs.YtjdhiabdcmindaaDoor.l62
set_option maxRecDepth 100000
open Go.RowKit Go.ChangeShapes Go.WideShapes Go.ChangeAt

theorem same_false {p q : Pr} (h : p ≠ q) : ((p.a == q.a) && (p.b == q.b)) = false := by
  rw [Bool.eq_false_iff]
  intro e
  rw [Bool.and_eq_true, beq_iff_eq, beq_iff_eq] at e
  exact h (Pr.eq e.1 e.2)

set_option maxHeartbeats 1500000 in
theorem walk (v u : Value) (n m : Nat) (w : World) (h : ArgCode w v n) (k : ArgCode w u m) (ht : ErrW w) :
    Calls Tryd.prog 5 #[v, u] w fun e w' => e = .returned (.bool true) ∧ Ext w w' := by
  have HTW := Lib.hid ht
  clear ht
  have h2 := h
  obtain ⟨_, ac, cc, rfl, -⟩ := h2
  have k2 := k
  obtain ⟨_, am, cm, rfl, -⟩ := k2
  clear k
  by_cases hbig : 1048576 < n
  · go_enter Tryd.func5, Tryd.ntmps5
    go_wp2
    go_ret
    exact ⟨rfl, Ext.refl _⟩
  have hsm : n ≤ 1048576 := by omega
  clear hbig
  by_cases hbig : 1048576 < m
  · go_enter Tryd.func5, Tryd.ntmps5
    go_wp2
    go_ret
    exact ⟨rfl, Ext.refl _⟩
  have hsm2 : m ≤ 1048576 := by omega
  clear hbig
  go_enter Tryd.func5, Tryd.ntmps5
  go_wp2_with fail
  refine (DrawMovesOf_any _ _ _ h).mono ?_
  rintro e w1 ⟨vr, ab, cb, room, bs, rfl, hd, hcap, E1⟩
  have Hd1 := Lib.hid hd
  obtain ⟨ra, rc, hvr, -⟩ := hd.1.open
  subst hvr
  have F1 := Lib.hid E1
  have hf20 : bs.flatten.length ≤ 20 := hd.2.2.2.2
  have hl10 : bs.length ≤ 10 := hd.2.2.2.1
  have PL : (movesOfL room bs).length ≤ 200 := by
    unfold movesOfL
    split
    · have h1 := allM_len room bs bs.flatten
      have h2 := Nat.mul_le_mul hf20 hl10
      omega
    · simp
  clear hd E1 h
  go_wp2_with fail
  refine (MovesOf_all _ _ room bs w1 Hd1.out.1 Hd1.out.2.1 (by omega)).mono ?_
  rintro e w2 ⟨r1, rfl, hO, hE⟩
  have T2 := Lib.hid (hO.done (by unfold lim; omega))
  obtain ⟨a1, c1, rfl⟩ := hO.form
  have F2 := Lib.hid (F1.out.trans hE)
  have Hd2 := Lib.hid (Hd1.out.ext hE)
  clear hO hE Hd1 F1
  go_wp2_with fail
  refine (sMovesOf_any _ _ room bs w2 Hd2.out.1 Hd2.out.2.1 (by omega)).mono ?_
  rintro e w3 ⟨r2, rfl, hO, hE⟩
  have T3 := Lib.hid (hO.done (by unfold lim; omega))
  obtain ⟨a2, c2, rfl⟩ := hO.form
  have T2b := Lib.hid (T2.out.ext hE)
  have F3 := Lib.hid (F2.out.trans hE)
  have Hd3 := Lib.hid (Hd2.out.ext hE)
  clear hO hE Hd2 F2 T2
  go_wp2_with fail
  refine (sameMoves_eq _ _ _ w3 T2b.out T3.out).mono ?_
  rintro e w4 ⟨rfl, hE⟩
  have F4 := Lib.hid (F3.out.trans hE)
  have Hd4 := Lib.hid (Hd3.out.ext hE)
  have P4 := Lib.hid (T2b.out.ext hE)
  have Q4 := Lib.hid (T3.out.ext hE)
  clear hE Hd3 F3 T2b T3
  by_cases h0 : (movesOfL room bs).length = 0
  · have hb : (((movesOfL room bs).length : Int) == 0) = true := by simp [h0]
    clear h0
    generalize movesOfL room bs = ps at *
    go_wp2_with fail
    refine (sameMoves_eq _ _ _ w4 P4.out Q4.out).mono ?_
    rintro e w6 ⟨rfl, hE⟩
    have F6 := Lib.hid (F4.out.trans hE)
    clear hE
    go_wp2_with fail
    go_ret
    exact ⟨rfl, F6.out⟩
  · have hb : (((movesOfL room bs).length : Int) == 0) = false := by simp; simpa using h0
    have hv : binsB room bs = true := by
      cases e : binsB room bs with
      | true => rfl
      | false => exact absurd (by unfold movesOfL; rw [e]; rfl) h0
    have em : movesOfL room bs = allM room bs bs.flatten := by unfold movesOfL; rw [if_pos hv]
    rw [em] at P4 PL hb h0
    rw [em]
    have HV := Lib.hid hv
    have AP := Lib.hid (fun (i j : Nat) (hi : i < (allM room bs bs.flatten).length) (hj : j < (allM room bs bs.flatten).length) e => allM_apart (room := room) (bs := bs) hv hi hj e)
    have CA := Lib.hid (fun p (hp : p ∈ allM room bs bs.flatten) => allM_can hv hp)
    clear em hv Q4
    generalize allM room bs bs.flatten = ps at *
    obtain ⟨k, hk⟩ : ∃ k, k = m % ps.length := ⟨_, rfl⟩
    have hkl : k < ps.length := by have := Nat.mod_lt m (show 0 < ps.length by omega); omega
    have e1 : (m : Int) % (ps.length : Int) = (k : Int) := by rw [hk, Int.natCast_emod]
    have ne0 : ¬ (ps.length : Int) = 0 := by omega
    obtain ⟨kb, ko, rfl, k0, k1⟩ := P4.out.at hkl
    have K0 := Lib.hid k0
    have K1 := Lib.hid k1
    have kk0 : (0 : Int) ≤ (k : Int) := by omega
    have kk1 : (k : Int) < (ps.length : Int) := by omega
    clear h0 hk k0 k1
    have el := move_eql2
    go_wp2_with fail
    go_loopw [10] (fun i wr => ∃ j : Nat, j ≤ ps.length ∧ i = .int .i64 j ∧ Ext w4 wr) (fun i _ => ps.length - (intOf i).toNat)
    case atStart => exact ⟨0, by omega, rfl, Ext.refl _⟩
    case round =>
      obtain ⟨j, hj, rfl, hE⟩ := hrel
      have k0 := hE.cell K0.out
      have k1 := hE.cell K1.out
      by_cases hlt : j < ps.length
      · have j0 : (0 : Int) ≤ (j : Int) := by omega
        have j1 : (j : Int) < (ps.length : Int) := by omega
        by_cases hjk : j = k
        · have bn : ((j : Int) != (k : Int)) = false := by simp [hjk]
          clear hjk
          go_wp2_with fail
          go_region
          go_wp2_with fail
          go_roundw
          case rel => exact ⟨j + 1, by omega, by go_num, hE.drew⟩
          case measure => simp [intOf]; omega
        · have bn : ((j : Int) != (k : Int)) = true := by simp; omega
          have bs' : ((ps[j].a == ps[k].a) && (ps[j].b == ps[k].b)) = false := same_false fun e => hjk (AP.out j k hlt hkl e)
          obtain ⟨jb, jo, hja, d0, d1⟩ := P4.out.at hlt
          simp only [Option.some.injEq, Addr.mk.injEq, and_true] at hja
          obtain ⟨rfl, rfl⟩ := hja
          have d0' := hE.cell d0
          have d1' := hE.cell d1
          clear hjk d0 d1
          go_wp2_with fail
          go_region
          go_wp2_with fail
          go_roundw
          case rel => exact ⟨j + 1, by omega, by go_num, hE.drew⟩
          case measure => simp [intOf]; omega
      · obtain ⟨k', i', tt, can, hbt⟩ := CA.out ps[k] (List.getElem_mem hkl)
        have CAN := Lib.hid can
        have HBT := Lib.hid hbt
        have F5 := Lib.hid (F4.out.trans hE)
        have Hd5 := Lib.hid (Hd4.out.ext hE)
        have nj : ¬ (j : Int) < (ps.length : Int) := by omega
        have TW5 := Lib.hid (HTW.out.ext F5.out)
        clear can hbt el
        go_wp2_with fail
        rw [HBT.out]
        refine (MoveDo_ok _ room bs ps[k].a k' i' tt cb ab wr Hd5.out.1 Hd5.out.2.1 TW5.out HV.out CAN.out.hk CAN.out.hto CAN.out.ne CAN.out.hi CAN.out.wh CAN.out.fd CAN.out.fit).mono ?_
        rintro e w7 ⟨xa, xc, rfl, hE7⟩
        have F7 := Lib.hid (F5.out.trans hE7)
        clear hE7
        go_wp2_with fail
        go_ret
        exact ⟨rfl, F7.out⟩

theorem own : ownKnob Tryd.prog.godebug = none := by kernel_rfl
theorem laidOut : laidOutB Tryd.prog = true := by kernel_rfl

set_option maxRecDepth 100000 in
theorem lifted (os : Os) (started : os.Started) (H : Type) (enc : TypeId × Value → H) :
    ReturnsInHanded {} Tryd.checked os 5 .any (fun w args => (Rows.fnMovesOfSpec.pre enc Tryd.prog Tryd.f5 [] false w args ∧ laidMetH Tryd.prog laidE w) ∧ sizedMet enc Tryd.prog Tryd.f5 (OpenSpec.ofChange Rows.fnMovesOfSpec) false w args) (Rows.fnMovesOfSpec.post enc Tryd.prog Tryd.f5 false true false false) := by
  refine returnsInHanded_of_change_and (C := Tryd.checked) (X := fun w _ => laidMetH Tryd.prog laidE w) (fun _ _ _ hh h => h.of_heap hh) own started (by kernel_rfl) Tryd.func5
    (ChangeSpec.witness_shaped (enc := enc) (C := Tryd.checked) (os := os) (X := fun w _ => laidMetH Tryd.prog laidE w) false (World.doorLaid Tryd.prog 28 os) #[.slice none 0 0, .slice none 0 0] 8 rfl (World.shaped_of_RefB (by kernel_rfl) (by kernel_rfl)) (by kernel_rfl) (by kernel_rfl) (by kernel_rfl) (door_err os _)) ?_
  intro W base args ds gs before hval0 hW _ _ hL _
  have hval : ∀ (j : Nat) t v, Tryd.f5.params[j]? = some t → args[j]? = some v → Value.okWide Tryd.prog W .any base t v := hval0
  have hW' := hW
  obtain ⟨p, q, hA0, hV, rfl, hfz, hnd⟩ := hW
  have hA : DataW.TrodAll enc Tryd.prog W 0 (fun _ => true) true Tryd.f5.params.toList args.toList ds p := hA0
  rw [Tryd.params5] at hA hval
  obtain ⟨v0, vs0, d0, ds0, p0, q0, hargs, rfl, rfl, h0, r0⟩ := trodAll_cons hA
  obtain ⟨v1, vs1, d1, ds1, p1, q1, rfl, rfl, rfl, h1, r1⟩ := trodAll_cons r0
  obtain ⟨rfl, rfl, rfl⟩ := trodAll_nil r1
  obtain rfl : args = #[v0, v1] := by cases args; simp_all
  obtain ⟨xv, hvar, hix⟩ := var_err hL
  obtain ⟨rfl, rfl⟩ := vars_err hV hvar hix
  have lt0 : ∀ x ∈ p0, x.block < W.heap.size := by obtain ⟨m, hm⟩ := h0; exact DataW.trod_lt m _ _ _ hm
  have lt1 : ∀ x ∈ p1, x.block < W.heap.size := by obtain ⟨m, hm⟩ := h1; exact DataW.trod_lt m _ _ _ hm
  obtain ⟨x0, e0⟩ := argCode_of h0 (okWide_slice Tryd.underlying22 (hval 0 22 v0 rfl rfl))
  obtain ⟨x1, e1⟩ := argCode_of h1 (okWide_slice Tryd.underlying22 (hval 1 22 v1 rfl rfl))
  clear hA0 hval0
  refine (walk v0 v1 x0 x1 W e0 e1 (met_err hL)).mono fun e W' ⟨he, bel⟩ => ?_
  subst he
  exact ⟨_, rfl, _, _, _, [], _, [.cell 0 0], hW', trodAll_mk1 (shut_bool Tryd.underlying4 _), (trodAll_cons_mk (Below.trod laidOut (by kernel_rfl) (of_decide_eq_true (by kernel_rfl)) h0 bel lt0) (trodAll_cons_mk (Below.trod laidOut (by kernel_rfl) (of_decide_eq_true (by kernel_rfl)) h1 bel lt1) trodAll_mk0)), vars_mk (var_ext hvar bel) hix, Below.frame bel _, fun h => by cases h⟩

theorem closed : joinedFacts Tryd.prog 5 Tryd.f5 Rows.fnMovesOfSpec Rows.fnMovesOfRow = true := by
  unfold joinedFacts
  rw [may_enter, lifts_final, make_cut]
  kernel_rfl

theorem row_holds : Rows.FnMovesOfSaid :=
  OpenClaim.holds_of_wide 5 Tryd.f5 rfl rfl rfl rfl rfl rfl rfl ⟨rfl, rfl, rfl, rfl, rfl⟩ rfl rfl rfl rfl rfl (by kernel_rfl) Tryd.func5 closed
    (of_decide_eq_true (by kernel_rfl)) (by unfold Func.isWrapper; first | (rw [if_pos (by decide +kernel)]; kernel_rfl) | (rw [if_neg (by decide +kernel)]; exact ⟨rfl, rfl⟩))
    (fun os started H enc _ => lifted os started H enc)

theorem proved : Rows.FnMovesOfCardSaid :=
  Claim7.holds_tied_plain_at .later [] [.sentinel] true Rows.fnMovesOfCard.stood.harness Rows.fnMovesOfCard.stood.looks
    row_holds (fun _ h => by cases h) (by kernel_rfl) (fun _ h => by cases h) fnMovesOf_row_tie rfl ⟨rfl, rfl⟩ (by kernel_rfl) rfl
    (fun f fn hf hfn => by
      obtain rfl : f = 5 := Option.some.inj ((show Tryd.prog.funcNamed "loop.example/vectorpacker/laws.FnMovesOf" = some 5 by kernel_rfl).symm.trans hf) |>.symm
      obtain rfl : fn = Tryd.f5 := (Option.some.inj (Tryd.func5.symm.trans hfn)).symm
      exact ⟨by kernel_rfl, fun j t ht => by
        rw [Tryd.params5] at ht
        have hm : t ∈ [22, 22] := by simpa using Array.mem_of_getElem? ht
        have hall : ([22, 22].all fun u => !Tryd.prog.wantsStandIn u) = true := by kernel_rfl
        exact (show Tryd.prog.wantsStandIn t = false by simpa using List.all_eq_true.1 hall t hm)⟩)
    (by kernel_rfl)

end Go.Proofs.YtjdhiabdcmindaaDoor.l62
