/- The law FnNext (a tied card): whatever the code, the next move takes a task to an earlier node, and it can be done. No condition beyond the card's own: the variable of the error is laid as the program's text lays it. -/
import Derived.Test.YtjdhiabdcmindaaDoorDr14
import Derived.Test.YtjdhiabdcmindaaDoorPm
import Derived.Test.YtjdhiabdcmindaaDoorMe
import Derived.Test.YtjdhiabdcmindaaDoorEr
import Derived.Test.YtjdhiabdcmindaaDoorMv3
import Derived.Test.YtjdhiabdcmindaaDoorCode
import Derived.Test.YtjdhiabdcmindaaDoorS9
import Derived.Test.YtjdhiabdcmindaaDoorHead
import Derived.OpenShut
import Derived.ChangeOld
namespace Go.Proofs.YtjdhiabdcmindaaDoor.l60
set_option maxRecDepth 100000
open Go.RowKit Go.ChangeShapes Go.WideShapes Go.ChangeAt

theorem part0 (x y : Int) (w : World) : (part 3 #[.int .i64 x, .int .i64 y] 0).run Tryd.prog w = .ok (.int .i64 x) w := by kernel_rfl
theorem part1 (x y : Int) (w : World) : (part 3 #[.int .i64 x, .int .i64 y] 1).run Tryd.prog w = .ok (.int .i64 y) w := by kernel_rfl
theorem eqIn_int (d : Nat) (x : Int) (w : World) : (Op.equalIn (d + 1) 3 (.int .i64 x) (.int .i64 x)).run Tryd.prog w = .ok true w := by
  simp [Op.equalIn, run_underlying Tryd.underlying3]
theorem eqIn_move (d : Nat) (x y : Int) (w : World) : (Op.equalIn (d + 2) 35 (.agg #[.int .i64 x, .int .i64 y]) (.agg #[.int .i64 x, .int .i64 y])).run Tryd.prog w = .ok true w := by
  rw [Op.equalIn]
  simp [run_underlying Tryd.underlying35, part0, part1, eqIn_int]
theorem move_neq (x y : Int) (w : World) : (binOp .neq 35 (.agg #[.int .i64 x, .int .i64 y]) (.agg #[.int .i64 x, .int .i64 y])).run Tryd.prog w = .ok (.bool false) w := by
  simp [binOp, Op.equal, Op.maxDepth, show (10000 : Nat) = 9998 + 2 from rfl, eqIn_move]
theorem move_eql (x y : Int) (w : World) : (binOp .eql 35 (.agg #[.int .i64 x, .int .i64 y]) (.agg #[.int .i64 x, .int .i64 y])).run Tryd.prog w = .ok (.bool true) w := by
  simp [binOp, Op.equal, Op.maxDepth, show (10000 : Nat) = 9998 + 2 from rfl, eqIn_move]

set_option maxHeartbeats 4000000 in
theorem walk (v : Value) (n : Nat) (w : World) (h : ArgCode w v n) (ht : ErrW w) :
    Calls Tryd.prog 4 #[v] w fun e w' => e = .returned (.bool true) ∧ Ext w w' := by
  have HTW := Lib.hid ht
  clear ht
  have h2 := h
  obtain ⟨_, ac, cc, rfl, -⟩ := h2
  by_cases hbig : 1048576 < n
  · go_enter Tryd.func4, Tryd.ntmps4
    go_wp2
    go_ret
    exact ⟨rfl, Ext.refl _⟩
  have hsm : n ≤ 1048576 := by omega
  clear hbig
  go_enter Tryd.func4, Tryd.ntmps4
  go_wp2_with fail
  refine (DrawGatherNext_any _ _ _ h).mono ?_
  rintro e w1 ⟨vr, ab, cb, room, bs, rfl, hd, hcap, E1⟩
  have Hd1 := Lib.hid hd
  obtain ⟨ra, rc, hvr, -⟩ := hd.1.open
  subst hvr
  have F1 := Lib.hid E1
  have hl10 : bs.length ≤ 10 := hd.2.2.2.1
  have hf20 : bs.flatten.length ≤ 20 := hd.2.2.2.2
  clear hd E1 h
  have ne := move_neq
  have el := move_eql
  go_wp2_with fail
  have cc := GatherNext_any _ ab cb room bs w1 Hd1.out.1 Hd1.out.2.1 hcap (by omega)
  cases hg : gatherO room bs with
  | none =>
    have HG := Lib.hid hg
    rw [hg] at cc
    clear hg
    refine cc.mono ?_
    clear cc
    rintro e w2 ⟨rfl, hE⟩
    have F2 := Lib.hid (F1.out.trans (hE.alloc (.cells #[.int .i64 0, .int .i64 0] 35)))
    have Hd2 := Lib.hid (Hd1.out.ext (hE.alloc (.cells #[.int .i64 0, .int .i64 0] 35)))
    have R2 := Lib.hid (heap_alloc_new w2 (.cells #[.int .i64 0, .int .i64 0] 35))
    clear hE Hd1 F1
    simp only [nextV]
    go_wp2_with fail
    generalize w2.alloc (.cells #[.int .i64 0, .int .i64 0] 35) = W2 at *
    have cc := sGatherNext_any _ ab cb room bs W2 Hd2.out.1 Hd2.out.2.1 hcap (by omega)
    rw [HG.out] at cc
    refine cc.mono ?_
    clear cc
    rintro e w3 ⟨rfl, hE⟩
    have F3 := Lib.hid (F2.out.trans (hE.alloc (.cells #[.int .i64 0, .int .i64 0] 35)))
    have E3 := hE.alloc (.cells #[.int .i64 0, .int .i64 0] 35)
    have RX := (E3.block (lt_of_heap R2.out)).trans R2.out
    have c0 := cell_of_heap RX 0
    have c1 := cell_of_heap RX 1
    simp only [List.getElem?_toArray, List.getElem?_cons_zero, List.getElem?_cons_succ] at c0 c1
    clear hE F2 Hd2 RX E3 R2
    simp only [nextV]
    go_wp2_with fail
    go_ret
    exact ⟨rfl, F3.out⟩
  | some p =>
    obtain ⟨id, tt⟩ := p
    have HG := Lib.hid hg
    have hb : binsB room bs = true := by
      unfold gatherO at hg
      split at hg
      · assumption
      · cases hg
    have HB := Lib.hid hb
    obtain ⟨k, i, hlt, can⟩ := next_can hb (by unfold gatherO at hg; rw [if_pos hb] at hg; exact hg)
    have CAN := Lib.hid can
    rw [hg] at cc
    clear hg hb can
    refine cc.mono ?_
    clear cc
    rintro e w2 ⟨rfl, hE⟩
    have F2 := Lib.hid (F1.out.trans (hE.alloc (.cells #[.int .i64 id, .int .i64 (tt : Int)] 35)))
    have Hd2 := Lib.hid (Hd1.out.ext (hE.alloc (.cells #[.int .i64 id, .int .i64 (tt : Int)] 35)))
    have R2 := Lib.hid (heap_alloc_new w2 (.cells #[.int .i64 id, .int .i64 (tt : Int)] 35))
    clear hE Hd1 F1
    simp only [nextV]
    go_wp2_with fail
    generalize w2.alloc (.cells #[.int .i64 id, .int .i64 (tt : Int)] 35) = W2 at *
    have cc := sGatherNext_any _ ab cb room bs W2 Hd2.out.1 Hd2.out.2.1 hcap (by omega)
    rw [HG.out] at cc
    refine cc.mono ?_
    clear cc
    rintro e w3 ⟨rfl, hE⟩
    have E3 := hE.alloc (.cells #[.int .i64 id, .int .i64 (tt : Int)] 35)
    have F3 := Lib.hid (F2.out.trans E3)
    have Hd3 := Lib.hid (Hd2.out.ext E3)
    have R3 := Lib.hid ((E3.block (lt_of_heap R2.out)).trans R2.out)
    have c0 := cell_of_heap R3.out 0
    have c1 := cell_of_heap R3.out 1
    simp only [List.getElem?_toArray, List.getElem?_cons_zero, List.getElem?_cons_succ] at c0 c1
    clear hE F2 Hd2 E3 R2 HG
    simp only [nextV]
    go_wp2_with fail
    generalize w3.alloc (.cells #[.int .i64 id, .int .i64 (tt : Int)] 35) = W3 at *
    have cc := BinsWhere_any _ _ room bs id W3 Hd3.out.1 Hd3.out.2.1 (by omega)
    have hw : whereI room bs id = (k : Int) := by unfold whereI; rw [if_pos HB.out, CAN.out.wh]; rfl
    rw [hw] at cc
    refine cc.mono ?_
    clear cc hw c0 c1
    rintro e w4 ⟨rfl, hE⟩
    have F4 := Lib.hid (F3.out.trans hE)
    have Hd4 := Lib.hid (Hd3.out.ext hE)
    have R4 := Lib.hid ((hE.block (lt_of_heap R3.out)).trans R3.out)
    have c0 := cell_of_heap R4.out 0
    have c1 := cell_of_heap R4.out 1
    simp only [List.getElem?_toArray, List.getElem?_cons_zero, List.getElem?_cons_succ] at c0 c1
    clear hE F3 Hd3 R3
    go_wp2_with fail
    refine (MoveDo_ok _ room bs id k i tt cb ab w4 Hd4.out.1 Hd4.out.2.1 (HTW.out.ext F4.out) HB.out CAN.out.hk CAN.out.hto CAN.out.ne CAN.out.hi CAN.out.wh CAN.out.fd CAN.out.fit).mono ?_
    clear c0 c1
    rintro e w5 ⟨xa, xc, rfl, hE⟩
    have F5 := Lib.hid (F4.out.trans hE)
    have R5 := (hE.block (lt_of_heap R4.out)).trans R4.out
    have c0 := cell_of_heap R5 0
    have c1 := cell_of_heap R5 1
    simp only [List.getElem?_toArray, List.getElem?_cons_zero, List.getElem?_cons_succ] at c0 c1
    have hd1 : decide ((tt : Int) < (k : Int)) = true := decide_eq_true (by omega)
    have hd2 : (tt : Int) < (k : Int) := by omega
    clear hE F4 Hd4 R4 R5 CAN HB HTW
    go_wp2_with fail
    go_ret
    exact ⟨rfl, F5.out⟩

theorem own : ownKnob Tryd.prog.godebug = none := by kernel_rfl
theorem laidOut : laidOutB Tryd.prog = true := by kernel_rfl

set_option maxRecDepth 100000 in
theorem lifted (os : Os) (started : os.Started) (H : Type) (enc : TypeId × Value → H) :
    ReturnsInHanded {} Tryd.checked os 4 .any (fun w args => (Rows.fnNextSpec.pre enc Tryd.prog Tryd.f4 [] false w args ∧ laidMetH Tryd.prog laidE w) ∧ sizedMet enc Tryd.prog Tryd.f4 (OpenSpec.ofChange Rows.fnNextSpec) false w args) (Rows.fnNextSpec.post enc Tryd.prog Tryd.f4 false true false false) := by
  refine returnsInHanded_of_change_and (C := Tryd.checked) (X := fun w _ => laidMetH Tryd.prog laidE w) (fun _ _ _ hh h => h.of_heap hh) own started (by kernel_rfl) Tryd.func4
    (ChangeSpec.witness_shaped (enc := enc) (C := Tryd.checked) (os := os) (X := fun w _ => laidMetH Tryd.prog laidE w) false (World.doorLaid Tryd.prog 28 os) #[.slice none 0 0] 8 rfl (World.shaped_of_RefB (by kernel_rfl) (by kernel_rfl)) (by kernel_rfl) (by kernel_rfl) (by kernel_rfl) (door_err os _)) ?_
  intro W base args ds gs before hval0 hW _ _ hL _
  have hval : ∀ (j : Nat) t v, Tryd.f4.params[j]? = some t → args[j]? = some v → Value.okWide Tryd.prog W .any base t v := hval0
  have hW' := hW
  obtain ⟨p, q, hA0, hV, rfl, hfz, hnd⟩ := hW
  have hA : DataW.TrodAll enc Tryd.prog W 0 (fun _ => true) true Tryd.f4.params.toList args.toList ds p := hA0
  rw [Tryd.params4] at hA hval
  obtain ⟨v0, vs0, d0, ds0, p0, q0, hargs, rfl, rfl, h0, r0⟩ := trodAll_cons hA
  obtain ⟨rfl, rfl, rfl⟩ := trodAll_nil r0
  obtain rfl : args = #[v0] := by cases args; simp_all
  obtain ⟨xv, hvar, hix⟩ := var_err hL
  obtain ⟨rfl, rfl⟩ := vars_err hV hvar hix
  have lt0 : ∀ x ∈ p0, x.block < W.heap.size := by obtain ⟨m, hm⟩ := h0; exact DataW.trod_lt m _ _ _ hm
  obtain ⟨x0, e0⟩ := argCode_of h0 (okWide_slice Tryd.underlying22 (hval 0 22 v0 rfl rfl))
  clear hA0 hval0
  refine (walk v0 x0 W e0 (met_err hL)).mono fun e W' ⟨he, bel⟩ => ?_
  subst he
  exact ⟨_, rfl, _, _, _, [], _, [.cell 0 0], hW', trodAll_mk1 (shut_bool Tryd.underlying4 _), (trodAll_cons_mk (Below.trod laidOut (by kernel_rfl) (of_decide_eq_true (by kernel_rfl)) h0 bel lt0) trodAll_mk0), vars_mk (var_ext hvar bel) hix, Below.frame bel _, fun h => by cases h⟩

theorem closed : joinedFacts Tryd.prog 4 Tryd.f4 Rows.fnNextSpec Rows.fnNextRow = true := by
  unfold joinedFacts
  rw [may_enter, lifts_final, make_cut]
  kernel_rfl

theorem row_holds : Rows.FnNextSaid :=
  OpenClaim.holds_of_wide 4 Tryd.f4 rfl rfl rfl rfl rfl rfl rfl ⟨rfl, rfl, rfl, rfl, rfl⟩ rfl rfl rfl rfl rfl (by kernel_rfl) Tryd.func4 closed
    (of_decide_eq_true (by kernel_rfl)) (by unfold Func.isWrapper; first | (rw [if_pos (by decide +kernel)]; kernel_rfl) | (rw [if_neg (by decide +kernel)]; exact ⟨rfl, rfl⟩))
    (fun os started H enc _ => lifted os started H enc)

theorem proved : Rows.FnNextCardSaid :=
  Claim7.holds_tied_plain_at .later [] [.sentinel] true Rows.fnNextCard.stood.harness Rows.fnNextCard.stood.looks
    row_holds (fun _ h => by cases h) (by kernel_rfl) (fun _ h => by cases h) fnNext_row_tie rfl ⟨rfl, rfl⟩ (by kernel_rfl) rfl
    (fun f fn hf hfn => by
      obtain rfl : f = 4 := Option.some.inj ((show Tryd.prog.funcNamed "loop.example/vectorpacker/laws.FnNext" = some 4 by kernel_rfl).symm.trans hf) |>.symm
      obtain rfl : fn = Tryd.f4 := (Option.some.inj (Tryd.func4.symm.trans hfn)).symm
      exact ⟨by kernel_rfl, fun j t ht => by
        rw [Tryd.params4] at ht
        have hm : t ∈ [22] := by simpa using Array.mem_of_getElem? ht
        have hall : ([22].all fun u => !Tryd.prog.wantsStandIn u) = true := by kernel_rfl
        exact (show Tryd.prog.wantsStandIn t = false by simpa using List.all_eq_true.1 hall t hm)⟩)
    (by kernel_rfl)

end Go.Proofs.YtjdhiabdcmindaaDoor.l60
