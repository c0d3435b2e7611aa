/- The law FnBinsTwo: whatever the code, nodes have no order. No condition. -/
import Derived.Test.YtnjgljeejdkbmaaDr7
import Derived.Test.YtnjgljeejdkbmaaS10
import Derived.Test.YtnjgljeejdkbmaaHead
import Derived.OpenShut
import Derived.ChangeOld
namespace Go.Proofs.Ytnjgljeejdkbmaa.l03
set_option maxRecDepth 100000
open Go.RowKit Go.ChangeShapes Go.WideShapes Go.ChangeAt

theorem revTake_step {α : Type} (bs : List α) {k : Nat} (h : k < bs.length) : bs.reverse.take (k + 1) = bs.reverse.take k ++ [bs[bs.length - 1 - k]] := by
  rw [List.take_succ_eq_append_getElem (by simpa using h), List.getElem_reverse]
theorem rev_valid {room : List Int} {bs : List (List T)} (h : binsB room bs = true) : binsB room bs.reverse = true := binsB_iff.2 (binsOk_perm bs.reverse_perm.symm (binsB_iff.1 h))
theorem rev_tasks {room : List Int} {bs : List (List T)} (h : binsB room bs = true) : (binsTasksL room bs.reverse).length = (binsTasksL room bs).length := by
  unfold binsTasksL
  rw [if_pos (rev_valid h), if_pos h]
  exact (bs.reverse_perm.flatten).length_eq
theorem rev_flat (bs : List (List T)) : bs.reverse.flatten.length = bs.flatten.length := (bs.reverse_perm.flatten).length_eq

set_option maxHeartbeats 2000000 in
theorem walk (v : Value) (n : Nat) (w : World) (h : ArgCode w v n) :
    Calls Try.prog 5 #[v] w fun e w' => e = .returned (.bool true) ∧ Ext w w' := by
  have h2 := h
  obtain ⟨_, ac, cc, rfl, -⟩ := h2
  by_cases hbig : 1048576 < n
  · go_enter Try.func5, Try.ntmps5
    go_wp2
    go_ret
    exact ⟨rfl, Ext.refl _⟩
  have hsm : n ≤ 1048576 := by omega
  clear hbig
  go_enter Try.func5, Try.ntmps5
  go_wp2_with fail
  refine (DrawBinsValid_any _ _ _ h).mono ?_
  rintro e w1 ⟨vr, vb, room, bs, rfl, hd, E1⟩
  have Hd := Lib.hid hd
  clear hd
  go_wp2_with fail
  refine (BinsValid_any _ _ _ _ _ Hd.out.1 Hd.out.2.1 (by have := Hd.out.2.2.2.2; omega)).mono ?_
  rintro e w2 ⟨rfl, E2⟩
  have Hd2 := Lib.hid (Hd.out.ext E2)
  have F2 := E1.trans E2
  clear E1 E2 Hd
  go_wp2_with fail
  refine (sBinsValid_any _ _ _ _ _ Hd2.out.1 Hd2.out.2.1 (by have := Hd2.out.2.2.2.2; omega)).mono ?_
  rintro e w3 ⟨rfl, E3⟩
  have Hd3 := Lib.hid (Hd2.out.ext E3)
  have F3 := Lib.hid (F2.trans E3)
  clear E3 F2 Hd2
  cases hb : binsB room bs with
  | false =>
    go_wp2
    go_ret
    exact ⟨rfl, F3.out⟩
  | true =>
    have HV := Lib.hid (rev_valid hb)
    have HT := Lib.hid (rev_tasks hb)
    have HF := Lib.hid (rev_flat bs)
    have HB := Lib.hid hb
    clear hb
    obtain ⟨ab, cb, hvb, -⟩ := Hd3.out.2.1.open
    subst hvb
    have hlen : bs.length ≤ 10 := Hd3.out.2.2.2.1
    go_wp2_with fail
    go_loopw [7, 8] (fun s i wr => ∃ k : Nat, k ≤ bs.length ∧ i = .int .i64 ((bs.length : Int) - 1 - (k : Int)) ∧ Ext w3 wr ∧ OwnBins wr w3.heap.size s (bs.reverse.take k)) (fun _ i _ => (intOf i + 1).toNat)
    case atStart => exact ⟨0, by omega, by go_num, (Ext.refl w3).alloc _, OwnBins.lit0 w3 w3.heap.size (Nat.le_refl _)⟩
    case round =>
      obtain ⟨k, hk, rfl, hE, hs⟩ := hrel
      have Hs := Lib.hid hs
      clear hs
      by_cases hlt : k < bs.length
      · obtain ⟨b, off, nd, rfl, c0, ht⟩ := Hd3.out.2.1.at (k := bs.length - 1 - k) (by omega)
        have c0' := hE.cell c0
        obtain ⟨ta, tc, rfl, ht'⟩ := (ht.ext hE).open
        have Ht := Lib.hid ht'
        have Hst := Lib.hid (revTake_step bs hlt)
        have hi : ((bs.length : Int) - 1 - (k : Int)) = ((bs.length - 1 - k : Nat) : Int) := by omega
        have Tl := Lib.hid (show (bs.reverse.take k).length = k by simp; omega)
        have i0 : (0 : Int) ≤ ((bs.length - 1 - k : Nat) : Int) := by omega
        rw [hi]
        clear hi ht ht' c0
        go_wp2_with (at_builtin; refine app_bins rfl _ _ rfl w3.heap.size _ _ rfl (Hs.out.alloc _) (by have := hE.le; simp; omega) _ _ _ [bs[bs.length - 1 - k]] rfl (Bins.lit1 Ht.out 1) (by rw [Tl.out]; unfold lim; rw [List.length_singleton]; omega) ?_; intro v' w4 hown hkt hbl)
        have hE4 := (hE.alloc _).below hbl
        have Ho := Lib.hid (show OwnBins w4 w3.heap.size v' (bs.reverse.take (k + 1)) by rw [Hst.out]; exact hown)
        clear hown hkt hbl hE
        go_roundw
        case rel => exact ⟨k + 1, by omega, by go_num, hE4, Ho.out⟩
        case measure => (simp [intOf] <;> omega)
      · have e : k = bs.length := by omega
        subst e
        have hi : ((bs.length : Int) - 1 - (bs.length : Int)) = -1 := by omega
        have Hx := Lib.hid (show Bins wr _ bs.reverse from by
          have := Hs.out
          rw [List.take_of_length_le (by simp)] at this
          exact this.done (by unfold lim; rw [List.length_reverse]; omega))
        have Hd4 := Lib.hid (Hd3.out.ext hE)
        have F4 := Lib.hid (F3.out.trans hE)
        rw [hi]
        clear hi Hs hE
        go_wp2_with fail
        have cc := BinsValid_any _ _ _ _ _ Hd4.out.1 Hx.out (by have := HF.out; have := Hd4.out.2.2.2.2; omega)
        rw [HV.out] at cc
        refine cc.mono ?_
        clear cc
        rintro e w5 ⟨rfl, E5⟩
        have Hx5 := Lib.hid (Hx.out.ext E5)
        have Hd5 := Lib.hid (Hd4.out.ext E5)
        have F5 := Lib.hid (F4.out.trans E5)
        clear E5 Hx Hd4 F4
        go_wp2_with fail
        refine (BinsTasks_any _ _ _ _ _ Hd5.out.1 Hx5.out (by have := HF.out; have := Hd5.out.2.2.2.2; omega)).mono ?_
        rintro e w6 ⟨r6, rfl, E6, ht6⟩
        obtain ⟨a6, c6, rfl⟩ := ht6.form
        have Hd6 := Lib.hid (Hd5.out.ext E6)
        have F6 := Lib.hid (F5.out.trans E6)
        clear E6 ht6 Hd5 F5 Hx5
        rw [HT.out]
        go_wp2_with fail
        refine (BinsTasks_any _ _ _ _ _ Hd6.out.1 Hd6.out.2.1 (by have := Hd6.out.2.2.2.2; omega)).mono ?_
        rintro e w7 ⟨r7, rfl, E7, ht7⟩
        obtain ⟨a7, c7, rfl⟩ := ht7.form
        have F7 := F6.out.trans E7
        clear E7 ht7 Hd6 F6
        go_wp2
        go_ret
        exact ⟨rfl, F7⟩

theorem own : ownKnob Try.prog.godebug = none := by kernel_rfl
theorem laidOut : laidOutB Try.prog = true := by kernel_rfl

set_option maxRecDepth 100000 in
theorem lifted (os : Os) (started : os.Started) (H : Type) (enc : TypeId × Value → H) :
    ReturnsInHanded {} Try.checked os 5 .any (Rows.fnBinsTwoSpec.pre6 enc Try.prog Try.f5 Rows.fnBinsTwoRow.domain false) (Rows.fnBinsTwoSpec.post enc Try.prog Try.f5 false true false false) := by
  refine returnsInHanded_of_change (C := Try.checked) own started (by kernel_rfl) Try.func5
    (ChangeSpec.witness6 (enc := enc) (C := Try.checked) false ⟨#[], #[.slice none 0 0], []⟩ 8 (by kernel_rfl) (by kernel_rfl) (by kernel_rfl) (by kernel_rfl)) ?_
  intro W base args ds gs before hval0 hW hcnd _
  have hval : ∀ (j : Nat) t v, Try.f5.params[j]? = some t → args[j]? = some v → Value.okWide Try.prog W .any base t v := hval0
  have hW' := hW
  obtain ⟨p, q, hA0, hV, rfl, hfz, hnd⟩ := hW
  have hA : DataW.TrodAll enc Try.prog W 0 (fun _ => true) true Try.f5.params.toList args.toList ds p := hA0
  rw [Try.params5] at hA hval
  obtain ⟨v0, vs0, d0, ds0, p0, q0, hargs, rfl, rfl, h0, r0⟩ := trodAll_cons hA
  obtain ⟨rfl, rfl, rfl⟩ := trodAll_nil r0
  obtain rfl : args = #[v0] := by cases args; simp_all
  obtain ⟨rfl, rfl⟩ := trodVars_none hV
  have lt0 : ∀ x ∈ p0, x.block < W.heap.size := by obtain ⟨m, hm⟩ := h0; exact DataW.trod_lt m _ _ _ hm
  obtain ⟨x0, e0⟩ := argCode_of h0 (okWide_slice Try.underlying32 (hval 0 32 v0 rfl rfl))
  clear hA0 hval0
  refine (walk v0 x0 W e0).mono fun e W' ⟨he, bel⟩ => ?_
  subst he
  exact ⟨_, rfl, _, _, _, [], _, [], hW', trodAll_mk1 (shut_bool Try.underlying4 _), (trodAll_cons_mk (Below.trod laidOut (by kernel_rfl) (of_decide_eq_true (by kernel_rfl)) h0 bel lt0) trodAll_mk0), rfl, Below.frame bel _, fun h => by cases h⟩

theorem closed : joinedFacts Try.prog 5 Try.f5 Rows.fnBinsTwoSpec Rows.fnBinsTwoRow = true := by
  unfold joinedFacts
  rw [may_enter, lifts_final, make_cut]
  kernel_rfl

theorem proved : Rows.FnBinsTwoSaid :=
  OpenClaim.holds_of_wide 5 Try.f5 rfl rfl rfl rfl rfl rfl rfl ⟨rfl, rfl, rfl, rfl, rfl⟩ rfl rfl rfl rfl rfl (by kernel_rfl) Try.func5 closed
    (of_decide_eq_true (by kernel_rfl)) (by unfold Func.isWrapper; first | (rw [if_pos (by decide +kernel)]; kernel_rfl) | (rw [if_neg (by decide +kernel)]; exact ⟨rfl, rfl⟩))
    (fun os started H enc _ => lifted os started H enc)

end Go.Proofs.Ytnjgljeejdkbmaa.l03
