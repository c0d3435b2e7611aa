/- The law FnFirstAt: whatever the code, the first node with room is taken. No condition. -/
import Derived.Test.YtnjgljeejdkbmaaDr8
import Derived.Test.YtnjgljeejdkbmaaS10
import Derived.Test.YtnjgljeejdkbmaaI11
import Derived.Test.YtnjgljeejdkbmaaOwn3
import Derived.Test.YtnjgljeejdkbmaaHead
import Derived.OpenShut
import Derived.ChangeOld
namespace Go.Proofs.Ytnjgljeejdkbmaa.l11
set_option maxRecDepth 100000
open Go.RowKit Go.ChangeShapes Go.WideShapes Go.ChangeAt

theorem first_cases (room : List Int) (bs : List (List T)) (x : T) : firstAtI room bs x < 0 ∨ ∃ (k : Nat) (hk : k < bs.length), firstAtI room bs x = (k : Int) ∧ TasksOk room (bs.flatten ++ [x]) ∧ fits11 room bs[k] x = true ∧ ∀ j (hj : j < bs.length), j < k → fits11 room bs[j] x = false := by
  unfold firstAtI
  split
  · rename_i hok
    have hT : TasksOk room (bs.flatten ++ [x]) := by unfold ok11 at hok; rw [Bool.and_eq_true] at hok; exact tasksB_iff.1 hok.2
    cases h : at11 room bs x with
    | none => exact .inl (by simp [nodeI])
    | some k =>
      unfold at11 at h
      rw [List.findIdx?_eq_some_iff_getElem] at h
      obtain ⟨hk, hp, hq⟩ := h
      exact .inr ⟨k, hk, rfl, hT, hp, fun j hj hjk => by simpa using hq j hjk⟩
  · exact .inl (by omega)

set_option maxHeartbeats 4000000 in
theorem walk (v : Value) (n : Nat) (w : World) (h : ArgCode w v n) :
    Calls Try.prog 12 #[v] w fun e w' => e = .returned (.bool true) ∧ Ext w w' := by
  have h2 := h
  obtain ⟨_, ac, cc, rfl, -⟩ := h2
  by_cases hbig : 1048576 < n
  · go_enter Try.func12, Try.ntmps12
    go_wp2
    go_ret
    exact ⟨rfl, Ext.refl _⟩
  have hsm : n ≤ 1048576 := by omega
  clear hbig
  go_enter Try.func12, Try.ntmps12
  go_wp2_with fail
  refine (DrawFirstAt_any _ _ _ h).mono ?_
  rintro e w1 ⟨vr, vb, nx, room, bs, x, rfl, hd, E1, na, nn, nc, rfl⟩
  obtain rfl : nn = x.need.length := hd.2.1.parts.1
  have Eb : Ext w1 (w1.alloc (.cells #[.int .i64 x.id, .slice na x.need.length nc] 49)) := (Ext.refl w1).alloc _
  have F1 := Lib.hid (E1.trans Eb)
  have Hd := Lib.hid (hd.ext Eb)
  have b0 : (w1.alloc (.cells #[.int .i64 x.id, .slice na x.need.length nc] 49)).cell? ⟨w1.heap.size, 0, none⟩ = some (.int .i64 x.id) := by rw [box_cell]; rfl
  have b1 : (w1.alloc (.cells #[.int .i64 x.id, .slice na x.need.length nc] 49)).cell? ⟨w1.heap.size, 1, none⟩ = some (.slice na x.need.length nc) := by rw [box_cell]; rfl
  clear hd E1 Eb
  go_wp2_with fail
  generalize w1.alloc (.cells #[.int .i64 x.id, .slice na x.need.length nc] 49) = W1 at *
  have KB := Lib.hid (show ∀ w', Ext W1 w' → w'.cell? ⟨w1.heap.size, 0, none⟩ = some (.int .i64 x.id) ∧ w'.cell? ⟨w1.heap.size, 1, none⟩ = some (.slice na x.need.length nc) from fun w' h => ⟨h.cell b0, h.cell b1⟩)
  refine (FirstAt_any _ _ _ room bs x _ Hd.out.1.1 Hd.out.1.2.1 Hd.out.2.1 (by have := Hd.out.1.2.2.2.2; omega)).mono ?_
  clear b0 b1
  rintro e w2 ⟨rfl, E2⟩
  have E2' := Lib.hid E2
  obtain ⟨c0, c1⟩ := KB.out w2 E2
  clear E2
  go_wp2_with fail
  clear c0 c1
  refine (sFirstAt_any _ _ _ room bs x _ (Hd.out.1.1.ext E2'.out) (Hd.out.1.2.1.ext E2'.out) (Hd.out.2.1.ext E2'.out) (by have := Hd.out.1.2.2.2.2; omega)).mono ?_
  rintro e w3 ⟨rfl, E3⟩
  have F3 := Lib.hid (F1.out.trans (E2'.out.trans E3))
  have E3' := Lib.hid (E2'.out.trans E3)
  have Hd3 := Lib.hid (Hd.out.ext E3'.out)
  clear E3 F1 E2' Hd
  have HC := Lib.hid (first_cases room bs x)
  generalize firstAtI room bs x = z at *
  rcases HC.out with hneg | ⟨k0, hk0, rfl, hT, hfk, hfj⟩
  · have F := F3.out
    go_wp2
    go_ret
    exact ⟨rfl, F⟩
  · have HT := Lib.hid hT
    have HF := Lib.hid (show ∀ j (hj : j < bs.length), j ≤ k0 → fits11 room bs[j] x = decide ((j : Int) = (k0 : Int)) from fun j hj hjk => by
      by_cases e : j = k0
      · subst e; simpa using hfk
      · rw [hfj j hj (by omega)]; symm; simp; omega)
    clear hT hfk hfj HC
    obtain ⟨ab, cb, hvb, -⟩ := Hd3.out.1.2.1.open
    subst hvb
    have hlen : bs.length ≤ 10 := Hd3.out.1.2.2.2.1
    go_wp2_with fail
    go_loopw [8] (fun i wr => ∃ k : Nat, k ≤ k0 + 1 ∧ i = .int .i64 k ∧ Ext w3 wr) (fun i _ => k0 + 1 - (intOf i).toNat)
    case atStart => exact ⟨0, by omega, by go_num, Ext.refl _⟩
    case round =>
      obtain ⟨k, hk, rfl, hE⟩ := hrel
      have HE := Lib.hid hE
      clear hE
      by_cases hlt : k ≤ k0
      · have hkb : k < bs.length := by omega
        obtain ⟨b, off, nd, rfl, c0, ht⟩ := (Hd3.out.1.2.1.ext HE.out).at hkb
        obtain ⟨ta, tc, rfl, ht'⟩ := ht.open
        have Ht := Lib.hid ht'
        have hbl : bs[k].length ≤ 20 := by have := bin_len (List.getElem_mem hkb); have := Hd3.out.1.2.2.2.2; omega
        have Hx := Lib.hid (Hd3.out.2.1.ext HE.out)
        obtain ⟨d0, d1⟩ := KB.out wr (E3'.out.trans HE.out)
        have KS := Lib.hid (show ∀ w', Ext wr w' → w'.cell? ⟨b, off + k, none⟩ = some (.slice ta bs[k].length tc) ∧ w'.cell? ⟨w1.heap.size, 0, none⟩ = some (.int .i64 x.id) ∧ w'.cell? ⟨w1.heap.size, 1, none⟩ = some (.slice na x.need.length nc) from fun w' h => ⟨h.cell c0, h.cell d0, h.cell d1⟩)
        have i0 : (0 : Int) ≤ (k : Int) := by omega
        have i1 : (k : Int) < (bs.length : Int) := by omega
        have i2 : (k : Int) ≤ (k0 : Int) := by omega
        clear ht ht'
        go_wp2
        go_region_held3 (fun w' => w'.cell? ⟨b, off + k, none⟩ = some (.slice ta bs[k].length tc) ∧ w'.cell? ⟨w1.heap.size, 0, none⟩ = some (.int .i64 x.id) ∧ w'.cell? ⟨w1.heap.size, 1, none⟩ = some (.slice na x.need.length nc))
          (first | exact KS.out _ (Ext.refl wr).drew | exact KS.out _ ((Ext.refl wr).alloc _).drew | exact KS.out _ (((Ext.refl wr).alloc _).alloc _).drew | exact KS.out _ E4 | exact KS.out _ (E4.alloc _) | exact KS.out _ E5)
          ((first
            | (refine step_app2_tasks (by rfl) _ _ (by rfl) wr.heap.size _ [] (by rfl) (by first | exact (OwnTasks.lit0 wr wr.heap.size (Nat.le_refl _)).drew | exact ((OwnTasks.lit0 wr wr.heap.size (Nat.le_refl _)).alloc _).drew | exact (OwnTasks.lit0' (wr.alloc _) wr.heap.size (by simp) (wr.heap.size + 1) (by simp)).drew) (by simp <;> omega) _ _ _ bs[k] (by rfl) (Ht.out.ext (by first | exact ((Ext.refl wr).alloc _).drew | exact (((Ext.refl wr).alloc _).alloc _).drew)) (by unfold lim; simp; omega) ?_; intro v4 w4 hown hg hk4; have E4 : Ext wr w4 := (by first | exact ((Ext.refl wr).alloc _).drew.of_grown hg (by simp) | exact (((Ext.refl wr).alloc _).alloc _).drew.of_grown hg (by simp)); rw [List.nil_append] at hown; have Ho := Lib.hid hown; (first | (have LF : Hid (Tasks w4 (.slice (some ⟨wr.heap.size, 0, none⟩) 1 1) [x]) := Lib.hid (Tasks.of_heap (grown_heap (g := wr.heap.size + 1) (heap1 wr (.cells #[.int .i64 x.id, .slice na x.need.length nc] 49) (.cells #[] 49)) hg (by omega)) (Hx.out.ext E4))) | (have LF : Hid (Tasks w4 (.slice (some ⟨wr.heap.size + 1, 0, none⟩) 1 1) [x]) := Lib.hid (Tasks.of_heap (grown_heap (g := wr.heap.size) (heap2 wr (.cells #[] 49) (.cells #[.int .i64 x.id, .slice na x.need.length nc] 49)) hg (by omega)) (Hx.out.ext E4))) | skip); clear hown hg hk4)
            | (refine step_app_tasks (by rfl) _ _ (by rfl) wr.heap.size _ bs[k] (by rfl) (by first | exact Ho.out | exact Ho.out.alloc _) (by first | exact E4.le | exact (E4.alloc _).le) _ _ _ [x] (by rfl) (by first | exact LF.out | exact Tasks.lit1 (Hx.out.ext E4) 1 | (trace_state; exact LF.out)) (by unfold lim; simp; omega) ?_; intro v5 w5 hown hkt hbl5; have E5 : Ext wr w5 := (by first | exact Below.trans E4 hbl5 | exact Below.trans (E4.alloc _) hbl5); have Ho5 := Lib.hid hown; clear hown hkt hbl5)))
        all_goals
          obtain ⟨va, vc, rfl⟩ := Ho5.out.form
          have Hb := Lib.hid (Ho5.out.done (by unfold lim; simp; omega))
          have HV := Lib.hid ((bins_more HT.out (List.getElem_mem hkb)).trans (HF.out k hkb hlt))
          have E5' := Lib.hid E5
          have Hr := Lib.hid (Hd3.out.1.1.ext (HE.out.trans E5))
          clear E5 Ho5
          have HV' := Lib.hid (HV.out.trans (show decide ((k : Int) = (k0 : Int)) = ((k : Int) == (k0 : Int)) from by rw [Bool.eq_iff_iff, beq_iff_eq, decide_eq_true_iff]))
          generalize hq : ((k : Int) == (k0 : Int)) = q at HV'
          have hts : (bs[k] ++ [x]).length ≤ 21 := by simp; omega
          generalize bs[k] ++ [x] = ts at *
          go_wp2_with fail
          refine (BinsValid_any _ _ room [ts] _ (Hr.out.ext ((Ext.refl _).alloc _)) (Bins.lit1 Hb.out 1) (by simp; omega)).mono ?_
          rintro e w6 ⟨rfl, hE6⟩
          have E6 := Lib.hid (HE.out.trans (E5'.out.trans (((Ext.refl _).alloc _).trans hE6)))
          clear hE6
          rw [HV'.out]
          go_wp2
          go_roundw
          case rel => exact ⟨k + 1, by omega, by go_num, E6.out⟩
          case measure => (simp [intOf] <;> omega)
      · have e : k = k0 + 1 := by omega
        subst e
        have F := F3.out.trans HE.out
        go_wp2
        go_ret
        exact ⟨rfl, F⟩

theorem own : ownKnob Try.prog.godebug = none := by kernel_rfl
theorem laidOut : laidOutB Try.prog = true := by kernel_rfl

set_option maxRecDepth 100000 in
theorem lifted (os : Os) (started : os.Started) (H : Type) (enc : TypeId × Value → H) :
    ReturnsInHanded {} Try.checked os 12 .any (Rows.fnFirstAtSpec.pre6 enc Try.prog Try.f12 Rows.fnFirstAtRow.domain false) (Rows.fnFirstAtSpec.post enc Try.prog Try.f12 false true false false) := by
  refine returnsInHanded_of_change (C := Try.checked) own started (by kernel_rfl) Try.func12
    (ChangeSpec.witness6 (enc := enc) (C := Try.checked) false ⟨#[], #[.slice none 0 0], []⟩ 8 (by kernel_rfl) (by kernel_rfl) (by kernel_rfl) (by kernel_rfl)) ?_
  intro W base args ds gs before hval0 hW hcnd _
  have hval : ∀ (j : Nat) t v, Try.f12.params[j]? = some t → args[j]? = some v → Value.okWide Try.prog W .any base t v := hval0
  have hW' := hW
  obtain ⟨p, q, hA0, hV, rfl, hfz, hnd⟩ := hW
  have hA : DataW.TrodAll enc Try.prog W 0 (fun _ => true) true Try.f12.params.toList args.toList ds p := hA0
  rw [Try.params12] at hA hval
  obtain ⟨v0, vs0, d0, ds0, p0, q0, hargs, rfl, rfl, h0, r0⟩ := trodAll_cons hA
  obtain ⟨rfl, rfl, rfl⟩ := trodAll_nil r0
  obtain rfl : args = #[v0] := by cases args; simp_all
  obtain ⟨rfl, rfl⟩ := trodVars_none hV
  have lt0 : ∀ x ∈ p0, x.block < W.heap.size := by obtain ⟨m, hm⟩ := h0; exact DataW.trod_lt m _ _ _ hm
  obtain ⟨x0, e0⟩ := argCode_of h0 (okWide_slice Try.underlying32 (hval 0 32 v0 rfl rfl))
  clear hA0 hval0
  refine (walk v0 x0 W e0).mono fun e W' ⟨he, bel⟩ => ?_
  subst he
  exact ⟨_, rfl, _, _, _, [], _, [], hW', trodAll_mk1 (shut_bool Try.underlying4 _), (trodAll_cons_mk (Below.trod laidOut (by kernel_rfl) (of_decide_eq_true (by kernel_rfl)) h0 bel lt0) trodAll_mk0), rfl, Below.frame bel _, fun h => by cases h⟩

theorem closed : joinedFacts Try.prog 12 Try.f12 Rows.fnFirstAtSpec Rows.fnFirstAtRow = true := by
  unfold joinedFacts
  rw [may_enter, lifts_final, make_cut]
  kernel_rfl

theorem proved : Rows.FnFirstAtSaid :=
  OpenClaim.holds_of_wide 12 Try.f12 rfl rfl rfl rfl rfl rfl rfl ⟨rfl, rfl, rfl, rfl, rfl⟩ rfl rfl rfl rfl rfl (by kernel_rfl) Try.func12 closed
    (of_decide_eq_true (by kernel_rfl)) (by unfold Func.isWrapper; first | (rw [if_pos (by decide +kernel)]; kernel_rfl) | (rw [if_neg (by decide +kernel)]; exact ⟨rfl, rfl⟩))
    (fun os started H enc _ => lifted os started H enc)

end Go.Proofs.Ytnjgljeejdkbmaa.l11
