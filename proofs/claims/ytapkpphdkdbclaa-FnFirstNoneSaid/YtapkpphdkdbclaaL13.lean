/- The law FnFirstNone: whatever the code, a task is turned away only where no node has room. No condition. -/
import Derived.Test.YtapkpphdkdbclaaDr8
import Derived.Test.YtapkpphdkdbclaaS10
import Derived.Test.YtapkpphdkdbclaaI11
import Derived.Test.YtapkpphdkdbclaaOwn
import Derived.Test.YtapkpphdkdbclaaHead
import Derived.OpenShut
import Derived.ChangeOld
namespace Go.Proofs.Ytapkpphdkdbclaa.l13
set_option maxRecDepth 100000
open Go.RowKit Go.ChangeShapes Go.WideShapes Go.ChangeAt

theorem first_new {room : List Int} {bs : List (List T)} {x : T} (h : binsB room (bs ++ [[x]]) = true) : TasksOk room (bs.flatten ++ [x]) ∧ firstAtI room bs x = nodeI (at11 room bs x) := by
  have k := bins_new (binsB_iff.1 h)
  exact ⟨k.2, by unfold firstAtI; rw [if_pos k.1]⟩
theorem any_step {α : Type} (p : α → Bool) {bs : List α} {k : Nat} (h : k < bs.length) : (bs.take (k + 1)).any p = ((bs.take k).any p || p bs[k]) := by
  rw [List.take_succ_eq_append_getElem h, List.any_append]; simp

set_option maxHeartbeats 4000000 in
theorem walk (v : Value) (n : Nat) (w : World) (h : ArgCode w v n) :
    Calls Try.prog 5 #[v] w fun e w' => e = .returned (.bool true) ∧ Ext w w' := by
  have h2 := h
  obtain ⟨_, ac, cc, rfl, -⟩ := h2
  by_cases hbig : 1048576 < n
  · go_enter Try.func5, Try.ntmps5
    go_wp2
    go_ret
    exact ⟨rfl, Ext.refl _⟩
  have hsm : n ≤ 1048576 := by omega
  clear hbig
  go_enter Try.func5, Try.ntmps5
  go_wp2_with fail
  refine (DrawFirstAt_any _ _ _ h).mono ?_
  rintro e w1 ⟨vr, vb, nx, room, bs, x, rfl, hd, E1, na, nn, nc, rfl⟩
  obtain rfl : nn = x.need.length := hd.2.1.parts.1
  have Eb : Ext w1 (w1.alloc (.cells #[.int .i64 x.id, .slice na x.need.length nc] 42)) := (Ext.refl w1).alloc _
  have F1 := Lib.hid (E1.trans Eb)
  have Hd := Lib.hid (hd.ext Eb)
  have b0 : (w1.alloc (.cells #[.int .i64 x.id, .slice na x.need.length nc] 42)).cell? ⟨w1.heap.size, 0, none⟩ = some (.int .i64 x.id) := by rw [box_cell]; rfl
  have b1 : (w1.alloc (.cells #[.int .i64 x.id, .slice na x.need.length nc] 42)).cell? ⟨w1.heap.size, 1, none⟩ = some (.slice na x.need.length nc) := by rw [box_cell]; rfl
  clear hd E1 Eb
  go_wp2_with fail
  generalize w1.alloc (.cells #[.int .i64 x.id, .slice na x.need.length nc] 42) = W1 at *
  have KB := Lib.hid (show ∀ w', Ext W1 w' → w'.cell? ⟨w1.heap.size, 0, none⟩ = some (.int .i64 x.id) ∧ w'.cell? ⟨w1.heap.size, 1, none⟩ = some (.slice na x.need.length nc) from fun w' h => ⟨h.cell b0, h.cell b1⟩)
  refine (FirstAt_any _ _ _ room bs x _ Hd.out.1.1 Hd.out.1.2.1 Hd.out.2.1 (by have := Hd.out.1.2.2.2.2; omega)).mono ?_
  clear b0 b1
  rintro e w2 ⟨rfl, E2⟩
  have E2' := Lib.hid E2
  obtain ⟨c0, c1⟩ := KB.out w2 E2
  clear E2
  go_wp2_with fail
  clear c0 c1
  refine (sFirstAt_any _ _ _ room bs x _ (Hd.out.1.1.ext E2'.out) (Hd.out.1.2.1.ext E2'.out) (Hd.out.2.1.ext E2'.out) (by have := Hd.out.1.2.2.2.2; omega)).mono ?_
  rintro e w3 ⟨rfl, E3⟩
  have F3 := Lib.hid (F1.out.trans (E2'.out.trans E3))
  have E3' := Lib.hid (E2'.out.trans E3)
  have Hd3 := Lib.hid (Hd.out.ext E3'.out)
  clear E3 F1 E2' Hd
  have HZ := Lib.hid (first_new (room := room) (bs := bs) (x := x))
  generalize firstAtI room bs x = z at *
  obtain ⟨ab, cb, hvb, -⟩ := Hd3.out.1.2.1.open
  subst hvb
  have hlen : bs.length ≤ 10 := Hd3.out.1.2.2.2.1
  have Hx := Lib.hid Hd3.out.2.1
  have Ht := Lib.hid Hd3.out.1.2.1
  have KC := Lib.hid (show ∀ w', Ext w3 w' → w'.cell? ⟨w1.heap.size, 0, none⟩ = some (.int .i64 x.id) ∧ w'.cell? ⟨w1.heap.size, 1, none⟩ = some (.slice na x.need.length nc) from fun w' h => KB.out w' (E3'.out.trans h))
  have HF := Lib.hid (show (bs ++ [[x]]).flatten.length ≤ 2097152 by have := Hd3.out.1.2.2.2.2; simp only [List.flatten_append, List.length_append, List.flatten_cons, List.flatten_nil, List.length_cons, List.length_nil, List.append_nil]; omega)
  have hl11 : (bs ++ [[x]]).length ≤ 11 := by simp; omega
  go_upto_region 6 with fail
  go_cut [42] from 28 to 42 (fun c wx => ∃ q, c = .bool q ∧ q = (!(binsB room (bs ++ [[x]]))) ∧ Ext w3 wx)
  case first =>
    go_wp2
    go_region_held3 (fun w' => w'.cell? ⟨w1.heap.size, 0, none⟩ = some (.int .i64 x.id) ∧ w'.cell? ⟨w1.heap.size, 1, none⟩ = some (.slice na x.need.length nc))
      (first | exact KC.out _ E6 | exact KC.out _ E5 | exact KC.out _ E4 | exact KC.out _ (E4.alloc _) | exact KC.out _ ((E4.alloc _).alloc _) | exact KC.out _ (Ext.refl w3).drew | exact KC.out _ ((Ext.refl w3).alloc _).drew | exact KC.out _ (((Ext.refl w3).alloc _).alloc _).drew | exact KC.out _ ((((Ext.refl w3).alloc _).alloc _).alloc _).drew)
      ((first
        | (refine stepg_app2_bins (by rfl) _ _ (by rfl) w3.heap.size _ [] (by rfl) (by first | exact (OwnBins.lit0 w3 w3.heap.size (Nat.le_refl _)).drew | exact ((OwnBins.lit0 w3 w3.heap.size (Nat.le_refl _)).alloc _).drew | exact (((OwnBins.lit0 w3 w3.heap.size (Nat.le_refl _)).alloc _).alloc _).drew | exact (OwnBins.lit0' (w3.alloc _) w3.heap.size (by simp) (w3.heap.size + 1) (by simp)).drew | exact ((OwnBins.lit0' (w3.alloc _) w3.heap.size (by simp) (w3.heap.size + 1) (by simp)).alloc _).drew | exact (OwnBins.lit0' ((w3.alloc _).alloc _) w3.heap.size (by simp <;> omega) (w3.heap.size + 2) (by simp)).drew) (by simp <;> omega) _ _ _ bs (by rfl) (Ht.out.ext (by first | exact ((Ext.refl w3).alloc _).drew | exact (((Ext.refl w3).alloc _).alloc _).drew | exact ((((Ext.refl w3).alloc _).alloc _).alloc _).drew)) (by unfold lim; simp; omega) ?_; intro v4 w4 hown hg hk4; have E4 : Ext w3 w4 := (by first | exact ((Ext.refl w3).alloc _).drew.of_grown hg (by simp <;> omega) | exact (((Ext.refl w3).alloc _).alloc _).drew.of_grown hg (by simp <;> omega) | exact ((((Ext.refl w3).alloc _).alloc _).alloc _).drew.of_grown hg (by simp <;> omega)); rw [List.nil_append] at hown; have Ho := Lib.hid hown; (first | (have LA : Hid (Tasks w4 (.slice (some ⟨w3.heap.size + 1, 0, none⟩) 1 1) [x]) := Lib.hid (Tasks.grown (g := w3.heap.size) (n := .slice na x.need.length nc) (by (refine heap_drew _ ?_; first | exact heap_push _ _ (by simp <;> omega) | exact heap_skip _ _ (heap_push _ _ (by simp <;> omega)) | exact heap_skip _ _ (heap_skip _ _ (heap_push _ _ (by simp <;> omega))))) hg (by omega) (Hx.out.ext E4))) | (have LA : Hid (Tasks w4 (.slice (some ⟨w3.heap.size, 0, none⟩) 1 1) [x]) := Lib.hid (Tasks.grown (g := w3.heap.size + 1) (n := .slice na x.need.length nc) (by (refine heap_drew _ ?_; first | exact heap_push _ _ (by simp <;> omega) | exact heap_skip _ _ (heap_push _ _ (by simp <;> omega)) | exact heap_skip _ _ (heap_skip _ _ (heap_push _ _ (by simp <;> omega))))) hg (by omega) (Hx.out.ext E4))) | (have LA : Hid (Tasks w4 (.slice (some ⟨w3.heap.size, 0, none⟩) 1 1) [x]) := Lib.hid (Tasks.grown (g := w3.heap.size + 2) (n := .slice na x.need.length nc) (by (refine heap_drew _ ?_; first | exact heap_push _ _ (by simp <;> omega) | exact heap_skip _ _ (heap_push _ _ (by simp <;> omega)) | exact heap_skip _ _ (heap_skip _ _ (heap_push _ _ (by simp <;> omega))))) hg (by omega) (Hx.out.ext E4))) | skip); (first | (have LB : Hid (Bins w4 (.slice (some ⟨w3.heap.size + 2, 0, none⟩) 1 1) [[x]]) := Lib.hid (Bins.grown (g := w3.heap.size) (n := .slice (some ⟨w3.heap.size + 1, 0, none⟩) 1 1) (by (refine heap_drew _ ?_; first | exact heap_push _ _ (by simp <;> omega) | exact heap_skip _ _ (heap_push _ _ (by simp <;> omega)) | exact heap_skip _ _ (heap_skip _ _ (heap_push _ _ (by simp <;> omega))))) hg (by omega) LA.out)) | (have LB : Hid (Bins w4 (.slice (some ⟨w3.heap.size + 2, 0, none⟩) 1 1) [[x]]) := Lib.hid (Bins.grown (g := w3.heap.size + 1) (n := .slice (some ⟨w3.heap.size, 0, none⟩) 1 1) (by (refine heap_drew _ ?_; first | exact heap_push _ _ (by simp <;> omega) | exact heap_skip _ _ (heap_push _ _ (by simp <;> omega)) | exact heap_skip _ _ (heap_skip _ _ (heap_push _ _ (by simp <;> omega))))) hg (by omega) LA.out)) | (have LB : Hid (Bins w4 (.slice (some ⟨w3.heap.size + 1, 0, none⟩) 1 1) [[x]]) := Lib.hid (Bins.grown (g := w3.heap.size + 2) (n := .slice (some ⟨w3.heap.size, 0, none⟩) 1 1) (by (refine heap_drew _ ?_; first | exact heap_push _ _ (by simp <;> omega) | exact heap_skip _ _ (heap_push _ _ (by simp <;> omega)) | exact heap_skip _ _ (heap_skip _ _ (heap_push _ _ (by simp <;> omega))))) hg (by omega) LA.out)) | skip); clear hown hg hk4)
        | (refine stepg_app_bins (by rfl) _ _ (by rfl) w3.heap.size _ bs (by rfl) (by first | exact Ho.out | exact Ho.out.alloc _ | exact (Ho.out.alloc _).alloc _) (by first | exact E4.le | exact (E4.alloc _).le | exact ((E4.alloc _).alloc _).le) _ _ _ [[x]] (by rfl) (by first | exact LB.out | exact Bins.lit1' LA.out 1 _ (by simp) | exact Bins.lit1' (Tasks.lit1' (Hx.out.ext E4) 1 _ rfl) 1 _ (by simp)) (by unfold lim; simp; omega) ?_; intro v5 w5 hown hkt hbl5; have E5 : Ext w3 w5 := (by first | exact Below.trans E4 hbl5 | exact Below.trans (E4.alloc _) hbl5 | exact Below.trans ((E4.alloc _).alloc _) hbl5); have Ho5 := Lib.hid hown; clear hown hkt hbl5)
        | (go_at_call 32; refine (sBinsValid_any _ _ room (bs ++ [[x]]) _ (Hd3.out.1.1.ext E5) (Ho5.out.done (Nat.le_trans hl11 (by unfold lim; omega))) HF.out).mono ?_; rintro e w6 ⟨rfl, hE⟩; have E6 : Ext w3 w6 := E5.trans hE; clear hE)))
    all_goals
      go_wp2_with fail
      go_meet
      exact ⟨_, rfl, rfl, E6⟩
  case rest =>
    obtain ⟨q6, rfl, hq6, hE6⟩ := hcut
    rename_i w6
    have HE6 := Lib.hid hE6
    clear hE6
    cases hb : binsB room (bs ++ [[x]]) with
    | false =>
      rw [hb] at hq6
      obtain rfl : q6 = true := hq6
      have F := F3.out.trans HE6.out
      go_wp2
      go_ret
      exact ⟨rfl, F⟩
    | true =>
      rw [hb] at hq6
      obtain rfl : q6 = false := hq6
      have HT := Lib.hid (HZ.out hb).1
      have HA := Lib.hid (show (bs.any fun b => fits11 room b x) = decide (0 ≤ z) by rw [(HZ.out hb).2, Bool.eq_iff_iff, decide_eq_true_iff, nodeI_nonneg]; unfold at11; rw [List.findIdx?_isSome])
      clear hb HZ HF hl11
      go_wp2_with fail
      go_loopw [8, 9] (fun s i wr => ∃ k : Nat, k ≤ bs.length ∧ i = .int .i64 k ∧ s = .bool ((bs.take k).any fun b => fits11 room b x) ∧ Ext w3 wr) (fun _ i _ => bs.length - (intOf i).toNat)
      case atStart => exact ⟨0, by omega, by go_num, rfl, HE6.out⟩
      case round =>
        obtain ⟨k, hk, rfl, rfl, hE⟩ := hrel
        have HE := Lib.hid hE
        clear hE
        by_cases hlt : k < bs.length
        · obtain ⟨b, off, nd, he, c0, ht⟩ := (Ht.out.ext HE.out).at hlt
          cases he
          obtain ⟨ta, tc, rfl, ht'⟩ := ht.open
          have Ht := Lib.hid ht'
          have hbl : bs[k].length ≤ 20 := by have := bin_len (List.getElem_mem hlt); have := Hd3.out.1.2.2.2.2; omega
          have Hx := Lib.hid (Hd3.out.2.1.ext HE.out)
          obtain ⟨d0, d1⟩ := KC.out wr HE.out
          have KS := Lib.hid (show ∀ w', Ext wr w' → w'.cell? ⟨b, off + k, none⟩ = some (.slice ta bs[k].length tc) ∧ w'.cell? ⟨w1.heap.size, 0, none⟩ = some (.int .i64 x.id) ∧ w'.cell? ⟨w1.heap.size, 1, none⟩ = some (.slice na x.need.length nc) from fun w' h => ⟨h.cell c0, h.cell d0, h.cell d1⟩)
          have HV := Lib.hid (bins_more HT.out (List.getElem_mem hlt))
          have HQ := Lib.hid (any_step (fun b => fits11 room b x) hlt)
          have i0 : (0 : Int) ≤ (k : Int) := by omega
          have i1 : (k : Int) < (bs.length : Int) := by omega
          have q0 : (decide (bs.length ≤ k)) = false := by simp; omega
          generalize ((bs.take k).any fun b => fits11 room b x) = q at *
          clear ht ht'
          go_upto_region 12 with fail
          go_cut [10] from 46 to 67 (fun v wx => OwnTasks wx wr.heap.size v (bs[k] ++ [x]) ∧ Ext wr wx)
          case first =>
            go_wp2
            go_region_held3 (fun w' => w'.cell? ⟨b, off + k, none⟩ = some (.slice ta bs[k].length tc) ∧ w'.cell? ⟨w1.heap.size, 0, none⟩ = some (.int .i64 x.id) ∧ w'.cell? ⟨w1.heap.size, 1, none⟩ = some (.slice na x.need.length nc))
              (first | exact KS.out _ (Ext.refl wr).drew | exact KS.out _ ((Ext.refl wr).alloc _).drew | exact KS.out _ (((Ext.refl wr).alloc _).alloc _).drew | exact KS.out _ E4 | exact KS.out _ (E4.alloc _) | exact KS.out _ E5)
              ((first
                | (refine step_app2_tasks (by rfl) _ _ (by rfl) wr.heap.size _ [] (by rfl) (by first | exact (OwnTasks.lit0 wr wr.heap.size (Nat.le_refl _)).drew | exact ((OwnTasks.lit0 wr wr.heap.size (Nat.le_refl _)).alloc _).drew | exact (OwnTasks.lit0' (wr.alloc _) wr.heap.size (by simp) (wr.heap.size + 1) (by simp)).drew) (by simp <;> omega) _ _ _ bs[k] (by rfl) (Ht.out.ext (by first | exact ((Ext.refl wr).alloc _).drew | exact (((Ext.refl wr).alloc _).alloc _).drew)) (by unfold lim; simp; omega) ?_; intro v4 w4 hown hg hk4; have E4 : Ext wr w4 := (by first | exact ((Ext.refl wr).alloc _).drew.of_grown hg (by simp) | exact (((Ext.refl wr).alloc _).alloc _).drew.of_grown hg (by simp)); rw [List.nil_append] at hown; have Ho := Lib.hid hown; (first | (have LF : Hid (Tasks w4 (.slice (some ⟨wr.heap.size, 0, none⟩) 1 1) [x]) := Lib.hid (Tasks.of_heap (grown_heap (g := wr.heap.size + 1) (heap1 wr (.cells #[.int .i64 x.id, .slice na x.need.length nc] 42) (.cells #[] 42)) hg (by omega)) (Hx.out.ext E4))) | (have LF : Hid (Tasks w4 (.slice (some ⟨wr.heap.size + 1, 0, none⟩) 1 1) [x]) := Lib.hid (Tasks.of_heap (grown_heap (g := wr.heap.size) (heap2 wr (.cells #[] 42) (.cells #[.int .i64 x.id, .slice na x.need.length nc] 42)) hg (by omega)) (Hx.out.ext E4))) | skip); clear hown hg hk4)
                | (refine step_app_tasks (by rfl) _ _ (by rfl) wr.heap.size _ bs[k] (by rfl) (by first | exact Ho.out | exact Ho.out.alloc _) (by first | exact E4.le | exact (E4.alloc _).le) _ _ _ [x] (by rfl) (by first | exact LF.out | exact Tasks.lit1 (Hx.out.ext E4) 1 | (trace_state; exact LF.out)) (by unfold lim; simp; omega) ?_; intro v5 w5 hown hkt hbl5; have E5 : Ext wr w5 := (by first | exact Below.trans E4 hbl5 | exact Below.trans (E4.alloc _) hbl5); have Ho5 := Lib.hid hown; clear hown hkt hbl5)))
            all_goals
              go_wp2_with fail
              go_meet
              exact ⟨Ho5.out, E5⟩
          case rest =>
            obtain ⟨ho5, E5⟩ := hcut
            have Ho5 := Lib.hid ho5
            clear ho5
            obtain ⟨va, vc, rfl⟩ := Ho5.out.form
            have Hb := Lib.hid (Ho5.out.done (by unfold lim; simp; omega))
            have E5' := Lib.hid E5
            have Hr := Lib.hid (Hd3.out.1.1.ext (HE.out.trans E5))
            clear E5 Ho5
            have hts : (bs[k] ++ [x]).length ≤ 21 := by simp; omega
            generalize bs[k] ++ [x] = ts at *
            cases q with
            | true =>
              go_wp2
              go_roundw
              case rel => exact ⟨k + 1, by omega, by go_num, by rw [HQ.out]; rfl, HE.out.trans E5'.out⟩
              case measure => (simp [intOf] <;> omega)
            | false =>
              go_wp2_with fail
              refine (BinsValid_any _ _ room [ts] _ (Hr.out.ext ((Ext.refl _).alloc _)) (Bins.lit1 Hb.out 1) (by simp; omega)).mono ?_
              rintro e w7 ⟨rfl, hE7⟩
              have E7 := Lib.hid (HE.out.trans (E5'.out.trans (((Ext.refl _).alloc _).trans hE7)))
              clear hE7
              go_wp2
              go_roundw
              case rel => exact ⟨k + 1, by omega, by go_num, by rw [HQ.out, HV.out]; simp, E7.out⟩
              case measure => (simp [intOf] <;> omega)
        · have e : k = bs.length := by omega
          subst e
          have F := F3.out.trans HE.out
          rw [List.take_length, HA.out]
          go_wp2
          go_ret
          exact ⟨rfl, F⟩

theorem own : ownKnob Try.prog.godebug = none := by kernel_rfl
theorem laidOut : laidOutB Try.prog = true := by kernel_rfl

set_option maxRecDepth 100000 in
theorem lifted (os : Os) (started : os.Started) (H : Type) (enc : TypeId × Value → H) :
    ReturnsInHanded {} Try.checked os 5 .any (Rows.fnFirstNoneSpec.pre6 enc Try.prog Try.f5 Rows.fnFirstNoneRow.domain false) (Rows.fnFirstNoneSpec.post enc Try.prog Try.f5 false true false false) := by
  refine returnsInHanded_of_change (C := Try.checked) own started (by kernel_rfl) Try.func5
    (ChangeSpec.witness6 (enc := enc) (C := Try.checked) false ⟨#[], #[.slice none 0 0], []⟩ 8 (by kernel_rfl) (by kernel_rfl) (by kernel_rfl) (by kernel_rfl)) ?_
  intro W base args ds gs before hval0 hW hcnd _
  have hval : ∀ (j : Nat) t v, Try.f5.params[j]? = some t → args[j]? = some v → Value.okWide Try.prog W .any base t v := hval0
  have hW' := hW
  obtain ⟨p, q, hA0, hV, rfl, hfz, hnd⟩ := hW
  have hA : DataW.TrodAll enc Try.prog W 0 (fun _ => true) true Try.f5.params.toList args.toList ds p := hA0
  rw [Try.params5] at hA hval
  obtain ⟨v0, vs0, d0, ds0, p0, q0, hargs, rfl, rfl, h0, r0⟩ := trodAll_cons hA
  obtain ⟨rfl, rfl, rfl⟩ := trodAll_nil r0
  obtain rfl : args = #[v0] := by cases args; simp_all
  obtain ⟨rfl, rfl⟩ := trodVars_none hV
  have lt0 : ∀ x ∈ p0, x.block < W.heap.size := by obtain ⟨m, hm⟩ := h0; exact DataW.trod_lt m _ _ _ hm
  obtain ⟨x0, e0⟩ := argCode_of h0 (okWide_slice Try.underlying40 (hval 0 40 v0 rfl rfl))
  clear hA0 hval0
  refine (walk v0 x0 W e0).mono fun e W' ⟨he, bel⟩ => ?_
  subst he
  exact ⟨_, rfl, _, _, _, [], _, [], hW', trodAll_mk1 (shut_bool Try.underlying4 _), (trodAll_cons_mk (Below.trod laidOut (by kernel_rfl) (of_decide_eq_true (by kernel_rfl)) h0 bel lt0) trodAll_mk0), rfl, Below.frame bel _, fun h => by cases h⟩

theorem closed : joinedFacts Try.prog 5 Try.f5 Rows.fnFirstNoneSpec Rows.fnFirstNoneRow = true := by
  unfold joinedFacts
  rw [may_enter, lifts_final, make_cut]
  kernel_rfl

theorem proved : Rows.FnFirstNoneSaid :=
  OpenClaim.holds_of_wide 5 Try.f5 rfl rfl rfl rfl rfl rfl rfl ⟨rfl, rfl, rfl, rfl, rfl⟩ rfl rfl rfl rfl rfl (by kernel_rfl) Try.func5 closed
    (of_decide_eq_true (by kernel_rfl)) (by unfold Func.isWrapper; first | (rw [if_pos (by decide +kernel)]; kernel_rfl) | (rw [if_neg (by decide +kernel)]; exact ⟨rfl, rfl⟩))
    (fun os started H enc _ => lifted os started H enc)

end Go.Proofs.Ytapkpphdkdbclaa.l13
