/- The law FnClusterWhere: whatever the code, a task is in the node that is told and in no other one, and that node is open. No condition. -/
import Derived.Test.YtfidamjepjgknaaCu
import Derived.Test.YtfidamjepjgknaaCn
import Derived.Test.YtfidamjepjgknaaPm
import Derived.Test.YtfidamjepjgknaaHead
import Derived.OpenShut
import Derived.ChangeOld
namespace Go.Proofs.Ytfidamjepjgknaa.l52
set_option maxRecDepth 100000
open Go.RowKit Go.ChangeShapes Go.WideShapes Go.ChangeAt

/-- Where a valid cluster has a task: in that node alone, which is open. -/
theorem where_told {c : C} {id : Int} {j : Nat} (hv : clusterB c = true) (hw : where0 (binsC c.us) id = some j) :
    ∃ h : j < c.us.length, c.us[j].op = true ∧ ∀ i (hi : i < c.us.length), c.us[i].ts.any (isId id) = decide (i = j) := by
  have hB := clu_ok hv
  have hT := hB.1.1
  have hall : c.us.all okU = true := by unfold clusterB at hv; rw [Bool.and_eq_true] at hv; exact hv.1
  obtain ⟨hj, h1, -⟩ := List.findIdx?_eq_some_iff_getElem.1 hw
  have hj' : j < c.us.length := by rwa [binsC_len] at hj
  rw [binsC_get hj'] at h1
  refine ⟨hj', ?_, fun i hi => ?_⟩
  · have h2 := List.all_eq_true.1 hall _ (List.getElem_mem hj')
    unfold okU at h2
    rw [Bool.or_eq_true] at h2
    rcases h2 with h2 | h2
    · exact h2
    · obtain ⟨t, ht, -⟩ := List.any_eq_true.1 h1
      have := List.length_pos_of_mem ht
      simp at h2
      rw [h2] at this
      simp at this
  · by_cases e : i = j
    · subst e
      rw [decide_eq_true rfl]
      exact h1
    · rw [decide_eq_false e, Bool.eq_false_iff]
      intro hx
      obtain ⟨t, ht, hid⟩ := List.any_eq_true.1 hx
      obtain ⟨m, hm, rfl⟩ := List.getElem_of_mem ht
      have h3 := where_at hT (k := i) (i := m) (by rw [binsC_len]; exact hi) (by rw [binsC_get hi]; exact hm)
      have h4 : ((binsC c.us)[i]'(by rw [binsC_len]; exact hi))[m]'(by rw [binsC_get hi]; exact hm) = c.us[i].ts[m] := by simp [binsC]
      rw [h4] at h3
      have h5 : c.us[i].ts[m].id = id := by unfold isId at hid; simpa using hid
      rw [h5, hw] at h3
      simp only [Option.some.injEq] at h3
      exact e h3.symm

set_option maxHeartbeats 4000000 in
theorem walk (v : Value) (n : Nat) (w : World) (h : ArgCode w v n) :
    Calls Try.prog 4 #[v] w fun e w' => e = .returned (.bool true) ∧ Ext w w' := by
  have h2 := h
  obtain ⟨_, ac, cc, rfl, -⟩ := h2
  by_cases hbig : 1048576 < n
  · go_enter Try.func4, Try.ntmps4
    go_wp2
    go_ret
    exact ⟨rfl, Ext.refl _⟩
  have hsm : n ≤ 1048576 := by omega
  clear hbig
  go_enter Try.func4, Try.ntmps4
  go_wp2_with fail
  refine (DrawClusterWhere_any _ _ _ h).mono ?_
  rintro e w1 ⟨ra, rc, ua, uc, c, id, rfl, hc, hu, hd, E1⟩
  have C2 := Lib.hid (hc.ext ((Ext.refl w1).alloc (Obj.cells #[.slice ra c.room.length rc, .slice ua c.us.length uc] 26)))
  have F2 := Lib.hid (E1.alloc (Obj.cells #[.slice ra c.room.length rc, .slice ua c.us.length uc] 26))
  have O2 := Lib.hid (heap_alloc_new w1 (Obj.cells #[.slice ra c.room.length rc, .slice ua c.us.length uc] 26))
  have NW := Lib.hid (show weighC c ≤ 2097152 by have := hd.weigh; omega)
  have DL := Lib.hid hd
  clear hc hu hd E1 h
  go_wp2_with fail
  generalize w1.alloc (Obj.cells #[.slice ra c.room.length rc, .slice ua c.us.length uc] 26) = w2 at *
  refine (ClusterWhere_any _ c id _ C2.out NW.out).mono ?_
  rintro e w3 ⟨rfl, hE⟩
  have F3 := Lib.hid (F2.out.trans hE)
  have C3 := Lib.hid (C2.out.ext hE)
  have O3 := Lib.hid ((hE.block (lt_of_heap O2.out)).trans O2.out)
  have x0 := cell_of_heap O3.out 0
  have x1 := cell_of_heap O3.out 1
  clear hE C2 F2
  go_wp2_with fail
  refine (sClusterWhere_any _ c id _ C3.out NW.out).mono ?_
  rintro e w4 ⟨rfl, hE⟩
  have C4 := Lib.hid (C3.out.ext hE)
  have F4 := Lib.hid (F3.out.trans hE)
  have O4 := Lib.hid ((hE.block (lt_of_heap O3.out)).trans O3.out)
  clear hE C3 F3 O3 x0 x1
  by_cases hq : whereC c id < 0
  · generalize whereC c id = q at *
    go_wp2
    go_ret
    exact ⟨rfl, F4.out⟩
  · obtain ⟨hv, j, hw, hq2⟩ : clusterB c = true ∧ ∃ j : Nat, where0 (binsC c.us) id = some j ∧ whereC c id = (j : Int) := by
      unfold whereC at hq ⊢
      split at hq
      · rename_i hv
        refine ⟨hv, ?_⟩
        rw [if_pos hv]
        cases hw : where0 (binsC c.us) id with
        | none => rw [hw] at hq; simp [nodeI] at hq
        | some j => exact ⟨j, rfl, rfl⟩
      · omega
    obtain ⟨hj, hop, hone⟩ := where_told hv hw
    rw [hq2]
    have HOP := Lib.hid hop
    have HON := Lib.hid hone
    have U4 := Lib.hid (show Units w4 (.slice ua c.us.length uc) c.us by obtain ⟨r, u, he, _, h2⟩ := C4.out; cases he; exact h2)
    have j0 : ¬ (j : Int) < 0 := by omega
    have hus := DL.out.us
    clear hq hv hw hq2 hop hone C4
    obtain ⟨ub, uo, _, rfl, -, -, -⟩ := U4.out.at hj
    go_wp2_with fail
    go_loopw [7, 8, 9] (fun i _ _ wr => ∃ k : Nat, k ≤ c.us.length ∧ i = .int .i64 (k : Int) ∧ Ext w4 wr) (fun i _ _ _ => c.us.length - (intOf i).toNat)
    case atStart => exact ⟨0, by omega, rfl, Ext.refl _⟩
    case round =>
      obtain ⟨wo, rfl⟩ : ∃ wo : World, wo = wr := ⟨_, rfl⟩
      obtain ⟨k, hk, rfl, hE⟩ := hrel
      have HE := Lib.hid hE
      have x0 := cell_of_heap ((hE.block (lt_of_heap O4.out)).trans O4.out) 0
      have x1 := cell_of_heap ((hE.block (lt_of_heap O4.out)).trans O4.out) 1
      clear hE
      by_cases hlt : k < c.us.length
      · have k0 : (0 : Int) ≤ (k : Int) := by omega
        have k1 : (k : Int) < (c.us.length : Int) := by omega
        have H1 := Lib.hid (HON.out k hlt)
        have TL := Lib.hid (show c.us[k].ts.length ≤ 21 from by have := ts_le (List.getElem_mem hlt); have := DL.out.fl; omega)
        go_wp2_with fail
        clear x0 x1
        go_loopw [8, 9] (fun s q wx => ∃ m : Nat, m ≤ c.us[k].ts.length ∧ q = .int .i64 (m : Int) ∧ s = .bool ((c.us[k].ts.take m).any (isId id)) ∧ Ext w4 wx) (fun _ q _ => c.us[k].ts.length - (intOf q).toNat)
        case atStart => exact ⟨0, by omega, rfl, by simp, HE.out⟩
        case round =>
          obtain ⟨m, hm, rfl, rfl, hE⟩ := hrel
          have HX := Lib.hid hE
          have x0 := cell_of_heap ((hE.block (lt_of_heap O4.out)).trans O4.out) 0
          have x1 := cell_of_heap ((hE.block (lt_of_heap O4.out)).trans O4.out) 1
          obtain ⟨_, _, nd, hua, c0, c1, ht⟩ := (U4.out.ext hE).at hlt
          simp only [Option.some.injEq, Addr.mk.injEq, and_true] at hua
          obtain ⟨rfl, rfl⟩ := hua
          obtain ⟨ta, tc, rfl, ht⟩ := ht.open
          have HT := Lib.hid ht
          clear hE ht c0
          by_cases hml : m < c.us[k].ts.length
          · have HS := Lib.hid (show (c.us[k].ts.take (m + 1)).any (isId id) = ((c.us[k].ts.take m).any (isId id) || isId id c.us[k].ts[m]) by
              rw [← List.take_append_getElem hml, List.any_append]; simp)
            obtain ⟨tb, tof, nd2, hta, d0, d1, hnn⟩ := HT.out.at hml
            subst hta
            clear d1 hnn
            have m0 : (0 : Int) ≤ (m : Int) := by omega
            have m1 : (m : Int) < (c.us[k].ts.length : Int) := by omega
            have m2 : m ≤ 21 := by have := TL.out; omega
            cases hs : (c.us[k].ts.take m).any (isId id) with
            | true =>
              rw [hs] at HS
              go_wp2_with fail
              go_roundw
              case rel => exact ⟨m + 1, by omega, by go_num, by rw [HS.out]; rfl, HX.out⟩
              case measure => simp [intOf]; omega
            | false =>
              rw [hs] at HS
              go_wp2_with fail
              go_roundw
              case rel => exact ⟨m + 1, by omega, by go_num, by rw [HS.out]; rfl, HX.out⟩
              case measure => simp [intOf]; omega
          · have e : m = c.us[k].ts.length := by omega
            subst e
            rw [List.take_length, H1.out]
            clear HT
            by_cases e : k = j
            · subst e
              rw [decide_eq_true rfl]
              go_wp2_with fail
              go_roundw
              case rel => exact ⟨k + 1, by omega, by go_num, HX.out⟩
              case measure => simp [intOf]; omega
            · have e2 : ((k : Int) == (j : Int)) = false := by simp; omega
              rw [decide_eq_false e]
              go_wp2_with fail
              go_roundw
              case rel => exact ⟨k + 1, by omega, by go_num, HX.out⟩
              case measure => simp [intOf]; omega
      · have e : k = c.us.length := by omega
        subst e
        obtain ⟨_, _, nd, hua, c0, c1, ht⟩ := (U4.out.ext HE.out).at hj
        simp only [Option.some.injEq, Addr.mk.injEq, and_true] at hua
        obtain ⟨rfl, rfl⟩ := hua
        rw [HOP.out] at c0
        have i0 : (0 : Int) ≤ (j : Int) := by omega
        have i1 : (j : Int) < (c.us.length : Int) := by omega
        clear c1 ht
        go_wp2
        go_ret
        exact ⟨rfl, F4.out.trans HE.out⟩

theorem own : ownKnob Try.prog.godebug = none := by kernel_rfl
theorem laidOut : laidOutB Try.prog = true := by kernel_rfl

set_option maxRecDepth 100000 in
theorem lifted (os : Os) (started : os.Started) (H : Type) (enc : TypeId × Value → H) :
    ReturnsInHanded {} Try.checked os 4 .any (Rows.fnClusterWhereSpec.pre6 enc Try.prog Try.f4 Rows.fnClusterWhereRow.domain false) (Rows.fnClusterWhereSpec.post enc Try.prog Try.f4 false true false false) := by
  refine returnsInHanded_of_change (C := Try.checked) own started (by kernel_rfl) Try.func4
    (ChangeSpec.witness6 (enc := enc) (C := Try.checked) false ⟨#[], #[.slice none 0 0], []⟩ 8 (by kernel_rfl) (by kernel_rfl) (by kernel_rfl) (by kernel_rfl)) ?_
  intro W base args ds gs before hval0 hW hcnd _
  have hval : ∀ (j : Nat) t v, Try.f4.params[j]? = some t → args[j]? = some v → Value.okWide Try.prog W .any base t v := hval0
  have hW' := hW
  obtain ⟨p, q, hA0, hV, rfl, hfz, hnd⟩ := hW
  have hA : DataW.TrodAll enc Try.prog W 0 (fun _ => true) true Try.f4.params.toList args.toList ds p := hA0
  rw [Try.params4] at hA hval
  obtain ⟨v0, vs0, d0, ds0, p0, q0, hargs, rfl, rfl, h0, r0⟩ := trodAll_cons hA
  obtain ⟨rfl, rfl, rfl⟩ := trodAll_nil r0
  obtain rfl : args = #[v0] := by cases args; simp_all
  obtain ⟨rfl, rfl⟩ := trodVars_none hV
  have lt0 : ∀ x ∈ p0, x.block < W.heap.size := by obtain ⟨m, hm⟩ := h0; exact DataW.trod_lt m _ _ _ hm
  obtain ⟨x0, e0⟩ := argCode_of h0 (okWide_slice Try.underlying22 (hval 0 22 v0 rfl rfl))
  clear hA0 hval0
  refine (walk v0 x0 W e0).mono fun e W' ⟨he, bel⟩ => ?_
  subst he
  exact ⟨_, rfl, _, _, _, [], _, [], hW', trodAll_mk1 (shut_bool Try.underlying4 _), (trodAll_cons_mk (Below.trod laidOut (by kernel_rfl) (of_decide_eq_true (by kernel_rfl)) h0 bel lt0) trodAll_mk0), rfl, Below.frame bel _, fun h => by cases h⟩

theorem closed : joinedFacts Try.prog 4 Try.f4 Rows.fnClusterWhereSpec Rows.fnClusterWhereRow = true := by
  unfold joinedFacts
  rw [may_enter, lifts_final, make_cut]
  kernel_rfl

theorem proved : Rows.FnClusterWhereSaid :=
  OpenClaim.holds_of_wide 4 Try.f4 rfl rfl rfl rfl rfl rfl rfl ⟨rfl, rfl, rfl, rfl, rfl⟩ rfl rfl rfl rfl rfl (by kernel_rfl) Try.func4 closed
    (of_decide_eq_true (by kernel_rfl)) (by unfold Func.isWrapper; first | (rw [if_pos (by decide +kernel)]; kernel_rfl) | (rw [if_neg (by decide +kernel)]; exact ⟨rfl, rfl⟩))
    (fun os started H enc _ => lifted os started H enc)

end Go.Proofs.Ytfidamjepjgknaa.l52
