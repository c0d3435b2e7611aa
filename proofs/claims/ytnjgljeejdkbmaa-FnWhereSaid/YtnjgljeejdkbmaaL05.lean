/- The law FnWhere: whatever the code, a task that is found is in the node that is told, and the program finds it where the reference does. No condition. -/
import Derived.Test.YtnjgljeejdkbmaaDr7
import Derived.Test.YtnjgljeejdkbmaaS9
import Derived.Test.YtnjgljeejdkbmaaHead
import Derived.OpenShut
import Derived.ChangeOld
namespace Go.Proofs.Ytnjgljeejdkbmaa.l05
set_option maxRecDepth 100000
open Go.RowKit Go.ChangeShapes Go.WideShapes Go.ChangeAt

theorem where_cases (room : List Int) (bs : List (List T)) (id : Int) : whereI room bs id < 0 ∨ ∃ (k : Nat) (hk : k < bs.length), whereI room bs id = (k : Int) ∧ bs[k].any (isId id) = true := by
  unfold whereI
  split
  · cases h : where0 bs id with
    | none => exact .inl (by simp [nodeI])
    | some k =>
      unfold where0 at h
      rw [List.findIdx?_eq_some_iff_getElem] at h
      obtain ⟨hk, hp, _⟩ := h
      exact .inr ⟨k, hk, rfl, hp⟩
  · exact .inl (by omega)

set_option maxHeartbeats 1000000 in
theorem walk (v : Value) (n : Nat) (w : World) (h : ArgCode w v n) :
    Calls Try.prog 7 #[v] w fun e w' => e = .returned (.bool true) ∧ Ext w w' := by
  have h2 := h
  obtain ⟨_, ac, cc, rfl, -⟩ := h2
  by_cases hbig : 1048576 < n
  · go_enter Try.func7, Try.ntmps7
    go_wp2
    go_ret
    exact ⟨rfl, Ext.refl _⟩
  have hsm : n ≤ 1048576 := by omega
  clear hbig
  go_enter Try.func7, Try.ntmps7
  go_wp2_with fail
  refine (DrawBinsWhere_any _ _ _ h).mono ?_
  rintro e w1 ⟨vr, vb, room, bs, id, rfl, hd, E1⟩
  have Hd := Lib.hid hd
  clear hd
  go_wp2_with fail
  refine (BinsWhere_any _ _ _ _ id _ Hd.out.1 Hd.out.2.1 (by have := Hd.out.2.2.2.2; omega)).mono ?_
  rintro e w2 ⟨rfl, E2⟩
  have Hd2 := Lib.hid (Hd.out.ext E2)
  have F2 := E1.trans E2
  clear E1 E2 Hd
  go_wp2_with fail
  refine (sBinsWhere_any _ _ _ _ id _ Hd2.out.1 Hd2.out.2.1 (by have := Hd2.out.2.2.2.2; omega)).mono ?_
  rintro e w3 ⟨rfl, E3⟩
  have Hd3 := Lib.hid (Hd2.out.ext E3)
  have F3 := F2.trans E3
  clear E3 F2 Hd2
  have HW := Lib.hid (where_cases room bs id)
  generalize whereI room bs id = z at *
  rcases HW.out with hneg | ⟨k, hk, rfl, hany⟩
  · go_wp2
    go_ret
    exact ⟨rfl, F3⟩
  · have Hany := Lib.hid hany
    clear hany HW
    obtain ⟨ab, cb, hvb, -⟩ := Hd3.out.2.1.open
    subst hvb
    obtain ⟨b, off, nd, rfl, c0, ht⟩ := Hd3.out.2.1.at hk
    obtain ⟨ta, tc, rfl, ht'⟩ := ht.open
    have Ht := Lib.hid ht'
    have hl : bs[k].length ≤ 4194304 := ht'.1
    clear ht ht'
    go_wp2_with fail
    go_loop [8] (fun i => ∃ j : Nat, j ≤ bs[k].length ∧ i = .int .i64 j ∧ ∀ m (h : m < bs[k].length), m < j → isId id bs[k][m] = false) (fun i => bs[k].length - (intOf i).toNat)
    case atStart => exact ⟨0, by omega, rfl, fun _ _ h => by omega⟩
    case round =>
      obtain ⟨j, hj, rfl, hg⟩ := hrel
      have Hg := Lib.hid hg
      clear hg
      by_cases hlt : j < bs[k].length
      · obtain ⟨b2, off2, nd2, rfl, d0, d1, hn⟩ := Ht.out.at hlt
        clear d1 hn
        cases hb : (bs[k][j].id == id) with
        | true =>
          go_wp2
          go_ret
          exact ⟨rfl, F3⟩
        | false =>
          have Hd : Hid (∀ m (h : m < bs[k].length), m < j + 1 → isId id bs[k][m] = false) := by
            intro m hm hmj
            by_cases e : m = j
            · subst e; exact hb
            · exact Hg.out m hm (by omega)
          go_wp2
          go_round
          case rel => exact ⟨j + 1, by omega, by go_num, Hd.out⟩
          case measure => simp [intOf]; omega
      · have e : j = bs[k].length := by omega
        subst e
        have := any_none (p := isId id) fun m hm => Hg.out m hm hm
        rw [Hany.out] at this
        cases this

theorem own : ownKnob Try.prog.godebug = none := by kernel_rfl
theorem laidOut : laidOutB Try.prog = true := by kernel_rfl

set_option maxRecDepth 100000 in
theorem lifted (os : Os) (started : os.Started) (H : Type) (enc : TypeId × Value → H) :
    ReturnsInHanded {} Try.checked os 7 .any (Rows.fnWhereSpec.pre6 enc Try.prog Try.f7 Rows.fnWhereRow.domain false) (Rows.fnWhereSpec.post enc Try.prog Try.f7 false true false false) := by
  refine returnsInHanded_of_change (C := Try.checked) own started (by kernel_rfl) Try.func7
    (ChangeSpec.witness6 (enc := enc) (C := Try.checked) false ⟨#[], #[.slice none 0 0], []⟩ 8 (by kernel_rfl) (by kernel_rfl) (by kernel_rfl) (by kernel_rfl)) ?_
  intro W base args ds gs before hval0 hW hcnd _
  have hval : ∀ (j : Nat) t v, Try.f7.params[j]? = some t → args[j]? = some v → Value.okWide Try.prog W .any base t v := hval0
  have hW' := hW
  obtain ⟨p, q, hA0, hV, rfl, hfz, hnd⟩ := hW
  have hA : DataW.TrodAll enc Try.prog W 0 (fun _ => true) true Try.f7.params.toList args.toList ds p := hA0
  rw [Try.params7] at hA hval
  obtain ⟨v0, vs0, d0, ds0, p0, q0, hargs, rfl, rfl, h0, r0⟩ := trodAll_cons hA
  obtain ⟨rfl, rfl, rfl⟩ := trodAll_nil r0
  obtain rfl : args = #[v0] := by cases args; simp_all
  obtain ⟨rfl, rfl⟩ := trodVars_none hV
  have lt0 : ∀ x ∈ p0, x.block < W.heap.size := by obtain ⟨m, hm⟩ := h0; exact DataW.trod_lt m _ _ _ hm
  obtain ⟨x0, e0⟩ := argCode_of h0 (okWide_slice Try.underlying32 (hval 0 32 v0 rfl rfl))
  clear hA0 hval0
  refine (walk v0 x0 W e0).mono fun e W' ⟨he, bel⟩ => ?_
  subst he
  exact ⟨_, rfl, _, _, _, [], _, [], hW', trodAll_mk1 (shut_bool Try.underlying4 _), (trodAll_cons_mk (Below.trod laidOut (by kernel_rfl) (of_decide_eq_true (by kernel_rfl)) h0 bel lt0) trodAll_mk0), rfl, Below.frame bel _, fun h => by cases h⟩

theorem closed : joinedFacts Try.prog 7 Try.f7 Rows.fnWhereSpec Rows.fnWhereRow = true := by
  unfold joinedFacts
  rw [may_enter, lifts_final, make_cut]
  kernel_rfl

theorem proved : Rows.FnWhereSaid :=
  OpenClaim.holds_of_wide 7 Try.f7 rfl rfl rfl rfl rfl rfl rfl ⟨rfl, rfl, rfl, rfl, rfl⟩ rfl rfl rfl rfl rfl (by kernel_rfl) Try.func7 closed
    (of_decide_eq_true (by kernel_rfl)) (by unfold Func.isWrapper; first | (rw [if_pos (by decide +kernel)]; kernel_rfl) | (rw [if_neg (by decide +kernel)]; exact ⟨rfl, rfl⟩))
    (fun os started H enc _ => lifted os started H enc)

end Go.Proofs.Ytnjgljeejdkbmaa.l05
