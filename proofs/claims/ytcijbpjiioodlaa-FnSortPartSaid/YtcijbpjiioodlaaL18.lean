/- The law FnSortPart: whatever the codes, a part of sorted tasks is sorted. No condition. -/
import Derived.Test.YtcijbpjiioodlaaI22
import Derived.Test.YtcijbpjiioodlaaDr9
import Derived.Test.YtcijbpjiioodlaaSame
import Derived.Test.YtcijbpjiioodlaaSame2
import Derived.Test.YtcijbpjiioodlaaHead
import Derived.OpenShut
import Derived.ChangeOld
namespace Go.Proofs.Ytcijbpjiioodlaa.l18
set_option maxRecDepth 100000
open Go.RowKit Go.ChangeShapes Go.WideShapes Go.ChangeAt

/-- The tasks of one list lie in another one, in their order. -/
def Places (xs ss : List T) (f : Nat → Nat) : Prop := (∀ i (h : i < xs.length), ∃ hp : f i < ss.length, ss[f i] = xs[i]) ∧ ∀ i, i + 1 < xs.length → f i < f (i + 1)
def Distinct (ss : List T) : Prop := ∀ a b (ha : a < ss.length) (hb : b < ss.length), ss[a].id = ss[b].id → a = b
theorem distinct {room : List Int} {ts : List T} (h : TasksOk room ts) : Distinct ts := by
  intro a b ha hb he
  rcases Nat.lt_trichotomy a b with h1 | h1 | h1
  · exact absurd he (ids_apart h h1 hb)
  · exact h1
  · exact absurd he.symm (ids_apart h h1 ha)
theorem places {room : List Int} {ts : List T} (h : TasksOk room ts) (k : Nat) : ∃ f, Places (sortS (ts.take k)) (sortS ts) f := by
  have ok := tasksOk_sub (List.take_sublist k ts) h
  have each : ∀ i, ∃ p, ∀ (hi : i < (sortS (ts.take k)).length), ∃ hp : p < (sortS ts).length, (sortS ts)[p] = (sortS (ts.take k))[i] := by
    intro i
    by_cases hi : i < (sortS (ts.take k)).length
    · have hm : (sortS (ts.take k))[i] ∈ sortS ts := (sortS_perm ts).symm.subset (List.mem_of_mem_take ((sortS_perm _).subset (List.getElem_mem hi)))
      obtain ⟨p, hp, e⟩ := List.getElem_of_mem hm
      exact ⟨p, fun _ => ⟨hp, e⟩⟩
    · exact ⟨0, fun h => absurd h hi⟩
  refine ⟨fun i => (each i).choose, fun i hi => (each i).choose_spec hi, fun i hi => ?_⟩
  obtain ⟨hp, e1⟩ := (each i).choose_spec (by omega)
  obtain ⟨hq, e2⟩ := (each (i + 1)).choose_spec hi
  have hl := sorted_less ok (show i < i + 1 by omega) hi
  show (each i).choose < (each (i + 1)).choose
  generalize (each i).choose = p at *
  generalize (each (i + 1)).choose = q at *
  rcases Nat.lt_trichotomy p q with h1 | h1 | h1
  · exact h1
  · subst h1
    rw [e1] at e2
    rw [e2, lessB_iff] at hl
    omega
  · have := sorted_less h h1 hp
    rw [e1, e2] at this
    rw [lessB_iff] at this hl
    omega
def before (f : Nat → Nat) (i : Nat) : Nat := if i = 0 then 0 else f (i - 1)

set_option maxHeartbeats 4000000 in
theorem walk (v u : Value) (n m : Nat) (w : World) (h : ArgCode w v n) (k : ArgCode w u m) :
    Calls Try.prog 15 #[v, u] w fun e w' => e = .returned (.bool true) ∧ Ext w w' := by
  have h2 := h
  obtain ⟨_, ac, cc, rfl, -⟩ := h2
  have k2 := k
  obtain ⟨_, am, cm, rfl, -⟩ := k2
  clear k
  by_cases hbig : 1048576 < n
  · go_enter Try.func15, Try.ntmps15
    go_wp2
    go_ret
    exact ⟨rfl, Ext.refl _⟩
  have hsm : n ≤ 1048576 := by omega
  clear hbig
  by_cases hbig : 1048576 < m
  · go_enter Try.func15, Try.ntmps15
    go_wp2
    go_ret
    exact ⟨rfl, Ext.refl _⟩
  have hsm2 : m ≤ 1048576 := by omega
  clear hbig
  go_enter Try.func15, Try.ntmps15
  go_wp2_with fail
  refine (DrawTasksSort_any _ _ _ h).mono ?_
  rintro e w1 ⟨vr, vt, room, ts, rfl, hd, E1⟩
  have Hd1 := Lib.hid hd
  obtain ⟨ra, rc, hvr, -⟩ := hd.1.open
  obtain ⟨ta, tc, hvt, htc⟩ := hd.2.2.2.2
  subst hvr hvt
  have F1 := Lib.hid E1
  clear hd E1 h
  have hl20 : ts.length ≤ 20 := Hd1.out.2.2.2.1
  have Htc := Lib.hid htc
  clear htc
  have HL := Lib.hid (show Sm (sortL room ts) from sortL_lim room ts)
  go_wp2_with fail
  refine (TasksSort_any _ _ room ts _ Hd1.out.1 Hd1.out.2.1).mono ?_
  rintro e w2 ⟨vo, rfl, hE, hN⟩
  have O2 := Lib.hid (hN.tasks HL.out.len HL.out.need)
  obtain ⟨oa, oc, ho⟩ := hN.form
  subst ho
  have Hd2 := Lib.hid (Hd1.out.ext hE)
  have F2 := Lib.hid (F1.out.trans hE)
  clear hE hN Hd1 F1
  go_wp2_with fail
  refine (sTasksSort_any _ _ room ts _ Hd2.out.1 Hd2.out.2.1).mono ?_
  rintro e w3 ⟨vo, rfl, hE, hB⟩
  have W3 := Lib.hid (hB.done HL.out.len)
  obtain ⟨wa, wc, ho⟩ := hB.form
  subst ho
  have O3 := Lib.hid (O2.out.ext hE)
  have Hd3 := Lib.hid (Hd2.out.ext hE)
  have F3 := Lib.hid (F2.out.trans hE)
  clear hE hB Hd2 F2 O2
  go_wp2_with fail
  refine (sameTasks_any _ _ _ _ _ O3.out W3.out).mono ?_
  rintro e w4 ⟨rfl, hE⟩
  have W4 := Lib.hid (W3.out.ext hE)
  have O4 := Lib.hid (O3.out.ext hE)
  have Hd4 := Lib.hid (Hd3.out.ext hE)
  have F4 := Lib.hid (F3.out.trans hE)
  clear hE Hd3 F3 O3 W3
  rw [sameTs_iff.2 rfl]
  go_wp2_with fail
  have cc := sTasksValid_ext _ _ room ts _ Hd4.out.1 Hd4.out.2.1
  cases hb : tasksB room ts with
  | false =>
    rw [hb] at cc
    refine cc.mono ?_
    clear cc
    rintro e w5 ⟨rfl, hE⟩
    have W5 := Lib.hid (W4.out.ext hE)
    have O5 := Lib.hid (O4.out.ext hE)
    have F5 := Lib.hid (F4.out.trans hE)
    clear hE
    go_wp2_with fail
    refine (sameTasks_any _ _ _ _ _ O5.out W5.out).mono ?_
    rintro e w6 ⟨rfl, hE⟩
    have F := F5.out.trans hE
    rw [sameTs_iff.2 rfl]
    go_wp2
    go_ret
    exact ⟨rfl, F⟩
  | true =>
    rw [hb] at cc
    have HT := Lib.hid (tasksB_iff.1 hb)
    have HB := Lib.hid (show sortL room ts = sortS ts by simp [sortL, hb])
    clear hb
    refine cc.mono ?_
    clear cc
    rintro e w5 ⟨rfl, hE⟩
    have O5 := Lib.hid (O4.out.ext hE)
    have Hd5 := Lib.hid (Hd4.out.ext hE)
    have F5 := Lib.hid (F4.out.trans hE)
    clear hE W4 O4 Hd4 F4 HL
    rw [HB.out] at O5 ⊢
    obtain ⟨k, hk⟩ : ∃ k, k = m % (ts.length + 1) := ⟨_, rfl⟩
    have hkl : k ≤ ts.length := by have := Nat.mod_lt m (show 0 < ts.length + 1 by omega); omega
    have e1 : (m : Int) % ((ts.length : Int) + 1) = (k : Int) := by rw [hk, Int.natCast_emod]; congr 1
    have e0 : ((ts.length : Int) + 1 == 0) = false := beq_eq_false_iff_ne.2 (by omega)
    have i0 : (0 : Int) ≤ (k : Int) := by omega
    have i1 : (k : Int) ≤ (tc : Int) := by have := Htc.out; omega
    obtain ⟨f, hf⟩ := places HT.out k
    have HF := Lib.hid hf
    have HDs := Lib.hid (distinct (sorted_ok HT.out))
    have ok2 := tasksOk_sub (List.take_sublist k ts) HT.out
    have HX := Lib.hid (show sortL room (ts.take k) = sortS (ts.take k) from sort_perm ok2 (List.Perm.refl _))
    have LX := Lib.hid (show Sm (sortS (ts.take k)) by have := sortL_lim room (ts.take k); rwa [HX.out] at this)
    have xl : (sortS (ts.take k)).length = k := by rw [sortS_len, List.length_take]; omega
    have sl : (sortS ts).length = ts.length := sortS_len ts
    have T5 := Lib.hid (show Tasks w5 (.slice ta k tc) (ts.take k) from Hd5.out.2.1.take hkl)
    clear hf HB hk ok2
    generalize sortS ts = ss at *
    have sl20 : ss.length ≤ 20 := by omega
    have xl20' : (sortS (ts.take k)).length ≤ 20 := by omega
    clear sl xl
    go_wp2_with fail
    refine (TasksSort_any _ _ room (ts.take k) _ Hd5.out.1 T5.out).mono ?_
    rintro e w6 ⟨vx, rfl, hE, hN⟩
    rw [HX.out] at hN
    have X6 := Lib.hid (hN.tasks LX.out.len LX.out.need)
    obtain ⟨xa, xc, ho⟩ := hN.form
    subst ho
    have O6 := Lib.hid (O5.out.ext hE)
    have F6 := Lib.hid (F5.out.trans hE)
    clear hE hN O5 F5 Hd5 T5 HX LX
    generalize sortS (ts.take k) = xs at *
    have xl20 : xs.length ≤ 20 := xl20'
    clear xl20' i0 i1 e1 e0
    go_wp2_with fail
    go_loopw [10, 11] (fun at' i wr => ∃ j : Nat, j ≤ xs.length ∧ i = .int .i64 (j : Int) ∧ at' = .int .i64 ((before f j : Nat) : Int) ∧ Ext w6 wr) (fun _ i _ => xs.length - (intOf i).toNat)
    case atStart => exact ⟨0, by omega, rfl, rfl, Ext.refl _⟩
    case round =>
      obtain ⟨j, hj, rfl, rfl, hE⟩ := hrel
      by_cases hlt : j < xs.length
      · have hjl : (j : Int) < (xs.length : Int) := by omega
        obtain ⟨hp, hpe⟩ := HF.out.1 j hlt
        have st : before f j ≤ f j := by
          unfold before
          split
          · omega
          · have := HF.out.2 (j - 1) (by omega)
            rw [show j - 1 + 1 = j by omega] at this
            omega
        have b1 : Hid (before f (j + 1) = f j) := by show before f (j + 1) = f j; simp [before]
        obtain ⟨b, off, nd, he, x0, -, -⟩ := X6.out.at hlt
        subst he
        generalize f j = p at *
        have Hpe := Lib.hid hpe
        have E6 := Lib.hid hE
        clear hpe hE
        go_wp2_with fail
        go_loopw [10] (fun at' wr' => ∃ a : Nat, a ≤ p ∧ at' = .int .i64 (a : Int) ∧ Ext wr wr') (fun a _ => p - (intOf a).toNat)
        case atStart => exact ⟨_, st, rfl, Ext.refl _⟩
        case round =>
          obtain ⟨a, ha, rfl, hE⟩ := hrel
          have hal : a < ss.length := by omega
          obtain ⟨b', off', nd', he, s0, -, -⟩ := O6.out.at hal
          subst he
          have F7 := Lib.hid (E6.out.trans hE)
          have s0' := F7.out.cell s0
          have x0' := F7.out.cell x0
          have a0 : (0 : Int) ≤ (a : Int) := by omega
          have a1 : (a : Int) < (ss.length : Int) := by omega
          have j0 : (0 : Int) ≤ (j : Int) := by omega
          by_cases hap : a = p
          · have hne : (ss[a].id != xs[j].id) = false := by
              have e : ss[a] = xs[j] := by subst hap; exact Hpe.out
              rw [e]; simp
            have E8 := Lib.hid F7.out
            have Hap := Lib.hid hap
            clear hap s0
            go_wp2
            go_quiet (fail)
            go_wp2_with fail
            go_roundw
            case rel => exact ⟨j + 1, by omega, by go_num, by rw [b1.out, ← Hap.out], E8.out.drewN _⟩
            case measure => simp [intOf]; omega
          · have hne : (ss[a].id != xs[j].id) = true := by
              have : ¬ ss[a].id = xs[j].id := fun e => hap (HDs.out a p hal hp (by rw [e]; exact congrArg T.id Hpe.out.symm))
              simpa using this
            have hlt2 : a < p := by omega
            clear hap s0
            go_wp2
            go_quiet (fail)
            go_wp2_with fail
            go_roundw
            case rel => exact ⟨a + 1, by omega, by go_num, hE.drewN _⟩
            case measure => simp [intOf]; omega
      · have e : j = xs.length := by omega
        subst e
        have hjl : ¬ ((xs.length : Int) < (xs.length : Int)) := by omega
        have F := F6.out.trans hE
        by_cases h0 : xs.length = 0
        · have hz : (((xs.length : Nat) : Int) == 0) = true := by simp [h0]
          clear h0
          go_wp2
          go_ret
          exact ⟨rfl, F⟩
        · have hz : (((xs.length : Nat) : Int) == 0) = false := beq_eq_false_iff_ne.2 (by omega)
          have hb : before f xs.length < ss.length := by
            obtain ⟨hp, _⟩ := HF.out.1 (xs.length - 1) (by omega)
            unfold before
            rw [if_neg h0]
            exact hp
          generalize before f xs.length = q at *
          have hq : (q : Int) < (ss.length : Int) := by omega
          clear h0 hb
          go_wp2
          go_ret
          exact ⟨by first | rfl | simp | simp [hq], F⟩

theorem own : ownKnob Try.prog.godebug = none := by kernel_rfl
theorem laidOut : laidOutB Try.prog = true := by kernel_rfl

set_option maxRecDepth 100000 in
theorem lifted (os : Os) (started : os.Started) (H : Type) (enc : TypeId × Value → H) :
    ReturnsInHanded {} Try.checked os 15 .any (Rows.fnSortPartSpec.pre6 enc Try.prog Try.f15 Rows.fnSortPartRow.domain false) (Rows.fnSortPartSpec.post enc Try.prog Try.f15 false true false false) := by
  refine returnsInHanded_of_change (C := Try.checked) own started (by kernel_rfl) Try.func15
    (ChangeSpec.witness6 (enc := enc) (C := Try.checked) false ⟨#[], #[.slice none 0 0, .slice none 0 0], []⟩ 8 (by kernel_rfl) (by kernel_rfl) (by kernel_rfl) (by kernel_rfl)) ?_
  intro W base args ds gs before hval0 hW hcnd _
  have hval : ∀ (j : Nat) t v, Try.f15.params[j]? = some t → args[j]? = some v → Value.okWide Try.prog W .any base t v := hval0
  have hW' := hW
  obtain ⟨p, q, hA0, hV, rfl, hfz, hnd⟩ := hW
  have hA : DataW.TrodAll enc Try.prog W 0 (fun _ => true) true Try.f15.params.toList args.toList ds p := hA0
  rw [Try.params15] at hA hval
  obtain ⟨v0, vs0, d0, ds0, p0, q0, hargs, rfl, rfl, h0, r0⟩ := trodAll_cons hA
  obtain ⟨v1, vs1, d1, ds1, p1, q1, rfl, rfl, rfl, h1, r1⟩ := trodAll_cons r0
  obtain ⟨rfl, rfl, rfl⟩ := trodAll_nil r1
  obtain rfl : args = #[v0, v1] := by cases args; simp_all
  obtain ⟨rfl, rfl⟩ := trodVars_none hV
  have lt0 : ∀ x ∈ p0, x.block < W.heap.size := by obtain ⟨m, hm⟩ := h0; exact DataW.trod_lt m _ _ _ hm
  have lt1 : ∀ x ∈ p1, x.block < W.heap.size := by obtain ⟨m, hm⟩ := h1; exact DataW.trod_lt m _ _ _ hm
  obtain ⟨x0, e0⟩ := argCode_of h0 (okWide_slice Try.underlying34 (hval 0 34 v0 rfl rfl))
  obtain ⟨x1, e1⟩ := argCode_of h1 (okWide_slice Try.underlying34 (hval 1 34 v1 rfl rfl))
  clear hA0 hval0
  refine (walk v0 v1 x0 x1 W e0 e1).mono fun e W' ⟨he, bel⟩ => ?_
  subst he
  exact ⟨_, rfl, _, _, _, [], _, [], hW', trodAll_mk1 (shut_bool Try.underlying4 _), (trodAll_cons_mk (Below.trod laidOut (by kernel_rfl) (of_decide_eq_true (by kernel_rfl)) h0 bel lt0) (trodAll_cons_mk (Below.trod laidOut (by kernel_rfl) (of_decide_eq_true (by kernel_rfl)) h1 bel lt1) trodAll_mk0)), rfl, Below.frame bel _, fun h => by cases h⟩

theorem closed : joinedFacts Try.prog 15 Try.f15 Rows.fnSortPartSpec Rows.fnSortPartRow = true := by
  unfold joinedFacts
  rw [may_enter, lifts_final, make_cut]
  kernel_rfl

theorem proved : Rows.FnSortPartSaid :=
  OpenClaim.holds_of_wide 15 Try.f15 rfl rfl rfl rfl rfl rfl rfl ⟨rfl, rfl, rfl, rfl, rfl⟩ rfl rfl rfl rfl rfl (by kernel_rfl) Try.func15 closed
    (of_decide_eq_true (by kernel_rfl)) (by unfold Func.isWrapper; first | (rw [if_pos (by decide +kernel)]; kernel_rfl) | (rw [if_neg (by decide +kernel)]; exact ⟨rfl, rfl⟩))
    (fun os started H enc _ => lifted os started H enc)

end Go.Proofs.Ytcijbpjiioodlaa.l18
