/- The laws' comparisons. -/
import Derived.Test.YtipmoedflpjioaaArg2
import Derived.Test.YtipmoedflpjioaaLists
namespace Go.Proofs.Ytipmoedflpjioaa
set_option maxRecDepth 100000
open Go.RowKit

set_option maxHeartbeats 400000 in
theorem eqIntS_any (v u : Value) (xs ys : List Int) (w : World) (h : Ints w v xs) (h' : Ints w u ys) :
    Calls Try.prog 38 #[v, u] w fun e w' => e = .returned (.bool (xs == ys)) ∧ ∃ n, w' = w.drewN n := by
  obtain ⟨a, cap, rfl, h⟩ := h.open
  obtain ⟨a', cap', rfl, h'⟩ := h'.open
  have hx : xs.length ≤ 4194304 := h.1
  have hy : ys.length ≤ 4194304 := h'.1
  by_cases hl : xs.length = ys.length
  · have hb : (((xs.length : Nat) : Int) != (ys.length : Nat)) = false := by simp [hl]
    have HL := Lib.hid hl
    clear hl
    go_enter Try.func38, Try.ntmps38
    go_wp2
    go_loopw [5] (fun i wr => ∃ k n : Nat, k ≤ xs.length ∧ i = .int .i64 k ∧ wr = w.drewN n ∧ ∀ j (h1 : j < xs.length) (h2 : j < ys.length), j < k → xs[j] = ys[j]) (fun i _ => xs.length - (intOf i).toNat)
    case atStart => exact ⟨0, 0, by omega, rfl, rfl, fun _ _ _ h => by omega⟩
    case round =>
      obtain ⟨k, n, hk, rfl, rfl, hg⟩ := hrel
      have Hg := Lib.hid hg
      clear hg
      by_cases hlt : k < xs.length
      · have l2 : k < ys.length := by have := HL.out; omega
        obtain ⟨b, off, rfl, hc⟩ := h.at (by omega)
        obtain ⟨b', off', rfl, hc'⟩ := h'.at (by omega)
        have c1 := hc k hlt
        have c2 := hc' k l2
        clear hc hc'
        have b1 : (k : Int) < (xs.length : Int) := by omega
        have b1' : (k : Int) < (ys.length : Int) := by omega
        have b0 : (0 : Int) ≤ (k : Int) := by omega
        by_cases he : xs[k] = ys[k]
        · have hbb : (xs[k] != ys[k]) = false := by simp [he]
          have He := Lib.hid he
          clear he
          go_wp2
          go_quiet (fail)
          go_wp2
          go_roundw
          case rel => exact ⟨k + 1, n + nq, by omega, by go_num, by first | rfl | exact World.drewN_drewN _ _ _, fun j h1 h2 hj => by
            by_cases e : j = k
            · subst e; exact He.out
            · exact Hg.out j h1 h2 (by omega)⟩
          case measure => simp [intOf]; omega
        · have hbb : (xs[k] != ys[k]) = true := by simp [he]
          have Hr := Lib.hid (beq_lists_at hlt l2 he)
          clear he
          go_wp2
          go_quiet (fail)
          go_wp2
          go_ret
          exact ⟨ret_bool Hr.out.symm, n + nq, by first | rfl | exact World.drewN_drewN _ _ _⟩
      · have e : k = xs.length := by omega
        subst e
        have Hr := Lib.hid (beq_lists HL.out (fun j h1 h2 => Hg.out j h1 h2 h1))
        go_wp2
        go_ret
        exact ⟨ret_bool Hr.out.symm, n, rfl⟩
  · have hb : (((xs.length : Nat) : Int) != (ys.length : Nat)) = true := by simp; omega
    have Hr := Lib.hid (beq_lists_len hl)
    clear hl
    go_enter Try.func38, Try.ntmps38
    go_wp2
    go_ret
    exact ⟨ret_bool Hr.out.symm, 0, rfl⟩

set_option maxHeartbeats 400000 in
theorem eqTask_any (x y : T) (n1 n2 : Value) (w : World) (h1 : Ints w n1 x.need) (h2 : Ints w n2 y.need) :
    Calls Try.prog 58 #[.agg #[.int .i64 x.id, n1], .agg #[.int .i64 y.id, n2]] w fun e w' => e = .returned (.bool (sameT x y)) ∧ Ext w w' := by
  obtain ⟨a1, c1, rfl, h1⟩ := h1.open
  obtain ⟨a2, c2, rfl, h2⟩ := h2.open
  have hEx : Ext w _ := ((Ext.refl w).alloc (Obj.cells #[.int .i64 x.id, .slice a1 x.need.length c1] 38)).alloc (Obj.cells #[.int .i64 y.id, .slice a2 y.need.length c2] 38)
  by_cases he : x.id = y.id
  · have hb : (x.id != y.id) = false := by simp [he]
    have Hd : Hid (sameT x y = (x.need == y.need)) := by show sameT x y = _; simp [sameT, he]
    clear he
    cases hq : (x.need == y.need) with
    | true =>
      have Hq := Lib.hid hq
      go_enter Try.func58, Try.ntmps58
      go_wp2_with fail
      refine (eqIntS_any _ _ _ _ _ (h1.ext hEx) (h2.ext hEx)).mono ?_
      rintro e w1 ⟨rfl, m, rfl⟩
      have hE2 := hEx.drewN m
      clear hEx
      rw [hq]
      go_wp2_with fail
      go_ret
      exact ⟨ret_bool (by rw [Hd.out, Hq.out]), hE2⟩
    | false =>
      have Hq := Lib.hid hq
      go_enter Try.func58, Try.ntmps58
      go_wp2_with fail
      refine (eqIntS_any _ _ _ _ _ (h1.ext hEx) (h2.ext hEx)).mono ?_
      rintro e w1 ⟨rfl, m, rfl⟩
      have hE2 := hEx.drewN m
      clear hEx
      rw [hq]
      go_wp2_with fail
      go_ret
      exact ⟨ret_bool (by rw [Hd.out, Hq.out]), hE2⟩
  · have hb : (x.id != y.id) = true := by simp [he]
    have Hd : Hid (sameT x y = false) := by show sameT x y = _; simp [sameT, he]
    clear he
    go_enter Try.func58, Try.ntmps58
    go_wp2_with fail
    go_ret
    exact ⟨ret_bool Hd.out.symm, hEx⟩

set_option maxHeartbeats 600000 in
theorem eqTaskS_any (v u : Value) (xs ys : List T) (w : World) (h : Tasks w v xs) (h' : Tasks w u ys) :
    Calls Try.prog 39 #[v, u] w fun e w' => e = .returned (.bool (sameTs xs ys)) ∧ Ext w w' := by
  obtain ⟨a, cap, rfl, h⟩ := h.open
  obtain ⟨a', cap', rfl, h'⟩ := h'.open
  have hx : xs.length ≤ 4194304 := h.1
  have hy : ys.length ≤ 4194304 := h'.1
  by_cases hl : xs.length = ys.length
  · have hb : (((xs.length : Nat) : Int) != (ys.length : Nat)) = false := by simp [hl]
    have HL := Lib.hid hl
    clear hl
    go_enter Try.func39, Try.ntmps39
    go_wp2
    go_loopw [5] (fun i wr => ∃ k : Nat, k ≤ xs.length ∧ i = .int .i64 k ∧ Ext w wr ∧ ∀ j (h1 : j < xs.length) (h2 : j < ys.length), j < k → sameT xs[j] ys[j] = true) (fun i _ => xs.length - (intOf i).toNat)
    case atStart => exact ⟨0, by omega, rfl, Ext.refl _, fun _ _ _ h => by omega⟩
    case round =>
      obtain ⟨k, hk, rfl, hE, hg⟩ := hrel
      have Hg := Lib.hid hg
      clear hg
      by_cases hlt : k < xs.length
      · have l2 : k < ys.length := by have := HL.out; omega
        obtain ⟨b, off, nd, rfl, c0, c1, hn⟩ := h.at hlt
        obtain ⟨b', off', nd', rfl, d0, d1, hn2⟩ := h'.at l2
        obtain ⟨e1, f1, rfl, hn'⟩ := (hn.ext hE).open
        obtain ⟨e2, f2, rfl, hn2'⟩ := (hn2.ext hE).open
        have c0' := hE.cell c0
        have c1' := hE.cell c1
        have d0' := hE.cell d0
        have d1' := hE.cell d1
        have Hn := Lib.hid hn'
        have Hn2 := Lib.hid hn2'
        clear hn hn' hn2 hn2' c0 c1 d0 d1
        have b1 : (k : Int) < (xs.length : Int) := by omega
        have b1' : (k : Int) < (ys.length : Int) := by omega
        have b0 : (0 : Int) ≤ (k : Int) := by omega
        cases he : sameT xs[k] ys[k] with
        | true =>
          have Hd : Hid (∀ j (h1 : j < xs.length) (h2 : j < ys.length), j < k + 1 → sameT xs[j] ys[j] = true) := by
            intro j h1 h2 hj
            by_cases e : j = k
            · subst e; exact he
            · exact Hg.out j h1 h2 (by omega)
          go_wp2
          go_still_tail 8, (by kernel_rfl)
          change wpList _ _ _ _ _ wr.drew
          go_wp2_with fail
          refine (eqTask_any _ _ _ _ _ Hn.out.drew Hn2.out.drew).mono ?_
          rintro e w1 ⟨rfl, hE2⟩
          have hE3 := hE.drew.trans hE2
          clear hE hE2
          go_wp2_with fail
          go_roundw
          case rel => exact ⟨k + 1, by omega, by go_num, hE3, Hd.out⟩
          case measure => simp [intOf]; omega
        | false =>
          have Hr := Lib.hid (sameTs_at hlt l2 he)
          go_wp2
          go_still_tail 8, (by kernel_rfl)
          change wpList _ _ _ _ _ wr.drew
          go_wp2_with fail
          refine (eqTask_any _ _ _ _ _ Hn.out.drew Hn2.out.drew).mono ?_
          rintro e w1 ⟨rfl, hE2⟩
          have hE3 := hE.drew.trans hE2
          clear hE hE2
          go_wp2_with fail
          go_ret
          exact ⟨ret_bool Hr.out.symm, hE3⟩
      · have e : k = xs.length := by omega
        subst e
        have Hr := Lib.hid (sameTs_all HL.out (fun j h1 h2 => Hg.out j h1 h2 h1))
        go_wp2
        go_ret
        exact ⟨ret_bool Hr.out.symm, hE⟩
  · have hb : (((xs.length : Nat) : Int) != (ys.length : Nat)) = true := by simp; omega
    have Hr : Hid (sameTs xs ys = false) := by
      show sameTs xs ys = false
      rw [Bool.eq_false_iff]
      exact fun e => hl (by rw [sameTs_iff.1 e])
    clear hl
    go_enter Try.func39, Try.ntmps39
    go_wp2
    go_ret
    exact ⟨ret_bool Hr.out.symm, Ext.refl _⟩

end Go.Proofs.Ytipmoedflpjioaa
