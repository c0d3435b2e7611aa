/- The laws' own comparisons. No condition. -/
import Derived.Test.YtfidamjepjgknaaDoorOwn
import Derived.StillTailTactics
namespace Go.Proofs.YtfidamjepjgknaaDoor
set_option maxRecDepth 100000
open Go.RowKit

set_option maxHeartbeats 400000 in
theorem sameInts_any (v u : Value) (xs ys : List Int) (w : World) (h : Ints w v xs) (h' : Ints w u ys) :
    Calls Tryd.prog 17 #[v, u] w fun e w' => e = .returned (.bool (xs == ys)) ∧ ∃ n, w' = w.drewN n := by
  obtain ⟨a, cap, rfl, h⟩ := h.open
  obtain ⟨a', cap', rfl, h'⟩ := h'.open
  have hx : xs.length ≤ 4194304 := h.1
  have hy : ys.length ≤ 4194304 := h'.1
  by_cases hl : xs.length = ys.length
  · have hb : (((xs.length : Nat) : Int) != (ys.length : Nat)) = false := by simp [hl]
    have HL := Lib.hid hl
    clear hl
    go_enter Tryd.func17, Tryd.ntmps17
    go_wp2
    go_loopw [5] (fun i wr => ∃ k n : Nat, k ≤ xs.length ∧ i = .int .i64 k ∧ wr = w.drewN n ∧ ∀ j (h1 : j < xs.length) (h2 : j < ys.length), j < k → xs[j] = ys[j]) (fun i _ => xs.length - (intOf i).toNat)
    case atStart => exact ⟨0, 0, by omega, rfl, rfl, fun _ _ _ h => by omega⟩
    case round =>
      obtain ⟨k, n, hk, rfl, rfl, hg⟩ := hrel
      have Hg := Lib.hid hg
      clear hg
      by_cases hlt : k < xs.length
      · have l2 : k < ys.length := by have := HL.out; omega
        obtain ⟨b, off, rfl, hc⟩ := h.at (by omega)
        obtain ⟨b', off', rfl, hc'⟩ := h'.at (by omega)
        have c1 := hc k hlt
        have c2 := hc' k l2
        clear hc hc'
        have b1 : (k : Int) < (xs.length : Int) := by omega
        have b1' : (k : Int) < (ys.length : Int) := by omega
        have b0 : (0 : Int) ≤ (k : Int) := by omega
        by_cases he : xs[k] = ys[k]
        · have hbb : (xs[k] != ys[k]) = false := by simp [he]
          have He := Lib.hid he
          clear he
          go_wp2
          go_quiet (fail)
          go_wp2
          go_roundw
          case rel => exact ⟨k + 1, n + nq, by omega, by go_num, by first | rfl | exact World.drewN_drewN _ _ _, fun j h1 h2 hj => by
            by_cases e : j = k
            · subst e; exact He.out
            · exact Hg.out j h1 h2 (by omega)⟩
          case measure => simp [intOf]; omega
        · have hbb : (xs[k] != ys[k]) = true := by simp [he]
          have Hr := Lib.hid (beq_lists_at hlt l2 he)
          clear he
          go_wp2
          go_quiet (fail)
          go_wp2
          go_ret
          exact ⟨ret_bool Hr.out.symm, n + nq, by first | rfl | exact World.drewN_drewN _ _ _⟩
      · have e : k = xs.length := by omega
        subst e
        have Hr := Lib.hid (beq_lists HL.out (fun j h1 h2 => Hg.out j h1 h2 h1))
        go_wp2
        go_ret
        exact ⟨ret_bool Hr.out.symm, n, rfl⟩
  · have hb : (((xs.length : Nat) : Int) != (ys.length : Nat)) = true := by simp; omega
    have Hr := Lib.hid (beq_lists_len hl)
    clear hl
    go_enter Tryd.func17, Tryd.ntmps17
    go_wp2
    go_ret
    exact ⟨ret_bool Hr.out.symm, 0, rfl⟩

set_option maxHeartbeats 1000000 in
theorem sameTasks_any (v u : Value) (xs ys : List T) (w : World) (h : Tasks w v xs) (h' : Tasks w u ys) :
    Calls Tryd.prog 8 #[v, u] w fun e w' => e = .returned (.bool (sameTs xs ys)) ∧ Ext w w' := by
  obtain ⟨a, cap, rfl, h⟩ := h.open
  obtain ⟨a', cap', rfl, h'⟩ := h'.open
  have hl1 : xs.length ≤ 4194304 := h.1
  have hl2 : ys.length ≤ 4194304 := h'.1
  by_cases hl : xs.length = ys.length
  · have hb : (((xs.length : Nat) : Int) != (ys.length : Nat)) = false := by simp [hl]
    have HL := Lib.hid hl
    clear hl
    go_enter Tryd.func8, Tryd.ntmps8
    go_wp2
    clear hb
    go_loopw [5] (fun i wr => ∃ k : Nat, k ≤ xs.length ∧ i = .int .i64 k ∧ Ext w wr ∧ ∀ j (h1 : j < xs.length) (h2 : j < ys.length), j < k → sameT xs[j] ys[j] = true) (fun i _ => xs.length - (intOf i).toNat)
    case atStart => exact ⟨0, by omega, rfl, Ext.refl _, fun _ _ _ h => by omega⟩
    case round =>
      obtain ⟨k, hk, rfl, hE, hg⟩ := hrel
      have Hg := Lib.hid hg
      clear hg
      by_cases hlt : k < xs.length
      · have l2 : k < ys.length := by have := HL.out; omega
        obtain ⟨b, off, nd, rfl, c0, c1, hn⟩ := h.at hlt
        obtain ⟨b', off', nd', rfl, d0, d1, hn'⟩ := h'.at l2
        obtain ⟨na, nc, rfl, hn2⟩ := (hn.ext hE).open
        obtain ⟨na', nc', rfl, hn2'⟩ := (hn'.ext hE).open
        have c0' := hE.cell c0
        have c1' := hE.cell c1
        have d0' := hE.cell d0
        have d1' := hE.cell d1
        have Hn := Lib.hid hn2
        have Hn' := Lib.hid hn2'
        have b1 : (k : Int) < (xs.length : Int) := by omega
        have b2 : (k : Int) < (ys.length : Int) := by omega
        have b0 : (0 : Int) ≤ (k : Int) := by omega
        clear hn hn' hn2 hn2' c0 c1 d0 d1
        by_cases hid : xs[k].id = ys[k].id
        · have hbb : (xs[k].id != ys[k].id) = false := by simp [hid]
          have Hid' := Lib.hid hid
          clear hid
          cases hnn : (xs[k].need == ys[k].need) with
          | true =>
            have Hs : Hid (∀ j (h1 : j < xs.length) (h2 : j < ys.length), j < k + 1 → sameT xs[j] ys[j] = true) := by
              intro j h1 h2 hj
              by_cases e : j = k
              · subst e; simp [sameT, Hid'.out, hnn]
              · exact Hg.out j h1 h2 (by omega)
            go_wp2
            go_still_tail 22, (by kernel_rfl)
            change wpList _ _ _ _ _ wr.drew
            go_wp2_with fail
            have cc := sameInts_any _ _ _ _ _ Hn.out.drew Hn'.out.drew
            rw [hnn] at cc
            refine cc.mono ?_
            clear cc
            rintro e w3 ⟨rfl, m, rfl⟩
            have hE2 := hE.drewN (1 + m)
            clear hE
            go_wp2_with fail
            go_roundw
            case rel => exact ⟨k + 1, by omega, by go_num, hE2, Hs.out⟩
            case measure => simp [intOf]; omega
          | false =>
            have Hr := Lib.hid (sameTs_at hlt l2 (show sameT xs[k] ys[k] = false by simp [sameT, hnn]))
            go_wp2
            go_still_tail 22, (by kernel_rfl)
            change wpList _ _ _ _ _ wr.drew
            go_wp2_with fail
            have cc := sameInts_any _ _ _ _ _ Hn.out.drew Hn'.out.drew
            rw [hnn] at cc
            refine cc.mono ?_
            clear cc
            rintro e w3 ⟨rfl, m, rfl⟩
            have hE2 := hE.drewN (1 + m)
            clear hE
            go_wp2_with fail
            go_ret
            exact ⟨ret_bool Hr.out.symm, hE2⟩
        · have hbb : (xs[k].id != ys[k].id) = true := by simp [hid]
          have Hr := Lib.hid (sameTs_at hlt l2 (show sameT xs[k] ys[k] = false by simp [sameT, hid]))
          clear hid
          go_wp2
          go_quiet (fail)
          go_wp2
          go_ret
          exact ⟨ret_bool Hr.out.symm, hE.drewN nq⟩
      · have e : k = xs.length := by omega
        subst e
        have Hr := Lib.hid (sameTs_all HL.out (fun j h1 h2 => Hg.out j h1 h2 h1))
        go_wp2
        go_ret
        exact ⟨ret_bool Hr.out.symm, hE⟩
  · have hb : (((xs.length : Nat) : Int) != (ys.length : Nat)) = true := by simp; omega
    have Hr : Hid (sameTs xs ys = false) := by
      show sameTs xs ys = false
      unfold sameTs
      rw [beq_eq_false_iff_ne.2 hl]
      rfl
    clear hl
    go_enter Tryd.func8, Tryd.ntmps8
    go_wp2
    go_ret
    exact ⟨ret_bool Hr.out.symm, Ext.refl _⟩

end Go.Proofs.YtfidamjepjgknaaDoor
