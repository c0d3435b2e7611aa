/- The reference: where a task is, which nodes are empty, all tasks, the first node. -/
import Derived.Test.YtjdhiabdcmindaaS8
import Derived.Test.YtjdhiabdcmindaaI8
import Derived.Deep.RegionHeld3
namespace Go.Proofs.Ytjdhiabdcmindaa
set_option maxRecDepth 100000
open Go.RowKit

theorem hasB_full (b : List T) (id : Int) : hasB b b.length id = b.any (isId id) := by unfold hasB; rw [List.take_length]; rfl

set_option maxHeartbeats 600000 in
theorem l2Where_any (v : Value) (bs : List (List T)) (id : Int) (w : World) (h : Bins w v bs) :
    Calls Try.prog 65 #[v, .int .i64 id] w fun e w' => e = .returned (.int .i64 (nodeI (where0 bs id))) ∧ Ext w w' := by
  obtain ⟨a, cap, rfl, h⟩ := h.open
  have hl : bs.length ≤ 4194304 := h.1
  go_enter Try.func65, Try.ntmps65
  go_wp2
  go_loopw [5] (fun i wr => ∃ k : Nat, k ≤ bs.length ∧ i = .int .i64 k ∧ Ext w wr ∧ ∀ j (h : j < bs.length), j < k → bs[j].any (isId id) = false) (fun i _ => bs.length - (intOf i).toNat)
  case atStart => exact ⟨0, by omega, rfl, Ext.refl _, fun _ _ h => by omega⟩
  case round =>
    obtain ⟨k, hk, rfl, hE, hg⟩ := hrel
    have HG := Lib.hid hg
    clear hg
    by_cases hlt : k < bs.length
    · obtain ⟨b, off, nd, rfl, c0, ht⟩ := h.at hlt
      have c0' := hE.cell c0
      obtain ⟨ta, tc, rfl, ht'⟩ := (ht.ext hE).open
      have Ht := Lib.hid ht'
      have b0 : (0 : Int) ≤ (k : Int) := by omega
      have b1 : (k : Int) < (bs.length : Int) := by omega
      clear ht c0 ht'
      cases hb : hasB bs[k] bs[k].length id with
      | true =>
        have Hd : Hid (where0 bs id = some k) := find_some HG.out hlt (by rw [hasB_full] at hb; exact hb)
        go_wp2
        go_still_tail 10, (by kernel_rfl)
        change wpList _ _ _ _ _ wr.drew
        go_wp2_with fail
        have cc := l2Has_any _ _ bs[k].length id _ Ht.out.drew (Nat.le_refl _)
        rw [hb] at cc
        refine cc.mono ?_
        clear cc
        rintro e w3 ⟨rfl, rfl⟩
        go_wp2_with fail
        go_ret
        exact ⟨ret_int (by rw [Hd.out]; rfl), hE.drew⟩
      | false =>
        have Hd : Hid (∀ j (h : j < bs.length), j < k + 1 → bs[j].any (isId id) = false) := by
          intro j hj hjk
          by_cases e : j = k
          · subst e; rw [hasB_full] at hb; exact hb
          · exact HG.out j hj (by omega)
        go_wp2
        go_still_tail 10, (by kernel_rfl)
        change wpList _ _ _ _ _ wr.drew
        go_wp2_with fail
        have cc := l2Has_any _ _ bs[k].length id _ Ht.out.drew (Nat.le_refl _)
        rw [hb] at cc
        refine cc.mono ?_
        clear cc
        rintro e w3 ⟨rfl, rfl⟩
        have hE2 := hE.drew
        clear hE
        go_wp2_with fail
        go_roundw
        case rel => exact ⟨k + 1, by omega, by go_num, hE2, Hd.out⟩
        case measure => simp [intOf]; omega
    · have e : k = bs.length := by omega
      subst e
      have Hd : Hid (where0 bs id = none) := find_none fun j hj => HG.out j hj hj
      go_wp2
      go_ret
      exact ⟨ret_int (by rw [Hd.out]; rfl), hE⟩

end Go.Proofs.Ytjdhiabdcmindaa
