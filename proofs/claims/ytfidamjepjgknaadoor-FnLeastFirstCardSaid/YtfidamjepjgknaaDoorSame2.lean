/- The laws' own comparison of nodes; that a list holds a task. No condition. -/
import Derived.Test.YtfidamjepjgknaaDoorSame
import Derived.Test.YtfidamjepjgknaaDoorArg
namespace Go.Proofs.YtfidamjepjgknaaDoor
set_option maxRecDepth 100000
open Go.RowKit

set_option maxHeartbeats 600000 in
theorem sameBins_any (v u : Value) (xs ys : List (List T)) (w : World) (h : Bins w v xs) (h' : Bins w u ys) :
    Calls Tryd.prog 7 #[v, u] w fun e w' => e = .returned (.bool (sameBs xs ys)) ∧ Ext w w' := by
  obtain ⟨a, cap, rfl, h⟩ := h.open
  obtain ⟨a', cap', rfl, h'⟩ := h'.open
  have hx : xs.length ≤ 4194304 := h.1
  have hy : ys.length ≤ 4194304 := h'.1
  by_cases hl : xs.length = ys.length
  · have hb : (((xs.length : Nat) : Int) != (ys.length : Nat)) = false := by simp [hl]
    have HL := Lib.hid hl
    clear hl
    go_enter Tryd.func7, Tryd.ntmps7
    go_wp2
    go_loopw [5] (fun i wr => ∃ k : Nat, k ≤ xs.length ∧ i = .int .i64 k ∧ Ext w wr ∧ ∀ j (h1 : j < xs.length) (h2 : j < ys.length), j < k → sameTs xs[j] ys[j] = true) (fun i _ => xs.length - (intOf i).toNat)
    case atStart => exact ⟨0, by omega, rfl, Ext.refl _, fun _ _ _ h => by omega⟩
    case round =>
      obtain ⟨k, hk, rfl, hE, hg⟩ := hrel
      have Hg := Lib.hid hg
      clear hg
      by_cases hlt : k < xs.length
      · have l2 : k < ys.length := by have := HL.out; omega
        obtain ⟨b, off, nd, rfl, c1, hn⟩ := h.at hlt
        obtain ⟨b', off', nd', rfl, d1, hn2⟩ := h'.at l2
        obtain ⟨e1, f1, rfl, hn'⟩ := (hn.ext hE).open
        obtain ⟨e2, f2, rfl, hn2'⟩ := (hn2.ext hE).open
        have c1' := hE.cell c1
        have d1' := hE.cell d1
        have Hn := Lib.hid hn'
        have Hn2 := Lib.hid hn2'
        clear hn hn' hn2 hn2' c1 d1
        have b1 : (k : Int) < (xs.length : Int) := by omega
        have b1' : (k : Int) < (ys.length : Int) := by omega
        have b0 : (0 : Int) ≤ (k : Int) := by omega
        cases he : sameTs xs[k] ys[k] with
        | true =>
          have Hd : Hid (∀ j (h1 : j < xs.length) (h2 : j < ys.length), j < k + 1 → sameTs xs[j] ys[j] = true) := by
            intro j h1 h2 hj
            by_cases e : j = k
            · subst e; exact he
            · exact Hg.out j h1 h2 (by omega)
          go_wp2
          go_still_tail 8, (by kernel_rfl)
          change wpList _ _ _ _ _ wr.drew
          go_wp2_with fail
          refine (sameTasks_any _ _ _ _ _ Hn.out.drew Hn2.out.drew).mono ?_
          rintro e w1 ⟨rfl, hE2⟩
          have hE3 := hE.drew.trans hE2
          clear hE hE2
          go_wp2_with fail
          go_roundw
          case rel => exact ⟨k + 1, by omega, by go_num, hE3, Hd.out⟩
          case measure => simp [intOf]; omega
        | false =>
          have Hr := Lib.hid (sameBs_at hlt l2 he)
          go_wp2
          go_still_tail 8, (by kernel_rfl)
          change wpList _ _ _ _ _ wr.drew
          go_wp2_with fail
          refine (sameTasks_any _ _ _ _ _ Hn.out.drew Hn2.out.drew).mono ?_
          rintro e w1 ⟨rfl, hE2⟩
          have hE3 := hE.drew.trans hE2
          clear hE hE2
          go_wp2_with fail
          go_ret
          exact ⟨ret_bool Hr.out.symm, hE3⟩
      · have e : k = xs.length := by omega
        subst e
        have Hd := Lib.hid (sameBs_all HL.out fun j h1 h2 => Hg.out j h1 h2 h1)
        go_wp2
        go_ret
        exact ⟨ret_bool Hd.out.symm, hE⟩
  · have hb : (((xs.length : Nat) : Int) != (ys.length : Nat)) = true := by simp; omega
    have Hd : Hid (sameBs xs ys = false) := by
      show sameBs xs ys = false
      rw [Bool.eq_false_iff]
      intro e
      exact hl (by rw [sameBs_iff.1 e])
    clear hl
    go_enter Tryd.func7, Tryd.ntmps7
    go_wp2
    go_ret
    exact ⟨ret_bool Hd.out.symm, Ext.refl _⟩


/-- Is a task among some? -/
def hasT (ts : List T) (x : T) : Bool := ts.any fun t => sameT t x
theorem hasT_mem {ts : List T} {x : T} (h : x ∈ ts) : hasT ts x = true := by
  unfold hasT
  rw [List.any_eq_true]
  exact ⟨x, h, sameT_iff.2 rfl⟩
theorem hasT_step {ts : List T} {x : T} {k : Nat} (hk : k < ts.length) (h : sameT ts[k] x = true) : hasT ts x = true := by
  unfold hasT
  rw [List.any_eq_true]
  exact ⟨_, List.getElem_mem hk, h⟩
theorem hasT_no {ts : List T} {x : T} (h : ∀ j (hj : j < ts.length), sameT ts[j] x = false) : hasT ts x = false := by
  unfold hasT
  rw [List.any_eq_false]
  intro t ht
  obtain ⟨j, hj, rfl⟩ := List.getElem_of_mem ht
  rw [h j hj]
  simp

end Go.Proofs.YtfidamjepjgknaaDoor
