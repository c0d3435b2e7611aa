/- The reference's vectors and tasks: what its functions return. -/
import Derived.Test.YtipmoedflpjioaaData
namespace Go.Proofs.Ytipmoedflpjioaa
set_option maxRecDepth 100000
open Go.RowKit

set_option maxHeartbeats 400000 in
theorem l6In_any (n lo hi : Int) (w : World) :
    Calls Try.prog 80 #[.int .i64 n, .int .i64 lo, .int .i64 hi] w fun e w' => e = .returned (.bool (inB n lo hi)) ∧ w = w' := by
  by_cases h : lo ≤ n ∧ n ≤ hi
  · rw [inB_true h.1 h.2]
    obtain ⟨h1, h2⟩ := h
    go_enter Try.func80, Try.ntmps80
    go_wp2
    go_ret
    exact ⟨rfl, rfl⟩
  · rw [inB_false h]
    by_cases h1 : lo ≤ n
    · have h2 : ¬ n ≤ hi := fun x => h ⟨h1, x⟩
      clear h
      go_enter Try.func80, Try.ntmps80
      go_wp2
      go_ret
      exact ⟨rfl, rfl⟩
    · clear h
      go_enter Try.func80, Try.ntmps80
      go_wp2
      go_ret
      exact ⟨rfl, rfl⟩

theorem vecB_all {xs : List Int} (h : ∀ j (hj : j < xs.length), 0 ≤ xs[j] ∧ xs[j] ≤ 20) : vecB xs = decide ((xs.length : Int) = 3) := by
  have : ∀ n ∈ xs, 0 ≤ n ∧ n ≤ 20 := fun n hn => by
    obtain ⟨j, hj, rfl⟩ := List.getElem_of_mem hn
    exact h j hj
  rw [Bool.eq_iff_iff, vecB_iff]
  simp only [VecOk, decide_eq_true_eq]
  exact ⟨fun h => by omega, fun h => ⟨by omega, this⟩⟩
theorem vecB_bad {xs : List Int} {k : Nat} (hk : k < xs.length) (h : ¬ (0 ≤ xs[k] ∧ xs[k] ≤ 20)) : vecB xs = false := by
  rw [Bool.eq_false_iff]
  exact fun x => h ((vecB_iff.1 x).2 _ (List.getElem_mem hk))

set_option maxHeartbeats 400000 in
theorem sVecValid_any (v : Value) (xs : List Int) (w : World) (h : Ints w v xs) :
    Calls Try.prog 114 #[v] w fun e w' => e = .returned (.bool (vecB xs)) ∧ w = w' := by
  obtain ⟨a, cap, rfl, h⟩ := h.open
  have hl : xs.length ≤ 4194304 := h.1
  go_enter Try.func114, Try.ntmps114
  go_wp2
  go_loop [3] (fun i => ∃ k : Nat, k ≤ xs.length ∧ i = .int .i64 k ∧ ∀ j (hj : j < xs.length), j < k → 0 ≤ xs[j] ∧ xs[j] ≤ 20) (fun i => xs.length - (intOf i).toNat)
  case atStart => exact ⟨0, by omega, rfl, fun _ _ h => by omega⟩
  case round =>
    obtain ⟨k, hk, rfl, hg⟩ := hrel
    by_cases hlt : k < xs.length
    · obtain ⟨b, off, rfl, hc⟩ := h.at (by omega)
      have hck := hc k hlt
      have Hg := Lib.hid hg
      clear hg hc
      by_cases h0 : 0 ≤ xs[k] ∧ xs[k] ≤ 20
      · have hb := inB_true h0.1 h0.2
        have H0 := Lib.hid h0
        clear h0
        go_wp2_with (go_at_call 80; refine (l6In_any _ _ _ _).mono ?_; rintro e w' ⟨rfl, rfl⟩)
        go_round
        case rel => exact ⟨k + 1, by omega, by go_num, fun j hj hjk => by
          by_cases e : j = k
          · subst e; exact H0.out
          · exact Hg.out j hj (by omega)⟩
        case measure => simp [intOf]; omega
      · have hb := inB_false h0
        have H0 := Lib.hid (vecB_bad hlt h0)
        clear h0
        go_wp2_with (go_at_call 80; refine (l6In_any _ _ _ _).mono ?_; rintro e w' ⟨rfl, rfl⟩)
        go_ret
        exact ⟨ret_bool H0.out.symm, rfl⟩
    · have e : k = xs.length := by omega
      subst e
      have H0 := Lib.hid (vecB_all (fun j hj => hg j hj hj))
      clear hg
      go_wp2
      go_ret
      exact ⟨ret_bool H0.out.symm, rfl⟩

theorem hasB_yes {ts : List T} {many k : Nat} {id : Int} (hk : k < ts.length) (hm : k < many) (h : ts[k].id = id) : hasB ts many id = true := by
  unfold hasB
  simp only [List.any_eq_true, beq_iff_eq]
  exact ⟨ts[k], List.mem_take_iff_getElem.2 ⟨k, by omega, rfl⟩, h⟩
theorem hasB_step {ts : List T} {k : Nat} {id : Int} (hk : k < ts.length) (h : hasB ts k id = false) (h2 : ¬ ts[k].id = id) : hasB ts (k + 1) id = false := by
  unfold hasB at *
  rw [List.take_succ_eq_append_getElem hk, List.any_append, h]
  simpa using h2

set_option maxHeartbeats 400000 in
theorem l2Has_any (v : Value) (ts : List T) (many : Nat) (id : Int) (w : World) (h : Tasks w v ts) (hm : many ≤ ts.length) :
    Calls Try.prog 81 #[v, .int .i64 many, .int .i64 id] w fun e w' => e = .returned (.bool (hasB ts many id)) ∧ w = w' := by
  obtain ⟨a, cap, rfl, h⟩ := h.open
  have hl : ts.length ≤ 4194304 := h.1
  go_enter Try.func81, Try.ntmps81
  go_wp2
  go_loop [7] (fun i => ∃ k : Nat, k ≤ many ∧ i = .int .i64 k ∧ hasB ts k id = false) (fun i => many - (intOf i).toNat)
  case atStart => exact ⟨0, by omega, rfl, by simp [hasB]⟩
  case round =>
    obtain ⟨k, hk, rfl, hg⟩ := hrel
    by_cases hlt : k < many
    · obtain ⟨b, off, nd, rfl, c0, c1, hn⟩ := h.at (k := k) (by omega)
      have Hg := Lib.hid hg
      clear hg
      have Hn := Lib.hid hn
      clear hn c1
      by_cases he : ts[k].id = id
      · have hb : (ts[k].id == id) = true := by simpa using he
        have Hr := Lib.hid (hasB_yes (many := many) (by omega) hlt he)
        clear he
        go_wp2
        go_ret
        exact ⟨ret_bool Hr.out.symm, rfl⟩
      · have hb : (ts[k].id == id) = false := by simpa using he
        have Hr := Lib.hid (hasB_step (by omega) Hg.out he)
        clear he Hg
        go_wp2
        go_round
        case rel => exact ⟨k + 1, by omega, by go_num, Hr.out⟩
        case measure => simp [intOf]; omega
    · have e : k = many := by omega
      subst e
      have H0 := Lib.hid hg
      clear hg
      go_wp2
      go_ret
      exact ⟨ret_bool H0.out.symm, rfl⟩

end Go.Proofs.Ytipmoedflpjioaa
