/- A law's marks over numbers and over tasks: what they leave, and that they are found again. No condition. -/
import Derived.Test.YtnjgljeejdkbmaaMark
namespace Go.Proofs.Ytnjgljeejdkbmaa
set_option maxRecDepth 100000
open Go.RowKit

theorem IntsU.form {w : World} {A B : Nat} {v : Value} {xs : List Int} (h : IntsU w A B v xs) : ∃ a c, v = .slice a xs.length c := by
  obtain ⟨⟨_, h1⟩, _⟩ := h
  rcases h1 with ⟨rfl, hn⟩ | ⟨g, cap, cur, rfl, _⟩
  · exact ⟨none, 0, by rw [hn]⟩
  · exact ⟨_, cap, rfl⟩
theorem seq_mix {k : Int} {xs : List Int} {j : Nat} (hj : j < xs.length) : (blendL (seqI k xs.length) xs j).set j (k + (j : Int)) = blendL (seqI k xs.length) xs (j + 1) := by
  rw [← blendL_step (seqI_len _ _) hj, seqI_get]

set_option maxHeartbeats 600000 in
theorem markIntS_any (v : Value) (xs : List Int) (k : Int) (A B : Nat) (w : World) (h : IntsU w A B v xs) (h0 : 0 ≤ k) (h1 : k ≤ 1000000000) (hl : xs.length ≤ 4194304) :
    Calls Try.prog 54 #[v, .int .i64 k] w fun e w' => e = .returned (.int .i64 (k + (xs.length : Int))) ∧ IntsU w' A B v (seqI k xs.length) ∧ Chg A B w w' ∧ w.grownBy w' v.ownBlock := by
  obtain ⟨a, c, rfl⟩ := h.form
  have H0 := Lib.hid h
  clear h
  go_enter Try.func54, Try.ntmps54
  go_wp2
  go_loopw [1, 5] (fun q i wr => ∃ j : Nat, j ≤ xs.length ∧ i = .int .i64 j ∧ q = .int .i64 (k + (j : Int)) ∧ IntsU wr A B (.slice a xs.length c) (blendL (seqI k xs.length) xs j) ∧ w.grownBy wr (Value.slice a xs.length c).ownBlock) (fun _ i _ => xs.length - (intOf i).toNat)
  case atStart => exact ⟨0, by omega, rfl, by go_num, by rw [blendL_zero]; exact H0.out, grownBy_refl _ _⟩
  case round =>
    obtain ⟨j, hj, rfl, rfl, hi, hg⟩ := hrel
    by_cases hlt : j < xs.length
    · have hml := blendL_len (seqI_len k xs.length) hj
      obtain ⟨hown, hup⟩ := hi
      unfold OwnInts at hown
      rw [hml] at hown
      obtain ⟨g, rfl, _, hA, hgl, hc, ho⟩ := ownsRow_at hown (by omega)
      have hm : j < ((blendL (seqI k xs.length) xs j).map (Value.int .i64)).length := by rw [List.length_map]; omega
      obtain ⟨p1, p2, p3, f1⟩ := ownsRow_put ho hm (.int .i64 (k + (j : Int)))
      have c0 := hc j hm
      rw [List.getElem?_eq_getElem hm] at c0
      have Hp := Lib.hid (show IntsU (wr.setCell ⟨g, j, none⟩ (.int .i64 (k + (j : Int)))) A B (.slice (some ⟨g, 0, none⟩) xs.length c) (blendL (seqI k xs.length) xs (j + 1)) from by
        refine ⟨?_, hup⟩
        unfold OwnInts
        rw [← List.map_set, seq_mix hlt] at p1
        rw [blendL_len (seqI_len k xs.length) (by omega)]
        exact p1)
      have Hg := Lib.hid (grownBy_trans hg (grownBy_put wr g j (.int .i64 (k + (j : Int)))))
      clear p1 p2 p3 hown ho hc hup hml hg
      go_wp2
      go_roundw
      case rel => exact ⟨j + 1, by omega, by go_num, by go_num, Hp.out, Hg.out⟩
      case measure => simp [intOf]; omega
    · have e : j = xs.length := by omega
      subst e
      rw [blendL_all (seqI_len k xs.length)] at hi
      have Hi := Lib.hid hi
      have Hg := Lib.hid hg
      have Hc : Hid (Chg A B w wr) := by
        show Chg A B w wr
        cases a with
        | none => exact ⟨hg.os, hg.tape, hg.output, hg.size, fun b hb _ => hg.block b hb (by simp [Value.ownBlock])⟩
        | some ad =>
          obtain ⟨b, o, sp⟩ := ad
          rcases H0.out.1.2 with ⟨h1, h2⟩ | ⟨g, cap, cur, hv, hA, hh, _⟩
          · cases h1
          · simp only [Value.slice.injEq, Option.some.injEq, Addr.mk.injEq] at hv
            obtain ⟨⟨rfl, rfl, rfl⟩, -, rfl⟩ := hv
            have hbB : b < B := H0.out.2 b rfl
            exact (Chg.only hg).mono hA hbB
      clear hi hg
      go_wp2
      go_ret
      exact ⟨rfl, Hi.out, Hc.out, Hg.out⟩

set_option maxHeartbeats 600000 in
theorem heldIntS_any (v : Value) (n : Nat) (k : Int) (w : World) (h : Ints w v (seqI k n)) (h0 : 0 ≤ k) (h1 : k ≤ 1000000000) :
    Calls Try.prog 56 #[v, .int .i64 k] w fun e w' => e = .returned (.int .i64 (k + (n : Int))) ∧ w = w' := by
  obtain ⟨a, c, rfl, h⟩ := h.open
  have hl : n ≤ 4194304 := by have := h.1; rw [seqI_len] at this; exact this
  have hsl := seqI_len k n
  rw [hsl] at h ⊢
  have H := Lib.hid h
  have Hsl := Lib.hid hsl
  clear h hsl
  go_enter Try.func56, Try.ntmps56
  go_wp2
  go_loop [1, 5] (fun q i => ∃ j : Nat, j ≤ n ∧ i = .int .i64 j ∧ q = .int .i64 (k + (j : Int))) (fun _ i => n - (intOf i).toNat)
  case atStart => exact ⟨0, by omega, rfl, by go_num⟩
  case round =>
    obtain ⟨j, hj, rfl, rfl⟩ := hrel
    by_cases hlt : j < n
    · have hjl : j < (seqI k n).length := by rw [Hsl.out]; exact hlt
      obtain ⟨b, off, rfl, hc⟩ := H.out.at (by omega)
      have c0 := hc j hjl
      rw [seqI_get] at c0
      clear hc hjl
      go_wp2
      go_round
      case rel => exact ⟨j + 1, by omega, by go_num, by go_num⟩
      case measure => simp [intOf]; omega
    · have e : j = n := by omega
      subst e
      go_wp2
      go_ret
      exact ⟨rfl, rfl⟩

end Go.Proofs.Ytnjgljeejdkbmaa
