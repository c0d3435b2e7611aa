/- Moves as they come in, the copies that a law makes of them, their comparison, their marks. No condition. -/
import Derived.Test.YtjdhiabdcmindaaTwo
import Derived.Test.YtjdhiabdcmindaaOpen
namespace Go.Proofs.Ytjdhiabdcmindaa
section
set_option maxRecDepth 100000
open Go.RowKit

theorem info_move : (Try.prog.info? 28).map (fun i => (i.zero, i.size, i.bytes)) = some (some (.agg #[.int .i64 0, .int .i64 0]), 2, 16) := by kernel_rfl
theorem under_moves : Try.prog.underlying 32 = some (.slice 28) := by kernel_rfl
theorem elt_move : Elt Try.prog 32 28 2 16 := Elt.mk' (z := .agg #[.int .i64 0, .int .i64 0]) (by kernel_rfl) (by kernel_rfl) rfl (by decide)

set_option maxHeartbeats 400000 in
theorem eqMove_any (x y : Pr) (w : World) :
    Calls Try.prog 15 #[.agg #[.int .i64 x.a, .int .i64 x.b], .agg #[.int .i64 y.a, .int .i64 y.b]] w fun e w' => e = .returned (.bool (sameP x y)) ∧ Ext w w' := by
  have hEx : Ext w _ := ((Ext.refl w).alloc (Obj.cells #[.int .i64 x.a, .int .i64 x.b] 28)).alloc (Obj.cells #[.int .i64 y.a, .int .i64 y.b] 28)
  by_cases h1 : x.a = y.a
  · have b1 : (x.a != y.a) = false := by simp [h1]
    by_cases h2 : x.b = y.b
    · have b2 : (x.b != y.b) = false := by simp [h2]
      have Hd : Hid (sameP x y = true) := by show sameP x y = _; simp [sameP, h1, h2]
      clear h1 h2
      go_enter Try.func15, Try.ntmps15
      go_wp2_with fail
      go_ret
      exact ⟨ret_bool Hd.out.symm, hEx⟩
    · have b2 : (x.b != y.b) = true := by simp [h2]
      have Hd : Hid (sameP x y = false) := by show sameP x y = _; simp [sameP, h2]
      clear h1 h2
      go_enter Try.func15, Try.ntmps15
      go_wp2_with fail
      go_ret
      exact ⟨ret_bool Hd.out.symm, hEx⟩
  · have b1 : (x.a != y.a) = true := by simp [h1]
    have Hd : Hid (sameP x y = false) := by show sameP x y = _; simp [sameP, h1]
    clear h1
    go_enter Try.func15, Try.ntmps15
    go_wp2_with fail
    go_ret
    exact ⟨ret_bool Hd.out.symm, hEx⟩

set_option maxHeartbeats 600000 in
theorem eqMoveS_any (v u : Value) (xs ys : List Pr) (w : World) (h : Twos 28 w v xs) (h' : Twos 28 w u ys) :
    Calls Try.prog 19 #[v, u] w fun e w' => e = .returned (.bool (samePs xs ys)) ∧ Ext w w' := by
  obtain ⟨a, cap, rfl, h⟩ := h.open
  obtain ⟨a', cap', rfl, h'⟩ := h'.open
  have hx : xs.length ≤ 4194304 := h.1
  have hy : ys.length ≤ 4194304 := h'.1
  by_cases hl : xs.length = ys.length
  · have hb : (((xs.length : Nat) : Int) != (ys.length : Nat)) = false := by simp [hl]
    have HL := Lib.hid hl
    clear hl
    go_enter Try.func19, Try.ntmps19
    go_wp2
    go_loopw [5] (fun i wr => ∃ k : Nat, k ≤ xs.length ∧ i = .int .i64 k ∧ Ext w wr ∧ ∀ j (h1 : j < xs.length) (h2 : j < ys.length), j < k → sameP xs[j] ys[j] = true) (fun i _ => xs.length - (intOf i).toNat)
    case atStart => exact ⟨0, by omega, rfl, Ext.refl _, fun _ _ _ h => by omega⟩
    case round =>
      obtain ⟨k, hk, rfl, hE, hg⟩ := hrel
      have Hg := Lib.hid hg
      clear hg
      by_cases hlt : k < xs.length
      · have l2 : k < ys.length := by have := HL.out; omega
        obtain ⟨b, off, rfl, c0, c1⟩ := h.at hlt
        obtain ⟨b', off', rfl, d0, d1⟩ := h'.at l2
        have c0' := hE.cell c0
        have c1' := hE.cell c1
        have d0' := hE.cell d0
        have d1' := hE.cell d1
        clear c0 c1 d0 d1
        have b1 : (k : Int) < (xs.length : Int) := by omega
        have b1' : (k : Int) < (ys.length : Int) := by omega
        have b0 : (0 : Int) ≤ (k : Int) := by omega
        cases he : sameP xs[k] ys[k] with
        | true =>
          have Hd : Hid (∀ j (h1 : j < xs.length) (h2 : j < ys.length), j < k + 1 → sameP xs[j] ys[j] = true) := by
            intro j h1 h2 hj
            by_cases e : j = k
            · subst e; exact he
            · exact Hg.out j h1 h2 (by omega)
          go_wp2
          go_still_tail 8, (by kernel_rfl)
          change wpList _ _ _ _ _ wr.drew
          go_wp2_with fail
          have cc := eqMove_any xs[k] ys[k] wr.drew
          rw [he] at cc
          refine cc.mono ?_
          clear cc
          rintro e w1 ⟨rfl, hE2⟩
          have hE3 := hE.drew.trans hE2
          clear hE hE2
          go_wp2_with fail
          go_roundw
          case rel => exact ⟨k + 1, by omega, by go_num, hE3, Hd.out⟩
          case measure => simp [intOf]; omega
        | false =>
          have Hr := Lib.hid (samePs_at hlt l2 he)
          go_wp2
          go_still_tail 8, (by kernel_rfl)
          change wpList _ _ _ _ _ wr.drew
          go_wp2_with fail
          have cc := eqMove_any xs[k] ys[k] wr.drew
          rw [he] at cc
          refine cc.mono ?_
          clear cc
          rintro e w1 ⟨rfl, hE2⟩
          have hE3 := hE.drew.trans hE2
          clear hE hE2
          go_wp2_with fail
          go_ret
          exact ⟨ret_bool Hr.out.symm, hE3⟩
      · have e : k = xs.length := by omega
        subst e
        have Hr := Lib.hid (samePs_all HL.out (fun j h1 h2 => Hg.out j h1 h2 h1))
        go_wp2
        go_ret
        exact ⟨ret_bool Hr.out.symm, hE⟩
  · have hb : (((xs.length : Nat) : Int) != (ys.length : Nat)) = true := by simp; omega
    have Hr : Hid (samePs xs ys = false) := by
      show samePs xs ys = false
      rw [Bool.eq_false_iff]
      exact fun e => hl (by rw [samePs_iff.1 e])
    clear hl
    go_enter Try.func19, Try.ntmps19
    go_wp2
    go_ret
    exact ⟨ret_bool Hr.out.symm, Ext.refl _⟩

set_option maxHeartbeats 600000 in
theorem markMoveS_any (v : Value) (ps : List Pr) (k : Int) (A B : Nat) (w : World) (h : TwosU 28 w A B v ps) (h0 : 0 ≤ k) (h1 : k ≤ 900000000) (hl : ps.length ≤ 4194304) :
    Calls Try.prog 22 #[v, .int .i64 k] w fun e w' => e = .returned (.int .i64 (k + ((2 * ps.length : Nat) : Int))) ∧ TwosU 28 w' A B v (seqM k ps.length) ∧ Chg A B w w' := by
  obtain ⟨a, c, rfl⟩ := h.1.form
  have H0 := Lib.hid h
  clear h
  go_enter Try.func22, Try.ntmps22
  go_wp2
  go_loopw [1, 5] (fun q i wr => ∃ j : Nat, j ≤ ps.length ∧ i = .int .i64 j ∧ q = .int .i64 (k + 2 * (j : Int)) ∧ TwosU 28 wr A B (.slice a ps.length c) (blendL (seqM k ps.length) ps j) ∧ w.grownBy wr (Value.slice a ps.length c).ownBlock) (fun _ i _ => ps.length - (intOf i).toNat)
  case atStart => exact ⟨0, by omega, rfl, by go_num, by rw [blendL_zero]; exact H0.out, grownBy_refl _ _⟩
  case round =>
    obtain ⟨j, hj, rfl, rfl, hi, hg⟩ := hrel
    by_cases hlt : j < ps.length
    · have hml := blendL_len (seqM_len k ps.length) hj
      obtain ⟨hown, hup⟩ := hi
      unfold OwnTwos at hown
      rw [hml] at hown
      obtain ⟨g, rfl, _, hA, hgl, hc, ho⟩ := ownsRow_at hown (by omega)
      have hx := cellsP_len (blendL (seqM k ps.length) ps j)
      have hjl : j < (blendL (seqM k ps.length) ps j).length := by omega
      obtain ⟨p1, p2, p3, f1⟩ := ownsRow_put ho (k := j * 2) (by omega) (.int .i64 (k + 2 * (j : Int)))
      obtain ⟨q1, q2, q3, f2⟩ := ownsRow_put p1 (k := j * 2 + 1) (by simp; omega) (.int .i64 (k + 2 * (j : Int) + 1))
      have c0 := hc (j * 2) (by omega)
      have c1 := hc (j * 2 + 1) (by omega)
      rw [(cellsP_at hjl).1] at c0
      rw [(cellsP_at hjl).2] at c1
      have Hp := Lib.hid (show TwosU 28 ((wr.setCell ⟨g, j * 2, none⟩ (.int .i64 (k + 2 * (j : Int)))).setCell ⟨g, j * 2 + 1, none⟩ (.int .i64 (k + 2 * (j : Int) + 1))) A B (.slice (some ⟨g, 0, none⟩) ps.length c) (blendL (seqM k ps.length) ps (j + 1)) from by
        refine ⟨?_, hup⟩
        unfold OwnTwos
        have e := cellsP_set (p := ⟨k + 2 * (j : Int), k + 2 * (j : Int) + 1⟩) hjl
        rw [seqM_mix hlt] at e
        rw [e] at q1
        rw [blendL_len (seqM_len k ps.length) (by omega)]
        exact q1)
      have Hg := Lib.hid (grownBy_trans hg (grownBy_trans (grownBy_put wr g (j * 2) (.int .i64 (k + 2 * (j : Int)))) (grownBy_put _ g (j * 2 + 1) (.int .i64 (k + 2 * (j : Int) + 1)))))
      clear p1 p2 p3 q1 q2 q3 hown ho hc hup hml hg hx
      go_wp2
      go_roundw
      case rel => exact ⟨j + 1, by omega, by go_num, by go_num, Hp.out, Hg.out⟩
      case measure => simp [intOf]; omega
    · have e : j = ps.length := by omega
      subst e
      rw [blendL_all (seqM_len k ps.length)] at hi
      have Hi := Lib.hid hi
      have Hg := Lib.hid hg
      have Hc : Hid (Chg A B w wr) := by
        show Chg A B w wr
        cases a with
        | none => exact ⟨hg.os, hg.tape, hg.output, hg.size, fun b hb _ => hg.block b hb (by simp [Value.ownBlock])⟩
        | some ad =>
          obtain ⟨b, o, sp⟩ := ad
          rcases H0.out.1.2 with ⟨h1, h2⟩ | ⟨g, cap, cur, hv, hA, hh, _⟩
          · cases h1
          · simp only [Value.slice.injEq, Option.some.injEq, Addr.mk.injEq] at hv
            obtain ⟨⟨rfl, rfl, rfl⟩, -, rfl⟩ := hv
            have hbB : b < B := H0.out.2 b rfl
            exact (Chg.only hg).mono hA hbB
      clear hi hg
      go_wp2
      go_ret
      exact ⟨ret_int (by omega), Hi.out, Hc.out⟩

set_option maxHeartbeats 600000 in
theorem heldMoveS_any (v : Value) (ps : List Pr) (k : Int) (w : World) (h : Twos 28 w v (seqM k ps.length)) (h0 : 0 ≤ k) (h1 : k ≤ 900000000) (hl : ps.length ≤ 4194304) :
    Calls Try.prog 23 #[v, .int .i64 k] w fun e w' => e = .returned (.int .i64 (k + ((2 * ps.length : Nat) : Int))) ∧ Ext w w' := by
  generalize hn : ps.length = n at *
  clear hn
  obtain ⟨a, c, rfl, h⟩ := h.open
  have hsl := seqM_len k n
  rw [hsl] at h ⊢
  have H := Lib.hid h
  have Hsl := Lib.hid hsl
  clear h hsl
  go_enter Try.func23, Try.ntmps23
  go_wp2
  go_loop [1, 5] (fun q i => ∃ j : Nat, j ≤ n ∧ i = .int .i64 j ∧ q = .int .i64 (k + 2 * (j : Int))) (fun _ i => n - (intOf i).toNat)
  case atStart => exact ⟨0, by omega, rfl, by go_num⟩
  case round =>
    obtain ⟨j, hj, rfl, rfl⟩ := hrel
    by_cases hlt : j < n
    · have hjl : j < (seqM k n).length := by rw [Hsl.out]; exact hlt
      obtain ⟨b, off, rfl, c0, c1⟩ := H.out.at hjl
      rw [seqM_get] at c0 c1
      go_wp2
      go_round
      case rel => exact ⟨j + 1, by omega, by go_num, by go_num⟩
      case measure => simp [intOf]; omega
    · have e : j = n := by omega
      subst e
      go_wp2
      go_ret
      exact ⟨ret_int (by omega), Ext.refl _⟩
end

section
set_option maxRecDepth 100000
open Go.RowKit Go.ChangeShapes Go.WideShapes Go.Deep
variable {H : Type} {enc : TypeId × Value → H} {w : World} {base : Nat} {spare : Nat → Bool} {held : Bool}
end
end Go.Proofs.Ytjdhiabdcmindaa
