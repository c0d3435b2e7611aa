/- Pairs as they come in, the copies that a law makes of them, their comparison, their marks. No condition. -/
import Derived.Test.YtcijbpjiioodlaaTwo
import Derived.Test.YtcijbpjiioodlaaOpen
namespace Go.Proofs.Ytcijbpjiioodlaa
section
set_option maxRecDepth 100000
open Go.RowKit

theorem info_pair : (Try.prog.info? 73).map (fun i => (i.zero, i.size, i.bytes)) = some (some (.agg #[.int .i64 0, .int .i64 0]), 2, 16) := by kernel_rfl
theorem under_pairs : Try.prog.underlying 60 = some (.slice 73) := by kernel_rfl
theorem elt_pair : Elt Try.prog 60 73 2 16 := Elt.mk' (z := .agg #[.int .i64 0, .int .i64 0]) (by kernel_rfl) (by kernel_rfl) rfl (by decide)

set_option maxHeartbeats 400000 in
theorem szPairS_any (v : Value) (ps : List Pr) (left : Int) (w : World) (h : ArgTwos w v ps) (h0 : 0 ≤ left) (h1 : left ≤ 1048576) :
    Calls Try.prog 41 #[v, .int .i64 left] w (SzPost ps.length left w) := by
  obtain ⟨hl, a, cap, rfl, _⟩ := h
  by_cases hlt : left - ps.length < 0
  · go_enter Try.func41, Try.ntmps41
    go_wp2
    go_ret
    exact ⟨-1, rfl, .inl rfl, Ext.refl _⟩
  · go_enter Try.func41, Try.ntmps41
    go_wp2
    go_ret
    exact ⟨_, rfl, .inr ⟨by omega, by omega⟩, Ext.refl _⟩

set_option maxHeartbeats 600000 in
theorem toPair_any (x y : Int) (w : World) :
    Calls Try.prog 95 #[.agg #[.int .i64 x, .int .i64 y]] w fun e w' => e = .returned (.agg #[.int .i64 x, .int .i64 y]) ∧ Ext w w' := by
  go_enter Try.func95, Try.ntmps95
  go_wp2_with fail
  have h1 := heap_skip ((w.alloc (Obj.cells #[.int .i64 x, .int .i64 y] 106)).alloc (Obj.cells #[.int .i64 x, .int .i64 y] 73)) (Obj.cells #[.int .i64 x, .int .i64 y] 73) (heap_push (w.alloc (Obj.cells #[.int .i64 x, .int .i64 y] 106)) (Obj.cells #[.int .i64 x, .int .i64 y] 73) (n := w.heap.size + 1) (by simp))
  have c0 := cell_of_heap h1 0
  have c1 := cell_of_heap h1 1
  refine bodyPost_ret (v := .agg #[.int .i64 x, .int .i64 y]) ?_ rfl ⟨rfl, (((Ext.refl w).alloc _).alloc _).alloc _⟩
  simp [results, Try.results95, go_sem, c0, c1]

set_option maxHeartbeats 1000000 in
theorem toPairS_any (v : Value) (ps : List Pr) (w : World) (h : ArgTwos w v ps) (hl : ps.length ≤ 2097152) :
    Calls Try.prog 44 #[v] w fun e w' => ∃ g, e = .returned (.slice (some ⟨g, 0, none⟩) ps.length ps.length) ∧ Ext w w' ∧ OwnTwos 73 w' w.heap.size (.slice (some ⟨g, 0, none⟩) ps.length ps.length) ps := by
  obtain ⟨_, a, cap, rfl, hc⟩ := h
  have Hc := Lib.hid hc
  clear hc
  obtain ⟨i0, hi, hz, hs, hby⟩ := info_parts info_pair
  go_enter Try.func44, Try.ntmps44
  go_wp2_with (at_make; refine wpList_make_full _ rfl _ _ 60 rfl w.heap.size 73 i0 (.agg #[.int .i64 0, .int .i64 0]) 2 under_pairs hi hz hs .i64 .i64 _ _ ps.length rfl rfl rfl rfl (by rw [hby]; omega) (by unfold maxLen; omega) (Nat.le_refl _) ?_; intro w1 hown hg)
  have hE : Ext w w1 := Below.grown (Below.refl _ _) hg (Nat.le_refl _) (by simp)
  have Ho := Lib.hid (show w1.ownsRow w.heap.size 73 2 (.slice (some ⟨w.heap.size, 0, none⟩) ps.length ps.length) ps.length (cellsP (fillP ps 0)) from by
    have e : (madeCells (Value.agg #[.int .i64 0, .int .i64 0]).cells (ps.length * 2)).toList = cellsP (fillP ps 0) := by
      show (madeCells #[Value.int .i64 0, Value.int .i64 0] (ps.length * 2)).toList = _
      apply List.ext_getElem?
      intro i
      simp only [fillP, List.take_zero, List.nil_append, Nat.sub_zero]
      by_cases hi : i < ps.length * 2
      · have hk : i / 2 < (List.replicate ps.length (⟨0, 0⟩ : Pr)).length := by simp; omega
        obtain ⟨h1, h2⟩ := cellsP_at hk
        simp only [List.getElem_replicate] at h1 h2
        rw [madeCells_two hi]
        rcases Nat.mod_two_eq_zero_or_one i with e | e
        · have : i / 2 * 2 = i := by omega
          rw [this] at h1; exact h1.symm
        · have : i / 2 * 2 + 1 = i := by omega
          rw [this] at h2; exact h2.symm
      · rw [List.getElem?_eq_none (by rw [Array.length_toList, madeCells_size]; omega), List.getElem?_eq_none (by rw [cellsP_len]; simp; omega)]
    rw [e] at hown
    exact hown)
  clear hown hg hi hz hs hby
  go_loopw [4] (fun i wr => ∃ k : Nat, k ≤ ps.length ∧ i = .int .i64 k ∧ Ext w wr ∧ wr.ownsRow w.heap.size 73 2 (.slice (some ⟨w.heap.size, 0, none⟩) ps.length ps.length) ps.length (cellsP (fillP ps k))) (fun i _ => ps.length - (intOf i).toNat)
  case atStart => exact ⟨0, by omega, rfl, hE, Ho.out⟩
  case round =>
    clear Ho hE
    obtain ⟨k, hk, rfl, hE, hown⟩ := hrel
    by_cases hlt : k < ps.length
    · obtain ⟨b, off, rfl, hc⟩ := Hc.out (by omega)
      obtain ⟨c0, c1⟩ := hc k hlt
      have c0' := hE.cell c0
      have c1' := hE.cell c1
      have Ho := Lib.hid hown
      clear c0 c1 hc hown
      go_wp2_with fail
      refine (toPair_any _ _ _).mono ?_
      rintro e w1 ⟨rfl, hE2⟩
      have l3 : k < (fillP ps k).length := by rw [fillP_len ps hk]; exact hlt
      have hx := cellsP_len (fillP ps k)
      have ho1 := ownsRow_ext Ho.out hE2
      have d0 := ho1.cellAt (k * 2) (by omega)
      have d1 := ho1.cellAt (k * 2 + 1) (by omega)
      rw [(cellsP_at l3).1] at d0
      rw [(cellsP_at l3).2] at d1
      have f0 := ho1.frozenAt (k * 2)
      have f1 := ho1.frozenAt (k * 2 + 1)
      have st0 := (World.ownsRow.stored ho1 (k * 2) (.int .i64 ps[k].a)).1
      have st1 := (World.ownsRow.stored st0 (k * 2 + 1) (.int .i64 ps[k].b)).1
      rw [cellsP_set l3, show ((fillP ps k).set k ⟨ps[k].a, ps[k].b⟩) = fillP ps (k + 1) from fillP_step hlt] at st1
      have hE3 := ((hE.trans hE2).setCell (p := ⟨w.heap.size, k * 2, none⟩) (Nat.le_refl _) (.int .i64 ps[k].a)).setCell (p := ⟨w.heap.size, k * 2 + 1, none⟩) (Nat.le_refl _) (.int .i64 ps[k].b)
      have St := Lib.hid st1
      clear st0 st1 ho1 hE hE2 hx
      go_wp2_with fail
      go_roundw
      case rel => exact ⟨k + 1, by omega, by go_num, hE3, St.out⟩
      case measure => simp [intOf]; omega
    · have e : k = ps.length := by omega
      subst e
      have Ho1 := Lib.hid (show OwnTwos 73 wr w.heap.size (.slice (some ⟨w.heap.size, 0, none⟩) ps.length ps.length) ps from by
        have e : fillP ps ps.length = ps := by simp [fillP]
        rw [e] at hown
        exact hown)
      clear hown
      go_wp2
      go_ret
      exact ⟨_, rfl, hE, Ho1.out⟩

set_option maxHeartbeats 400000 in
theorem eqPair_any (x y : Pr) (w : World) :
    Calls Try.prog 97 #[.agg #[.int .i64 x.a, .int .i64 x.b], .agg #[.int .i64 y.a, .int .i64 y.b]] w fun e w' => e = .returned (.bool (sameP x y)) ∧ Ext w w' := by
  have hEx : Ext w _ := ((Ext.refl w).alloc (Obj.cells #[.int .i64 x.a, .int .i64 x.b] 73)).alloc (Obj.cells #[.int .i64 y.a, .int .i64 y.b] 73)
  by_cases h1 : x.a = y.a
  · have b1 : (x.a != y.a) = false := by simp [h1]
    by_cases h2 : x.b = y.b
    · have b2 : (x.b != y.b) = false := by simp [h2]
      have Hd : Hid (sameP x y = true) := by show sameP x y = _; simp [sameP, h1, h2]
      clear h1 h2
      go_enter Try.func97, Try.ntmps97
      go_wp2_with fail
      go_ret
      exact ⟨ret_bool Hd.out.symm, hEx⟩
    · have b2 : (x.b != y.b) = true := by simp [h2]
      have Hd : Hid (sameP x y = false) := by show sameP x y = _; simp [sameP, h2]
      clear h1 h2
      go_enter Try.func97, Try.ntmps97
      go_wp2_with fail
      go_ret
      exact ⟨ret_bool Hd.out.symm, hEx⟩
  · have b1 : (x.a != y.a) = true := by simp [h1]
    have Hd : Hid (sameP x y = false) := by show sameP x y = _; simp [sameP, h1]
    clear h1
    go_enter Try.func97, Try.ntmps97
    go_wp2_with fail
    go_ret
    exact ⟨ret_bool Hd.out.symm, hEx⟩

set_option maxHeartbeats 600000 in
theorem eqPairS_any (v u : Value) (xs ys : List Pr) (w : World) (h : Twos 73 w v xs) (h' : Twos 73 w u ys) :
    Calls Try.prog 47 #[v, u] w fun e w' => e = .returned (.bool (samePs xs ys)) ∧ Ext w w' := by
  obtain ⟨a, cap, rfl, h⟩ := h.open
  obtain ⟨a', cap', rfl, h'⟩ := h'.open
  have hx : xs.length ≤ 4194304 := h.1
  have hy : ys.length ≤ 4194304 := h'.1
  by_cases hl : xs.length = ys.length
  · have hb : (((xs.length : Nat) : Int) != (ys.length : Nat)) = false := by simp [hl]
    have HL := Lib.hid hl
    clear hl
    go_enter Try.func47, Try.ntmps47
    go_wp2
    go_loopw [5] (fun i wr => ∃ k : Nat, k ≤ xs.length ∧ i = .int .i64 k ∧ Ext w wr ∧ ∀ j (h1 : j < xs.length) (h2 : j < ys.length), j < k → sameP xs[j] ys[j] = true) (fun i _ => xs.length - (intOf i).toNat)
    case atStart => exact ⟨0, by omega, rfl, Ext.refl _, fun _ _ _ h => by omega⟩
    case round =>
      obtain ⟨k, hk, rfl, hE, hg⟩ := hrel
      have Hg := Lib.hid hg
      clear hg
      by_cases hlt : k < xs.length
      · have l2 : k < ys.length := by have := HL.out; omega
        obtain ⟨b, off, rfl, c0, c1⟩ := h.at hlt
        obtain ⟨b', off', rfl, d0, d1⟩ := h'.at l2
        have c0' := hE.cell c0
        have c1' := hE.cell c1
        have d0' := hE.cell d0
        have d1' := hE.cell d1
        clear c0 c1 d0 d1
        have b1 : (k : Int) < (xs.length : Int) := by omega
        have b1' : (k : Int) < (ys.length : Int) := by omega
        have b0 : (0 : Int) ≤ (k : Int) := by omega
        cases he : sameP xs[k] ys[k] with
        | true =>
          have Hd : Hid (∀ j (h1 : j < xs.length) (h2 : j < ys.length), j < k + 1 → sameP xs[j] ys[j] = true) := by
            intro j h1 h2 hj
            by_cases e : j = k
            · subst e; exact he
            · exact Hg.out j h1 h2 (by omega)
          go_wp2
          go_still_tail 8, (by kernel_rfl)
          change wpList _ _ _ _ _ wr.drew
          go_wp2_with fail
          have cc := eqPair_any xs[k] ys[k] wr.drew
          rw [he] at cc
          refine cc.mono ?_
          clear cc
          rintro e w1 ⟨rfl, hE2⟩
          have hE3 := hE.drew.trans hE2
          clear hE hE2
          go_wp2_with fail
          go_roundw
          case rel => exact ⟨k + 1, by omega, by go_num, hE3, Hd.out⟩
          case measure => simp [intOf]; omega
        | false =>
          have Hr := Lib.hid (samePs_at hlt l2 he)
          go_wp2
          go_still_tail 8, (by kernel_rfl)
          change wpList _ _ _ _ _ wr.drew
          go_wp2_with fail
          have cc := eqPair_any xs[k] ys[k] wr.drew
          rw [he] at cc
          refine cc.mono ?_
          clear cc
          rintro e w1 ⟨rfl, hE2⟩
          have hE3 := hE.drew.trans hE2
          clear hE hE2
          go_wp2_with fail
          go_ret
          exact ⟨ret_bool Hr.out.symm, hE3⟩
      · have e : k = xs.length := by omega
        subst e
        have Hr := Lib.hid (samePs_all HL.out (fun j h1 h2 => Hg.out j h1 h2 h1))
        go_wp2
        go_ret
        exact ⟨ret_bool Hr.out.symm, hE⟩
  · have hb : (((xs.length : Nat) : Int) != (ys.length : Nat)) = true := by simp; omega
    have Hr : Hid (samePs xs ys = false) := by
      show samePs xs ys = false
      rw [Bool.eq_false_iff]
      exact fun e => hl (by rw [samePs_iff.1 e])
    clear hl
    go_enter Try.func47, Try.ntmps47
    go_wp2
    go_ret
    exact ⟨ret_bool Hr.out.symm, Ext.refl _⟩

set_option maxHeartbeats 600000 in
theorem markPairS_any (v : Value) (ps : List Pr) (k : Int) (A B : Nat) (w : World) (h : TwosU 73 w A B v ps) (h0 : 0 ≤ k) (h1 : k ≤ 900000000) (hl : ps.length ≤ 4194304) :
    Calls Try.prog 49 #[v, .int .i64 k] w fun e w' => e = .returned (.int .i64 (k + ((2 * ps.length : Nat) : Int))) ∧ TwosU 73 w' A B v (seqM k ps.length) ∧ Chg A B w w' := by
  obtain ⟨a, c, rfl⟩ := h.1.form
  have H0 := Lib.hid h
  clear h
  go_enter Try.func49, Try.ntmps49
  go_wp2
  go_loopw [1, 5] (fun q i wr => ∃ j : Nat, j ≤ ps.length ∧ i = .int .i64 j ∧ q = .int .i64 (k + 2 * (j : Int)) ∧ TwosU 73 wr A B (.slice a ps.length c) (blendL (seqM k ps.length) ps j) ∧ w.grownBy wr (Value.slice a ps.length c).ownBlock) (fun _ i _ => ps.length - (intOf i).toNat)
  case atStart => exact ⟨0, by omega, rfl, by go_num, by rw [blendL_zero]; exact H0.out, grownBy_refl _ _⟩
  case round =>
    obtain ⟨j, hj, rfl, rfl, hi, hg⟩ := hrel
    by_cases hlt : j < ps.length
    · have hml := blendL_len (seqM_len k ps.length) hj
      obtain ⟨hown, hup⟩ := hi
      unfold OwnTwos at hown
      rw [hml] at hown
      obtain ⟨g, rfl, _, hA, hgl, hc, ho⟩ := ownsRow_at hown (by omega)
      have hx := cellsP_len (blendL (seqM k ps.length) ps j)
      have hjl : j < (blendL (seqM k ps.length) ps j).length := by omega
      obtain ⟨p1, p2, p3, f1⟩ := ownsRow_put ho (k := j * 2) (by omega) (.int .i64 (k + 2 * (j : Int)))
      obtain ⟨q1, q2, q3, f2⟩ := ownsRow_put p1 (k := j * 2 + 1) (by simp; omega) (.int .i64 (k + 2 * (j : Int) + 1))
      have c0 := hc (j * 2) (by omega)
      have c1 := hc (j * 2 + 1) (by omega)
      rw [(cellsP_at hjl).1] at c0
      rw [(cellsP_at hjl).2] at c1
      have Hp := Lib.hid (show TwosU 73 ((wr.setCell ⟨g, j * 2, none⟩ (.int .i64 (k + 2 * (j : Int)))).setCell ⟨g, j * 2 + 1, none⟩ (.int .i64 (k + 2 * (j : Int) + 1))) A B (.slice (some ⟨g, 0, none⟩) ps.length c) (blendL (seqM k ps.length) ps (j + 1)) from by
        refine ⟨?_, hup⟩
        unfold OwnTwos
        have e := cellsP_set (p := ⟨k + 2 * (j : Int), k + 2 * (j : Int) + 1⟩) hjl
        rw [seqM_mix hlt] at e
        rw [e] at q1
        rw [blendL_len (seqM_len k ps.length) (by omega)]
        exact q1)
      have Hg := Lib.hid (grownBy_trans hg (grownBy_trans (grownBy_put wr g (j * 2) (.int .i64 (k + 2 * (j : Int)))) (grownBy_put _ g (j * 2 + 1) (.int .i64 (k + 2 * (j : Int) + 1)))))
      clear p1 p2 p3 q1 q2 q3 hown ho hc hup hml hg hx
      go_wp2
      go_roundw
      case rel => exact ⟨j + 1, by omega, by go_num, by go_num, Hp.out, Hg.out⟩
      case measure => simp [intOf]; omega
    · have e : j = ps.length := by omega
      subst e
      rw [blendL_all (seqM_len k ps.length)] at hi
      have Hi := Lib.hid hi
      have Hg := Lib.hid hg
      have Hc : Hid (Chg A B w wr) := by
        show Chg A B w wr
        cases a with
        | none => exact ⟨hg.os, hg.tape, hg.output, hg.size, fun b hb _ => hg.block b hb (by simp [Value.ownBlock])⟩
        | some ad =>
          obtain ⟨b, o, sp⟩ := ad
          rcases H0.out.1.2 with ⟨h1, h2⟩ | ⟨g, cap, cur, hv, hA, hh, _⟩
          · cases h1
          · simp only [Value.slice.injEq, Option.some.injEq, Addr.mk.injEq] at hv
            obtain ⟨⟨rfl, rfl, rfl⟩, -, rfl⟩ := hv
            have hbB : b < B := H0.out.2 b rfl
            exact (Chg.only hg).mono hA hbB
      clear hi hg
      go_wp2
      go_ret
      exact ⟨ret_int (by omega), Hi.out, Hc.out⟩

end

section
set_option maxRecDepth 100000
open Go.RowKit Go.ChangeShapes Go.WideShapes Go.Deep
theorem cells_lpair : Try.prog.cellsOf 106 = 2 := by kernel_rfl
variable {H : Type} {enc : TypeId × Value → H} {w : World} {base : Nat} {spare : Nat → Bool} {held : Bool}
theorem argPairs_cells {fuel : Nat} {v : Value} {x : DataW H × List MemPlace} (h : DataW.trod enc Try.prog w base spare held fuel 54 [v] = some x) : ∃ ps, ArgTwos w v ps := by
  rcases open_slice_pairs Try.underlying54 Try.underlying106 cells_lpair rfl rfl cells_int cells_int h with ⟨hcs, hx⟩ | ⟨a, len, cap, m, n, V0, V1, D0, D1, P0, P1, hcs, _, hl, hm, hmm, hx, hcell⟩
  · simp only [List.cons.injEq, and_true] at hcs
    subst hcs
    exact ⟨[], by simp, none, 0, rfl, fun h => by simp at h⟩
  · simp only [List.cons.injEq, and_true] at hcs
    subst hcs
    have hlm : len ≤ m := by rw [hmm]; split <;> omega
    have each : ∀ i, i < len → ∃ t : Pr, V0 i = .int .i64 t.a ∧ V1 i = .int .i64 t.b := by
      intro i hi
      obtain ⟨_, _, h0, h1⟩ := hcell i (by omega)
      obtain ⟨q, e0, _, _⟩ := DataW.trod_int Try.underlying3 h0
      obtain ⟨q', e1, _, _⟩ := DataW.trod_int Try.underlying3 h1
      simp at e0 e1
      exact ⟨⟨q, q'⟩, e0, e1⟩
    obtain ⟨f, hf⟩ := @choose_lt Pr ⟨⟨0, 0⟩⟩ len _ each
    refine ⟨(List.range len).map f, by simp; unfold maxLen at hm; omega, some a, cap, by simp, fun h0 => ?_⟩
    have h0' : 0 < m := by simp at h0; omega
    obtain ⟨b, off, spot⟩ := a
    have hspot : spot = none := by simpa [Addr.add] using World.cell?_spot (hcell 0 h0').1
    subst hspot
    refine ⟨b, off, rfl, fun k hk => ?_⟩
    have hk' : k < len := by simpa using hk
    obtain ⟨g0, g1, _, _⟩ := hcell k (by omega)
    rw [Go.WideShapes.add_plain] at g0 g1
    obtain ⟨e0, e1⟩ := hf k hk'
    rw [e0] at g0
    rw [e1] at g1
    exact ⟨by simpa using g0, by rw [Nat.add_assoc]; simpa using g1⟩
theorem argPairs_of {v : Value} {d : DataW H} {p : List MemPlace} (h : DataW.Trod enc Try.prog w base spare held 54 v d p) (hv : ∃ a n c, v = .slice a n c) : ∃ ps, ArgTwos w v ps := by
  obtain ⟨a, n, c, rfl⟩ := hv
  obtain ⟨fuel, hf⟩ := h
  exact argPairs_cells hf
end
end Go.Proofs.Ytcijbpjiioodlaa
