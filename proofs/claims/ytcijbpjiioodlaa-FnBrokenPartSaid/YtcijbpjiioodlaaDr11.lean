/- Drawn pairs. No condition. -/
import Derived.Test.YtcijbpjiioodlaaDr7
import Derived.Test.YtcijbpjiioodlaaNestS
import Derived.Test.YtcijbpjiioodlaaPd
namespace Go.Proofs.Ytcijbpjiioodlaa
set_option maxRecDepth 100000
open Go.RowKit

theorem OwnTwos.below {e : TypeId} {w w' : World} {A L : Nat} {v : Value} {ps : List Pr} (h : OwnTwos e w A v ps) (k : Below L w w') (hL : ∀ g, v.ownBlock = some g → g < L) : OwnTwos e w' A v ps := ownsRow_keep h fun g hg _ => Below.block k g (hL g hg)
theorem OwnTwos.lt {e : TypeId} {w : World} {A : Nat} {v : Value} {ps : List Pr} (h : OwnTwos e w A v ps) : ∀ g, v.ownBlock = some g → g < w.heap.size := fun g hg => (World.ownsRow.lt h g hg).2
theorem Twos.lit1 (w : World) (x y : Int) (c : Nat) (e : TypeId) : Twos e (w.alloc (.cells #[.int .i64 x, .int .i64 y] e)) (.slice (some ⟨w.heap.size, 0, none⟩) 1 c) [⟨x, y⟩] :=
  ⟨by simp [lim], _, c, rfl, Row.lit w #[.int .i64 x, .int .i64 y] _⟩
theorem OwnTwos.formc {e : TypeId} {w : World} {B : Nat} {v : Value} {ps : List Pr} (h : OwnTwos e w B v ps) : ∃ a c, v = .slice a ps.length c ∧ ps.length ≤ c := by
  rcases h.2 with ⟨rfl, hn⟩ | ⟨g, cap, cur, rfl, _, _, hc, _⟩
  · exact ⟨none, 0, by rw [hn], by omega⟩
  · exact ⟨_, cap, rfl, hc⟩
theorem OwnTwos.base {e : TypeId} {w : World} {A B : Nat} {v : Value} {ps : List Pr} (h : OwnTwos e w B v ps) (hb : A ≤ B) : OwnTwos e w A v ps := ownsRow_base h hb
theorem OwnTwos.alloc {e : TypeId} {w : World} {B : Nat} {v : Value} {ps : List Pr} (h : OwnTwos e w B v ps) (o : Obj) : OwnTwos e (w.alloc o) B v ps := h.ext ((Ext.refl w).alloc o)
theorem OwnTwos.putB {e : TypeId} {w : World} {B g c : Nat} {ps : List Pr} (h : OwnTwos e w B (.slice (some ⟨g, 0, none⟩) ps.length c) ps) (hk : 0 < ps.length) :
    OwnTwos e (w.setCell ⟨g, 1, none⟩ (.int .i64 ps[0].a)) B (.slice (some ⟨g, 0, none⟩) ps.length c) (ps.set 0 ⟨ps[0].a, ps[0].a⟩) ∧ KT e w (w.setCell ⟨g, 1, none⟩ (.int .i64 ps[0].a)) ∧ Below B w (w.setCell ⟨g, 1, none⟩ (.int .i64 ps[0].a)) ∧ w.frozen? ⟨g, 1, none⟩ = false := by
  have hx := cellsP_len ps
  obtain ⟨p1, p2, p3, p4⟩ := ownsRow_put h (k := 1) (by omega) (.int .i64 ps[0].a)
  refine ⟨?_, p2, p3, p4⟩
  have e1 : (cellsP ps).set 1 (.int .i64 ps[0].a) = cellsP (ps.set 0 ⟨ps[0].a, ps[0].a⟩) := by
    match ps, hk with
    | p :: ps, _ => simp [cellsP_cons]
  rw [e1] at p1
  unfold OwnTwos
  rw [List.length_set]
  exact p1

section
variable {w : World} {ops : Array Oper} {rest : List Oper} {o : Oper} {a : Act} {Q : Exit → Act → World → Prop}
theorem app_prs (hgd : o.guard = none) (s x : Operand) (ho : o.op = .call { callee := .builtin .append, args := #[s, x], argTypes := #[60, 60] }) (B : Nat) (v : Value) (ps : List Pr) (hs : a.eval s = v) (hown : OwnTwos 73 w B v ps) (hB : B ≤ w.heap.size)
    (src : Option Addr) (m c : Nat) (qs : List Pr) (hx : a.eval x = .slice src m c) (hsrc : Twos 73 w (.slice src m c) qs) (hl : ps.length + qs.length ≤ lim)
    (h : ∀ v' w', OwnTwos 73 w' B v' (ps ++ qs) → KT 73 w w' → Below B w w' → wpList Try.prog ops Q rest (a.put o.dst v') w') : wpList Try.prog ops Q (o :: rest) a w := by
  obtain ⟨hql, a', c', hv, hr⟩ := hsrc
  simp only [Value.slice.injEq] at hv
  obtain ⟨rfl, rfl, rfl⟩ := hv
  unfold lim at hl
  have hx2 := cellsP_len qs
  exact wpList_plain hgd fun _ hK => wp_app elt_pair s x ho B v ps.length (cellsP ps) hs hown hB src qs.length c (cellsP qs) hx (by omega) _ hr (cellsP_one qs) (by omega) (by unfold maxLen; omega)
    (fun v' w' h1 h2 h3 => hK _ _ (h v' w' (by unfold OwnTwos; rw [cellsP_app, List.length_append]; exact h1) h2 h3))
end

set_option maxHeartbeats 4000000 in
theorem l92Pairs_any (r : Value) (B P : Nat) (w : World) (h : Rdr w B r P) (hP : P ≤ 100000) :
    Calls Try.prog 99 #[r] w fun e w' => ∃ v ps, e = .returned v ∧ OwnTwos 73 w' w.heap.size v ps ∧ ps.length ≤ 31 ∧ Dr B r (P + 100) w w' := by
  have S0 := Lib.hid (Dr.start h)
  clear h
  go_enter Try.func99, Try.ntmps99
  go_wp2_with fail
  have D0 := Lib.hid (S0.out.ext ((Ext.refl w).alloc (.cells #[] 73)))
  have O0 := Lib.hid (OwnTwos.lit0 73 w w.heap.size (Nat.le_refl _))
  generalize w.alloc (.cells #[] 73) = W0 at *
  clear S0
  refine (pick_any _ B _ 8 _ D0.out.rd (by omega) (by omega) (by omega)).mono ?_
  rintro e w1 ⟨k1, rfl, b1, d1⟩
  have O1 := Lib.hid (O0.out.kt d1.kt (by decide))
  have D1 := Lib.hid (D0.out.trans d1)
  clear d1 D0 O0
  go_wp2_with fail
  refine (pick_any _ B _ 20 _ D1.out.rd (by omega) (by omega) (by omega)).mono ?_
  rintro e w2 ⟨k2, rfl, b2, d2⟩
  have O2 := Lib.hid (O1.out.kt d2.kt (by decide))
  have D2 := Lib.hid (D1.out.trans d2)
  clear d2 D1 O1
  by_cases hk2 : k2 = 0
  · subst hk2
    go_wp2_with fail
    go_loopw [3, 5] (fun s i wr => ∃ (k : Nat) (ps : List Pr), k ≤ 30 ∧ i = .int .i64 (k : Int) ∧ ps.length ≤ k ∧ OwnTwos 73 wr w.heap.size s ps ∧ Dr B r (P + 2 + 2 * k) w wr) (fun _ i _ => 30 - (intOf i).toNat)
    case atStart => exact ⟨0, [], by omega, rfl, by simp, O2.out, D2.out⟩
    case round =>
      clear O2 D2
      obtain ⟨k, ps, hk, rfl, hps, ho, hd⟩ := hrel
      have HD := Lib.hid hd
      have HO := Lib.hid ho
      obtain ⟨sa, sc, rfl⟩ := ho.form
      clear hd ho
      by_cases hlt : k < 30
      · have b0 : (0 : Int) ≤ (k : Int) := by omega
        have b3 : (k : Int) < 30 := by omega
        have hq : ((k : Int)).tdiv 3 = (k : Int) / 3 := Int.tdiv_eq_ediv_of_nonneg b0
        have q0 : 0 ≤ (k : Int) / 3 := by omega
        have q1 : (k : Int) / 3 ≤ 10 := by omega
        go_wp2_with fail
        refine (pick_any _ B _ 8 _ HD.out.rd (by omega) (by omega) (by omega)).mono ?_
        rintro e w4 ⟨k4, rfl, b4, d4⟩
        have O4 := Lib.hid (HO.out.kt d4.kt (by decide))
        have D4 := Lib.hid (HD.out.trans d4)
        have le4 := D4.out.size
        have LT := Lib.hid O4.out.lt
        have T4 := Lib.hid (O4.out.done (by unfold lim; omega))
        clear d4 HD HO
        go_wp2_with (at_builtin; refine app_prs rfl _ _ rfl w4.heap.size _ [] rfl (OwnTwos.lit0 73 w4 w4.heap.size (Nat.le_refl _)) (by simp) _ _ _ ps rfl (T4.out.ext ((Ext.refl w4).alloc _)) (by unfold lim; simp; omega) ?_; intro v5 w5 hown hkt hbl; rw [List.nil_append] at hown; have X5 := Lib.hid (((Ext.refl w4).alloc (.cells #[] 73)).below hbl); have N5 := Lib.hid hown; obtain ⟨na, nc, hv5⟩ := hown.form; subst hv5; have D5 := Lib.hid (D4.out.ext X5.out); clear hown hkt hbl)
        refine (pick_any _ B _ 5 _ D5.out.rd (by omega) (by omega) (by omega)).mono ?_
        rintro e w6 ⟨k6, rfl, b6, d6⟩
        have N6 := Lib.hid (N5.out.kt d6.kt (by decide))
        have D6 := Lib.hid (D5.out.trans d6)
        have O6 := Lib.hid ((O4.out.ext X5.out).kt d6.kt (by decide))
        have le6 : w4.heap.size ≤ w6.heap.size := Nat.le_trans X5.out.le d6.size
        clear d6 D4 D5 N5 O4 T4 X5
        go_wp2_with (at_builtin; refine app_prs rfl _ _ rfl w4.heap.size _ ps rfl (N6.out.alloc _) (by simp; omega) _ _ _ [⟨_, _⟩] rfl (Twos.lit1 _ _ _ _ _) (by unfold lim; simp; omega) ?_; intro v7 w7 hown hkt hbl; generalize hqs : ps ++ [Pr.mk _ _] = qs at hown; have hql := congrArg List.length hqs; simp only [List.length_append, List.length_cons, List.length_nil, Nat.zero_add] at hql; clear hqs; have N7 := Lib.hid hown; obtain ⟨ma, mc, hv7⟩ := hown.form; subst hv7; have O7 := Lib.hid ((O6.out.alloc _).below hbl LT.out); have D7 := Lib.hid ((D6.out.ext ((Ext.refl w6).alloc _)).own (Below.mono hbl le4) hkt (by decide)); clear hown hkt hbl N6 O6 D6)
        have T7 := Lib.hid (N7.out.done (by unfold lim; omega))
        have cc := sPairsValid_any _ qs _ T7.out
        cases hb : pairsB qs with
        | true =>
          rw [hb] at cc
          refine cc.mono ?_
          clear cc
          rintro e w8 ⟨rfl, hE8⟩
          have N8 := Lib.hid ((N7.out.base le4).ext hE8)
          have D8 := Lib.hid (D7.out.ext hE8)
          clear hE8 N7 D7 O7 T7 LT
          go_wp2
          go_roundw
          case rel => exact ⟨k + 1, qs, by omega, by go_num, by omega, N8.out, D8.out.mono (by omega)⟩
          case measure => simp [intOf]; omega
        | false =>
          rw [hb] at cc
          refine cc.mono ?_
          clear cc
          rintro e w8 ⟨rfl, hE8⟩
          have N8 := Lib.hid (O7.out.ext hE8)
          have D8 := Lib.hid (D7.out.ext hE8)
          clear hE8 N7 D7 O7 T7 LT
          go_wp2
          go_roundw
          case rel => exact ⟨k + 1, ps, by omega, by go_num, by omega, N8.out, D8.out.mono (by omega)⟩
          case measure => simp [intOf]; omega
      · have e : k = 30 := by omega
        subst e
        by_cases hpos : 0 < ps.length
        · have hp' : (0 : Int) < (ps.length : Int) := by omega
          have hl := HO.out.form
          go_wp2_with fail
          refine (pick_any _ B _ 24 _ HD.out.rd (by omega) (by omega) (by omega)).mono ?_
          rintro e w4 ⟨k4, rfl, b4, d4⟩
          have O4 := Lib.hid (HO.out.kt d4.kt (by decide))
          have D4 := Lib.hid (HD.out.trans d4)
          have le4 := D4.out.size
          clear d4 HD HO hl
          have T4 := O4.out.done (by unfold lim; omega)
          obtain ⟨g, off, hsa, c0, c1⟩ := T4.at hpos
          subst hsa
          have HH := ownsRow_at O4.out hpos
          obtain ⟨g', hg', -⟩ := HH
          simp only [Option.some.injEq, Addr.mk.injEq, and_true] at hg'
          obtain ⟨rfl, rfl⟩ := hg'
          simp only [Nat.zero_mul, Nat.zero_add] at c0 c1
          clear T4
          by_cases h0 : k4 = 0
          · subst h0
            go_wp2_with (at_builtin; refine app_prs rfl _ _ rfl w.heap.size _ ps rfl (O4.out.alloc _) (by simp; omega) _ _ _ [⟨_, _⟩] rfl (Twos.lit1 _ _ _ _ _) (by unfold lim; simp; omega) ?_; intro v7 w7 hown hkt hbl; have N7 := Lib.hid hown; have D7 := Lib.hid ((D4.out.ext ((Ext.refl w4).alloc _)).own hbl hkt (by decide)); clear hown hkt hbl)
            go_ret
            exact ⟨_, _, rfl, N7.out, by simp; omega, D7.out.mono (by omega)⟩
          · have hb0 : (((k4 : Nat) : Int) == 0) = false := by simp; omega
            by_cases h1 : k4 = 1
            · subst h1
              obtain ⟨q1, q2, q3, f0⟩ := O4.out.putB hpos
              have N7 := Lib.hid q1
              have D7 := Lib.hid (D4.out.own q3 q2 (by decide))
              clear q1 q2 q3
              go_wp2
              go_ret
              exact ⟨_, _, rfl, N7.out, by simp; omega, D7.out.mono (by omega)⟩
            · have hb1 : (((k4 : Nat) : Int) == 1) = false := by simp; omega
              go_wp2
              go_ret
              exact ⟨_, _, rfl, O4.out, by omega, D4.out.mono (by omega)⟩
        · have hb0 : (decide (0 < ps.length)) = false := decide_eq_false hpos
          have hb1 : (decide ((0 : Int) < (ps.length : Int))) = false := decide_eq_false (by omega)
          go_wp2
          go_ret
          exact ⟨_, _, rfl, HO.out, by omega, HD.out.mono (by omega)⟩
  · have hb2 : (((k2 : Nat) : Int) == 0) = false := by simp; omega
    clear hk2
    go_wp2_with fail
    go_loopw [3, 5] (fun s i wr => ∃ (k : Nat) (ps : List Pr), k ≤ k1 ∧ i = .int .i64 (k : Int) ∧ ps.length ≤ k ∧ OwnTwos 73 wr w.heap.size s ps ∧ Dr B r (P + 2 + 2 * k) w wr) (fun _ i _ => k1 - (intOf i).toNat)
    case atStart => exact ⟨0, [], by omega, rfl, by simp, O2.out, D2.out⟩
    case round =>
      clear O2 D2
      obtain ⟨k, ps, hk, rfl, hps, ho, hd⟩ := hrel
      have HD := Lib.hid hd
      have HO := Lib.hid ho
      obtain ⟨sa, sc, rfl⟩ := ho.form
      clear hd ho
      by_cases hlt : k < k1
      · have b0 : (0 : Int) ≤ (k : Int) := by omega
        have b3 : (k : Int) < 30 := by omega
        have hq : ((k : Int)).tdiv 3 = (k : Int) / 3 := Int.tdiv_eq_ediv_of_nonneg b0
        have q0 : 0 ≤ (k : Int) / 3 := by omega
        have q1 : (k : Int) / 3 ≤ 10 := by omega
        go_wp2_with fail
        refine (pick_any _ B _ 8 _ HD.out.rd (by omega) (by omega) (by omega)).mono ?_
        rintro e w4 ⟨k4, rfl, b4, d4⟩
        have O4 := Lib.hid (HO.out.kt d4.kt (by decide))
        have D4 := Lib.hid (HD.out.trans d4)
        have le4 := D4.out.size
        have LT := Lib.hid O4.out.lt
        have T4 := Lib.hid (O4.out.done (by unfold lim; omega))
        clear d4 HD HO
        go_wp2_with (at_builtin; refine app_prs rfl _ _ rfl w4.heap.size _ [] rfl (OwnTwos.lit0 73 w4 w4.heap.size (Nat.le_refl _)) (by simp) _ _ _ ps rfl (T4.out.ext ((Ext.refl w4).alloc _)) (by unfold lim; simp; omega) ?_; intro v5 w5 hown hkt hbl; rw [List.nil_append] at hown; have X5 := Lib.hid (((Ext.refl w4).alloc (.cells #[] 73)).below hbl); have N5 := Lib.hid hown; obtain ⟨na, nc, hv5⟩ := hown.form; subst hv5; have D5 := Lib.hid (D4.out.ext X5.out); clear hown hkt hbl)
        refine (pick_any _ B _ 5 _ D5.out.rd (by omega) (by omega) (by omega)).mono ?_
        rintro e w6 ⟨k6, rfl, b6, d6⟩
        have N6 := Lib.hid (N5.out.kt d6.kt (by decide))
        have D6 := Lib.hid (D5.out.trans d6)
        have O6 := Lib.hid ((O4.out.ext X5.out).kt d6.kt (by decide))
        have le6 : w4.heap.size ≤ w6.heap.size := Nat.le_trans X5.out.le d6.size
        clear d6 D4 D5 N5 O4 T4 X5
        go_wp2_with (at_builtin; refine app_prs rfl _ _ rfl w4.heap.size _ ps rfl (N6.out.alloc _) (by simp; omega) _ _ _ [⟨_, _⟩] rfl (Twos.lit1 _ _ _ _ _) (by unfold lim; simp; omega) ?_; intro v7 w7 hown hkt hbl; generalize hqs : ps ++ [Pr.mk _ _] = qs at hown; have hql := congrArg List.length hqs; simp only [List.length_append, List.length_cons, List.length_nil, Nat.zero_add] at hql; clear hqs; have N7 := Lib.hid hown; obtain ⟨ma, mc, hv7⟩ := hown.form; subst hv7; have O7 := Lib.hid ((O6.out.alloc _).below hbl LT.out); have D7 := Lib.hid ((D6.out.ext ((Ext.refl w6).alloc _)).own (Below.mono hbl le4) hkt (by decide)); clear hown hkt hbl N6 O6 D6)
        have T7 := Lib.hid (N7.out.done (by unfold lim; omega))
        have cc := sPairsValid_any _ qs _ T7.out
        cases hb : pairsB qs with
        | true =>
          rw [hb] at cc
          refine cc.mono ?_
          clear cc
          rintro e w8 ⟨rfl, hE8⟩
          have N8 := Lib.hid ((N7.out.base le4).ext hE8)
          have D8 := Lib.hid (D7.out.ext hE8)
          clear hE8 N7 D7 O7 T7 LT
          go_wp2
          go_roundw
          case rel => exact ⟨k + 1, qs, by omega, by go_num, by omega, N8.out, D8.out.mono (by omega)⟩
          case measure => simp [intOf]; omega
        | false =>
          rw [hb] at cc
          refine cc.mono ?_
          clear cc
          rintro e w8 ⟨rfl, hE8⟩
          have N8 := Lib.hid (O7.out.ext hE8)
          have D8 := Lib.hid (D7.out.ext hE8)
          clear hE8 N7 D7 O7 T7 LT
          go_wp2
          go_roundw
          case rel => exact ⟨k + 1, ps, by omega, by go_num, by omega, N8.out, D8.out.mono (by omega)⟩
          case measure => simp [intOf]; omega
      · have e : k = k1 := by omega
        subst e
        by_cases hpos : 0 < ps.length
        · have hp' : (0 : Int) < (ps.length : Int) := by omega
          have hl := HO.out.form
          go_wp2_with fail
          refine (pick_any _ B _ 24 _ HD.out.rd (by omega) (by omega) (by omega)).mono ?_
          rintro e w4 ⟨k4, rfl, b4, d4⟩
          have O4 := Lib.hid (HO.out.kt d4.kt (by decide))
          have D4 := Lib.hid (HD.out.trans d4)
          have le4 := D4.out.size
          clear d4 HD HO hl
          have T4 := O4.out.done (by unfold lim; omega)
          obtain ⟨g, off, hsa, c0, c1⟩ := T4.at hpos
          subst hsa
          have HH := ownsRow_at O4.out hpos
          obtain ⟨g', hg', -⟩ := HH
          simp only [Option.some.injEq, Addr.mk.injEq, and_true] at hg'
          obtain ⟨rfl, rfl⟩ := hg'
          simp only [Nat.zero_mul, Nat.zero_add] at c0 c1
          clear T4
          by_cases h0 : k4 = 0
          · subst h0
            go_wp2_with (at_builtin; refine app_prs rfl _ _ rfl w.heap.size _ ps rfl (O4.out.alloc _) (by simp; omega) _ _ _ [⟨_, _⟩] rfl (Twos.lit1 _ _ _ _ _) (by unfold lim; simp; omega) ?_; intro v7 w7 hown hkt hbl; have N7 := Lib.hid hown; have D7 := Lib.hid ((D4.out.ext ((Ext.refl w4).alloc _)).own hbl hkt (by decide)); clear hown hkt hbl)
            go_ret
            exact ⟨_, _, rfl, N7.out, by simp; omega, D7.out.mono (by omega)⟩
          · have hb0 : (((k4 : Nat) : Int) == 0) = false := by simp; omega
            by_cases h1 : k4 = 1
            · subst h1
              obtain ⟨q1, q2, q3, f0⟩ := O4.out.putB hpos
              have N7 := Lib.hid q1
              have D7 := Lib.hid (D4.out.own q3 q2 (by decide))
              clear q1 q2 q3
              go_wp2
              go_ret
              exact ⟨_, _, rfl, N7.out, by simp; omega, D7.out.mono (by omega)⟩
            · have hb1 : (((k4 : Nat) : Int) == 1) = false := by simp; omega
              go_wp2
              go_ret
              exact ⟨_, _, rfl, O4.out, by omega, D4.out.mono (by omega)⟩
        · have hb0 : (decide (0 < ps.length)) = false := decide_eq_false hpos
          have hb1 : (decide ((0 : Int) < (ps.length : Int))) = false := decide_eq_false (by omega)
          go_wp2
          go_ret
          exact ⟨_, _, rfl, HO.out, by omega, HD.out.mono (by omega)⟩


end Go.Proofs.Ytcijbpjiioodlaa
