/- The program: a heap of tasks through the interface of the library's heap, sorting. No condition. -/
import Derived.Test.YtcijbpjiioodlaaI19
import Derived.Test.YtcijbpjiioodlaaS16
import Derived.Handy
namespace Go.Proofs.Ytcijbpjiioodlaa
set_option maxRecDepth 100000
open Go.RowKit

theorem DownI.done {xs ys : List Tb} {lo i n : Nat} (h : DownI xs ys lo i n) (hp : HeapP ys lo n) : Down xs ys lo n := ⟨h.1, hp, h.2.2.2⟩

set_option maxHeartbeats 8000000 in
theorem heapDown_any (q L U : Nat) (ys : List Tb) (lo n : Nat) (w : World) (h : Queue w L U q ys) (hh : HeapI ys lo lo n) (hn : n ≤ ys.length) (hl : ys.length ≤ 1000) (hlo : lo ≤ 1000) :
    Calls Try.prog 179 #[.iface 164 (.pointer (some ⟨q, 0, none⟩)), .int .i64 (lo : Int), .int .i64 (n : Int)] w fun e w' => (∃ b, e = .returned (.bool b)) ∧ ∃ zs, Queue w' L U q zs ∧ Down ys zs lo n ∧ QF L U w w' := by
  have HQ := Lib.hid h
  have HI := Lib.hid (show DownI ys ys lo lo n from ⟨List.Perm.refl _, hh, Nat.le_refl _, fun _ _ => rfl⟩)
  have HN := Lib.hid hn
  have HL := Lib.hid hl
  have n1 : n ≤ 1000 := by omega
  clear h hh hn hl
  go_enter Try.func179, Try.ntmps179
  go_wp2
  go_loopw [7] (fun i wr => ∃ (k : Nat) (zs : List Tb), k ≤ 1000 ∧ i = .int .i64 (k : Int) ∧ Queue wr L U q zs ∧ DownI ys zs lo k n ∧ QF L U w wr) (fun i _ => 1001 - (intOf i).toNat)
  case atStart => exact ⟨lo, ys, hlo, rfl, HQ.out, HI.out, QF.refl _ _ _⟩
  case round =>
    clear HQ HI
    obtain ⟨k, zs, hk, rfl, hq, hd, hB⟩ := hrel
    have HB := Lib.hid hB
    have HD := Lib.hid hd
    have HQ := Lib.hid hq
    have zl : zs.length = ys.length := hd.1.length_eq
    have nz : n ≤ zs.length := by have := HN.out; omega
    clear hB hd
    by_cases h1 : n ≤ 2 * k + 1
    · have h1' : (n : Int) ≤ 2 * (k : Int) + 1 := by omega
      have Hp := Lib.hid (HD.out.done (HD.out.2.1.leaf h1))
      clear h1 zl nz hq
      go_wp2
      go_ret
      exact ⟨⟨_, rfl⟩, zs, HQ.out, Hp.out, HB.out⟩
    · have h1' : ¬ (n : Int) ≤ 2 * (k : Int) + 1 := by omega
      have h1b : decide ((n : Int) ≤ 2 * (k : Int) + 1) = false := by simp; omega
      have h1c : decide (2 * (k : Int) + 1 < 0) = false := by simp; omega
      have e1 : Hid (2 * (k : Int) + 1 = ((2 * k + 1 : Nat) : Int)) := by show 2 * (k : Int) + 1 = ((2 * k + 1 : Nat) : Int); omega
      have k1 : k < zs.length := by omega
      have k2 : 2 * k + 1 < zs.length := by omega
      obtain ⟨v, q0, ho, hns, hgl, hput⟩ := hq.parts
      have Hgl := Lib.hid hgl
      have Ho := Lib.hid ho
      have Hns := Lib.hid hns
      have Hput := Lib.hid hput
      have ml := fun m => meth_less m q v wr q0
      have ms := fun m => meth_swap m q v wr q0
      clear ho hns hput hq hgl
      by_cases h2 : 2 * k + 2 < n
      · have h2' : 2 * (k : Int) + 1 + 1 < (n : Int) := by omega
        have e2 : Hid (2 * (k : Int) + 1 + 1 = ((2 * k + 2 : Nat) : Int)) := by show 2 * (k : Int) + 1 + 1 = ((2 * k + 2 : Nat) : Int); omega
        have k3 : 2 * k + 2 < zs.length := by omega
        cases hb : lessT (At zs (2 * k + 2)) (At zs (2 * k + 1)) with
        | true =>
          go_wp2_with fail
          have cc := qLess_any v zs (2 * k + 2) (2 * k + 1) L wr Ho.out Hns.out k3 k2
          rw [← e2.out, ← e1.out, hb] at cc
          refine cc.mono ?_
          clear cc
          rintro e w1 ⟨rfl, hE1⟩
          have q1 := hE1.cell q0
          have ml1 := fun m => meth_less m q v w1 q1
          clear ml ms
          cases hc : lessT (At zs (2 * k + 2)) (At zs k) with
          | true =>
            go_wp2_with fail
            have cc := qLess_any v zs (2 * k + 2) k L w1 (Ho.out.ext hE1) (Hns.out.ext hE1) k3 k1
            rw [← e2.out, hc] at cc
            refine cc.mono ?_
            clear cc
            rintro e w2 ⟨rfl, hE2⟩
            have F2 := Lib.hid (hE1.trans hE2)
            have q2 := F2.out.cell q0
            have ms2 := fun m => meth_swap m q v w2 q2
            clear ml1 q1 hE1 hE2
            go_wp2_with fail
            have cc := qSwap_any v zs k (2 * k + 2) L w2 (Ho.out.ext F2.out) k1 k3
            rw [← e2.out] at cc
            refine cc.mono ?_
            clear cc
            rintro e w3 ⟨rfl, ho3, hk3, hb3⟩
            have HQ3 := Lib.hid (Hput.out w3 _ ho3 ((F2.out.kt _).trans hk3) (swapL_perm k1 k3))
            have HD3 := Lib.hid (HD.out.step (j := 2 * k + 2) (by omega) (by omega) HN.out (fun c g1 g2 g3 => (show c = 2 * k + 1 ∨ c = 2 * k + 2 by omega).elim (fun h => by subst h; exact LeB.of_less hb) (fun h => by subst h; exact LeB.refl _)) hc)
            have HB3 := Lib.hid (HB.out.trans ((F2.out.qf L U).trans (QF.put hb3 hk3 (by decide) Hgl.out)))
            clear ho3 hk3 hb3 ms2 q2
            go_wp2_with fail
            go_roundw
            case rel => exact ⟨2 * k + 2, _, by omega, congrArg (Value.int .i64) e2.out, HQ3.out, HD3.out, HB3.out⟩
            case measure => simp [intOf]; omega
          | false =>
            have Hp := Lib.hid (HD.out.done (HD.out.2.1.two (j := 2 * k + 2) (j' := 2 * k + 1) (.inr ⟨rfl, rfl⟩) (LeB.of_less hb) hc))
            go_wp2_with fail
            have cc := qLess_any v zs (2 * k + 2) k L w1 (Ho.out.ext hE1) (Hns.out.ext hE1) k3 k1
            rw [← e2.out, hc] at cc
            refine cc.mono ?_
            clear cc
            rintro e w2 ⟨rfl, hE2⟩
            have F2 := Lib.hid (hE1.trans hE2)
            clear ml1 q1 hE1 hE2
            go_wp2_with fail
            go_ret
            exact ⟨⟨_, rfl⟩, zs, HQ.out.ext F2.out, Hp.out, HB.out.trans (F2.out.qf L U)⟩
        | false =>
          go_wp2_with fail
          have cc := qLess_any v zs (2 * k + 2) (2 * k + 1) L wr Ho.out Hns.out k3 k2
          rw [← e2.out, ← e1.out, hb] at cc
          refine cc.mono ?_
          clear cc
          rintro e w1 ⟨rfl, hE1⟩
          have q1 := hE1.cell q0
          have ml1 := fun m => meth_less m q v w1 q1
          clear ml ms
          cases hc : lessT (At zs (2 * k + 1)) (At zs k) with
          | true =>
            go_wp2_with fail
            have cc := qLess_any v zs (2 * k + 1) k L w1 (Ho.out.ext hE1) (Hns.out.ext hE1) k2 k1
            rw [← e1.out, hc] at cc
            refine cc.mono ?_
            clear cc
            rintro e w2 ⟨rfl, hE2⟩
            have F2 := Lib.hid (hE1.trans hE2)
            have q2 := F2.out.cell q0
            have ms2 := fun m => meth_swap m q v w2 q2
            clear ml1 q1 hE1 hE2
            go_wp2_with fail
            have cc := qSwap_any v zs k (2 * k + 1) L w2 (Ho.out.ext F2.out) k1 k2
            rw [← e1.out] at cc
            refine cc.mono ?_
            clear cc
            rintro e w3 ⟨rfl, ho3, hk3, hb3⟩
            have HQ3 := Lib.hid (Hput.out w3 _ ho3 ((F2.out.kt _).trans hk3) (swapL_perm k1 k2))
            have HD3 := Lib.hid (HD.out.step (j := 2 * k + 1) (by omega) (by omega) HN.out (fun c g1 g2 g3 => (show c = 2 * k + 1 ∨ c = 2 * k + 2 by omega).elim (fun h => by subst h; exact LeB.refl _) (fun h => by subst h; exact LeB.not hb)) hc)
            have HB3 := Lib.hid (HB.out.trans ((F2.out.qf L U).trans (QF.put hb3 hk3 (by decide) Hgl.out)))
            clear ho3 hk3 hb3 ms2 q2
            go_wp2_with fail
            go_roundw
            case rel => exact ⟨2 * k + 1, _, by omega, congrArg (Value.int .i64) e1.out, HQ3.out, HD3.out, HB3.out⟩
            case measure => simp [intOf]; omega
          | false =>
            have Hp := Lib.hid (HD.out.done (HD.out.2.1.two (j := 2 * k + 1) (j' := 2 * k + 2) (.inl ⟨rfl, rfl⟩) (LeB.not hb) hc))
            go_wp2_with fail
            have cc := qLess_any v zs (2 * k + 1) k L w1 (Ho.out.ext hE1) (Hns.out.ext hE1) k2 k1
            rw [← e1.out, hc] at cc
            refine cc.mono ?_
            clear cc
            rintro e w2 ⟨rfl, hE2⟩
            have F2 := Lib.hid (hE1.trans hE2)
            clear ml1 q1 hE1 hE2
            go_wp2_with fail
            go_ret
            exact ⟨⟨_, rfl⟩, zs, HQ.out.ext F2.out, Hp.out, HB.out.trans (F2.out.qf L U)⟩
      · have h2' : ¬ 2 * (k : Int) + 1 + 1 < (n : Int) := by omega
        have h2b : decide (2 * (k : Int) + 1 + 1 < (n : Int)) = false := by simp; omega
        have hE1 := Ext.refl wr
        have q1 := hE1.cell q0
        have ml1 := fun m => meth_less m q v wr q1
        clear ml ms
        cases hc : lessT (At zs (2 * k + 1)) (At zs k) with
        | true =>
          go_wp2_with fail
          have cc := qLess_any v zs (2 * k + 1) k L wr (Ho.out.ext hE1) (Hns.out.ext hE1) k2 k1
          rw [← e1.out, hc] at cc
          refine cc.mono ?_
          clear cc
          rintro e w2 ⟨rfl, hE2⟩
          have F2 := Lib.hid (hE1.trans hE2)
          have q2 := F2.out.cell q0
          have ms2 := fun m => meth_swap m q v w2 q2
          clear ml1 q1 hE1 hE2
          go_wp2_with fail
          have cc := qSwap_any v zs k (2 * k + 1) L w2 (Ho.out.ext F2.out) k1 k2
          rw [← e1.out] at cc
          refine cc.mono ?_
          clear cc
          rintro e w3 ⟨rfl, ho3, hk3, hb3⟩
          have HQ3 := Lib.hid (Hput.out w3 _ ho3 ((F2.out.kt _).trans hk3) (swapL_perm k1 k2))
          have HD3 := Lib.hid (HD.out.step (j := 2 * k + 1) (by omega) (by omega) HN.out (fun c g1 g2 g3 => (show c = 2 * k + 1 by omega) ▸ LeB.refl _) hc)
          have HB3 := Lib.hid (HB.out.trans ((F2.out.qf L U).trans (QF.put hb3 hk3 (by decide) Hgl.out)))
          clear ho3 hk3 hb3 ms2 q2
          go_wp2_with fail
          go_roundw
          case rel => exact ⟨2 * k + 1, _, by omega, congrArg (Value.int .i64) e1.out, HQ3.out, HD3.out, HB3.out⟩
          case measure => simp [intOf]; omega
        | false =>
          have Hp := Lib.hid (HD.out.done (HD.out.2.1.one (by omega) hc))
          go_wp2_with fail
          have cc := qLess_any v zs (2 * k + 1) k L wr (Ho.out.ext hE1) (Hns.out.ext hE1) k2 k1
          rw [← e1.out, hc] at cc
          refine cc.mono ?_
          clear cc
          rintro e w2 ⟨rfl, hE2⟩
          have F2 := Lib.hid (hE1.trans hE2)
          clear ml1 q1 hE1 hE2
          go_wp2_with fail
          go_ret
          exact ⟨⟨_, rfl⟩, zs, HQ.out.ext F2.out, Hp.out, HB.out.trans (F2.out.qf L U)⟩

set_option maxHeartbeats 1000000 in
theorem heapInit_any (q L U : Nat) (ys : List Tb) (w : World) (h : Queue w L U q ys) (hl : ys.length ≤ 1000) :
    Calls Try.prog 156 #[.iface 164 (.pointer (some ⟨q, 0, none⟩))] w fun e w' => e = .returned (.tuple #[]) ∧ ∃ xs, Queue w' L U q xs ∧ xs.Perm ys ∧ HeapP xs 0 ys.length ∧ QF L U w w' := by
  have HQ := Lib.hid h
  obtain ⟨a, c, h1, h2, h3, h4⟩ := h
  have q0 := cell_of_heap h1 0
  have ml := fun m => meth_len m q _ w q0
  have HP := Lib.hid (HeapP.half ys ys.length)
  clear h1 h2 h3 h4
  go_enter Try.func156, Try.ntmps156
  go_wp2_with fail
  refine (qLen_any _ _ _ _).mono ?_
  rintro e w1 ⟨rfl, rfl⟩
  clear ml
  go_wp2_with fail
  go_loopw [3] (fun i wr => ∃ (m : Nat) (zs : List Tb), m ≤ 1000 ∧ i = .int .i64 ((m : Int) - 1) ∧ Queue wr L U q zs ∧ zs.Perm ys ∧ HeapP zs m ys.length ∧ QF L U w wr) (fun i _ => (intOf i + 1).toNat)
  case atStart => exact ⟨ys.length / 2, ys, by omega, congrArg (Value.int .i64) (by omega), HQ.out, List.Perm.refl _, HP.out, QF.refl _ _ _⟩
  case round =>
    clear HQ HP q0
    obtain ⟨m, zs, hm, rfl, hz, hp, hh, hB⟩ := hrel
    have Hz := Lib.hid hz
    have Hp := Lib.hid hp
    have Hh := Lib.hid hh
    have HB := Lib.hid hB
    clear hz hp hh hB
    cases m with
    | zero =>
      go_wp2
      refine bodyPost_end (results_none rfl _ _ _) rfl ⟨rfl, zs, Hz.out, Hp.out, Hh.out, HB.out⟩
    | succ m =>
      have zl := Hp.out.length_eq
      have e1 : Hid (((m + 1 : Nat) : Int) - 1 = (m : Int)) := by show ((m + 1 : Nat) : Int) - 1 = (m : Int); omega
      rw [e1.out]
      have m0 : (0 : Int) ≤ (m : Int) := by omega
      go_wp2_with fail
      refine (heapDown_any q L U zs m ys.length _ Hz.out (HeapI.start Hh.out) (by omega) (by omega) (by omega)).mono ?_
      rintro e w2 ⟨⟨b, rfl⟩, xs, hx, hd, hB2⟩
      have Hx := Lib.hid hx
      have Hp2 := Lib.hid (hd.1.trans Hp.out)
      have Hh2 := Lib.hid hd.2.1
      have HB2 := Lib.hid (HB.out.trans hB2)
      clear hx hd hB2
      go_wp2_with fail
      go_roundw
      case rel => exact ⟨m, xs, by omega, by go_num, Hx.out, Hp2.out, Hh2.out, HB2.out⟩
      case measure => simp [intOf]

theorem Needs.sub {w : World} {L : Nat} {xs ys : List Tb} (h : Needs w L ys) (hs : xs.Sublist ys) : Needs w L xs :=
  ⟨fun y hy => h.1 y (hs.subset hy), h.2.1.sublist (hs.map _), fun y hy => h.2.2 y (hs.subset hy)⟩

set_option maxHeartbeats 1000000 in
theorem heapPop_any (q L U : Nat) (ys : List Tb) (n : Nat) (w : World) (h : Queue w L U q ys) (hn : ys.length = n + 1) (hl : ys.length ≤ 1000) (hh : HeapP ys 0 (n + 1)) :
    Calls Try.prog 158 #[.iface 164 (.pointer (some ⟨q, 0, none⟩))] w fun e w' => ∃ zs, e = .returned (.iface 45 (.agg #[.int .i64 (At zs n).t.id, need (At zs n)])) ∧ Queue w' L U q (zs.take n) ∧ Down (swapL ys 0 n) zs 0 n ∧ QF L U w w' := by
  have HQ := Lib.hid h
  obtain ⟨v, q0, ho, hns, hgl, hput⟩ := h.parts
  obtain ⟨a, c, rfl⟩ := ho.form
  have ml := fun m => meth_len m q _ w q0
  have ms := fun m => meth_swap m q _ w q0
  have Ho := Lib.hid ho
  have Hput := Lib.hid hput
  have Hgl := Lib.hid hgl
  have Hh := Lib.hid hh
  have Hn := Lib.hid hn
  have n1 : n + 1 ≤ 1000 := by omega
  have nw : IntKind.i64.wrap (n : Int) = (n : Int) := by simp (disch := omega) only [IntWalk.i64_in]
  clear ho hns hput hgl hh h hl
  rw [hn] at ml ms q0 Ho Hput Hgl
  clear hn
  go_enter Try.func158, Try.ntmps158
  go_wp2_with fail
  refine (qLen_any _ _ _ _).mono ?_
  rintro e w1 ⟨rfl, rfl⟩
  go_wp2_with fail
  refine (qSwap_any _ ys 0 n L _ Ho.out (by have := Hn.out; omega) (by have := Hn.out; omega)).mono ?_
  rintro e w1 ⟨rfl, ho1, hk1, hg1⟩
  have HQ1 := Lib.hid (Hput.out w1 _ ho1 hk1 (swapL_perm (by have := Hn.out; omega) (by have := Hn.out; omega)))
  have HB1 := Lib.hid (QF.put hg1 hk1 (by decide) Hgl.out)
  clear ho1 hk1 hg1 ml ms q0
  go_wp2_with fail
  refine (heapDown_any q L U _ 0 n _ HQ1.out (Hh.out.pop (by have := Hn.out; omega)) (by rw [swapL_length]; have := Hn.out; omega) (by rw [swapL_length]; have := Hn.out; omega) (by omega)).mono ?_
  rintro e w2 ⟨⟨b, rfl⟩, zs, hz, hd, hB2⟩
  have HD := Lib.hid hd
  have HB2 := Lib.hid (HB1.out.trans hB2)
  have zl : zs.length = n + 1 := by rw [hd.1.length_eq, swapL_length]; exact Hn.out
  obtain ⟨a2, c2, g1, g2, g3, g4, g5, g6, g7, g8⟩ := hz
  rw [zl] at g1 g2 g4 g8
  have G1 := Lib.hid g1
  have G2 := Lib.hid g2
  have G3 := Lib.hid g3
  have G8 := Lib.hid g8
  clear hd hB2 g1 g2 g3 g8
  go_wp2_with fail
  refine (qPop_any q a2 n c2 zs L _ G1.out G2.out zl g4 (by omega)).mono ?_
  rintro e w3 ⟨rfl, hq3, hk3, hg3⟩
  have tl : (zs.take n).length = n := by simp; omega
  have HQ3 := Lib.hid (show Queue w3 L U q (zs.take n) from ⟨a2, c2, by rw [tl]; exact hq3, by rw [tl]; exact ownsRow_kt (G2.out.pop (m := n) (by omega) (by omega)) hk3 (by decide), (G3.out.sub (List.take_sublist n zs)).kt hk3 (by decide), by omega, by omega, g6, g7, by
    intro g hg
    refine G8.out g ?_
    cases a2 with
    | none => cases hg
    | some ad => exact hg⟩)
  have HB3 := Lib.hid (HB2.out.trans (QF.put hg3 hk3 (by decide) (fun g e => by cases e; exact ⟨g6, g7⟩)))
  clear hq3 hk3 hg3
  go_wp2
  go_ret
  exact ⟨zs, rfl, HQ3.out, HD.out, HB3.out⟩


end Go.Proofs.Ytcijbpjiioodlaa
