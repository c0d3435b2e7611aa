/- Drawn nodes. No condition. -/
import Derived.Test.YtipmoedflpjioaaDr4
import Derived.Test.YtipmoedflpjioaaS8
import Derived.StillTailTactics
import Derived.Deep.RegionLaw
namespace Go.Proofs.Ytipmoedflpjioaa
set_option maxRecDepth 100000
open Go.RowKit

/-- The tasks of all nodes have three bounded numbers each. -/
def DnB (bs : List (List T)) : Prop := ∀ b ∈ bs, DnT b
theorem DnB.good {bs : List (List T)} (h : DnB bs) : GoodB bs := fun b hb => (h b hb).good
theorem DnB.push {bs : List (List T)} (h : DnB bs) {k : Nat} (hk : k < bs.length) {t : T} (ht : Dn t.need) : DnB (bs.set k (bs[k] ++ [t])) := fun b hb => by
  rcases List.mem_or_eq_of_mem_set hb with h1 | rfl
  · exact h b h1
  · exact (h _ (List.getElem_mem hk)).app (DnT.one ht)
theorem flat_push {bs : List (List T)} {k : Nat} (hk : k < bs.length) (t : T) : (bs.set k (bs[k] ++ [t])).flatten.length = bs.flatten.length + 1 := by
  induction bs generalizing k with
  | nil => simp at hk
  | cons b r ih =>
    cases k with
    | zero => simp; omega
    | succ k => simp at hk; simp [ih hk]; omega
theorem bin_len {bs : List (List T)} {b : List T} (h : b ∈ bs) : b.length ≤ bs.flatten.length := (sub_flat h).length_le
theorem Nest.bins {w : World} {B C : Nat} {v : Value} {bs : List (List T)} (h : Nest w B C v bs) (hl : bs.length ≤ 1000) (hf : bs.flatten.length ≤ 1000) : Bins w v bs :=
  h.done (by unfold lim; omega) fun b hb => by have := bin_len hb; unfold lim; omega

theorem Nest.base {w : World} {B C C' : Nat} {v : Value} {bs : List (List T)} (h : Nest w B C v bs) (hc : C' ≤ C) : Nest w B C' v bs := by
  obtain ⟨xs, h1, h2, h3, h4⟩ := h
  exact ⟨xs, h1, h2, fun k hk => let ⟨n, a, b⟩ := h3 k hk; ⟨n, a, b.base hc⟩, h4⟩
theorem Nest.none {w : World} {B C C' : Nat} {v : Value} (h : Nest w B C v []) : Nest w B C' v [] := by
  obtain ⟨xs, h1, h2, h3, h4⟩ := h
  exact ⟨xs, h1, h2, fun k hk => by simp at hk, h4⟩

set_option maxHeartbeats 2000000 in
theorem l91Bins_any (r : Value) (B P : Nat) (w : World) (h : Rdr w B r P) (hP : P ≤ 50000) :
    Calls Try.prog 62 #[r] w fun e w' => ∃ vr room vb bs, e = .returned (.tuple #[vr, vb]) ∧ Ints w' vr room ∧ Nest w' w.heap.size w.heap.size vb bs ∧ DnB bs ∧ bs.length ≤ 5 ∧ bs.flatten.length ≤ 11 ∧ Dr B r (P + 200) w w' := by
  have S0 := Lib.hid h
  clear h
  go_enter Try.func62, Try.ntmps62
  go_wp2_with fail
  refine (l91Room_any _ B _ _ S0.out (by omega)).mono ?_
  rintro e w1 ⟨vr, room, rfl, hr, hnr, d1⟩
  obtain ⟨ar, cr, rfl, hr⟩ := hr.open
  have E1 := (Ext.refl w1).alloc (.cells #[] 27)
  have NR := Lib.hid hnr
  have R1 := Lib.hid (hr.ext E1)
  have Z1 := Lib.hid (Nest.lit0 w1 w.heap.size w.heap.size d1.size)
  have D1 := Lib.hid (d1.ext E1)
  clear hr hnr E1 d1 S0
  go_wp2_with fail
  generalize w1.alloc (.cells #[] 27) = W1 at *
  refine (l2Room_any _ _ _ R1.out).mono ?_
  cases hrb : roomB room with
  | false =>
    rintro e w2 ⟨rfl, rfl⟩
    go_wp2
    go_ret2
    exact ⟨_, room, _, [], rfl, R1.out, Z1.out, fun b hb => by simp at hb, by simp, by simp, D1.out.mono (by omega)⟩
  | true =>
    rintro e w2 ⟨rfl, rfl⟩
    go_wp2_with fail
    refine (pick_any _ B _ 11 _ D1.out.rd (by omega) (by omega) (by omega)).mono ?_
    rintro e w3 ⟨k3, rfl, b3, d3⟩
    have R3 := Lib.hid (R1.out.kt d3.kt (by decide))
    have Z3 := Lib.hid (Z1.out.kt d3.kt (by decide) (by decide) (by decide))
    have D3 := Lib.hid (D1.out.trans d3)
    clear d3 R1 Z1 D1
    go_wp2_with fail
    refine (l91Tasks_any _ B _ k3 _ D3.out.rd (by omega) (by omega)).mono ?_
    rintro e w4 ⟨tv, ts, rfl, ht, hts, hlt, d4⟩
    have T4 := Lib.hid (ht.done (by unfold lim; omega))
    obtain ⟨ta, tc, rfl, -⟩ := T4.out.open
    have NT := Lib.hid hts
    have R4 := Lib.hid (R3.out.kt d4.kt (by decide))
    have Z4 := Lib.hid (Z3.out.kt d4.kt (by decide) (by decide) (by decide))
    have D4 := Lib.hid ((D3.out.trans d4).mono (show P + 6 + 1 + 9 * k3 + 4 ≤ P + 110 by omega))
    have tl : ts.length ≤ 11 := by omega
    clear d4 R3 Z3 D3 ht hts hlt
    go_wp2_with fail
    refine (pick_any _ B _ 5 _ D4.out.rd (by omega) (by omega) (by omega)).mono ?_
    rintro e w5 ⟨k5, rfl, b5, d5⟩
    have R5 := Lib.hid (R4.out.kt d5.kt (by decide))
    have T5 := Lib.hid (T4.out.kt d5.kt (by decide) (by decide))
    have Z5 := Lib.hid (Z4.out.kt d5.kt (by decide) (by decide) (by decide))
    have D5 := Lib.hid (D4.out.trans d5)
    have HDw := Lib.hid D5.out.size
    clear d5 R4 T4 Z4 D4
    go_wp2_with fail
    go_loopw [5, 8] (fun s i wr => ∃ k : Nat, k ≤ 1 + k5 ∧ i = .int .i64 k ∧ Nest wr w.heap.size w5.heap.size s (List.replicate k []) ∧ KI w5 wr ∧ Dr B r (P + 111) w wr) (fun _ i _ => 1 + k5 - (intOf i).toNat)
    case atStart => exact ⟨0, by omega, rfl, Z5.out.none, KI.refl _, D5.out⟩
    case round =>
      clear Z5 D5
      obtain ⟨k, hk, rfl, hz, hki, hd⟩ := hrel
      have HZ := Lib.hid hz
      have HK := Lib.hid hki
      have HD := Lib.hid hd
      obtain ⟨sa, sc, rfl⟩ := hz.form
      have le1 := hki.1
      have le2 := hd.size
      clear hz hki hd
      by_cases hlt : k < 1 + k5
      · have b1 : (k : Int) < 1 + (k5 : Int) := by omega
        go_wp2_with (at_builtin; refine app_nest rfl _ _ rfl w.heap.size _ (List.replicate k []) rfl HZ.out (((Ext.refl wr).alloc (.cells #[] 38)).alloc (.cells #[.slice (some ⟨wr.heap.size, 0, none⟩) 0 0] 27)) le2 le1 _ _ (.slice (some ⟨wr.heap.size, 0, none⟩) 0 0) [] rfl ?hrow ((OwnTasks.lit0 wr wr.heap.size (Nat.le_refl _)).alloc _) (by unfold lim; simp; omega) ?_; (case hrow => (have hrw := Row.lit (wr.alloc (.cells #[] 38)) #[.slice (some ⟨wr.heap.size, 0, none⟩) 0 0] 27; simpa using hrw)); intro v' w7 hnest hkt hbl)
        have E7 := ((Ext.refl wr).alloc (.cells #[] 38)).alloc (.cells #[.slice (some ⟨wr.heap.size, 0, none⟩) 0 0] 27)
        have HD7 := Lib.hid ((HD.out.ext E7).own hbl hkt (by decide))
        have HK7 := Lib.hid ((HK.out.trans E7.ki).trans (hkt.ki (by decide) (by decide)))
        have HN7 := Lib.hid (show Nest w7 w.heap.size w5.heap.size v' (List.replicate (k + 1) []) from by rw [List.replicate_succ']; exact hnest)
        clear hnest hkt hbl E7 HD HK HZ
        go_roundw
        case rel => exact ⟨k + 1, by omega, by go_num, HN7.out, HK7.out, HD7.out⟩
        case measure => simp [intOf]; omega
      · have e : k = 1 + k5 := by omega
        subst e
        have RP := Lib.hid (show (List.replicate (1 + k5) ([] : List T)).length = 1 + k5 ∧ DnB (List.replicate (1 + k5) []) ∧ (List.replicate (1 + k5) ([] : List T)).flatten.length = 0 from ⟨by simp, fun b hb => by rw [List.eq_of_mem_replicate hb]; exact fun t ht => by simp at ht, by simp⟩)
        generalize List.replicate (1 + k5) ([] : List T) = b0 at *
        have HN0 := Lib.hid RP.out.1
        go_wp2_with fail
        simp only [HN0.out]
        push_cast
        go_loopw [9] (fun i wr => ∃ (k : Nat) (bs : List (List T)), k ≤ ts.length ∧ i = .int .i64 k ∧ bs.length = 1 + k5 ∧ Nest wr w.heap.size w5.heap.size (.slice sa (1 + k5) sc) bs ∧ DnB bs ∧ bs.flatten.length ≤ k ∧ KI w5 wr ∧ Dr B r (P + 111 + 2 * k) w wr) (fun i _ => ts.length - (intOf i).toNat)
        case atStart => exact ⟨0, b0, by omega, rfl, HN0.out, by have := HZ.out; rwa [HN0.out] at this, RP.out.2.1, by have := RP.out.2.2; omega, HK.out, HD.out⟩
        case round =>
          obtain ⟨wo, rfl⟩ : ∃ wo : World, wo = wr := ⟨_, rfl⟩
          clear HZ HK HD RP
          obtain ⟨k, bs, hk, rfl, hbl, hz, hdn, hfl, hki, hd⟩ := hrel
          have HZ := Lib.hid hz
          have HN := Lib.hid hdn
          have HK := Lib.hid hki
          have HD := Lib.hid hd
          have HF := Lib.hid hfl
          clear hz hdn hki hd hfl
          by_cases hkl : k < ts.length
          · go_wp2_with fail
            refine (pick_any _ B _ (1 + k5) _ HD.out.rd (by omega) (by omega) (by omega)).mono ?_
            rintro e w7 ⟨at7, rfl, b7, d7⟩
            have HZ7 := Lib.hid (HZ.out.kt d7.kt (by decide) (by decide) (by decide))
            have HK7 := Lib.hid (HK.out.trans (d7.kt.ki (by decide) (by decide)))
            have HD7 := Lib.hid (HD.out.trans d7)
            clear d7 HZ HK HD
            have hat : at7 < bs.length := by omega
            obtain ⟨bb, nb, hsa, -, -, cb, hot, fb⟩ := HZ7.out.at hat
            subst hsa
            obtain ⟨ia, ic, rfl⟩ := hot.form
            obtain ⟨ta', tao, nd, hta, ct0, ct1, hnd⟩ := (T5.out.ki HK7.out).at hkl
            subst hta
            obtain ⟨na, nc, rfl, hnd'⟩ := hnd.open
            have n3 := (NT.out _ (List.getElem_mem hkl)).1
            rw [n3] at ct1 hnd'
            have Hot := Lib.hid hot
            have Hnd := Lib.hid hnd'
            have i0 : (0 : Int) ≤ (k : Int) := by omega
            have i1 : (k : Int) < (ts.length : Int) := by omega
            have a0 : (0 : Int) ≤ (at7 : Int) := by omega
            clear hot hnd hnd'
            go_upto_region 15 with fail
            have gx := Lib.hid (show Good1 ts[k] from (NT.out _ (List.getElem_mem hkl)).good1)
            have gb := Lib.hid ((HN.out _ (List.getElem_mem hat)).good)
            have bl : bs[at7].length ≤ 11 := by have := bin_len (List.getElem_mem hat); have := HF.out; omega
            have Tb := Lib.hid (Hot.out.done (by unfold lim; omega))
            have R7 := Lib.hid (R5.out.ki HK7.out)
            go_cut [67] from 35 to 80 (fun c wx => ∃ b : Bool, c = .bool b ∧ KI w5 wx ∧ Nest wx w.heap.size w5.heap.size (.slice (some ⟨bb, 0, none⟩) (1 + k5) sc) bs ∧ Dr B r (P + 111 + 2 * k + 2) w wx)
            case first =>
              have cu := (Ext.refl w7).drew.cell ct0
              have cv := (Ext.refl w7).drew.cell ct1
              have cw := (Ext.refl w7).drew.cell cb
              cases hf : fits11 room bs[at7] ts[k] with
              | true =>
                go_still_tail 17, (by kernel_rfl)
                change wpList _ _ _ _ _ w7.drew
                go_wp2_with fail
                have cc := l11Fits_any _ _ _ _ _ ts[k] _ (R7.out.ext (Ext.refl w7).drew) (Tb.out.ext (Ext.refl w7).drew) (Hnd.out.ext (Ext.refl w7).drew) NR.out.1 gb.out gx.out
                rw [hf] at cc
                refine cc.mono ?_
                clear cc
                rintro e w8 ⟨rfl, hE8⟩
                have E8 := (Ext.refl w7).drew.trans hE8
                have q1 := Lib.hid (HK7.out.trans E8.ki)
                have q2 := Lib.hid (HZ7.out.ext E8)
                have q3 := Lib.hid ((HD7.out.ext E8).mono (show P + 111 + 2 * k + 1 ≤ P + 111 + 2 * k + 2 by omega))
                clear E8 hE8
                go_wp2_with fail
                go_meet
                exact ⟨_, rfl, q1.out, q2.out, q3.out⟩
              | false =>
                go_still_tail 17, (by kernel_rfl)
                change wpList _ _ _ _ _ w7.drew
                go_wp2_with fail
                have cc := l11Fits_any _ _ _ _ _ ts[k] _ (R7.out.ext (Ext.refl w7).drew) (Tb.out.ext (Ext.refl w7).drew) (Hnd.out.ext (Ext.refl w7).drew) NR.out.1 gb.out gx.out
                rw [hf] at cc
                refine cc.mono ?_
                clear cc
                rintro e w8 ⟨rfl, hE8⟩
                have E8 := (Ext.refl w7).drew.trans hE8
                have q1 := Lib.hid (HK7.out.trans E8.ki)
                have q2 := Lib.hid (HZ7.out.ext E8)
                have q3 := Lib.hid (HD7.out.ext E8)
                clear E8 hE8
                go_wp2_with fail
                refine (pick_any _ B _ 60 _ q3.out.rd (by omega) (by omega) (by omega)).mono ?_
                rintro e w9 ⟨k9, rfl, b9, d9⟩
                have q4 := Lib.hid (q1.out.trans (d9.kt.ki (by decide) (by decide)))
                have q5 := Lib.hid (q2.out.kt d9.kt (by decide) (by decide) (by decide))
                have q6 := Lib.hid (q3.out.trans d9)
                clear d9
                go_wp2_with fail
                go_meet
                exact ⟨_, rfl, q4.out, q5.out, q6.out⟩
            case rest =>
              obtain ⟨b, rfl, q1, q2, q3⟩ := hcut
              have Q1 := Lib.hid q1
              have Q2 := Lib.hid q2
              have Q3 := Lib.hid q3
              clear ct0 ct1 cb fb Hot Hnd Tb R7 HZ7 HK7 HD7 q1 q2 q3
              cases b with
              | false =>
                go_wp2_with fail
                go_roundw
                case rel => exact ⟨k + 1, bs, by omega, by go_num, hbl, Q2.out, HN.out, by have := HF.out; omega, Q1.out, Q3.out.mono (by omega)⟩
                case measure => simp [intOf]; omega
              | true =>
                obtain ⟨bb', nb, hsa, -, -, cb, hot, fb⟩ := Q2.out.at hat
                simp only [Option.some.injEq, Addr.mk.injEq, and_true] at hsa
                subst hsa
                obtain ⟨ja, jc, rfl⟩ := hot.form
                obtain ⟨tb', tbo, nd, hta, ct0, ct1, hnd⟩ := (T5.out.ki Q1.out).at hkl
                simp only [Option.some.injEq, Addr.mk.injEq, and_true] at hta
                obtain ⟨rfl, rfl⟩ := hta
                obtain ⟨ma, mc, rfl, hnd'⟩ := hnd.open
                rw [n3] at hnd' ct1
                have EX := (Ext.refl wc).alloc (.cells #[.int .i64 ts[k].id, .slice ma 3 mc] 38)
                have Ex2 := Lib.hid EX.drew
                have Hot := Lib.hid (hot.ext EX.drew)
                have Lit := Lib.hid (Tasks.lit1 (t := ts[k]) hnd' 1).drew
                have cbx := EX.drew.cell cb
                have NZ := Lib.hid (Q2.out.ext EX.drew)
                have sz : w5.heap.size ≤ (wc.alloc (.cells #[.int .i64 ts[k].id, .slice ma 3 mc] 38)).drew.heap.size := Nat.le_trans Q1.out.1 EX.drew.le
                have Sz := Lib.hid sz
                have wle := Lib.hid Q3.out.size
                clear hot hnd hnd' EX sz
                go_wp2
                go_region_law ((refine step_app2_tasks rfl _ _ rfl w5.heap.size _ bs[at7] rfl Hot.out Sz.out _ _ _ [ts[k]] rfl Lit.out (by unfold lim; simp; omega) ?_; intro v' w9 hown hg hbk; obtain ⟨va, vc, rfl⟩ := hown.form; obtain ⟨p1, p2, p3, p4, p5, p6, p7⟩ := Nest.push NZ.out hat cbx Sz.out hown hg hbk))
                all_goals
                  have el : (bs[at7] ++ [ts[k]]).length = bs[at7].length + 1 := by simp
                  rw [el] at p1 p3 p4
                  have e1 := Lib.hid (Q1.out.trans Ex2.out.ki)
                  have e2 := Lib.hid ((e1.out.below p5).trans (p3.ki (by decide) (by decide)))
                  have wl5 := HDw.out
                  have e3 := Lib.hid (((Q3.out.ext Ex2.out).own (Below.mono p5 wl5) p2 (by decide)).own p4 p3 (by decide))
                  have e4 := Lib.hid p1
                  have e5 := Lib.hid (HN.out.push hat (NT.out _ (List.getElem_mem hkl)))
                  have e6 := Lib.hid (flat_push hat ts[k])
                  clear p1 p2 p3 p4 p5 p6 p7 hown hg hbk cbx
                  go_wp2
                  go_roundw
                  case rel => exact ⟨k + 1, bs.set at7 (bs[at7] ++ [ts[k]]), by omega, by go_num, by simpa using hbl, e4.out, e5.out, by have := e6.out; have := HF.out; omega, e2.out, e3.out.mono (by omega)⟩
                  case measure => simp [intOf]; omega
          · have e : k = ts.length := by omega
            subst e
            have q := HF.out
            go_wp2
            go_ret2
            exact ⟨_, room, _, bs, rfl, R5.out.ki HK.out, HZ.out.base HDw.out, HN.out, by omega, by omega, HD.out.mono (by omega)⟩

end Go.Proofs.Ytipmoedflpjioaa
