/- The reference: where a task is, which nodes are empty, all tasks, the first node. -/
import Derived.Test.YtnjgljeejdkbmaaS8
import Derived.Test.YtnjgljeejdkbmaaI8
import Derived.Deep.RegionHeld3
namespace Go.Proofs.Ytnjgljeejdkbmaa
set_option maxRecDepth 100000
open Go.RowKit

theorem hasB_full (b : List T) (id : Int) : hasB b b.length id = b.any (isId id) := by unfold hasB; rw [List.take_length]; rfl

set_option maxHeartbeats 600000 in
theorem l2Where_any (v : Value) (bs : List (List T)) (id : Int) (w : World) (h : Bins w v bs) :
    Calls Try.prog 76 #[v, .int .i64 id] w fun e w' => e = .returned (.int .i64 (nodeI (where0 bs id))) ∧ Ext w w' := by
  obtain ⟨a, cap, rfl, h⟩ := h.open
  have hl : bs.length ≤ 4194304 := h.1
  go_enter Try.func76, Try.ntmps76
  go_wp2
  go_loopw [5] (fun i wr => ∃ k : Nat, k ≤ bs.length ∧ i = .int .i64 k ∧ Ext w wr ∧ ∀ j (h : j < bs.length), j < k → bs[j].any (isId id) = false) (fun i _ => bs.length - (intOf i).toNat)
  case atStart => exact ⟨0, by omega, rfl, Ext.refl _, fun _ _ h => by omega⟩
  case round =>
    obtain ⟨k, hk, rfl, hE, hg⟩ := hrel
    have HG := Lib.hid hg
    clear hg
    by_cases hlt : k < bs.length
    · obtain ⟨b, off, nd, rfl, c0, ht⟩ := h.at hlt
      have c0' := hE.cell c0
      obtain ⟨ta, tc, rfl, ht'⟩ := (ht.ext hE).open
      have Ht := Lib.hid ht'
      have b0 : (0 : Int) ≤ (k : Int) := by omega
      have b1 : (k : Int) < (bs.length : Int) := by omega
      clear ht c0 ht'
      cases hb : hasB bs[k] bs[k].length id with
      | true =>
        have Hd : Hid (where0 bs id = some k) := find_some HG.out hlt (by rw [hasB_full] at hb; exact hb)
        go_wp2
        go_still_tail 10, (by kernel_rfl)
        change wpList _ _ _ _ _ wr.drew
        go_wp2_with fail
        have cc := l2Has_any _ _ bs[k].length id _ Ht.out.drew (Nat.le_refl _)
        rw [hb] at cc
        refine cc.mono ?_
        clear cc
        rintro e w3 ⟨rfl, rfl⟩
        go_wp2_with fail
        go_ret
        exact ⟨ret_int (by rw [Hd.out]; rfl), hE.drew⟩
      | false =>
        have Hd : Hid (∀ j (h : j < bs.length), j < k + 1 → bs[j].any (isId id) = false) := by
          intro j hj hjk
          by_cases e : j = k
          · subst e; rw [hasB_full] at hb; exact hb
          · exact HG.out j hj (by omega)
        go_wp2
        go_still_tail 10, (by kernel_rfl)
        change wpList _ _ _ _ _ wr.drew
        go_wp2_with fail
        have cc := l2Has_any _ _ bs[k].length id _ Ht.out.drew (Nat.le_refl _)
        rw [hb] at cc
        refine cc.mono ?_
        clear cc
        rintro e w3 ⟨rfl, rfl⟩
        have hE2 := hE.drew
        clear hE
        go_wp2_with fail
        go_roundw
        case rel => exact ⟨k + 1, by omega, by go_num, hE2, Hd.out⟩
        case measure => simp [intOf]; omega
    · have e : k = bs.length := by omega
      subst e
      have Hd : Hid (where0 bs id = none) := find_none fun j hj => HG.out j hj hj
      go_wp2
      go_ret
      exact ⟨ret_int (by rw [Hd.out]; rfl), hE⟩

set_option maxHeartbeats 400000 in
theorem sBinsWhere_any (v u : Value) (room : List Int) (bs : List (List T)) (x : Int) (w : World) (hr : Ints w v room) (h : Bins w u bs) (hf : bs.flatten.length ≤ 2097152) :
    Calls Try.prog 37 #[v, u, .int .i64 x] w fun e w' => e = .returned (.int .i64 (whereI room bs x)) ∧ Ext w w' := by
  cases hb : binsB room bs with
  | false =>
    have Hd : Hid (whereI room bs x = -1) := by show whereI room bs x = -1; simp [whereI, hb]
    go_enter Try.func37, Try.ntmps37
    go_wp2_with fail
    refine (sBinsValid_any _ _ _ _ _ hr h hf).mono ?_
    rintro e w2 ⟨rfl, hE2⟩
    go_wp2
    go_ret
    exact ⟨ret_int Hd.out.symm, hE2⟩
  | true =>
    have Hd : Hid (whereI room bs x = nodeI (where0 bs x)) := by show whereI room bs x = _; simp [whereI, hb]
    go_enter Try.func37, Try.ntmps37
    go_wp2_with fail
    refine (sBinsValid_any _ _ _ _ _ hr h hf).mono ?_
    rintro e w2 ⟨rfl, hE2⟩
    go_wp2_with fail
    refine (l2Where_any _ _ x _ (h.ext hE2)).mono ?_
    rintro e w3 ⟨rfl, hE3⟩
    go_wp2
    go_ret
    exact ⟨ret_int Hd.out.symm, hE2.trans hE3⟩

set_option maxHeartbeats 1000000 in
theorem sGatherEmpty_any (v u : Value) (room : List Int) (bs : List (List T)) (w : World) (hr : Ints w v room) (h : Bins w u bs) (hf : bs.flatten.length ≤ 2097152) :
    Calls Try.prog 40 #[v, u] w fun e w' => ∃ r, e = .returned r ∧ Ext w w' ∧ NeedX w' w.heap.size r (emptiesL room bs) := by
  have E0 := Lib.hid ((Ext.refl w).alloc (.cells #[] 3))
  have N0 := Lib.hid (NeedX.lit0 w w.heap.size (Nat.le_refl _))
  have Hr := Lib.hid hr
  have Hf := Lib.hid hf
  obtain ⟨a, cap, rfl, h⟩ := h.open
  have Hb := Lib.hid h
  have hl : bs.length ≤ 4194304 := h.1
  clear hr hf
  cases hb : binsB room bs with
  | false =>
    have Hd : Hid (emptiesL room bs = []) := by show emptiesL room bs = []; simp [emptiesL, hb]
    have HB := Lib.hid hb
    clear hb
    go_enter Try.func40, Try.ntmps40
    go_wp2_with fail
    refine wp_loop_rounds 1 ?_
    rw [rounds_succ]
    by_cases h0 : 0 < bs.length
    · have h0' : (0 : Int) < (bs.length : Int) := by omega
      go_wp2_with fail
      have cc := sBinsValid_any _ _ _ _ _ (Hr.out.ext E0.out) (Hb.out.ext E0.out) Hf.out
      rw [HB.out] at cc
      refine cc.mono ?_
      clear cc
      rintro e w2 ⟨rfl, hE2⟩
      have N2 := Lib.hid (N0.out.ext hE2)
      go_wp2
      go_ret
      exact ⟨_, rfl, E0.out.trans hE2, by rw [Hd.out]; exact N2.out⟩
    · have h0' : ¬ (0 : Int) < (bs.length : Int) := by omega
      go_wp2
      go_ret
      exact ⟨_, rfl, E0.out, by rw [Hd.out]; exact N0.out⟩
  | true =>
    have Hd : Hid (emptiesL room bs = emptyL bs) := by show emptiesL room bs = _; simp [emptiesL, hb]
    have HB := Lib.hid hb
    clear hb
    go_enter Try.func40, Try.ntmps40
    go_wp2_with fail
    go_loopw [5, 6] (fun s i wr => ∃ k : Nat, k ≤ bs.length ∧ i = .int .i64 k ∧ Ext w wr ∧ NeedX wr w.heap.size s (emptyL (bs.take k))) (fun _ i _ => bs.length - (intOf i).toNat)
    case atStart => exact ⟨0, by omega, rfl, E0.out, N0.out⟩
    case round =>
      clear E0 N0
      obtain ⟨k, hk, rfl, hE, hs⟩ := hrel
      have Hs := Lib.hid hs
      obtain ⟨g, ⟨sc, rfl⟩, -⟩ := hs
      by_cases hlt : k < bs.length
      · have b1 : (k : Int) < (bs.length : Int) := by omega
        go_wp2_with fail
        have cc := sBinsValid_any _ _ _ _ _ (Hr.out.ext hE) (Hb.out.ext hE) Hf.out
        rw [HB.out] at cc
        refine cc.mono ?_
        clear cc
        rintro e w2 ⟨rfl, hE2⟩
        have hE3 := hE.trans hE2
        have Hs2 := Lib.hid (Hs.out.ext hE2)
        clear hE hE2 Hs
        obtain ⟨b, off, nd, rfl, c0, ht⟩ := h.at hlt
        have c0' := hE3.cell c0
        obtain ⟨ta, tc, rfl, -⟩ := ht.open
        have Hst := Lib.hid (emptyL_step hlt)
        have len := emptyL_len (bs.take k)
        rw [List.length_take] at len
        clear c0 ht
        by_cases h0 : bs[k].length = 0
        · have h0' : (((bs[k].length : Nat) : Int) == 0) = true := by simp [h0]
          have H0 := Lib.hid h0
          clear h0
          go_wp2_with (at_builtin; refine app_ints rfl _ _ rfl w.heap.size _ _ rfl (Hs2.out.own.alloc _) (by have := hE3.le; simp; omega) _ _ _ [(k : Int)] rfl (Ints.lit1 w2 _ 1) (by unfold lim; simp; omega) ?_; intro v' w1 hown hkt hbl)
          have hE1 := (hE3.alloc _).below hbl
          have Hn : Hid (NeedX w1 w.heap.size v' (emptyL (bs.take (k + 1)))) := by
            show NeedX w1 w.heap.size v' (emptyL (bs.take (k + 1)))
            rw [Hst.out, if_pos H0.out]
            exact NeedS.of_own hown (by simp)
          clear hown hkt hbl hE3
          go_roundw
          case rel => exact ⟨k + 1, by omega, by go_num, hE1, Hn.out⟩
          case measure => simp [intOf]; omega
        · have h0' : (((bs[k].length : Nat) : Int) == 0) = false := beq_eq_false_iff_ne.2 (by omega)
          have H0 := Lib.hid h0
          clear h0
          go_wp2_with fail
          go_roundw
          case rel => exact ⟨k + 1, by omega, by go_num, hE3, by rw [Hst.out, if_neg H0.out]; exact Hs2.out⟩
          case measure => simp [intOf]; omega
      · have e : k = bs.length := by omega
        subst e
        have Hn := Lib.hid (show NeedX wr w.heap.size (.slice (some ⟨g, 0, none⟩) (emptyL (bs.take bs.length)).length sc) (emptiesL room bs) by have := Hs.out; rw [Hd.out]; rw [List.take_length] at this ⊢; exact this)
        go_wp2
        go_ret
        exact ⟨_, rfl, hE, Hn.out⟩

set_option maxHeartbeats 1000000 in
theorem l2Copy_any (v : Value) (ts : List T) (w : World) (h : Tasks w v ts) (hn : ∀ t ∈ ts, t.need.length ≤ 1000) :
    Calls Try.prog 88 #[v] w fun e w' => ∃ r, e = .returned r ∧ Ext w w' ∧ OwnTasks w' w.heap.size r ts := by
  obtain ⟨a, cap, rfl, h⟩ := h.open
  have hl : ts.length ≤ 4194304 := h.1
  have HN := Lib.hid hn
  clear hn
  go_enter Try.func88, Try.ntmps88
  go_wp2
  go_loopw [3, 4] (fun s i wr => ∃ k : Nat, k ≤ ts.length ∧ i = .int .i64 k ∧ Ext w wr ∧ OwnTasks wr w.heap.size s (ts.take k)) (fun _ i _ => ts.length - (intOf i).toNat)
  case atStart => exact ⟨0, by omega, rfl, (Ext.refl w).alloc _, by simpa using OwnTasks.lit0 w w.heap.size (Nat.le_refl _)⟩
  case round =>
    obtain ⟨k, hk, rfl, hE, hs⟩ := hrel
    by_cases hlt : k < ts.length
    · obtain ⟨b, off, nd, rfl, c0, c1, hn⟩ := h.at hlt
      have c0' := hE.cell c0
      have c1' := hE.cell c1
      obtain ⟨na, nc, rfl, hn'⟩ := (hn.ext hE).open
      have Hn := Lib.hid hn'
      have Hl := Lib.hid (HN.out _ (List.getElem_mem hlt))
      have Hs := Lib.hid hs
      have Hst := Lib.hid (List.take_succ_eq_append_getElem hlt)
      have Tl := Lib.hid (show (ts.take k).length = k by simp; omega)
      have KS := Lib.hid (show ∀ w', Ext wr w' → w'.cell? ⟨b, off + k * 2, none⟩ = some (.int .i64 ts[k].id) ∧ w'.cell? ⟨b, off + k * 2 + 1, none⟩ = some (.slice na ts[k].need.length nc) from fun w' h => ⟨h.cell c0', h.cell c1'⟩)
      have lb := Lib.hid (World.block_lt_of_cell? w _ c0)
      have b0 : (0 : Int) ≤ (k : Int) := by omega
      have b1 : (k : Int) < (ts.length : Int) := by omega
      clear c0 c1 hn hn' hs
      go_wp2
      go_region_held3 (fun w' => w'.cell? ⟨b, off + k * 2, none⟩ = some (.int .i64 ts[k].id) ∧ w'.cell? ⟨b, off + k * 2 + 1, none⟩ = some (.slice na ts[k].need.length nc))
        (first | exact KS.out _ (Ext.refl wr).drew | exact KS.out _ ((Ext.refl wr).alloc _).drew | exact KS.out _ E1 | exact KS.out _ (E1.alloc _) | exact ⟨((Below.cell (p := ⟨b, off + k * 2, none⟩) hbl2 lb.out).trans ((E1.alloc _).cell c0')), ((Below.cell (p := ⟨b, off + k * 2 + 1, none⟩) hbl2 lb.out).trans ((E1.alloc _).cell c1'))⟩)
        ((first
          | (refine step_app_ints (by rfl) _ _ (by rfl) wr.heap.size _ [] (by rfl) (OwnInts.lit0 wr wr.heap.size (Nat.le_refl _)).drew (by simp) _ _ _ ts[k].need (by rfl) (Hn.out.ext ((Ext.refl wr).alloc _).drew) (by have := Hl.out; unfold lim; simp; omega) ?_; intro v1 w1 hown1 hkt1 hbl1; have E1 := ((Ext.refl wr).alloc (.cells #[] 3)).drew.below hbl1; rw [List.nil_append] at hown1; obtain ⟨va, vc, hv1, hi1⟩ := (hown1.done (by have := Hl.out; unfold lim; omega)).open; subst hv1; have Hi := Lib.hid hi1; clear hown1 hkt1 hbl1 hi1)
          | (refine step_app_tasks (by rfl) _ _ (by rfl) w.heap.size _ (ts.take k) (by rfl) (Hs.out.ext (E1.alloc _)) (Nat.le_trans hE.le (E1.alloc _).le) _ _ _ [ts[k]] (by rfl) (Tasks.lit1 Hi.out 1) (by rw [Tl.out]; unfold lim; simp; omega) ?_; intro v2 w2 hown2 hkt2 hbl2; have Ho2 := Lib.hid hown2; have E3 := (hE.trans (E1.alloc (.cells #[.int .i64 ts[k].id, .slice va ts[k].need.length vc] 49))).below hbl2; clear hown2 hkt2)))
      all_goals
        go_wp2
        go_roundw
        case rel => exact ⟨k + 1, by omega, by go_num, E3, by rw [Hst.out]; exact Ho2.out⟩
        case measure => simp [intOf]; omega
    · have e : k = ts.length := by omega
      subst e
      rw [List.take_length] at hs
      have Hs := Lib.hid hs
      obtain ⟨sa, sc, rfl⟩ := OwnTasks.form hs
      clear hs
      go_wp2
      go_ret
      exact ⟨_, rfl, hE, Hs.out⟩

end Go.Proofs.Ytnjgljeejdkbmaa
