/- The program: nodes that are copied; a task is put into a copy of nodes. -/
import Derived.Test.YtapkpphdkdbclaaI15
namespace Go.Proofs.Ytapkpphdkdbclaa
set_option maxRecDepth 100000
open Go.RowKit

set_option maxHeartbeats 1000000 in
theorem copyBins_any (v : Value) (bs : List (List T)) (w : World) (h : Bins w v bs) (h3 : ∀ b ∈ bs, ∀ t ∈ b, t.need.length = 3) :
    Calls Try.prog 89 #[v] w fun e w' => ∃ a c, e = .returned (.slice a bs.length c) ∧ Ext w w' ∧ NestS w' w.heap.size (.slice a bs.length c) bs := by
  obtain ⟨a, cap, rfl, h⟩ := h.open
  have hl : bs.length ≤ 4194304 := h.1
  have H3 := Lib.hid h3
  clear h3
  obtain ⟨i0, hi, hz, hs, hby⟩ := info_parts info_bin
  go_enter Try.func89, Try.ntmps89
  go_wp2_with (at_make; refine wpList_make_own _ rfl _ _ 29 rfl w.heap.size 47 i0 (.slice none 0 0) 1 under_bins hi hz hs .i64 .i64 _ bs.length rfl rfl rfl (by rw [hby]; omega) (by unfold maxLen; omega) (Nat.le_refl _) ?_; intro w1 hown hg)
  have hE : Ext w w1 := Below.grown (Below.refl _ _) hg (Nat.le_refl _) (by simp)
  have Ho := Lib.hid (show NestS w1 w.heap.size (.slice (some ⟨w.heap.size, 0, none⟩) 0 bs.length) [] from ⟨[], fun _ _ => False, hown, fun _ _ h => h.elim, fun _ _ _ _ h => h.elim, fun _ h => by simp at h⟩)
  clear hown hg hi hz hs hby
  go_loopw [3, 11] (fun s i wr => ∃ k : Nat, k ≤ bs.length ∧ i = .int .i64 k ∧ Ext w wr ∧ NestS wr w.heap.size s (bs.take k)) (fun _ i _ => bs.length - (intOf i).toNat)
  case atStart => exact ⟨0, by omega, rfl, hE, by simpa using Ho.out⟩
  case round =>
    clear Ho hE
    obtain ⟨k, hk, rfl, hE, hs⟩ := hrel
    by_cases hlt : k < bs.length
    · obtain ⟨b, off, nd, rfl, c0, ht⟩ := h.at hlt
      have c0' := hE.cell c0
      obtain ⟨na, nc, rfl, ht'⟩ := (ht.ext hE).open
      have n3 := H3.out _ (List.getElem_mem hlt)
      have Ht := Lib.hid ht'
      have N3 := Lib.hid n3
      have Hs := Lib.hid hs
      have HE := Lib.hid hE
      have Hst := Lib.hid (List.take_succ_eq_append_getElem hlt)
      have Tl := Lib.hid (show (bs.take k).length = k by simp; omega)
      have hwl := hE.le
      clear c0 ht ht' n3 hs hE
      go_wp2_with fail
      refine (copyTasks_any _ _ _ Ht.out N3.out).mono ?_
      rintro e w2 ⟨r, rfl, hE2, hs2⟩
      have E2 := Lib.hid hE2
      obtain ⟨ra, rc, rfl⟩ := hs2.form
      have EB := Lib.hid ((Ext.refl w2).alloc (Obj.cells #[.slice ra bs[k].length rc] 47))
      have P2 := Lib.hid (hs2.p.ext EB.out)
      have hF := Lib.hid (E2.out.trans EB.out)
      clear hE2 hs2
      go_wp2_with (at_builtin; refine app_nestS rfl _ _ rfl rfl Hs.out hF.out hwl _ _ _ bs[k] rfl (Row.lit w2 #[.slice ra bs[k].length rc] _) (P2.out.weaken fun g hg hl => ⟨hg.1, hl⟩) (by rw [Tl.out]; unfold lim; omega) ?_; intro v' w4 hN hB hW)
      have HN := Lib.hid (show NestS w4 w.heap.size v' (bs.take (k + 1)) ∧ Ext w w4 from ⟨by rw [Hst.out]; exact hN, (HE.out.trans hF.out).below hB⟩)
      clear hN hB hW
      go_roundw
      case rel => exact ⟨k + 1, by omega, by go_num, HN.out.2, HN.out.1⟩
      case measure => simp [intOf]; omega
    · have e : k = bs.length := by omega
      subst e
      rw [List.take_length] at hs
      have Hs := Lib.hid hs
      obtain ⟨sa, sc, rfl⟩ := hs.form
      clear hs
      go_wp2
      go_ret
      exact ⟨_, _, rfl, hE, Hs.out⟩

theorem put_len14 {room : List Int} {bs : List (List T)} {x : T} (h : ok11 room bs x = true) : (putL bs (at11 room bs x) x).length ≤ 14 := by
  obtain ⟨h1, h2, _⟩ := ok11_facts h
  have hl := h2.2.1
  rw [List.length_append, List.length_singleton] at hl
  rcases at11_chooses room bs x with ⟨e, hn⟩ | ⟨k, hk, e, _⟩
  · rw [e, putL_none, List.length_append, List.length_singleton]
    have key : ∀ l : List (List T), (∀ b ∈ l, b ≠ []) → l.length ≤ l.flatten.length := by
      intro l
      induction l with
      | nil => intro _; simp
      | cons b r ih =>
        intro hb
        have h1 := ih fun c hc => hb c (by simp [hc])
        have h2 : 0 < b.length := List.length_pos_iff.2 (hb b (by simp))
        rw [List.flatten_cons, List.length_append, List.length_cons]
        omega
    have := key bs fun b hb e0 => by
      have := hn b hb
      rw [e0, fits_empty h2] at this
      cases this
    omega
  · rw [e, putL_some hk, List.length_set]
    exact h1.2.1

/-- Nodes with a further task. -/
def firstPutL (room : List Int) (bs : List (List T)) (x : T) : List (List T) := if ok11 room bs x = true then putL bs (at11 room bs x) x else []

set_option maxHeartbeats 2000000 in
theorem FirstPut_any (v u n : Value) (room : List Int) (bs : List (List T)) (x : T) (w : World) (hr : Ints w v room) (h : Bins w u bs) (hn : Ints w n x.need) (hf : bs.flatten.length ≤ 2097152) :
    Calls Try.prog 44 #[v, u, .agg #[.int .i64 x.id, n]] w fun e w' => ∃ a c, e = .returned (.tuple #[.slice a (firstPutL room bs x).length c, .bool (ok11 room bs x)]) ∧ Ext w w' ∧ NestS w' w.heap.size (.slice a (firstPutL room bs x).length c) (firstPutL room bs x) := by
  obtain ⟨an, cn, rfl, hn⟩ := hn.open
  have Hf := Lib.hid hf
  clear hf
  cases hb : ok11 room bs x with
  | false =>
    have Hd : Hid (firstPutL room bs x = []) := by show firstPutL room bs x = []; simp [firstPutL, hb]
    rw [Hd.out]
    have HB := Lib.hid hb
    clear hb
    have E0 := Lib.hid ((Ext.refl w).alloc (Obj.cells #[.int .i64 x.id, .slice an x.need.length cn] 42))
    have C0 := Lib.hid (show (w.alloc (Obj.cells #[.int .i64 x.id, .slice an x.need.length cn] 42)).cell? ⟨w.heap.size, 0, none⟩ = some (.int .i64 x.id) by rw [box_cell]; rfl)
    go_enter Try.func44, Try.ntmps44
    go_wp2_with fail
    have cc := canCome_any _ _ _ _ _ x _ (hr.ext E0.out) (h.ext E0.out) (hn.ext E0.out) Hf.out
    rw [HB.out] at cc
    refine cc.mono ?_
    clear cc
    rintro e w2 ⟨rfl, hE2⟩
    have F := E0.out.trans hE2
    go_wp2
    go_ret2
    exact ⟨none, 0, rfl, F, NestS.nil _ _⟩
  | true =>
    have Hd : Hid (firstPutL room bs x = putL bs (at11 room bs x) x) := by show firstPutL room bs x = _; simp [firstPutL, hb]
    rw [Hd.out]
    have HO := Lib.hid (ok11_facts hb)
    have H14 := Lib.hid (put_len14 hb)
    have HB := Lib.hid hb
    have hlen : bs.length ≤ 14 := HO.out.1.2.1
    clear hb
    go_enter Try.func44, Try.ntmps44
    go_wp2_with fail
    have hEx : Ext w _ := (Ext.refl w).alloc (Obj.cells #[.int .i64 x.id, .slice an x.need.length cn] 42)
    have q0 : (w.alloc (Obj.cells #[.int .i64 x.id, .slice an x.need.length cn] 42)).cell? ⟨w.heap.size, 0, none⟩ = some (.int .i64 x.id) := by rw [box_cell]; rfl
    have q1 : (w.alloc (Obj.cells #[.int .i64 x.id, .slice an x.need.length cn] 42)).cell? ⟨w.heap.size, 1, none⟩ = some (.slice an x.need.length cn) := by rw [box_cell]; rfl
    generalize w.alloc (Obj.cells #[.int .i64 x.id, .slice an x.need.length cn] 42) = W0 at *
    have KS := Lib.hid (show ∀ w', Ext W0 w' → w'.cell? ⟨w.heap.size, 0, none⟩ = some (.int .i64 x.id) ∧ w'.cell? ⟨w.heap.size, 1, none⟩ = some (.slice an x.need.length cn) from fun w' h => ⟨h.cell q0, h.cell q1⟩)
    have E0 := Lib.hid hEx
    have Hr := Lib.hid (hr.ext hEx)
    have Hn := Lib.hid (hn.ext hEx)
    have Hb := Lib.hid (h.ext hEx)
    clear hr hn h q0 q1 hEx
    have cc := canCome_any _ _ _ _ _ x _ Hr.out Hb.out Hn.out Hf.out
    rw [HB.out] at cc
    refine cc.mono ?_
    clear cc
    rintro e W ⟨rfl, hE2⟩
    have E2 := Lib.hid hE2
    obtain ⟨c0, c1⟩ := KS.out W hE2
    clear hE2
    go_wp2_with fail
    go_region_held3 (fun w' => w'.cell? ⟨w.heap.size, 0, none⟩ = some (.int .i64 x.id) ∧ w'.cell? ⟨w.heap.size, 1, none⟩ = some (.slice an x.need.length cn))
      (first | exact KS.out _ (E2.out.trans (Ext.refl W).drew) | exact KS.out _ HE.out | exact KS.out _ HZ.out.1)
      ((first
        | (go_at_call 70; refine (firstOf_any _ _ _ room bs x _ (Hr.out.ext (E2.out.trans (Ext.refl W).drew)) (Hb.out.ext (E2.out.trans (Ext.refl W).drew)) (Hn.out.ext (E2.out.trans (Ext.refl W).drew)) HO.out.1.1.1.1.1 HO.out.1.goodB HO.out.2.2.2.1).mono ?_; rintro e w3 ⟨rfl, hE3⟩; have HE := Lib.hid ((E2.out.trans (Ext.refl W).drew).trans hE3); clear hE3)
        | (go_at_call 70; refine (firstOf_any _ _ _ room bs x _ (Hr.out.ext HE.out) (Hb.out.ext HE.out) (Hn.out.ext HE.out) HO.out.1.1.1.1.1 HO.out.1.goodB HO.out.2.2.2.1).mono ?_; rintro e w3 ⟨rfl, hE3⟩; have HN := Lib.hid (HN.out.ext hE3); have HE := Lib.hid (HE.out.trans hE3); clear hE3)
        | (go_at_call 89; refine (copyBins_any _ bs _ (Hb.out.ext (E2.out.trans (Ext.refl W).drew)) (fun b hb t ht => (HO.out.1.goodB b hb t ht).1)).mono ?_; rintro e w4 ⟨va, vc, rfl, hE4, hN4⟩; have HN := Lib.hid (hN4.base (E2.out.trans (Ext.refl W).drew).le); have HE := Lib.hid ((E2.out.trans (Ext.refl W).drew).trans hE4); clear hE4 hN4)
        | (go_at_call 89; refine (copyBins_any _ bs _ (Hb.out.ext HE.out) (fun b hb t ht => (HO.out.1.goodB b hb t ht).1)).mono ?_; rintro e w4 ⟨va, vc, rfl, hE4, hN4⟩; have HN := Lib.hid (hN4.base HE.out.le); have HE := Lib.hid (HE.out.trans hE4); clear hE4 hN4)
        | (go_at_call 88; refine (placed_any _ _ bs (at11 room bs x) x W0.heap.size _ _ HN.out (Ext.refl _) HE.out.le (Hn.out.ext HE.out) HO.out.2.2.2.1.1 (fun j hj => by rcases at11_chooses room bs x with ⟨e, _⟩ | ⟨i, hi, e, _⟩; rw [e] at hj; cases hj; rw [e] at hj; cases hj; exact hi) (by unfold lim; omega) (fun b hb => by have := HO.out.2.2.1 b hb; unfold lim; omega)).mono ?_; rintro e w5 ⟨pa, pc, rfl, hN5, hB5, hW5⟩; have HZ := Lib.hid (show Ext W0 w5 ∧ NestS w5 W0.heap.size _ (putL bs (at11 room bs x) x) from ⟨HE.out.below hB5, hN5⟩); clear hN5 hB5 hW5)))
    all_goals
      have HR := Lib.hid (show Ext w w5 ∧ NestS w5 w.heap.size _ (putL bs (at11 room bs x) x) from ⟨E0.out.trans HZ.out.1, HZ.out.2.base E0.out.le⟩)
      have hp14 := H14.out
      clear c0 c1
      have q0 : ¬ ((14 : Int) < ((putL bs (at11 room bs x) x).length : Int)) := by omega
      clear hp14
      go_wp2
      go_ret2
      exact ⟨_, _, rfl, HR.out.1, HR.out.2⟩

end Go.Proofs.Ytapkpphdkdbclaa
