/- The program: nodes that are copied; a task is put into a copy of nodes. -/
import Derived.Test.YtfidamjepjgknaaDoorI15
namespace Go.Proofs.YtfidamjepjgknaaDoor
set_option maxRecDepth 100000
open Go.RowKit

set_option maxHeartbeats 1000000 in
theorem copyBins_any (v : Value) (bs : List (List T)) (w : World) (h : Bins w v bs) (h3 : ∀ b ∈ bs, ∀ t ∈ b, t.need.length = 3) :
    Calls Tryd.prog 14 #[v] w fun e w' => ∃ a c, e = .returned (.slice a bs.length c) ∧ Ext w w' ∧ NestS w' w.heap.size (.slice a bs.length c) bs := by
  obtain ⟨a, cap, rfl, h⟩ := h.open
  have hl : bs.length ≤ 4194304 := h.1
  have H3 := Lib.hid h3
  clear h3
  obtain ⟨i0, hi, hz, hs, hby⟩ := info_parts info_bin
  go_enter Tryd.func14, Tryd.ntmps14
  go_wp2_with (at_make; refine wpList_make_own _ rfl _ _ 27 rfl w.heap.size 24 i0 (.slice none 0 0) 1 under_bins hi hz hs .i64 .i64 _ bs.length rfl rfl rfl (by rw [hby]; omega) (by unfold maxLen; omega) (Nat.le_refl _) ?_; intro w1 hown hg)
  have hE : Ext w w1 := Below.grown (Below.refl _ _) hg (Nat.le_refl _) (by simp)
  have Ho := Lib.hid (show NestS w1 w.heap.size (.slice (some ⟨w.heap.size, 0, none⟩) 0 bs.length) [] from ⟨[], fun _ _ => False, hown, fun _ _ h => h.elim, fun _ _ _ _ h => h.elim, fun _ h => by simp at h⟩)
  clear hown hg hi hz hs hby
  go_loopw [3, 11] (fun s i wr => ∃ k : Nat, k ≤ bs.length ∧ i = .int .i64 k ∧ Ext w wr ∧ NestS wr w.heap.size s (bs.take k)) (fun _ i _ => bs.length - (intOf i).toNat)
  case atStart => exact ⟨0, by omega, rfl, hE, by simpa using Ho.out⟩
  case round =>
    clear Ho hE
    obtain ⟨k, hk, rfl, hE, hs⟩ := hrel
    by_cases hlt : k < bs.length
    · obtain ⟨b, off, nd, rfl, c0, ht⟩ := h.at hlt
      have c0' := hE.cell c0
      obtain ⟨na, nc, rfl, ht'⟩ := (ht.ext hE).open
      have n3 := H3.out _ (List.getElem_mem hlt)
      have Ht := Lib.hid ht'
      have N3 := Lib.hid n3
      have Hs := Lib.hid hs
      have HE := Lib.hid hE
      have Hst := Lib.hid (List.take_succ_eq_append_getElem hlt)
      have Tl := Lib.hid (show (bs.take k).length = k by simp; omega)
      have hwl := hE.le
      clear c0 ht ht' n3 hs hE
      go_wp2_with fail
      refine (copyTasks_any _ _ _ Ht.out N3.out).mono ?_
      rintro e w2 ⟨r, rfl, hE2, hs2⟩
      have E2 := Lib.hid hE2
      obtain ⟨ra, rc, rfl⟩ := hs2.form
      have EB := Lib.hid ((Ext.refl w2).alloc (Obj.cells #[.slice ra bs[k].length rc] 24))
      have P2 := Lib.hid (hs2.p.ext EB.out)
      have hF := Lib.hid (E2.out.trans EB.out)
      clear hE2 hs2
      go_wp2_with (at_builtin; refine app_nestS rfl _ _ rfl rfl Hs.out hF.out hwl _ _ _ bs[k] rfl (Row.lit w2 #[.slice ra bs[k].length rc] _) (P2.out.weaken fun g hg hl => ⟨hg.1, hl⟩) (by rw [Tl.out]; unfold lim; omega) ?_; intro v' w4 hN hB hW)
      have HN := Lib.hid (show NestS w4 w.heap.size v' (bs.take (k + 1)) ∧ Ext w w4 from ⟨by rw [Hst.out]; exact hN, (HE.out.trans hF.out).below hB⟩)
      clear hN hB hW
      go_roundw
      case rel => exact ⟨k + 1, by omega, by go_num, HN.out.2, HN.out.1⟩
      case measure => simp [intOf]; omega
    · have e : k = bs.length := by omega
      subst e
      rw [List.take_length] at hs
      have Hs := Lib.hid hs
      obtain ⟨sa, sc, rfl⟩ := hs.form
      clear hs
      go_wp2
      go_ret
      exact ⟨_, _, rfl, hE, Hs.out⟩

theorem put_len14 {room : List Int} {bs : List (List T)} {x : T} (h : ok11 room bs x = true) : (putL bs (at11 room bs x) x).length ≤ 14 := by
  obtain ⟨h1, h2, _⟩ := ok11_facts h
  have hl := h2.2.1
  rw [List.length_append, List.length_singleton] at hl
  rcases at11_chooses room bs x with ⟨e, hn⟩ | ⟨k, hk, e, _⟩
  · rw [e, putL_none, List.length_append, List.length_singleton]
    have key : ∀ l : List (List T), (∀ b ∈ l, b ≠ []) → l.length ≤ l.flatten.length := by
      intro l
      induction l with
      | nil => intro _; simp
      | cons b r ih =>
        intro hb
        have h1 := ih fun c hc => hb c (by simp [hc])
        have h2 : 0 < b.length := List.length_pos_iff.2 (hb b (by simp))
        rw [List.flatten_cons, List.length_append, List.length_cons]
        omega
    have := key bs fun b hb e0 => by
      have := hn b hb
      rw [e0, fits_empty h2] at this
      cases this
    omega
  · rw [e, putL_some hk, List.length_set]
    exact h1.2.1

/-- Nodes with a further task. -/
def firstPutL (room : List Int) (bs : List (List T)) (x : T) : List (List T) := if ok11 room bs x = true then putL bs (at11 room bs x) x else []

end Go.Proofs.YtfidamjepjgknaaDoor
