/- The reference: where a task is, which nodes are empty, all tasks, the first node. -/
import Derived.Test.YtfidamjepjgknaaDoorS8
import Derived.Test.YtfidamjepjgknaaDoorI8
import Derived.Deep.RegionHeld3
namespace Go.Proofs.YtfidamjepjgknaaDoor
set_option maxRecDepth 100000
open Go.RowKit

theorem hasB_full (b : List T) (id : Int) : hasB b b.length id = b.any (isId id) := by unfold hasB; rw [List.take_length]; rfl

set_option maxHeartbeats 1000000 in
theorem l2Copy_any (v : Value) (ts : List T) (w : World) (h : Tasks w v ts) (hn : ∀ t ∈ ts, t.need.length ≤ 1000) :
    Calls Tryd.prog 56 #[v] w fun e w' => ∃ r, e = .returned r ∧ Ext w w' ∧ OwnTasks w' w.heap.size r ts := by
  obtain ⟨a, cap, rfl, h⟩ := h.open
  have hl : ts.length ≤ 4194304 := h.1
  have HN := Lib.hid hn
  clear hn
  go_enter Tryd.func56, Tryd.ntmps56
  go_wp2
  go_loopw [3, 4] (fun s i wr => ∃ k : Nat, k ≤ ts.length ∧ i = .int .i64 k ∧ Ext w wr ∧ OwnTasks wr w.heap.size s (ts.take k)) (fun _ i _ => ts.length - (intOf i).toNat)
  case atStart => exact ⟨0, by omega, rfl, (Ext.refl w).alloc _, by simpa using OwnTasks.lit0 w w.heap.size (Nat.le_refl _)⟩
  case round =>
    obtain ⟨k, hk, rfl, hE, hs⟩ := hrel
    by_cases hlt : k < ts.length
    · obtain ⟨b, off, nd, rfl, c0, c1, hn⟩ := h.at hlt
      have c0' := hE.cell c0
      have c1' := hE.cell c1
      obtain ⟨na, nc, rfl, hn'⟩ := (hn.ext hE).open
      have Hn := Lib.hid hn'
      have Hl := Lib.hid (HN.out _ (List.getElem_mem hlt))
      have Hs := Lib.hid hs
      have Hst := Lib.hid (List.take_succ_eq_append_getElem hlt)
      have Tl := Lib.hid (show (ts.take k).length = k by simp; omega)
      have KS := Lib.hid (show ∀ w', Ext wr w' → w'.cell? ⟨b, off + k * 2, none⟩ = some (.int .i64 ts[k].id) ∧ w'.cell? ⟨b, off + k * 2 + 1, none⟩ = some (.slice na ts[k].need.length nc) from fun w' h => ⟨h.cell c0', h.cell c1'⟩)
      have lb := Lib.hid (World.block_lt_of_cell? w _ c0)
      have b0 : (0 : Int) ≤ (k : Int) := by omega
      have b1 : (k : Int) < (ts.length : Int) := by omega
      clear c0 c1 hn hn' hs
      go_wp2
      go_region_held3 (fun w' => w'.cell? ⟨b, off + k * 2, none⟩ = some (.int .i64 ts[k].id) ∧ w'.cell? ⟨b, off + k * 2 + 1, none⟩ = some (.slice na ts[k].need.length nc))
        (first | exact KS.out _ (Ext.refl wr).drew | exact KS.out _ ((Ext.refl wr).alloc _).drew | exact KS.out _ E1 | exact KS.out _ (E1.alloc _) | exact ⟨((Below.cell (p := ⟨b, off + k * 2, none⟩) hbl2 lb.out).trans ((E1.alloc _).cell c0')), ((Below.cell (p := ⟨b, off + k * 2 + 1, none⟩) hbl2 lb.out).trans ((E1.alloc _).cell c1'))⟩)
        ((first
          | (refine step_app_ints (by rfl) _ _ (by rfl) wr.heap.size _ [] (by rfl) (OwnInts.lit0 wr wr.heap.size (Nat.le_refl _)).drew (by simp) _ _ _ ts[k].need (by rfl) (Hn.out.ext ((Ext.refl wr).alloc _).drew) (by have := Hl.out; unfold lim; simp; omega) ?_; intro v1 w1 hown1 hkt1 hbl1; have E1 := ((Ext.refl wr).alloc (.cells #[] 3)).drew.below hbl1; rw [List.nil_append] at hown1; obtain ⟨va, vc, hv1, hi1⟩ := (hown1.done (by have := Hl.out; unfold lim; omega)).open; subst hv1; have Hi := Lib.hid hi1; clear hown1 hkt1 hbl1 hi1)
          | (refine step_app_tasks (by rfl) _ _ (by rfl) w.heap.size _ (ts.take k) (by rfl) (Hs.out.ext (E1.alloc _)) (Nat.le_trans hE.le (E1.alloc _).le) _ _ _ [ts[k]] (by rfl) (Tasks.lit1 Hi.out 1) (by rw [Tl.out]; unfold lim; simp; omega) ?_; intro v2 w2 hown2 hkt2 hbl2; have Ho2 := Lib.hid hown2; have E3 := (hE.trans (E1.alloc (.cells #[.int .i64 ts[k].id, .slice va ts[k].need.length vc] 31))).below hbl2; clear hown2 hkt2)))
      all_goals
        go_wp2
        go_roundw
        case rel => exact ⟨k + 1, by omega, by go_num, E3, by rw [Hst.out]; exact Ho2.out⟩
        case measure => simp [intOf]; omega
    · have e : k = ts.length := by omega
      subst e
      rw [List.take_length] at hs
      have Hs := Lib.hid hs
      obtain ⟨sa, sc, rfl⟩ := OwnTasks.form hs
      clear hs
      go_wp2
      go_ret
      exact ⟨_, rfl, hE, Hs.out⟩

end Go.Proofs.YtfidamjepjgknaaDoor
