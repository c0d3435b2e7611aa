/- The program's validity of tasks and nodes. The program's nodes: all tasks together, validity, loads. The program's bounds. No condition. -/
import Derived.Test.YtfidamjepjgknaaDoorI1
import Derived.Test.YtfidamjepjgknaaDoorS5
import Derived.Deep.LoopGhost
namespace Go.Proofs.YtfidamjepjgknaaDoor
section
set_option maxRecDepth 100000
open Go.RowKit

theorem idsB (ts : List T) (k : Nat) (id : Int) : ((ts.take k).map (·.id)).contains id = hasB ts k id := by
  unfold hasB
  rw [Bool.eq_iff_iff]
  simp only [List.contains_iff_mem, List.mem_map, List.any_eq_true, beq_iff_eq]

theorem tasksB_long {room : List Int} {ts : List T} (h : ¬ ts.length ≤ 14) : tasksB room ts = false := by
  rw [Bool.eq_false_iff]
  exact fun x => h (tasksB_iff.1 x).2.1
theorem tasksB_all {room : List Int} {ts : List T} (hr : roomB room = true) (h14 : ts.length ≤ 14) (h : ∀ k (h : k < ts.length), (1 ≤ ts[k].id ∧ ts[k].id ≤ 40) ∧ hasB ts k ts[k].id = false ∧ vfitsB ts[k].need room = true) : tasksB room ts = true := by
  rw [tasksB_good hr h, decide_eq_true_eq]; omega

set_option maxHeartbeats 2000000 in
theorem TasksValid_any (v u : Value) (room : List Int) (ts : List T) (w : World) (hr : Ints w v room) (h : Tasks w u ts) :
    Calls Tryd.prog 21 #[v, u] w fun e w' => e = .returned (.bool (tasksB room ts)) ∧ Ext w w' := by
  obtain ⟨a, cap, rfl, h⟩ := h.open
  have hl : ts.length ≤ 4194304 := h.1
  cases h1 : roomB room with
  | false =>
    have Hd := Lib.hid (tasksB_room (ts := ts) h1)
    go_enter Tryd.func21, Tryd.ntmps21
    go_wp2_with fail
    refine (roomValid_any _ _ _ hr).mono ?_; rintro e w' ⟨rfl, rfl⟩
    go_wp2
    go_ret
    exact ⟨ret_bool Hd.out.symm, Ext.refl _⟩
  | true =>
    have Hrm := Lib.hid h1
    by_cases h14 : ts.length ≤ 14
    · have hmm := @run_makeMap Tryd.prog
      go_enter Tryd.func21, Tryd.ntmps21
      go_wp2_with fail
      refine (roomValid_any _ _ _ hr).mono ?_; rintro e w' ⟨rfl, rfl⟩
      go_wp2_with fail
      clear h1 hmm
      go_loopw [21] (fun i wr => ∃ k : Nat, k ≤ ts.length ∧ i = .int .i64 k ∧ Ext w wr ∧ MapIds wr w.heap.size ((ts.take k).map (·.id)) ∧ ∀ j (h : j < ts.length), j < k → (1 ≤ ts[j].id ∧ ts[j].id ≤ 40) ∧ hasB ts j ts[j].id = false ∧ vfitsB ts[j].need room = true) (fun i _ => ts.length - (intOf i).toNat)
      case atStart => exact ⟨0, by omega, rfl, (Ext.refl w).alloc _, MapIds.made w, fun _ _ h => by omega⟩
      case round =>
        obtain ⟨k, hk, rfl, hE, hmap, hg⟩ := hrel
        have Hg := Lib.hid hg
        have Hm := Lib.hid hmap
        clear hg hmap
        by_cases hlt : k < ts.length
        · obtain ⟨b, off, nd, rfl, c0, c1, hn⟩ := h.at hlt
          have c0' := hE.cell c0
          have c1' := hE.cell c1
          obtain ⟨an, cn, rfl, hn'⟩ := (hn.ext hE).open
          have Hn := Lib.hid hn'
          clear hn hn' c0 c1
          have hEx1 : Ext wr _ := (Ext.refl wr).alloc (Obj.cells #[.int .i64 ts[k].id, .slice an ts[k].need.length cn] 31)
          have HEx1 := Lib.hid hEx1
          clear hEx1
          cases b2 : hasB ts k ts[k].id with
          | true =>
            have Hd := Lib.hid (tasksB_bad (room := room) hlt (fun x => by rw [b2] at x; exact absurd x.2.1 (by simp)))
            have Hbb := Lib.hid ((idsB ts k ts[k].id).trans b2)
            clear b2
            go_wp2_with (at_lookup; refine lookup_ids rfl _ _ rfl w.heap.size _ rfl (Hm.out.ext HEx1.out) _ rfl true Hbb.out ?_; intro i1 ad1 n1 c1)
            go_ret
            exact ⟨ret_bool Hd.out.symm, (hE.trans HEx1.out).alloc _⟩
          | false =>
            have Hbb := Lib.hid ((idsB ts k ts[k].id).trans b2)
            have B2 := Lib.hid b2
            clear b2
            by_cases q1 : 1 ≤ ts[k].id ∧ ts[k].id ≤ 40
            · have b1 := inB_true q1.1 q1.2
              have Q1 := Lib.hid q1
              clear q1
              cases b3 : vfitsB ts[k].need room with
              | true =>
                have Hd : Hid (∀ j (h : j < ts.length), j < k + 1 → (1 ≤ ts[j].id ∧ ts[j].id ≤ 40) ∧ hasB ts j ts[j].id = false ∧ vfitsB ts[j].need room = true) := by
                  intro j hj hjk
                  by_cases e : j = k
                  · subst e; exact ⟨Q1.out, B2.out, b3⟩
                  · exact Hg.out j hj (by omega)
                have Hst : Hid ((ts.take (k + 1)).map (·.id) = (ts.take k).map (·.id) ++ [ts[k].id]) := by
                  show (ts.take (k + 1)).map (·.id) = _
                  rw [List.take_succ_eq_append_getElem hlt, List.map_append]; rfl
                go_wp2_with (at_lookup; refine lookup_ids rfl _ _ rfl w.heap.size _ rfl (Hm.out.ext HEx1.out) _ rfl false Hbb.out ?_; intro i1 ad1 n1 c1)
                refine (idValid_any _ _).mono ?_; rintro e w' ⟨rfl, rfl⟩
                go_wp2_with fail
                refine (VecFits_any _ _ _ _ _ (Hn.out.ext (HEx1.out.alloc _)) (hr.ext ((hE.trans HEx1.out).alloc _))).mono ?_; rintro e w' ⟨rfl, rfl⟩
                go_wp2_with (at_mapUpdate; refine update_ids rfl _ _ _ rfl w.heap.size _ rfl (Hm.out.ext (HEx1.out.alloc _)) _ rfl Hbb.out _ _ _ _ rfl ?_; intro w2 hm2 hg2)
                have hE2 := ((hE.trans HEx1.out).alloc (Obj.cells #[.int .i64 i1, .slice ad1 n1 c1] 31)).below (Below.grown (Below.refl _ _) hg2 (by have := hE.le; simp; omega) (fun k hk => by simp at hk; omega))
                have Hm2 := Lib.hid hm2
                clear hm2 hg2
                go_wp2_with fail
                go_roundw
                case rel => exact ⟨k + 1, by omega, by go_num, hE2, by rw [Hst.out]; exact Hm2.out, Hd.out⟩
                case measure => simp [intOf]; omega
              | false =>
                have Hd := Lib.hid (tasksB_bad (room := room) hlt (fun x => by rw [b3] at x; exact absurd x.2.2 (by simp)))
                go_wp2_with (at_lookup; refine lookup_ids rfl _ _ rfl w.heap.size _ rfl (Hm.out.ext HEx1.out) _ rfl false Hbb.out ?_; intro i1 ad1 n1 c1)
                refine (idValid_any _ _).mono ?_; rintro e w' ⟨rfl, rfl⟩
                go_wp2_with fail
                refine (VecFits_any _ _ _ _ _ (Hn.out.ext (HEx1.out.alloc _)) (hr.ext ((hE.trans HEx1.out).alloc _))).mono ?_; rintro e w' ⟨rfl, rfl⟩
                go_wp2
                go_ret
                exact ⟨ret_bool Hd.out.symm, (hE.trans HEx1.out).alloc _⟩
            · have b1 := inB_false q1
              have Hd := Lib.hid (tasksB_bad (room := room) hlt (fun x => q1 x.1))
              clear q1
              go_wp2_with (at_lookup; refine lookup_ids rfl _ _ rfl w.heap.size _ rfl (Hm.out.ext HEx1.out) _ rfl false Hbb.out ?_; intro i1 ad1 n1 c1)
              refine (idValid_any _ _).mono ?_; rintro e w' ⟨rfl, rfl⟩
              go_wp2
              go_ret
              exact ⟨ret_bool Hd.out.symm, (hE.trans HEx1.out).alloc _⟩
        · have e : k = ts.length := by omega
          subst e
          have Hd := Lib.hid (tasksB_all Hrm.out h14 (fun j hj => Hg.out j hj hj))
          go_wp2
          go_ret
          exact ⟨ret_bool Hd.out.symm, hE⟩
    · have Hd := Lib.hid (tasksB_long (room := room) h14)
      go_enter Tryd.func21, Tryd.ntmps21
      go_wp2_with fail
      refine (roomValid_any _ _ _ hr).mono ?_; rintro e w' ⟨rfl, rfl⟩
      go_wp2
      go_ret
      exact ⟨ret_bool Hd.out.symm, Ext.refl _⟩
end

section
set_option maxRecDepth 100000
open Go.RowKit

/-- The load of valid tasks, or nothing. -/
def binLoadL (room : List Int) (ts : List T) : List Int := if tasksB room ts = true then loadL ts else []
theorem Ints.nil (w : World) : Ints w (.slice none 0 0) [] := ⟨by simp, none, 0, rfl, .inl rfl⟩

end

section
set_option maxRecDepth 100000
open Go.RowKit

theorem addL_comm (xs ys : List Int) : addL xs ys 1 = addL ys xs 1 := by
  unfold addL
  rw [List.zipWith_comm]
  congr 1
  funext a b
  omega
theorem clashB_comm (room : List Int) (x y : T) : clashB room x y = clashB room y x := by unfold clashB; rw [addL_comm]

end

end Go.Proofs.YtfidamjepjgknaaDoor
