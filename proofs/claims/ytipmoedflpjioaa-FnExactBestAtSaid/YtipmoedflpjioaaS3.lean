/- The reference's loads and validity of tasks. -/
import Derived.Test.YtipmoedflpjioaaS2
namespace Go.Proofs.Ytipmoedflpjioaa
set_option maxRecDepth 100000
open Go.RowKit

/-- Needs that can be added: three numbers, not too great. -/
def Good (ts : List T) : Prop := ∀ t ∈ ts, t.need.length = 3 ∧ Bd 1000000 t.need

theorem addL_bd {M N : Int} {xs ys : List Int} (hx : xs.length = 3) (hy : ys.length = 3) (bx : Bd M xs) (bY : Bd N ys) : Bd (M + N) (addL xs ys 1) := by
  match xs, hx, ys, hy with
  | [a, b, c], _, [x, y, z], _ =>
    intro n hn
    simp [addL] at hn
    have a1 := bx a (by simp); have a2 := bx b (by simp); have a3 := bx c (by simp)
    have b1 := bY x (by simp); have b2 := bY y (by simp); have b3 := bY z (by simp)
    rcases hn with h | h | h <;> subst h <;> constructor <;> omega
theorem loadL_snoc (ts : List T) (t : T) : loadL (ts ++ [t]) = addL (loadL ts) t.need 1 := by simp [loadL]
theorem loadL_step {ts : List T} {k : Nat} (h : k < ts.length) : loadL (ts.take (k + 1)) = addL (loadL (ts.take k)) ts[k].need 1 := by
  rw [List.take_succ_eq_append_getElem h, loadL_snoc]
theorem loadL_good (ts : List T) (h : Good ts) : (loadL ts).length = 3 ∧ Bd (1000000 * ts.length) (loadL ts) := by
  suffices H : ∀ k, k ≤ ts.length → (loadL (ts.take k)).length = 3 ∧ Bd (1000000 * k) (loadL (ts.take k)) by
    have := H ts.length (Nat.le_refl _)
    rwa [List.take_length] at this
  intro k
  induction k with
  | zero => intro _; refine ⟨rfl, fun n hn => ?_⟩; simp [loadL] at hn; subst hn; simp
  | succ k ih =>
    intro hk
    obtain ⟨h1, h2⟩ := ih (by omega)
    obtain ⟨g1, g2⟩ := h ts[k] (List.getElem_mem _)
    rw [loadL_step (by omega)]
    refine ⟨(addL_get h1 g1).1, ?_⟩
    have := addL_bd h1 g1 h2 g2
    intro n hn
    have := this n hn
    omega
theorem Good.take {ts : List T} (h : Good ts) (k : Nat) : Good (ts.take k) := fun t ht => h t (List.mem_of_mem_take ht)
theorem Bd.mono {M N : Int} {xs : List Int} (h : Bd M xs) (hm : M ≤ N) : Bd N xs := fun n hn => by have := h n hn; omega

set_option maxHeartbeats 400000 in
theorem l2Load_any (v : Value) (ts : List T) (w : World) (h : Tasks w v ts) (hg : Good ts) :
    Calls Try.prog 70 #[v] w fun e w' => ∃ r, e = .returned r ∧ Ext w w' ∧ Ints w' r (loadL ts) := by
  obtain ⟨a, cap, rfl, h⟩ := h.open
  have hl : ts.length ≤ 4194304 := h.1
  have Hg := Lib.hid hg
  clear hg
  go_enter Try.func70, Try.ntmps70
  go_wp2
  go_loopw [3, 4] (fun s i wr => ∃ k : Nat, k ≤ ts.length ∧ i = .int .i64 k ∧ Ext w wr ∧ Ints wr s (loadL (ts.take k))) (fun _ i _ => ts.length - (intOf i).toNat)
  case atStart => exact ⟨0, by omega, rfl, (Ext.refl w).alloc _, Ints.lit w _ [0, 0, 0] 3 3 rfl rfl (by simp [lim])⟩
  case round =>
    obtain ⟨k, hk, rfl, hE, hs⟩ := hrel
    by_cases hlt : k < ts.length
    · obtain ⟨b, off, nd, rfl, c0, c1, hn⟩ := h.at hlt
      have c1' := hE.cell c1
      have Hn := Lib.hid (hn.ext hE)
      have Hs := Lib.hid hs
      have H1 := Lib.hid (loadL_good _ (Hg.out.take k))
      have H2 := Lib.hid (Hg.out _ (List.getElem_mem hlt))
      have Hst := Lib.hid (loadL_step hlt)
      have hkl : (ts.take k).length ≤ 4194304 := by simp; omega
      clear hn hs c0 c1
      go_wp2_with (go_at_call 108; refine (l1Add_any _ _ _ _ 1 _ Hs.out Hn.out H1.out.1 H2.out.1 (.inl rfl) (H1.out.2.mono (by omega)) (H2.out.2.mono (by omega))).mono ?_; rintro e w' ⟨r, rfl, hE2, hr⟩)
      have hE3 := hE.trans hE2
      have Hr := Lib.hid hr
      clear hr hE2
      go_roundw
      case rel => exact ⟨k + 1, by omega, by go_num, hE3, by rw [Hst.out]; exact Hr.out⟩
      case measure => simp [intOf]; omega
    · have e : k = ts.length := by omega
      subst e
      rw [List.take_length] at hs
      go_wp2
      go_ret
      exact ⟨_, rfl, hE, hs⟩

theorem Tasks.at' {w : World} {a : Option Addr} {n cap : Nat} {ts : List T} (h : Tasks w (.slice a n cap) ts) {k : Nat} (hk : k < ts.length) :
    ∃ b off nd, a = some ⟨b, off, none⟩ ∧ (∀ m, (w.drewN m).cell? ⟨b, off + k * 2, none⟩ = some (.int .i64 ts[k].id)) ∧ (∀ m, (w.drewN m).cell? ⟨b, off + k * 2 + 1, none⟩ = some nd) ∧ Ints w nd ts[k].need := by
  obtain ⟨b, off, nd, ha, c0, c1, hn⟩ := h.at hk
  exact ⟨b, off, nd, ha, fun _ => c0, fun _ => c1, hn⟩
theorem Ints.drewN {w : World} {v : Value} {xs : List Int} (h : Ints w v xs) (n : Nat) : Ints (w.drewN n) v xs := h.ext ((Ext.refl w).drewN n)
theorem Tasks.drewN {w : World} {v : Value} {xs : List T} (h : Tasks w v xs) (n : Nat) : Tasks (w.drewN n) v xs := h.ext ((Ext.refl w).drewN n)

theorem tasksB_room {room : List Int} {ts : List T} (h : roomB room = false) : tasksB room ts = false := by
  rw [Bool.eq_false_iff]
  intro x
  rw [roomB_iff.2 (tasksB_iff.1 x).1] at h
  cases h
theorem tasksB_bad {room : List Int} {ts : List T} {k : Nat} (hk : k < ts.length) (h : ¬ ((1 ≤ ts[k].id ∧ ts[k].id ≤ 40) ∧ hasB ts k ts[k].id = false ∧ vfitsB ts[k].need room = true)) : tasksB room ts = false := by
  rw [Bool.eq_false_iff]
  exact fun x => h ((tasksB_iff.1 x).2.2 k hk)
theorem tasksB_good {room : List Int} {ts : List T} (hr : roomB room = true) (h : ∀ k (h : k < ts.length), (1 ≤ ts[k].id ∧ ts[k].id ≤ 40) ∧ hasB ts k ts[k].id = false ∧ vfitsB ts[k].need room = true) : tasksB room ts = decide ((ts.length : Int) ≤ 14) := by
  rw [Bool.eq_iff_iff, tasksB_iff, decide_eq_true_eq]
  exact ⟨fun x => by have := x.2.1; omega, fun x => ⟨roomB_iff.1 hr, by omega, h⟩⟩

set_option maxHeartbeats 1000000 in
theorem sTasksValid_any (v u : Value) (room : List Int) (ts : List T) (w : World) (hr : Ints w v room) (h : Tasks w u ts) :
    Calls Try.prog 29 #[v, u] w fun e w' => e = .returned (.bool (tasksB room ts)) ∧ ∃ n, w' = w.drewN n := by
  obtain ⟨a, cap, rfl, h⟩ := h.open
  have hl : ts.length ≤ 4194304 := h.1
  by_cases h1 : roomB room = true
  · have Hrm := Lib.hid h1
    go_enter Try.func29, Try.ntmps29
    go_wp2_with (go_at_call 79; refine (l2Room_any _ _ _ hr).mono ?_; rintro e w' ⟨rfl, rfl⟩)
    clear h1
    go_loopw [5] (fun i wr => ∃ k n : Nat, k ≤ ts.length ∧ i = .int .i64 k ∧ wr = w.drewN n ∧ ∀ j (h : j < ts.length), j < k → (1 ≤ ts[j].id ∧ ts[j].id ≤ 40) ∧ hasB ts j ts[j].id = false ∧ vfitsB ts[j].need room = true) (fun i _ => ts.length - (intOf i).toNat)
    case atStart => exact ⟨0, 0, by omega, rfl, rfl, fun _ _ h => by omega⟩
    case round =>
      obtain ⟨k, n, hk, rfl, rfl, hg⟩ := hrel
      have Hg := Lib.hid hg
      clear hg
      by_cases hlt : k < ts.length
      · obtain ⟨b, off, nd, rfl, c0, c1, hn⟩ := h.at hlt
        have Hn := Lib.hid (hn.drewN n)
        have Ht := Lib.hid (h.drewN n)
        clear hn
        by_cases q1 : 1 ≤ ts[k].id ∧ ts[k].id ≤ 40
        · have b1 := inB_true q1.1 q1.2
          cases b2 : hasB ts k ts[k].id with
          | false =>
            cases b3 : vfitsB ts[k].need room with
            | true =>
              have Hd : Hid (∀ j (h : j < ts.length), j < k + 1 → (1 ≤ ts[j].id ∧ ts[j].id ≤ 40) ∧ hasB ts j ts[j].id = false ∧ vfitsB ts[j].need room = true) := by
                intro j hj hjk
                by_cases e : j = k
                · subst e; exact ⟨q1, b2, b3⟩
                · exact Hg.out j hj (by omega)
              clear q1
              go_wp2_with (first | (go_at_call 80; refine (l6In_any _ _ _ _).mono ?_; rintro e w' ⟨rfl, rfl⟩) | (go_at_call 81; refine (l2Has_any _ _ _ _ _ Ht.out (by omega)).mono ?_; rintro e w' ⟨rfl, rfl⟩) | (go_at_call 82; refine (sVecFits_any _ _ _ _ _ Hn.out (hr.drewN n)).mono ?_; rintro e w' ⟨rfl, m, rfl⟩))
              go_roundw
              case rel => exact ⟨k + 1, n + m, by omega, by go_num, (by first | rfl | exact World.drewN_drewN _ _ _), Hd.out⟩
              case measure => simp [intOf]; omega
            | false =>
              have Hd := Lib.hid (tasksB_bad (room := room) hlt (fun x => by rw [b3] at x; exact absurd x.2.2 (by simp)))
              clear q1
              go_wp2_with (first | (go_at_call 80; refine (l6In_any _ _ _ _).mono ?_; rintro e w' ⟨rfl, rfl⟩) | (go_at_call 81; refine (l2Has_any _ _ _ _ _ Ht.out (by omega)).mono ?_; rintro e w' ⟨rfl, rfl⟩) | (go_at_call 82; refine (sVecFits_any _ _ _ _ _ Hn.out (hr.drewN n)).mono ?_; rintro e w' ⟨rfl, m, rfl⟩))
              go_ret
              exact ⟨ret_bool Hd.out.symm, n + m, (by first | rfl | exact World.drewN_drewN _ _ _)⟩
          | true =>
            have Hd := Lib.hid (tasksB_bad (room := room) hlt (fun x => by rw [b2] at x; exact absurd x.2.1 (by simp)))
            clear q1
            go_wp2_with (first | (go_at_call 80; refine (l6In_any _ _ _ _).mono ?_; rintro e w' ⟨rfl, rfl⟩) | (go_at_call 81; refine (l2Has_any _ _ _ _ _ Ht.out (by omega)).mono ?_; rintro e w' ⟨rfl, rfl⟩))
            go_ret
            exact ⟨ret_bool Hd.out.symm, n, rfl⟩
        · have b1 := inB_false q1
          have Hd := Lib.hid (tasksB_bad (room := room) hlt (fun x => q1 x.1))
          clear q1
          go_wp2_with (first | (go_at_call 80; refine (l6In_any _ _ _ _).mono ?_; rintro e w' ⟨rfl, rfl⟩))
          go_ret
          exact ⟨ret_bool Hd.out.symm, n, rfl⟩
      · have e : k = ts.length := by omega
        subst e
        have Hd := Lib.hid (tasksB_good Hrm.out (fun j hj => Hg.out j hj hj))
        go_wp2
        go_ret
        exact ⟨ret_bool Hd.out.symm, n, rfl⟩
  · have h2 : roomB room = false := by simpa using h1
    have Hd := Lib.hid (tasksB_room (ts := ts) h2)
    clear h1
    go_enter Try.func29, Try.ntmps29
    go_wp2_with (go_at_call 79; refine (l2Room_any _ _ _ hr).mono ?_; rintro e w' ⟨rfl, rfl⟩)
    go_ret
    exact ⟨ret_bool Hd.out.symm, 0, rfl⟩

end Go.Proofs.Ytipmoedflpjioaa
