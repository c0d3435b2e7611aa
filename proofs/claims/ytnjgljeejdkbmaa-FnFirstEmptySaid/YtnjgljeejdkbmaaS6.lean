/- The reference's bound of tasks that are apart. -/
import Derived.Test.YtnjgljeejdkbmaaS5
namespace Go.Proofs.Ytnjgljeejdkbmaa
set_option maxRecDepth 100000
open Go.RowKit

theorem takenL_step {room : List Int} {ts : List T} {k : Nat} (h : k < ts.length) :
    takenL room (ts.take (k + 1)) = if (takenL room (ts.take k)).all (fun u => clashB room u ts[k]) = true then takenL room (ts.take k) ++ [ts[k]] else takenL room (ts.take k) := by
  unfold takenL
  rw [List.take_succ_eq_append_getElem h, List.foldl_append]
  rfl
theorem takenL_sub (room : List Int) (ts : List T) : ∀ t ∈ takenL room ts, t ∈ ts := by
  suffices H : ∀ k, k ≤ ts.length → ∀ t ∈ takenL room (ts.take k), t ∈ ts by
    have := H ts.length (Nat.le_refl _)
    rwa [List.take_length] at this
  intro k
  induction k with
  | zero => intro _ t ht; simp [takenL] at ht
  | succ k ih =>
    intro hk
    rw [takenL_step (by omega)]
    split
    · intro t ht
      simp at ht
      rcases ht with ht | ht
      · exact ih (by omega) t ht
      · rw [ht]; exact List.getElem_mem _
    · exact ih (by omega)
theorem takenL_len (room : List Int) (ts : List T) {k : Nat} (hk : k ≤ ts.length) : (takenL room (ts.take k)).length ≤ k := by
  induction k with
  | zero => simp [takenL]
  | succ k ih =>
    rw [takenL_step (by omega)]
    have := ih (by omega)
    split
    · simp; omega
    · omega
theorem all_take_succ {α : Type} {p : α → Bool} {l : List α} {k : Nat} (h : k < l.length) : (l.take (k + 1)).all p = ((l.take k).all p && p l[k]) := by
  rw [List.take_succ_eq_append_getElem h, List.all_append]; simp

set_option maxRecDepth 100000 in
set_option maxHeartbeats 600000 in
theorem l5Apart_any (v u : Value) (room : List Int) (ts : List T) (w : World) (hr : Ints w v room) (h : Tasks w u ts) (r3 : room.length = 3) (hg : Good ts) :
    Calls Try.prog 61 #[v, u] w fun e w' => e = .returned (.int .i64 (apartI room ts)) ∧ Ext w w' := by
  obtain ⟨a, cap, rfl, h⟩ := h.open
  have hl : ts.length ≤ 4194304 := h.1
  have R3 := Lib.hid r3
  have HG := Lib.hid hg
  have Hr := Lib.hid hr
  clear r3 hg hr
  go_enter Try.func61, Try.ntmps61
  go_wp2
  go_loopw [5, 6] (fun s i wr => ∃ k : Nat, k ≤ ts.length ∧ i = .int .i64 k ∧ Ext w wr ∧ OwnTasks wr w.heap.size s (takenL room (ts.take k))) (fun _ i _ => ts.length - (intOf i).toNat)
  case atStart => exact ⟨0, by omega, rfl, (Ext.refl w).alloc _, OwnTasks.lit0 w w.heap.size (Nat.le_refl _)⟩
  case round =>
    obtain ⟨k, hk, rfl, hE, hs⟩ := hrel
    obtain ⟨wo, rfl⟩ : ∃ wo : World, wo = wr := ⟨_, rfl⟩
    by_cases hlt : k < ts.length
    · have hlen := takenL_len room ts hk
      have HL := Lib.hid (Tasks.open (hs.done (by unfold lim; omega)))
      obtain ⟨at', ct, hvt, htk⟩ := HL.out
      have Hs := Lib.hid hs
      have Htk := Lib.hid htk
      clear hs htk HL
      subst hvt
      have Hsub := Lib.hid (takenL_sub room (ts.take k))
      have Hst := Lib.hid (takenL_step (room := room) hlt)
      generalize hT : takenL room (ts.take k) = tk at *
      clear hT
      go_wp2
      go_loopw [7, 8] (fun f i wr => ∃ (j : Nat) (f0 : Bool), j ≤ tk.length ∧ i = .int .i64 j ∧ f = .bool f0 ∧ f0 = (tk.take j).all (fun u => clashB room u ts[k]) ∧ Ext wo wr) (fun _ i _ => tk.length - (intOf i).toNat)
      case atStart => exact ⟨0, true, by omega, rfl, rfl, by simp, Ext.refl _⟩
      case round =>
        obtain ⟨j, f0, hj, rfl, rfl, hf, hE2⟩ := hrel
        have Hf := Lib.hid hf
        clear hf
        by_cases hjl : j < tk.length
        · obtain ⟨b, off, nd, rfl, c0, c1, hn⟩ := Htk.out.at hjl
          obtain ⟨b2, off2, nd2, rfl, d0, d1, hn2⟩ := h.at hlt
          obtain ⟨e1, f1, rfl, hn'⟩ := (hn.ext hE2).open
          obtain ⟨e2, f2, rfl, hn2'⟩ := (hn2.ext (hE.trans hE2)).open
          have c0' := hE2.cell c0
          have c1' := hE2.cell c1
          have d0' := (hE.trans hE2).cell d0
          have d1' := (hE.trans hE2).cell d1
          have Hn := Lib.hid hn'
          have Hn2 := Lib.hid hn2'
          have Hr2 := Lib.hid (Hr.out.ext (hE.trans hE2))
          have Ha := Lib.hid (all_take_succ (p := fun u => clashB room u ts[k]) hjl)
          have G1 : Hid (Good1 tk[j]) := HG.out _ (List.mem_of_mem_take (Hsub.out _ (List.getElem_mem hjl)))
          have G2 : Hid (Good1 ts[k]) := HG.out _ (List.getElem_mem hlt)
          clear hn hn2 hn' hn2' c0 c1 d0 d1
          have b0 : (0 : Int) ≤ (j : Int) := by omega
          have b1 : (j : Int) < (tk.length : Int) := by omega
          have b2' : (0 : Int) ≤ (k : Int) := by omega
          have b3 : (k : Int) < (ts.length : Int) := by omega
          cases f0 with
          | false =>
            go_wp2
            go_quiet (fail)
            have hE3 := hE2.drewN nq
            clear hE2
            go_wp2
            go_roundw
            case rel => exact ⟨j + 1, false, by omega, by go_num, rfl, by rw [Ha.out, ← Hf.out]; rfl, hE3⟩
            case measure => simp [intOf]; omega
          | true =>
            go_wp2
            go_still_tail 11, (by kernel_rfl)
            change wpList _ _ _ _ _ wr.drew
            go_wp2_with fail
            refine (l5Clash_any _ _ _ _ _ _ _ Hr2.out.drew Hn.out.drew Hn2.out.drew R3.out G1.out G2.out).mono ?_
            rintro e w3 ⟨rfl, hE3⟩
            have hE4 := hE2.drew.trans hE3
            clear hE2 hE3
            go_wp2_with fail
            go_roundw
            case rel => exact ⟨j + 1, _, by omega, by go_num, rfl, by rw [Ha.out, ← Hf.out]; rfl, hE4⟩
            case measure => simp [intOf]; omega
        · have e : j = tk.length := by omega
          subst e
          have Hf2 := Lib.hid (show f0 = tk.all (fun u => clashB room u ts[k]) by have := Hf.out; rwa [List.take_length] at this)
          clear Hf
          obtain ⟨b2, off2, nd2, rfl, d0, d1, hn2⟩ := h.at hlt
          obtain ⟨e2, f2, rfl, hn2'⟩ := (hn2.ext (hE.trans hE2)).open
          have d0' := (hE.trans hE2).cell d0
          have d1' := (hE.trans hE2).cell d1
          have hE3 := hE.trans hE2
          have Hs2 := Lib.hid (Hs.out.ext hE2)
          clear hn2 d0 d1
          cases f0 with
          | false =>
            go_wp2_with fail
            go_roundw
            case rel => exact ⟨k + 1, by omega, by go_num, hE3, by rw [Hst.out, ← Hf2.out]; exact Hs2.out⟩
            case measure => simp [intOf]; omega
          | true =>
            go_wp2_with (at_builtin; refine app_tasks rfl _ _ rfl w.heap.size _ _ rfl (Hs2.out.alloc _) (by have := hE3.le; simp; omega) _ _ _ [ts[k]] rfl (Tasks.lit1 hn2' 1) (by unfold lim; simp; omega) ?_; intro v' w4 hown4 hkt hbl)
            have hE4 := (hE3.alloc _).below hbl
            have Ho := Lib.hid hown4
            clear hown4 hkt hbl hE3 hE2 hE
            go_roundw
            case rel => exact ⟨k + 1, by omega, by go_num, hE4, by rw [Hst.out, ← Hf2.out]; exact Ho.out⟩
            case measure => simp [intOf]; omega
    · have e : k = ts.length := by omega
      subst e
      rw [List.take_length] at hs
      have hv := hs.done (by unfold lim; have := takenL_len room ts (Nat.le_refl _); rw [List.take_length] at this; omega)
      obtain ⟨at', ct, rfl, _⟩ := hv.open
      have Hd : Hid (apartI room ts = ((takenL room ts).length : Int)) := rfl
      generalize (takenL room ts).length = m at *
      go_wp2
      go_ret
      exact ⟨ret_int Hd.out.symm, hE⟩

end Go.Proofs.Ytnjgljeejdkbmaa
