/- The fewest nodes, by the program: the table over all sets of tasks. Under: math/bits' table of trailing zeros lies as its initialiser lays it ('TabW'). -/
import Derived.Test.YtfidamjepjgknaaDoorBit
import Derived.Test.YtfidamjepjgknaaDoorP9
import Derived.Test.YtfidamjepjgknaaDoorI4
import Derived.Test.YtfidamjepjgknaaDoorReg
namespace Go.Proofs.YtfidamjepjgknaaDoor
set_option maxRecDepth 100000
open Go.RowKit

set_option maxHeartbeats 1000000 in
theorem few_any (v u : Value) (room : List Int) (ts : List T) (w : World) (hr : Ints w v room) (h : Tasks w u ts) :
    Calls Tryd.prog 11 #[v, u] w fun e w' => e = .returned (.bool (fewB room ts)) ∧ Ext w w' := by
  obtain ⟨a, c, rfl, h⟩ := h.open
  have hl : ts.length ≤ 4194304 := h.1
  by_cases h7 : ts.length ≤ 7
  · have Hf : Hid (fewB room ts = tasksB room ts) := by show fewB room ts = _; unfold fewB; rw [decide_eq_true h7, Bool.true_and]
    have h7' : (ts.length : Int) ≤ 7 := by omega
    have hd : decide ((ts.length : Int) ≤ 7) = true := decide_eq_true h7'
    have Hr := Lib.hid hr
    have Ht := Lib.hid h
    clear hr h
    go_enter Tryd.func11, Tryd.ntmps11
    go_wp2_with fail
    refine (TasksValid_any _ _ room ts _ Hr.out Ht.out).mono ?_
    rintro e w1 ⟨rfl, hE⟩
    go_wp2
    go_ret
    exact ⟨ret_bool Hf.out.symm, hE⟩
  · have Hf : Hid (fewB room ts = false) := by show fewB room ts = _; unfold fewB; rw [decide_eq_false h7, Bool.false_and]
    have hd : decide ((ts.length : Int) ≤ 7) = false := decide_eq_false (by omega)
    have h7' : ¬ (ts.length : Int) ≤ 7 := by omega
    go_enter Tryd.func11, Tryd.ntmps11
    go_wp2
    go_ret
    exact ⟨ret_bool Hf.out.symm, Ext.refl _⟩

set_option maxHeartbeats 2000000 in
theorem chosen_any (u : Value) (ts : List T) (s0 : Nat) (w : World) (h : Tasks w u ts) (hl : ts.length ≤ 7) (hs0 : s0 < 2 ^ ts.length) (ht : TabW w) :
    Calls Tryd.prog 24 #[u, .int .u64 s0] w fun e w' => ∃ r, e = .returned r ∧ Ext w w' ∧ Tasks w' r (chosL ts s0) := by
  obtain ⟨a, c, rfl, h⟩ := h.open
  have E0 := Lib.hid ((Ext.refl w).alloc (.cells #[] 31))
  have O0 := Lib.hid (OwnTasks.lit0 w w.heap.size (Nat.le_refl _))
  have Ht := Lib.hid h
  have HT := Lib.hid ht
  have S0 := Lib.hid hs0
  have H7 := Lib.hid hl
  have hp := pow_lt hl
  clear h ht
  go_enter Tryd.func24, Tryd.ntmps24
  go_wp2_with fail
  generalize w.alloc (.cells #[] 31) = W at *
  go_loopw [1, 5] (fun q o wr => ∃ (s : Nat) (D : List T), s < 2 ^ ts.length ∧ q = .int .u64 s ∧ chosL ts s0 = D ++ chosL ts s ∧ D.length ≤ 7 - (bitsL s).length ∧ OwnTasks wr w.heap.size o D ∧ Ext w wr) (fun q _ _ => (intOf q).toNat)
  case atStart => exact ⟨s0, [], S0.out, rfl, rfl, by simp, O0.out, E0.out⟩
  case round =>
    clear E0 O0
    obtain ⟨s, D, hs, rfl, hD, hDl, hO, hE⟩ := hrel
    have HO := Lib.hid hO
    have HE := Lib.hid hE
    obtain ⟨oa, oc, rfl⟩ := hO.form
    clear hO hE
    by_cases hz : s = 0
    · subst hz
      have HD := Lib.hid (by rw [chosL_zero, List.append_nil] at hD; exact hD : chosL ts s0 = D)
      clear hD hDl
      go_wp2
      go_ret
      exact ⟨_, rfl, HE.out, by rw [HD.out]; exact HO.out.done (by rw [← HD.out]; exact Nat.le_trans (chosL_sub H7.out S0.out).length_le (by unfold lim; have := H7.out; omega))⟩
    · have hs7 : s < 128 := by omega
      have hlow := low_lt H7.out hs hz
      obtain ⟨b1, b2, b3⟩ := bits_step s hs7 hz
      have HN := Lib.hid (by rw [hD, chosL_step ts hs7 hz, List.getD_eq_getElem?_getD, List.getElem?_eq_getElem hlow, Option.getD_some, ← List.append_cons] : chosL ts s0 = (D ++ [ts[lowB s]]) ++ chosL ts (s &&& (s - 1)))
      have hl1 := congrArg List.length b1
      rw [List.length_cons] at hl1
      have hb7 := bits_len s hs7
      have Hl := Lib.hid (show (D ++ [ts[lowB s]]).length ≤ 7 - (bitsL (s &&& (s - 1))).length by simp; omega)
      have hDl' : D.length ≤ 7 := by omega
      obtain ⟨b, off, nd, hae, c0, c1, hn⟩ := (Ht.out.ext HE.out).at hlow
      subst hae
      obtain ⟨na, nc, rfl, hn⟩ := hn.open
      have Hn := Lib.hid hn
      have hA := and_sub hs7 hz
      have hs1 : (s : Int) ≠ 0 := by omega
      have hbne : ((s : Int) == 0) = false := by simp; omega
      have hbne' : ((s : Int) != 0) = true := by simp; omega
      have i0 : (0 : Int) ≤ (lowB s : Int) := by omega
      have i1 : (lowB s : Int) < (ts.length : Int) := by omega
      have Hlt := Lib.hid b2
      have HS2 := Lib.hid (show (s &&& (s - 1)) < 2 ^ ts.length by omega)
      have hle := HE.out.le
      clear hD hDl b1 b2 b3 hl1 hb7 hn
      go_wp2_with fail
      refine (TrailingZeros_any s hs7 hz wr (HT.out.ext HE.out)).mono ?_
      rintro e w2 ⟨rfl, rfl⟩
      go_wp2_with (at_builtin; refine app_tasks rfl _ _ rfl w.heap.size _ D rfl ?hown ?hB _ _ _ [ts[lowB s]] rfl ?hsrc ?hlim ?_)
      case hown => exact HO.out.ext ((Ext.refl _).alloc _)
      case hB => simp only [World.size_alloc]; omega
      case hsrc => exact Tasks.lit1 Hn.out 1
      case hlim => unfold lim; simp; omega
      intro v9 w9 hown hkt hbl
      have O9 := Lib.hid hown
      have X9 := Lib.hid (show Ext w w9 from Below.trans (HE.out.alloc _) hbl)
      obtain ⟨sa9, sc9, rfl⟩ := hown.form
      clear hown hkt hbl
      go_wp2_with (simp only [hA])
      go_roundw
      case rel => exact ⟨s &&& (s - 1), _, HS2.out, rfl, HN.out, Hl.out, O9.out, X9.out⟩
      case measure => simp [intOf]; exact Hlt.out

theorem makeN (k N : Nat) (hk : k ≤ 7) (hN : N = 2 ^ k) (w : World) : (Instr.makeSlice 23 (.int .u64 (N : Int)) (.int .u64 (N : Int))).run Tryd.prog w = .ok (.slice (some ⟨w.heap.size, 0, none⟩) N N) (w.alloc (.cells (Array.replicate N (.int .i64 0)) 3)) := by
  have e : k = 0 ∨ k = 1 ∨ k = 2 ∨ k = 3 ∨ k = 4 ∨ k = 5 ∨ k = 6 ∨ k = 7 := by omega
  subst hN
  rcases e with rfl | rfl | rfl | rfl | rfl | rfl | rfl | rfl <;> (refine Eq.trans (b := _) ?_ rfl; kernel_rfl)
theorem shlN : ∀ k, k < 8 → IntKind.u64.wrap (2 ^ k) = ((2 ^ k : Nat) : Int) := by decide +kernel
theorem wrap_nat {x : Int} {n : Nat} (h : x = (n : Int)) (hn : n < 1000) : IntKind.u64.wrap x = (n : Int) := by subst h; rw [IntKind.wrap_u64]; omega

set_option maxHeartbeats 8000000 in
theorem leastOf_any (v u : Value) (room : List Int) (ts : List T) (w : World) (hr : Ints w v room) (h : Tasks w u ts) (hl : ts.length ≤ 7) (hT : TasksOk room ts) (ht : TabW w) :
    Calls Tryd.prog 12 #[v, u] w fun e w' => e = .returned (.int .i64 (leastN room ts : Int)) ∧ Ext w w' := by
  obtain ⟨a, c, rfl, h⟩ := h.open
  obtain ⟨ra, rc, rfl, hr⟩ := hr.open
  have Hr := Lib.hid hr
  have Ht := Lib.hid h
  have HT := Lib.hid hT
  have HW := Lib.hid ht
  have R3 := Lib.hid hT.1.1.1
  have H7 := Lib.hid hl
  have hp := pow_lt hl
  obtain ⟨N, hN⟩ : ∃ N, N = 2 ^ ts.length := ⟨_, rfl⟩
  have mk := makeN ts.length N hl hN w
  have k1 : IntKind.u64.wrap (2 ^ ts.length) = (N : Int) := by rw [shlN _ (by omega), hN]
  rw [← hN] at hp
  have HN := Lib.hid hN
  have hN0 : 0 < N := by rw [hN]; exact Nat.two_pow_pos _
  have k2 : IntKind.u64.wrap ((N : Int) - 1) = ((N - 1 : Nat) : Int) := wrap_nat (by omega) (by omega)
  have k3 : IntKind.u64.wrap (((N - 1 : Nat) : Int) + 1) = (N : Int) := wrap_nat (by omega) (by omega)
  have O0 := Lib.hid (show (w.alloc (.cells (Array.replicate N (.int .i64 0)) 3)).ownsRow w.heap.size 3 1 (.slice (some ⟨w.heap.size, 0, none⟩) N N) N ((List.replicate N (0 : Int)).map (Value.int .i64)) from by
    have := World.ownsRow_lit (e := 3) (size := 1) w (Array.replicate N (.int .i64 0)) N (Nat.le_refl _) (by unfold maxLen; omega) (by simp)
    simpa using this)
  have E0 := Lib.hid ((Ext.refl w).alloc (.cells (Array.replicate N (.int .i64 0)) 3))
  clear h hr hT ht hN
  go_enter Tryd.func12, Tryd.ntmps12
  go_wp2_with (simp only [k1, k2, k3])
  clear k1 k2 k3 mk
  generalize w.alloc (.cells (Array.replicate N (.int .i64 0)) 3) = W at *
  go_loopw [7] (fun q wr => ∃ (s : Nat) (xs : List Int), 1 ≤ s ∧ s ≤ N ∧ q = .int .u64 (s : Int) ∧ xs.length = N ∧ wr.ownsRow w.heap.size 3 1 (.slice (some ⟨w.heap.size, 0, none⟩) N N) N (xs.map (Value.int .i64)) ∧ (∀ j, j < s → xs.getD j 0 = (nOf room ts j : Int)) ∧ Ext w wr) (fun q _ => N - (intOf q).toNat)
  case atStart =>
    refine ⟨1, List.replicate N 0, by omega, by omega, rfl, by simp, O0.out, fun j hj => ?_, E0.out⟩
    obtain rfl : j = 0 := by omega
    have : nOf room ts 0 = 0 := leastN_nil (tasksOk_sub (List.nil_sublist ts) HT.out)
    rw [this, List.getD_eq_getElem?_getD, List.getElem?_replicate, if_pos hN0]; rfl
  case round =>
    clear E0 O0
    obtain ⟨s, xs, hs1, hsN, rfl, hxl, ho, hx, hE⟩ := hrel
    have HX := Lib.hid hx
    have HE := Lib.hid hE
    by_cases hlt : s < N
    · have hs7 : s < 128 := by omega
      have hsp : s < 2 ^ ts.length := by rw [← HN.out]; exact hlt
      have HSP := Lib.hid hsp
      obtain ⟨g', hga, -, -, -, hcell, -⟩ := ownsRow_at ho hN0
      cases hga
      obtain ⟨o1, -, o3, fz⟩ := ownsRow_put ho (k := s) (by simp; omega) (.int .i64 ((bitsL s).length : Int))
      have cs := hcell s (by simp; omega)
      rw [List.getElem?_map, List.getElem?_eq_getElem (by omega), Option.map_some] at cs
      have O1 := Lib.hid (show (wr.setCell ⟨w.heap.size, s, none⟩ (.int .i64 ((bitsL s).length : Int))).ownsRow w.heap.size 3 1 (.slice (some ⟨w.heap.size, 0, none⟩) N N) N ((xs.set s ((bitsL s).length : Int)).map (Value.int .i64)) from by rw [List.map_set]; exact o1)
      have E1 := Lib.hid (show Ext w (wr.setCell ⟨w.heap.size, s, none⟩ (.int .i64 ((bitsL s).length : Int))) from HE.out.setCell (p := ⟨w.heap.size, s, none⟩) (Nat.le_refl _) _)
      have hd : decide ((s : Int) ≤ ((N - 1 : Nat) : Int)) = true := decide_eq_true (by omega)
      have hd' : (s : Int) ≤ ((N - 1 : Nat) : Int) := by omega
      have i0 : (0 : Int) ≤ (s : Int) := by omega
      have i1 : (s : Int) < (N : Int) := by omega
      clear ho hx hE hcell o1 o3 hsp
      go_wp2_with fail
      refine (OnesCount_any s hs7 wr).mono ?_
      rintro e w2 ⟨rfl, hw⟩
      have hw := hw.symm
      subst hw
      go_wp2_with fail
      generalize wr.setCell ⟨w.heap.size, s, none⟩ (.int .i64 ((bitsL s).length : Int)) = W1 at *
      go_loopw [8] (fun q wr => ∃ (p v : Nat) (ys : List Int), p &&& s = p ∧ q = .int .u64 (p : Int) ∧ ys.length = N ∧ wr.ownsRow w.heap.size 3 1 (.slice (some ⟨w.heap.size, 0, none⟩) N N) N (ys.map (Value.int .i64)) ∧ (∀ j, j < s → ys.getD j 0 = (nOf room ts j : Int)) ∧ ys.getD s 0 = (v : Int) ∧ nOf room ts s ≤ v ∧ v ≤ 7 ∧ (∀ q, p < q → q &&& s = q → fitsB (loadL (chosL ts q)) room = true → v ≤ nOf room ts (s - q) + 1) ∧ Ext w wr) (fun q _ => (intOf q).toNat)
      case atStart =>
        refine ⟨s, (bitsL s).length, xs.set s ((bitsL s).length : Int), Nat.and_self s, rfl, by simpa using hxl, O1.out, fun j hj => ?_, ?_, nOf_count HT.out H7.out HSP.out, bits_len s hs7, fun q hq hqs => ?_, E1.out⟩
        · rw [List.getD_eq_getElem?_getD, List.getElem?_set_ne (by omega), ← List.getD_eq_getElem?_getD]; exact HX.out j hj
        · rw [List.getD_eq_getElem?_getD, List.getElem?_set_self (by omega)]; rfl
        · have := Nat.and_le_right (n := q) (m := s); omega
      case round =>
        clear E1 O1 HE HX
        rename_i wr0
        obtain ⟨p, v, ys, hps, rfl, hyl, ho, hx, hv, hnv, hv7, hpr, hE⟩ := hrel
        have HX := Lib.hid hx
        have HE := Lib.hid hE
        have HPR := Lib.hid hpr
        by_cases hz : p = 0
        · subst hz
          have HV := Lib.hid (show ∀ j, j < s + 1 → ys.getD j 0 = (nOf room ts j : Int) from fun j hj => by
            by_cases e : j = s
            · subst e
              obtain ⟨q, q1, q2, q3, q4⟩ := nOf_hit HT.out H7.out HSP.out (by omega)
              have := hpr q (by omega) q1 q3
              rw [hv]; omega
            · exact hx j (by omega))
          have HO := Lib.hid ho
          clear hx hpr ho hE hv hps
          have k4 : IntKind.u64.wrap ((s : Int) + 1) = ((s + 1 : Nat) : Int) := wrap_nat (by omega) (by omega)
          go_wp2_with (simp only [k4])
          go_roundw
          case rel => exact ⟨s + 1, ys, by omega, by omega, by first | rfl | go_num, hyl, HO.out, HV.out, HE.out⟩
          case measure => simp [intOf] <;> omega
        · have hple : p ≤ s := by have := Nat.and_le_right (n := p) (m := s); omega
          have hp7 : p < 128 := by omega
          obtain ⟨g', hga, -, -, -, hcell, -⟩ := ownsRow_at ho hN0
          cases hga
          have c1 := hcell (s - p) (by simp; omega)
          have c2 := hcell s (by simp; omega)
          have e1 := hx (s - p) (by omega)
          rw [List.getD_eq_getElem?_getD, List.getElem?_eq_getElem (by omega), Option.getD_some] at e1 hv
          rw [List.getElem?_map, List.getElem?_eq_getElem (by omega), Option.map_some] at c1 c2
          rw [e1] at c1
          rw [hv] at c2
          have K1 := Lib.hid c1
          have K2 := Lib.hid c2
          have hA := and_not hs7 hps
          have hB := sub_and hs7 hp7 hz
          have HSN := Lib.hid (sub_next hs7 hp7 hps hz)
          have hbne' : ((p : Int) != 0) = true := by simp; omega
          have hbne : ((p : Int) == 0) = false := by simp; omega
          have j0 : (0 : Int) ≤ ((s - p : Nat) : Int) := by omega
          have j1 : ((s - p : Nat) : Int) < (N : Int) := by omega
          have HTc := Lib.hid (Ht.out.ext HE.out)
          have HRc := Lib.hid (Hr.out.ext HE.out)
          have HWc := Lib.hid (HW.out.ext HE.out)
          have HPN := Lib.hid (show p < 2 ^ ts.length by have := HSP.out; omega)
          have HGc := Lib.hid (show Good (chosL ts p) from (chos_ok HT.out H7.out HPN.out).good)
          have HO := Lib.hid ho
          have HPS := Lib.hid hps
          have HYV := Lib.hid (show ys.getD s 0 = (v : Int) by rw [List.getD_eq_getElem?_getD, List.getElem?_eq_getElem (by omega), Option.getD_some]; exact hv)
          have hpm : IntKind.u64.wrap ((p : Int) - 1) = ((p : Int) - 1) := by rw [IntKind.wrap_u64]; omega
          have HQ0 := Lib.hid (show nOf room ts (s - p) + 1 ≤ 100000 from by
            have := nOf_count HT.out H7.out (s := s - p) (by have := HSP.out; omega)
            have := bits_len (s - p) (by omega)
            omega)
          have hwr : IntKind.i64.wrap ((nOf room ts (s - p) : Int) + 1) = (nOf room ts (s - p) : Int) + 1 := by rw [IntKind.wrap_i64]; have := HQ0.out; omega
          clear hx hpr ho hE hcell e1 hv hps
          by_cases hcmp : (nOf room ts (s - p) : Int) + 1 < (v : Int)
          · have hdc : decide ((nOf room ts (s - p) : Int) + 1 < (v : Int)) = true := decide_eq_true hcmp
            cases hfit : fitsB (loadL (chosL ts p)) room with
            | false =>
              go_wp2_with fail
              refine wp_region_held_drew (S := fun w' => w'.cell? ⟨w.heap.size, s - p, none⟩ = some (.int .i64 (nOf room ts (s - p) : Int)) ∧ w'.cell? ⟨w.heap.size, s, none⟩ = some (.int .i64 (v : Int))) (by kernel_rfl) ⟨c1, c2⟩ (fun hHeld => ?_)
              refine takeH (i := 0) (d := some 33) (v := ?_) rfl rfl (by kernel_rfl) (by kernel_rfl) (by kernel_rfl) (fun _ _ _ h => h) (by rfl) ?_ (by assumption) ?_
              rotate_left
              · intro w hSw; (try dsimp only at hSw); (try have l0 := hSw.1; have l1 := hSw.2; go_simp); (try with_reducible rfl)
              try simp only [Act.put, List.setIfInBounds_toArray, List.set_cons_zero, List.set_cons_succ]
              refine takeH (i := 1) (d := some 34) (v := ?_) rfl rfl (by kernel_rfl) (by kernel_rfl) (by kernel_rfl) (fun _ _ _ h => h) (by rfl) ?_ (by assumption) ?_
              rotate_left
              · intro w hSw; (try dsimp only at hSw); (try have l0 := hSw.1; have l1 := hSw.2; go_simp); (try with_reducible rfl)
              try simp only [Act.put, List.setIfInBounds_toArray, List.set_cons_zero, List.set_cons_succ]
              refine takeH (i := 2) (d := some 35) (v := ?_) rfl rfl (by kernel_rfl) (by kernel_rfl) (by kernel_rfl) (fun _ _ _ h => h) (by rfl) ?_ (by assumption) ?_
              rotate_left
              · intro w hSw; (try dsimp only at hSw); (try have l0 := hSw.1; have l1 := hSw.2; go_simp); (try with_reducible rfl)
              try simp only [Act.put, List.setIfInBounds_toArray, List.set_cons_zero, List.set_cons_succ]
              refine takeH (i := 3) (d := some 36) (v := ?_) rfl rfl (by kernel_rfl) (by kernel_rfl) (by kernel_rfl) (fun _ _ _ h => h) (by rfl) ?_ (by assumption) ?_
              rotate_left
              · intro w hSw; (try dsimp only at hSw); (try have l0 := hSw.1; have l1 := hSw.2; go_simp); (try with_reducible rfl)
              try simp only [Act.put, List.setIfInBounds_toArray, List.set_cons_zero, List.set_cons_succ]
              refine takeH (i := 4) (d := some 37) (v := ?_) rfl rfl (by kernel_rfl) (by kernel_rfl) (by kernel_rfl) (fun _ _ _ h => h) (by rfl) ?_ (by assumption) ?_
              rotate_left
              · intro w hSw; (try dsimp only at hSw); (try have l0 := hSw.1; have l1 := hSw.2; go_simp); (try with_reducible rfl)
              try simp only [Act.put, List.setIfInBounds_toArray, List.set_cons_zero, List.set_cons_succ]
              refine takeH (i := 5) (d := some 38) (v := ?_) rfl rfl (by kernel_rfl) (by kernel_rfl) (by kernel_rfl) (fun _ _ _ h => h) (by rfl) ?_ (by assumption) ?_
              rotate_left
              · intro w hSw; (try dsimp only at hSw); (try have l0 := hSw.1; have l1 := hSw.2; go_simp); (try with_reducible rfl)
              try simp only [Act.put, List.setIfInBounds_toArray, List.set_cons_zero, List.set_cons_succ]
              refine takeH (i := 6) (d := some 39) (v := ?_) rfl rfl (by kernel_rfl) (by kernel_rfl) (by kernel_rfl) (fun _ _ _ h => h) (by rfl) ?_ (by assumption) ?_
              rotate_left
              · intro w hSw; (try dsimp only at hSw); (try have l0 := hSw.1; have l1 := hSw.2; go_simp); (try with_reducible rfl)
              try simp only [Act.put, List.setIfInBounds_toArray, List.set_cons_zero, List.set_cons_succ]
              refine takeH (i := 7) (d := some 40) (v := ?_) rfl rfl (by kernel_rfl) (by kernel_rfl) (by kernel_rfl) (fun _ _ _ h => h) (by rfl) ?_ (by assumption) ?_
              rotate_left
              · intro w hSw; (try dsimp only at hSw); (try have l0 := hSw.1; have l1 := hSw.2; go_simp); (try with_reducible rfl)
              try simp only [Act.put, List.setIfInBounds_toArray, List.set_cons_zero, List.set_cons_succ]
              refine takeH (i := 8) (d := some 41) (v := ?_) rfl rfl (by kernel_rfl) (by kernel_rfl) (by kernel_rfl) (fun _ _ _ h => h) (by rfl) ?_ (by assumption) ?_
              rotate_left
              · intro w hSw; (try dsimp only at hSw); (try have l0 := hSw.1; have l1 := hSw.2; go_simp); (try with_reducible rfl)
              try simp only [Act.put, List.setIfInBounds_toArray, List.set_cons_zero, List.set_cons_succ]
              refine takeH (i := 9) (d := some 42) (v := ?_) rfl rfl (by kernel_rfl) (by kernel_rfl) (by kernel_rfl) (fun _ _ _ h => h) (by rfl) ?_ (by assumption) ?_
              rotate_left
              · intro w hSw; (try dsimp only at hSw); (try have l0 := hSw.1; have l1 := hSw.2; go_simp); (try with_reducible rfl)
              try simp only [Act.put, List.setIfInBounds_toArray, List.set_cons_zero, List.set_cons_succ]
              refine takeH (i := 10) (d := some 43) (v := ?_) rfl rfl (by kernel_rfl) (by kernel_rfl) (by kernel_rfl) (fun _ _ _ h => h) (by rfl) ?_ (by assumption) ?_
              rotate_left
              · intro w hSw; (try dsimp only at hSw); (try have l0 := hSw.1; have l1 := hSw.2; go_simp); (try with_reducible rfl)
              try simp only [Act.put, List.setIfInBounds_toArray, List.set_cons_zero, List.set_cons_succ]
              refine takeH (i := 11) (d := some 44) (v := ?_) rfl rfl (by kernel_rfl) (by kernel_rfl) (by kernel_rfl) (fun _ _ _ h => h) (by rfl) ?_ (by assumption) ?_
              rotate_left
              · intro w hSw; (try dsimp only at hSw); (try have l0 := hSw.1; have l1 := hSw.2; go_simp); (try with_reducible rfl)
              try simp only [Act.put, List.setIfInBounds_toArray, List.set_cons_zero, List.set_cons_succ]
              refine takeH (i := 12) (d := some 45) (v := ?_) rfl rfl (by kernel_rfl) (by kernel_rfl) (by kernel_rfl) (fun _ _ _ h => h) (by rfl) ?_ (by assumption) ?_
              rotate_left
              · intro w hSw; (try dsimp only at hSw); (try have l0 := hSw.1; have l1 := hSw.2; go_simp); (try with_reducible rfl)
              try simp only [Act.put, List.setIfInBounds_toArray, List.set_cons_zero, List.set_cons_succ]
              refine takeH (i := 13) (d := some 46) (v := ?_) rfl rfl (by kernel_rfl) (by kernel_rfl) (by kernel_rfl) (fun _ _ _ h => h) (by rfl) ?_ (by assumption) ?_
              rotate_left
              · intro w hSw; (try dsimp only at hSw); (try have l0 := hSw.1; have l1 := hSw.2; go_simp); (try with_reducible rfl)
              try simp only [Act.put, List.setIfInBounds_toArray, List.set_cons_zero, List.set_cons_succ]
              refine takeH (i := 14) (d := some 47) (v := ?_) rfl rfl (by kernel_rfl) (by kernel_rfl) (by kernel_rfl) (fun _ _ _ h => h) (by rfl) ?_ (by assumption) ?_
              rotate_left
              · intro w hSw; (try dsimp only at hSw); (try have l0 := hSw.1; have l1 := hSw.2; go_simp); (try with_reducible rfl)
              try simp only [Act.put, List.setIfInBounds_toArray, List.set_cons_zero, List.set_cons_succ]
              refine takeH (i := 17) (d := some 50) (v := ?_) rfl rfl (by kernel_rfl) (by kernel_rfl) (by kernel_rfl) (fun _ _ _ h => h) (by rfl) ?_ (by assumption) ?_
              rotate_left
              · intro w hSw; (try dsimp only at hSw); (try have l0 := hSw.1; have l1 := hSw.2; go_simp); (try with_reducible rfl)
              try simp only [Act.put, List.setIfInBounds_toArray, List.set_cons_zero, List.set_cons_succ]
              refine oneH (i := 15) (by kernel_rfl) rfl (by rfl) (fun K hK => ?_)
              go_simp
              refine (chosen_any _ ts p _ (HTc.out.ext (Ext.refl wr).drew) H7.out HPN.out (HWc.out.drew)).mono ?_; rintro e w2 ⟨q2, rfl, hE2, hC2⟩; have X2 := Lib.hid ((Ext.refl wr).drew.trans hE2); have C2 := Lib.hid hC2; clear hE2 hC2
              try dsimp only
              refine hK.out _ _ (⟨X2.out.cell K1.out, X2.out.cell K2.out⟩) (fun hHeld => ?_)
              clear hK K
              try simp only [Act.put, List.setIfInBounds_toArray, List.set_cons_zero, List.set_cons_succ]
              refine oneH (i := 16) (by kernel_rfl) rfl (by rfl) (fun K hK => ?_)
              go_simp
              refine (loadOf_any _ _ _ C2.out HGc.out).mono ?_; rintro e w3 ⟨q3, rfl, hE3, hC3⟩; have X3 := Lib.hid (X2.out.trans hE3); have C3 := Lib.hid hC3; clear hE3 hC3
              try dsimp only
              refine hK.out _ _ (⟨X3.out.cell K1.out, X3.out.cell K2.out⟩) (fun hHeld => ?_)
              clear hK K
              try simp only [Act.put, List.setIfInBounds_toArray, List.set_cons_zero, List.set_cons_succ]
              refine oneH (i := 18) (by kernel_rfl) rfl (by rfl) (fun K hK => ?_)
              go_simp
              have cc := fits_any _ _ _ room _ C3.out (HRc.out.ext X3.out) (loadL_good _ HGc.out).1 R3.out; rw [hfit] at cc; refine cc.mono ?_; clear cc; rintro e w4 ⟨rfl, hE4⟩; have X4 := Lib.hid (show Ext wr w4 from hE4 ▸ X3.out); clear hE4
              try dsimp only
              refine hK.out _ _ (⟨X4.out.cell K1.out, X4.out.cell K2.out⟩) (fun hHeld => ?_)
              clear hK K
              try simp only [Act.put, List.setIfInBounds_toArray, List.set_cons_zero, List.set_cons_succ]
              refine takeH (i := 19) (d := some 52) (v := ?_) rfl rfl (by kernel_rfl) (by kernel_rfl) (by kernel_rfl) (fun _ _ _ h => h) (by rfl) ?_ (by assumption) ?_
              rotate_left
              · intro w hSw; (try dsimp only at hSw); (try go_simp); (try with_reducible rfl)
              try simp only [Act.put, List.setIfInBounds_toArray, List.set_cons_zero, List.set_cons_succ]
              refine wpAnyH_done (by kernel_rfl) ?_ _
              have E4 := Lib.hid (HE.out.trans X4.out)
              have HO4 := Lib.hid (ownsRow_ext HO.out X4.out)
              clear hHeld c1 c2 K1 K2 HTc HRc HWc HGc C2 C3 X2 X3 X4 HO HE
              go_wp2_with (simp only [hpm, hB])
              go_roundw
              case rel =>
                refine ⟨(p - 1) &&& s, v, ys, HSN.out.2.1, by first | rfl | go_num, hyl, HO4.out, HX.out, HYV.out, hnv, hv7, fun q hq hqs hqf => ?_, E4.out⟩
                by_cases e : q = p
                · subst e; rw [hfit] at hqf; cases hqf
                · exact HPR.out q (by rcases Nat.lt_or_ge q p with h | h; · have := HSN.out.2.2 q h hqs; omega
                                      · omega) hqs hqf
              case measure => simp [intOf]; have := HSN.out.1; omega
            | true =>
              go_wp2_with fail
              refine wp_region_held_drew (S := fun w' => w'.cell? ⟨w.heap.size, s - p, none⟩ = some (.int .i64 (nOf room ts (s - p) : Int)) ∧ w'.cell? ⟨w.heap.size, s, none⟩ = some (.int .i64 (v : Int))) (by kernel_rfl) ⟨c1, c2⟩ (fun hHeld => ?_)
              refine takeH (i := 0) (d := some 33) (v := ?_) rfl rfl (by kernel_rfl) (by kernel_rfl) (by kernel_rfl) (fun _ _ _ h => h) (by rfl) ?_ (by assumption) ?_
              rotate_left
              · intro w hSw; (try dsimp only at hSw); (try have l0 := hSw.1; have l1 := hSw.2; go_simp); (try with_reducible rfl)
              try simp only [Act.put, List.setIfInBounds_toArray, List.set_cons_zero, List.set_cons_succ]
              refine takeH (i := 1) (d := some 34) (v := ?_) rfl rfl (by kernel_rfl) (by kernel_rfl) (by kernel_rfl) (fun _ _ _ h => h) (by rfl) ?_ (by assumption) ?_
              rotate_left
              · intro w hSw; (try dsimp only at hSw); (try have l0 := hSw.1; have l1 := hSw.2; go_simp); (try with_reducible rfl)
              try simp only [Act.put, List.setIfInBounds_toArray, List.set_cons_zero, List.set_cons_succ]
              refine takeH (i := 2) (d := some 35) (v := ?_) rfl rfl (by kernel_rfl) (by kernel_rfl) (by kernel_rfl) (fun _ _ _ h => h) (by rfl) ?_ (by assumption) ?_
              rotate_left
              · intro w hSw; (try dsimp only at hSw); (try have l0 := hSw.1; have l1 := hSw.2; go_simp); (try with_reducible rfl)
              try simp only [Act.put, List.setIfInBounds_toArray, List.set_cons_zero, List.set_cons_succ]
              refine takeH (i := 3) (d := some 36) (v := ?_) rfl rfl (by kernel_rfl) (by kernel_rfl) (by kernel_rfl) (fun _ _ _ h => h) (by rfl) ?_ (by assumption) ?_
              rotate_left
              · intro w hSw; (try dsimp only at hSw); (try have l0 := hSw.1; have l1 := hSw.2; go_simp); (try with_reducible rfl)
              try simp only [Act.put, List.setIfInBounds_toArray, List.set_cons_zero, List.set_cons_succ]
              refine takeH (i := 4) (d := some 37) (v := ?_) rfl rfl (by kernel_rfl) (by kernel_rfl) (by kernel_rfl) (fun _ _ _ h => h) (by rfl) ?_ (by assumption) ?_
              rotate_left
              · intro w hSw; (try dsimp only at hSw); (try have l0 := hSw.1; have l1 := hSw.2; go_simp); (try with_reducible rfl)
              try simp only [Act.put, List.setIfInBounds_toArray, List.set_cons_zero, List.set_cons_succ]
              refine takeH (i := 5) (d := some 38) (v := ?_) rfl rfl (by kernel_rfl) (by kernel_rfl) (by kernel_rfl) (fun _ _ _ h => h) (by rfl) ?_ (by assumption) ?_
              rotate_left
              · intro w hSw; (try dsimp only at hSw); (try have l0 := hSw.1; have l1 := hSw.2; go_simp); (try with_reducible rfl)
              try simp only [Act.put, List.setIfInBounds_toArray, List.set_cons_zero, List.set_cons_succ]
              refine takeH (i := 6) (d := some 39) (v := ?_) rfl rfl (by kernel_rfl) (by kernel_rfl) (by kernel_rfl) (fun _ _ _ h => h) (by rfl) ?_ (by assumption) ?_
              rotate_left
              · intro w hSw; (try dsimp only at hSw); (try have l0 := hSw.1; have l1 := hSw.2; go_simp); (try with_reducible rfl)
              try simp only [Act.put, List.setIfInBounds_toArray, List.set_cons_zero, List.set_cons_succ]
              refine takeH (i := 7) (d := some 40) (v := ?_) rfl rfl (by kernel_rfl) (by kernel_rfl) (by kernel_rfl) (fun _ _ _ h => h) (by rfl) ?_ (by assumption) ?_
              rotate_left
              · intro w hSw; (try dsimp only at hSw); (try have l0 := hSw.1; have l1 := hSw.2; go_simp); (try with_reducible rfl)
              try simp only [Act.put, List.setIfInBounds_toArray, List.set_cons_zero, List.set_cons_succ]
              refine takeH (i := 8) (d := some 41) (v := ?_) rfl rfl (by kernel_rfl) (by kernel_rfl) (by kernel_rfl) (fun _ _ _ h => h) (by rfl) ?_ (by assumption) ?_
              rotate_left
              · intro w hSw; (try dsimp only at hSw); (try have l0 := hSw.1; have l1 := hSw.2; go_simp); (try with_reducible rfl)
              try simp only [Act.put, List.setIfInBounds_toArray, List.set_cons_zero, List.set_cons_succ]
              refine takeH (i := 9) (d := some 42) (v := ?_) rfl rfl (by kernel_rfl) (by kernel_rfl) (by kernel_rfl) (fun _ _ _ h => h) (by rfl) ?_ (by assumption) ?_
              rotate_left
              · intro w hSw; (try dsimp only at hSw); (try have l0 := hSw.1; have l1 := hSw.2; go_simp); (try with_reducible rfl)
              try simp only [Act.put, List.setIfInBounds_toArray, List.set_cons_zero, List.set_cons_succ]
              refine takeH (i := 10) (d := some 43) (v := ?_) rfl rfl (by kernel_rfl) (by kernel_rfl) (by kernel_rfl) (fun _ _ _ h => h) (by rfl) ?_ (by assumption) ?_
              rotate_left
              · intro w hSw; (try dsimp only at hSw); (try have l0 := hSw.1; have l1 := hSw.2; go_simp); (try with_reducible rfl)
              try simp only [Act.put, List.setIfInBounds_toArray, List.set_cons_zero, List.set_cons_succ]
              refine takeH (i := 11) (d := some 44) (v := ?_) rfl rfl (by kernel_rfl) (by kernel_rfl) (by kernel_rfl) (fun _ _ _ h => h) (by rfl) ?_ (by assumption) ?_
              rotate_left
              · intro w hSw; (try dsimp only at hSw); (try have l0 := hSw.1; have l1 := hSw.2; go_simp); (try with_reducible rfl)
              try simp only [Act.put, List.setIfInBounds_toArray, List.set_cons_zero, List.set_cons_succ]
              refine takeH (i := 12) (d := some 45) (v := ?_) rfl rfl (by kernel_rfl) (by kernel_rfl) (by kernel_rfl) (fun _ _ _ h => h) (by rfl) ?_ (by assumption) ?_
              rotate_left
              · intro w hSw; (try dsimp only at hSw); (try have l0 := hSw.1; have l1 := hSw.2; go_simp); (try with_reducible rfl)
              try simp only [Act.put, List.setIfInBounds_toArray, List.set_cons_zero, List.set_cons_succ]
              refine takeH (i := 13) (d := some 46) (v := ?_) rfl rfl (by kernel_rfl) (by kernel_rfl) (by kernel_rfl) (fun _ _ _ h => h) (by rfl) ?_ (by assumption) ?_
              rotate_left
              · intro w hSw; (try dsimp only at hSw); (try have l0 := hSw.1; have l1 := hSw.2; go_simp); (try with_reducible rfl)
              try simp only [Act.put, List.setIfInBounds_toArray, List.set_cons_zero, List.set_cons_succ]
              refine takeH (i := 14) (d := some 47) (v := ?_) rfl rfl (by kernel_rfl) (by kernel_rfl) (by kernel_rfl) (fun _ _ _ h => h) (by rfl) ?_ (by assumption) ?_
              rotate_left
              · intro w hSw; (try dsimp only at hSw); (try have l0 := hSw.1; have l1 := hSw.2; go_simp); (try with_reducible rfl)
              try simp only [Act.put, List.setIfInBounds_toArray, List.set_cons_zero, List.set_cons_succ]
              refine takeH (i := 17) (d := some 50) (v := ?_) rfl rfl (by kernel_rfl) (by kernel_rfl) (by kernel_rfl) (fun _ _ _ h => h) (by rfl) ?_ (by assumption) ?_
              rotate_left
              · intro w hSw; (try dsimp only at hSw); (try have l0 := hSw.1; have l1 := hSw.2; go_simp); (try with_reducible rfl)
              try simp only [Act.put, List.setIfInBounds_toArray, List.set_cons_zero, List.set_cons_succ]
              refine oneH (i := 15) (by kernel_rfl) rfl (by rfl) (fun K hK => ?_)
              go_simp
              refine (chosen_any _ ts p _ (HTc.out.ext (Ext.refl wr).drew) H7.out HPN.out (HWc.out.drew)).mono ?_; rintro e w2 ⟨q2, rfl, hE2, hC2⟩; have X2 := Lib.hid ((Ext.refl wr).drew.trans hE2); have C2 := Lib.hid hC2; clear hE2 hC2
              try dsimp only
              refine hK.out _ _ (⟨X2.out.cell K1.out, X2.out.cell K2.out⟩) (fun hHeld => ?_)
              clear hK K
              try simp only [Act.put, List.setIfInBounds_toArray, List.set_cons_zero, List.set_cons_succ]
              refine oneH (i := 16) (by kernel_rfl) rfl (by rfl) (fun K hK => ?_)
              go_simp
              refine (loadOf_any _ _ _ C2.out HGc.out).mono ?_; rintro e w3 ⟨q3, rfl, hE3, hC3⟩; have X3 := Lib.hid (X2.out.trans hE3); have C3 := Lib.hid hC3; clear hE3 hC3
              try dsimp only
              refine hK.out _ _ (⟨X3.out.cell K1.out, X3.out.cell K2.out⟩) (fun hHeld => ?_)
              clear hK K
              try simp only [Act.put, List.setIfInBounds_toArray, List.set_cons_zero, List.set_cons_succ]
              refine oneH (i := 18) (by kernel_rfl) rfl (by rfl) (fun K hK => ?_)
              go_simp
              have cc := fits_any _ _ _ room _ C3.out (HRc.out.ext X3.out) (loadL_good _ HGc.out).1 R3.out; rw [hfit] at cc; refine cc.mono ?_; clear cc; rintro e w4 ⟨rfl, hE4⟩; have X4 := Lib.hid (show Ext wr w4 from hE4 ▸ X3.out); clear hE4
              try dsimp only
              refine hK.out _ _ (⟨X4.out.cell K1.out, X4.out.cell K2.out⟩) (fun hHeld => ?_)
              clear hK K
              try simp only [Act.put, List.setIfInBounds_toArray, List.set_cons_zero, List.set_cons_succ]
              refine takeH (i := 19) (d := some 52) (v := ?_) rfl rfl (by kernel_rfl) (by kernel_rfl) (by kernel_rfl) (fun _ _ _ h => h) (by rfl) ?_ (by assumption) ?_
              rotate_left
              · intro w hSw; (try dsimp only at hSw); (try go_simp); (try with_reducible rfl)
              try simp only [Act.put, List.setIfInBounds_toArray, List.set_cons_zero, List.set_cons_succ]
              refine wpAnyH_done (by kernel_rfl) ?_ _
              have E4 := Lib.hid (HE.out.trans X4.out)
              have ho4 := ownsRow_ext HO.out X4.out
              obtain ⟨o1, -, o3, fz⟩ := ownsRow_put ho4 (k := s) (by simp; omega) (.int .i64 ((nOf room ts (s - p) : Int) + 1))
              have O5 := Lib.hid (show (w4.setCell ⟨w.heap.size, s, none⟩ (.int .i64 ((nOf room ts (s - p) : Int) + 1))).ownsRow w.heap.size 3 1 (.slice (some ⟨w.heap.size, 0, none⟩) N N) N ((ys.set s ((nOf room ts (s - p) : Int) + 1)).map (Value.int .i64)) from by rw [List.map_set]; exact o1)
              have E5 := Lib.hid (show Ext w (w4.setCell ⟨w.heap.size, s, none⟩ (.int .i64 ((nOf room ts (s - p) : Int) + 1))) from E4.out.setCell (p := ⟨w.heap.size, s, none⟩) (Nat.le_refl _) _)
              have d1 := X4.out.cell K1.out
              have d2 := X4.out.cell K2.out
              have HNL := Lib.hid (nOf_le HT.out H7.out HSP.out HPS.out hfit)
              clear hHeld c1 c2 K1 K2 HTc HRc HWc HGc C2 C3 X2 X3 X4 HO HE o1 o3 ho4
              go_wp2_with (first | simp only [hA] | simp only [hpm, hB])
              go_roundw
              case rel =>
                refine ⟨(p - 1) &&& s, nOf room ts (s - p) + 1, ys.set s ((nOf room ts (s - p) : Int) + 1), HSN.out.2.1, by first | rfl | go_num, by simpa using hyl, O5.out, fun j hj => ?_, ?_, HNL.out, by omega, fun q hq hqs hqf => ?_, E5.out⟩
                · rw [List.getD_eq_getElem?_getD, List.getElem?_set_ne (by omega), ← List.getD_eq_getElem?_getD]; exact HX.out j hj
                · rw [List.getD_eq_getElem?_getD, List.getElem?_set_self (by omega), Option.getD_some]; omega
                · by_cases e : q = p
                  · subst e; exact Nat.le_refl _
                  · have := HPR.out q (by rcases Nat.lt_or_ge q p with h | h; · have := HSN.out.2.2 q h hqs; omega
                                          · omega) hqs hqf
                    omega
              case measure => simp [intOf]; have := HSN.out.1; omega
          · have hdc : decide ((nOf room ts (s - p) : Int) + 1 < (v : Int)) = false := decide_eq_false hcmp
            go_wp2_with fail
            refine wp_region_held_drew (S := fun w' => w'.cell? ⟨w.heap.size, s - p, none⟩ = some (.int .i64 (nOf room ts (s - p) : Int)) ∧ w'.cell? ⟨w.heap.size, s, none⟩ = some (.int .i64 (v : Int))) (by kernel_rfl) ⟨c1, c2⟩ (fun hHeld => ?_)
            refine takeH (i := 0) (d := some 33) (v := ?_) rfl rfl (by kernel_rfl) (by kernel_rfl) (by kernel_rfl) (fun _ _ _ h => h) (by rfl) ?_ (by assumption) ?_
            rotate_left
            · intro w hSw; (try dsimp only at hSw); (try have l0 := hSw.1; have l1 := hSw.2; go_simp); (try with_reducible rfl)
            try simp only [Act.put, List.setIfInBounds_toArray, List.set_cons_zero, List.set_cons_succ]
            refine takeH (i := 1) (d := some 34) (v := ?_) rfl rfl (by kernel_rfl) (by kernel_rfl) (by kernel_rfl) (fun _ _ _ h => h) (by rfl) ?_ (by assumption) ?_
            rotate_left
            · intro w hSw; (try dsimp only at hSw); (try have l0 := hSw.1; have l1 := hSw.2; go_simp); (try with_reducible rfl)
            try simp only [Act.put, List.setIfInBounds_toArray, List.set_cons_zero, List.set_cons_succ]
            refine takeH (i := 2) (d := some 35) (v := ?_) rfl rfl (by kernel_rfl) (by kernel_rfl) (by kernel_rfl) (fun _ _ _ h => h) (by rfl) ?_ (by assumption) ?_
            rotate_left
            · intro w hSw; (try dsimp only at hSw); (try have l0 := hSw.1; have l1 := hSw.2; go_simp); (try with_reducible rfl)
            try simp only [Act.put, List.setIfInBounds_toArray, List.set_cons_zero, List.set_cons_succ]
            refine takeH (i := 3) (d := some 36) (v := ?_) rfl rfl (by kernel_rfl) (by kernel_rfl) (by kernel_rfl) (fun _ _ _ h => h) (by rfl) ?_ (by assumption) ?_
            rotate_left
            · intro w hSw; (try dsimp only at hSw); (try have l0 := hSw.1; have l1 := hSw.2; go_simp); (try with_reducible rfl)
            try simp only [Act.put, List.setIfInBounds_toArray, List.set_cons_zero, List.set_cons_succ]
            refine takeH (i := 4) (d := some 37) (v := ?_) rfl rfl (by kernel_rfl) (by kernel_rfl) (by kernel_rfl) (fun _ _ _ h => h) (by rfl) ?_ (by assumption) ?_
            rotate_left
            · intro w hSw; (try dsimp only at hSw); (try have l0 := hSw.1; have l1 := hSw.2; go_simp); (try with_reducible rfl)
            try simp only [Act.put, List.setIfInBounds_toArray, List.set_cons_zero, List.set_cons_succ]
            refine takeH (i := 5) (d := some 38) (v := ?_) rfl rfl (by kernel_rfl) (by kernel_rfl) (by kernel_rfl) (fun _ _ _ h => h) (by rfl) ?_ (by assumption) ?_
            rotate_left
            · intro w hSw; (try dsimp only at hSw); (try have l0 := hSw.1; have l1 := hSw.2; go_simp); (try with_reducible rfl)
            try simp only [Act.put, List.setIfInBounds_toArray, List.set_cons_zero, List.set_cons_succ]
            refine takeH (i := 6) (d := some 39) (v := ?_) rfl rfl (by kernel_rfl) (by kernel_rfl) (by kernel_rfl) (fun _ _ _ h => h) (by rfl) ?_ (by assumption) ?_
            rotate_left
            · intro w hSw; (try dsimp only at hSw); (try have l0 := hSw.1; have l1 := hSw.2; go_simp); (try with_reducible rfl)
            try simp only [Act.put, List.setIfInBounds_toArray, List.set_cons_zero, List.set_cons_succ]
            refine takeH (i := 7) (d := some 40) (v := ?_) rfl rfl (by kernel_rfl) (by kernel_rfl) (by kernel_rfl) (fun _ _ _ h => h) (by rfl) ?_ (by assumption) ?_
            rotate_left
            · intro w hSw; (try dsimp only at hSw); (try have l0 := hSw.1; have l1 := hSw.2; go_simp); (try with_reducible rfl)
            try simp only [Act.put, List.setIfInBounds_toArray, List.set_cons_zero, List.set_cons_succ]
            refine takeH (i := 8) (d := some 41) (v := ?_) rfl rfl (by kernel_rfl) (by kernel_rfl) (by kernel_rfl) (fun _ _ _ h => h) (by rfl) ?_ (by assumption) ?_
            rotate_left
            · intro w hSw; (try dsimp only at hSw); (try have l0 := hSw.1; have l1 := hSw.2; go_simp); (try with_reducible rfl)
            try simp only [Act.put, List.setIfInBounds_toArray, List.set_cons_zero, List.set_cons_succ]
            refine takeH (i := 9) (d := some 42) (v := ?_) rfl rfl (by kernel_rfl) (by kernel_rfl) (by kernel_rfl) (fun _ _ _ h => h) (by rfl) ?_ (by assumption) ?_
            rotate_left
            · intro w hSw; (try dsimp only at hSw); (try have l0 := hSw.1; have l1 := hSw.2; go_simp); (try with_reducible rfl)
            try simp only [Act.put, List.setIfInBounds_toArray, List.set_cons_zero, List.set_cons_succ]
            refine takeH (i := 10) (d := some 43) (v := ?_) rfl rfl (by kernel_rfl) (by kernel_rfl) (by kernel_rfl) (fun _ _ _ h => h) (by rfl) ?_ (by assumption) ?_
            rotate_left
            · intro w hSw; (try dsimp only at hSw); (try have l0 := hSw.1; have l1 := hSw.2; go_simp); (try with_reducible rfl)
            try simp only [Act.put, List.setIfInBounds_toArray, List.set_cons_zero, List.set_cons_succ]
            refine takeH (i := 11) (d := some 44) (v := ?_) rfl rfl (by kernel_rfl) (by kernel_rfl) (by kernel_rfl) (fun _ _ _ h => h) (by rfl) ?_ (by assumption) ?_
            rotate_left
            · intro w hSw; (try dsimp only at hSw); (try have l0 := hSw.1; have l1 := hSw.2; go_simp); (try with_reducible rfl)
            try simp only [Act.put, List.setIfInBounds_toArray, List.set_cons_zero, List.set_cons_succ]
            refine takeH (i := 12) (d := some 45) (v := ?_) rfl rfl (by kernel_rfl) (by kernel_rfl) (by kernel_rfl) (fun _ _ _ h => h) (by rfl) ?_ (by assumption) ?_
            rotate_left
            · intro w hSw; (try dsimp only at hSw); (try have l0 := hSw.1; have l1 := hSw.2; go_simp); (try with_reducible rfl)
            try simp only [Act.put, List.setIfInBounds_toArray, List.set_cons_zero, List.set_cons_succ]
            refine skipH (i := 13) (d := some 46) rfl rfl (by kernel_rfl) (by kernel_rfl) (by kernel_rfl) (fun _ _ _ h => h) (by rfl) (by assumption) ?_
            try simp only [Act.put, List.setIfInBounds_toArray, List.set_cons_zero, List.set_cons_succ]
            refine skipH (i := 14) (d := some 47) rfl rfl (by kernel_rfl) (by kernel_rfl) (by kernel_rfl) (fun _ _ _ h => h) (by rfl) (by assumption) ?_
            try simp only [Act.put, List.setIfInBounds_toArray, List.set_cons_zero, List.set_cons_succ]
            refine skipH (i := 15) (d := some 48) rfl rfl (by kernel_rfl) (by kernel_rfl) (by kernel_rfl) (fun _ _ _ h => h) (by rfl) (by assumption) ?_
            try simp only [Act.put, List.setIfInBounds_toArray, List.set_cons_zero, List.set_cons_succ]
            refine skipH (i := 16) (d := some 49) rfl rfl (by kernel_rfl) (by kernel_rfl) (by kernel_rfl) (fun _ _ _ h => h) (by rfl) (by assumption) ?_
            try simp only [Act.put, List.setIfInBounds_toArray, List.set_cons_zero, List.set_cons_succ]
            refine skipH (i := 17) (d := some 50) rfl rfl (by kernel_rfl) (by kernel_rfl) (by kernel_rfl) (fun _ _ _ h => h) (by rfl) (by assumption) ?_
            try simp only [Act.put, List.setIfInBounds_toArray, List.set_cons_zero, List.set_cons_succ]
            refine skipH (i := 18) (d := some 51) rfl rfl (by kernel_rfl) (by kernel_rfl) (by kernel_rfl) (fun _ _ _ h => h) (by rfl) (by assumption) ?_
            try simp only [Act.put, List.setIfInBounds_toArray, List.set_cons_zero, List.set_cons_succ]
            refine takeH (i := 19) (d := some 52) (v := ?_) rfl rfl (by kernel_rfl) (by kernel_rfl) (by kernel_rfl) (fun _ _ _ h => h) (by rfl) ?_ (by assumption) ?_
            rotate_left
            · intro w hSw; (try dsimp only at hSw); (try go_simp); (try with_reducible rfl)
            try simp only [Act.put, List.setIfInBounds_toArray, List.set_cons_zero, List.set_cons_succ]
            refine wpAnyH_done (by kernel_rfl) ?_ _
            have E4 := Lib.hid (HE.out.trans (Ext.refl wr).drew)
            have HO4 := Lib.hid (ownsRow_ext HO.out (Ext.refl wr).drew)
            clear hHeld c1 c2 K1 K2 HTc HRc HWc HGc HO HE
            go_wp2_with (simp only [hpm, hB])
            go_roundw
            case rel =>
              refine ⟨(p - 1) &&& s, v, ys, HSN.out.2.1, by first | rfl | go_num, hyl, HO4.out, HX.out, HYV.out, hnv, hv7, fun q hq hqs hqf => ?_, E4.out⟩
              by_cases e : q = p
              · subst e; omega
              · exact HPR.out q (by rcases Nat.lt_or_ge q p with h | h; · have := HSN.out.2.2 q h hqs; omega
                                    · omega) hqs hqf
            case measure => simp [intOf]; have := HSN.out.1; omega
    · have e : s = N := by omega
      subst e
      obtain ⟨g', hga, -, -, -, hcell, -⟩ := ownsRow_at ho hN0
      cases hga
      have cl := hcell (s - 1) (by simp; omega)
      have e1 := hx (s - 1) (by omega)
      rw [List.getD_eq_getElem?_getD, List.getElem?_eq_getElem (by omega), Option.getD_some] at e1
      rw [List.getElem?_map, List.getElem?_eq_getElem (by omega), Option.map_some, e1] at cl
      have hfin : nOf room ts (s - 1) = leastN room ts := by unfold nOf; rw [HN.out, chosL_all H7.out]
      rw [hfin] at cl
      have hd : decide ((s : Int) ≤ ((s - 1 : Nat) : Int)) = false := decide_eq_false (by omega)
      have hd' : ¬ (s : Int) ≤ ((s - 1 : Nat) : Int) := by omega
      have i0 : (0 : Int) ≤ ((s - 1 : Nat) : Int) := by omega
      have i1 : ((s - 1 : Nat) : Int) < (s : Int) := by omega
      clear ho hx hE hcell e1 hfin HN
      go_wp2
      go_ret
      exact ⟨rfl, HE.out⟩

end Go.Proofs.YtfidamjepjgknaaDoor
