/- A law's marks over a cluster. No condition. -/
import Derived.Test.YtcijbpjiioodlaaUn2
namespace Go.Proofs.Ytcijbpjiioodlaa
set_option maxRecDepth 100000
open Go.RowKit

theorem weighU_wt {us : List Un} {k : Nat} (h : k < us.length) : weigh (binsC (us.take (k + 1))) = weigh (binsC (us.take k)) + wt us[k].ts := by rw [weighU_step h]; rfl
theorem weighU_part {us : List Un} {k : Nat} (h : k < us.length) : weigh (binsC (us.take k)) + wt us[k].ts ≤ weigh (binsC us) := by
  rw [← weighU_wt h, binsC_take]
  have h1 : weigh (binsC us) = weigh ((binsC us).take (k + 1)) + weigh ((binsC us).drop (k + 1)) := by
    unfold weigh
    rw [← List.sum_append, ← List.map_append, List.take_append_drop]
  omega

set_option maxHeartbeats 1000000 in
theorem markUnitS_any (v : Value) (us : List Un) (k : Int) (L U : Nat) (w : World) (h : UnitsU w L U v us) (h0 : 0 ≤ k) (h1 : k ≤ 800000000) (hl : weighU us ≤ 4194304) :
    Calls Try.prog 90 #[v, .int .i64 k] w fun e w' => e = .returned (.int .i64 (k + (weighU us : Int))) ∧ Chg L U w w' := by
  obtain ⟨a, c, rfl⟩ := h.form
  have hl2 : us.length ≤ 4194304 := by unfold weighU at hl; omega
  have H0 := Lib.hid h
  have Hl := Lib.hid hl
  clear h hl
  go_enter Try.func90, Try.ntmps90
  go_wp2
  go_loopw [1, 5] (fun q i wr => ∃ (j m : Nat) (cs : List Un), j ≤ us.length ∧ i = .int .i64 j ∧ q = .int .i64 (k + (m : Int)) ∧ m ≤ 4194304 ∧ m = j + weigh (binsC (us.take j)) ∧ cs.length = us.length ∧ (∀ x (h1 : x < us.length) (h2 : x < cs.length), j ≤ x → cs[x] = us[x]) ∧ UnitsU wr L U (.slice a us.length c) cs ∧ Chg L U w wr) (fun _ i _ => us.length - (intOf i).toNat)
  case atStart => exact ⟨0, 0, us, by omega, rfl, by go_num, by omega, by simp [weigh, binsC], rfl, fun _ _ _ _ => rfl, H0.out, Chg.refl _ _ _⟩
  case round =>
    obtain ⟨j, m, cs, hj, rfl, rfl, hm, hm2, hcl, hcs, hi, hC⟩ := hrel
    have Hm2 := Lib.hid hm2
    have Hcs := Lib.hid hcs
    have Hcl := Lib.hid hcl
    clear hm2 hcs hcl
    by_cases hlt : j < us.length
    · have hjc : j < cs.length := by rw [Hcl.out]; exact hlt
      obtain ⟨b, cc, n, A, B, hv, c0, c1, fz, ht, hb1, hbA, hAB, hB, hput⟩ := hi.at hjc
      simp only [Value.slice.injEq] at hv
      obtain ⟨rfl, -, rfl⟩ := hv
      rw [Hcs.out j hlt hjc (Nat.le_refl _)] at ht
      have Hw := Lib.hid (weighU_wt hlt)
      have hwl : m + 1 + wt us[j].ts ≤ 4194304 := by have a1 := weighU_part hlt; have a2 := Hl.out; have a3 := Hm2.out; unfold weighU at a2; omega
      have Ht := Lib.hid (show ∀ q, TasksU (wr.setCell ⟨b, j * 2, none⟩ (.bool q)) A B n us[j].ts from fun q => ht.chg (Chg.only (grownBy_put wr b (j * 2) (.bool q))) (by omega))
      have kq : ∀ q, (wr.setCell ⟨b, j * 2, none⟩ (.bool q)).cell? ⟨b, j * 2 + 1, none⟩ = some n := fun q => (World.cell?_setCell_other _ _ _ _ (fun e => by have h := congrArg Addr.off e; dsimp only at h; omega)).trans c1
      have Hput := Lib.hid hput
      have HC := Lib.hid hC
      have hA' := Lib.hid (show L ≤ A by omega)
      have hB' := Lib.hid hB
      have low := Lib.hid (show ∀ q, Chg L U wr (wr.setCell ⟨b, j * 2, none⟩ (.bool q)) from fun q => (Chg.only (grownBy_put wr b (j * 2) (.bool q))).mono hb1 (by omega))
      have b0 : (0 : Int) ≤ (j : Int) := by omega
      have b1 : (j : Int) < (us.length : Int) := by omega
      clear ht hput hC hi hb1 hbA hAB hB c1
      go_wp2_with fail
      refine (markTaskS_any _ _ _ _ _ _ (Ht.out _) (by omega) (by omega) (by omega)).mono ?_
      rintro e w2 ⟨rfl, hT, hC2⟩
      have Hn := Lib.hid (Hput.out w2 _ _ hC2 hT)
      have hC3 := Lib.hid ((HC.out.trans (low.out _)).trans (hC2.mono hA'.out hB'.out))
      have Hc2 := Lib.hid (show ∀ y : Un, (cs.set j y).length = us.length ∧ ∀ x (h1 : x < us.length) (h2 : x < (cs.set j y).length), j + 1 ≤ x → (cs.set j y)[x] = us[x] from fun y =>
        ⟨by rw [List.length_set]; exact Hcl.out, fun x h1 h2 hx => by rw [List.getElem_set_ne (by omega)]; exact Hcs.out x h1 (by simpa using h2) (by omega)⟩)
      have Hm3 := Lib.hid (show m + 1 + wt us[j].ts = (j + 1) + weigh (binsC (us.take (j + 1))) by rw [Hw.out]; have := Hm2.out; omega)
      clear hT hC2 HC kq
      go_wp2_with fail
      go_roundw
      case rel => exact ⟨j + 1, m + 1 + wt us[j].ts, _, by omega, by go_num, by go_num, hwl, Hm3.out, (Hc2.out _).1, (Hc2.out _).2, Hn.out, hC3.out⟩
      case measure => simp [intOf]; omega
    · have e : j = us.length := by omega
      subst e
      have HC := Lib.hid hC
      have e2 : m = weighU us := by have := Hm2.out; rw [List.take_length] at this; exact this
      subst e2
      clear hi hC
      go_wp2
      go_ret
      exact ⟨rfl, HC.out⟩

set_option maxHeartbeats 600000 in
theorem markCluster_any (v : Value) (c : C) (k : Int) (L U : Nat) (w : World) (h : CluU w L U v c) (hU : U ≤ w.heap.size) (h0 : 0 ≤ k) (h1 : k ≤ 700000000) (hl : weighC c ≤ 2097152) :
    Calls Try.prog 34 #[v, .int .i64 k] w fun e w' => e = .returned (.int .i64 (k + (weighC c : Int))) ∧ Chg L U w w' := by
  obtain ⟨r, u, M, rfl, hr, hu, h3, h4⟩ := h
  have hw1 : weighU c.us ≤ 2097152 := by unfold weighC at hl; omega
  have hw2 : c.room.length ≤ 2097152 := by unfold weighC at hl; omega
  have tot : Hid (k + ((c.room.length : Nat) : Int) + ((weighU c.us : Nat) : Int) = k + ((weighC c : Nat) : Int)) := by show k + ((c.room.length : Nat) : Int) + ((weighU c.us : Nat) : Int) = k + ((weighC c : Nat) : Int); unfold weighC; omega
  obtain ⟨ra, rc, rfl⟩ := hr.form
  obtain ⟨ua, uc, rfl⟩ := hu.form
  have e0 : Ext w (w.alloc (Obj.cells #[.slice ra c.room.length rc, .slice ua c.us.length uc] 30)) := (Ext.refl w).alloc _
  have R0 := Lib.hid (heap_alloc_new w (Obj.cells #[.slice ra c.room.length rc, .slice ua c.us.length uc] 30))
  have HU := Lib.hid hU
  clear hl hU
  go_enter Try.func34, Try.ntmps34
  go_wp2_with fail
  generalize w.alloc (Obj.cells #[.slice ra c.room.length rc, .slice ua c.us.length uc] 30) = W at *
  refine (markIntS_any _ c.room k L M _ (hr.ext e0) h0 (by omega) (by omega)).mono ?_
  rintro e w1 ⟨rfl, -, hC, -⟩
  have r1 := (hC.block w.heap.size (lt_of_heap R0.out) (.inr (by have := HU.out; omega))).trans R0.out
  have x0 := cell_of_heap r1 0
  have x1 := cell_of_heap r1 1
  have HU1 := Lib.hid ((hu.ext e0).chg hC (.inr (Nat.le_refl _)))
  have C1 := Lib.hid ((e0.chg L U).trans (hC.mono (Nat.le_refl _) h4))
  clear r1 hC e0
  go_wp2_with fail
  refine (markUnitS_any _ c.us _ M U _ HU1.out (by omega) (by omega) (by omega)).mono ?_
  rintro e w2 ⟨rfl, hC⟩
  have C2 := Lib.hid (C1.out.trans (hC.mono h3 (Nat.le_refl _)))
  rw [tot.out]
  go_wp2
  go_ret
  exact ⟨rfl, C2.out⟩

end Go.Proofs.Ytcijbpjiioodlaa
