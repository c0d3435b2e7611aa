/- The laws' own comparison of nodes; that a list holds a task. No condition. -/
import Derived.Test.YtcijbpjiioodlaaSame
import Derived.Test.YtcijbpjiioodlaaArg
namespace Go.Proofs.Ytcijbpjiioodlaa
set_option maxRecDepth 100000
open Go.RowKit

set_option maxHeartbeats 600000 in
theorem sameBins_any (v u : Value) (xs ys : List (List T)) (w : World) (h : Bins w v xs) (h' : Bins w u ys) :
    Calls Try.prog 58 #[v, u] w fun e w' => e = .returned (.bool (sameBs xs ys)) ∧ Ext w w' := by
  obtain ⟨a, cap, rfl, h⟩ := h.open
  obtain ⟨a', cap', rfl, h'⟩ := h'.open
  have hx : xs.length ≤ 4194304 := h.1
  have hy : ys.length ≤ 4194304 := h'.1
  by_cases hl : xs.length = ys.length
  · have hb : (((xs.length : Nat) : Int) != (ys.length : Nat)) = false := by simp [hl]
    have HL := Lib.hid hl
    clear hl
    go_enter Try.func58, Try.ntmps58
    go_wp2
    go_loopw [5] (fun i wr => ∃ k : Nat, k ≤ xs.length ∧ i = .int .i64 k ∧ Ext w wr ∧ ∀ j (h1 : j < xs.length) (h2 : j < ys.length), j < k → sameTs xs[j] ys[j] = true) (fun i _ => xs.length - (intOf i).toNat)
    case atStart => exact ⟨0, by omega, rfl, Ext.refl _, fun _ _ _ h => by omega⟩
    case round =>
      obtain ⟨k, hk, rfl, hE, hg⟩ := hrel
      have Hg := Lib.hid hg
      clear hg
      by_cases hlt : k < xs.length
      · have l2 : k < ys.length := by have := HL.out; omega
        obtain ⟨b, off, nd, rfl, c1, hn⟩ := h.at hlt
        obtain ⟨b', off', nd', rfl, d1, hn2⟩ := h'.at l2
        obtain ⟨e1, f1, rfl, hn'⟩ := (hn.ext hE).open
        obtain ⟨e2, f2, rfl, hn2'⟩ := (hn2.ext hE).open
        have c1' := hE.cell c1
        have d1' := hE.cell d1
        have Hn := Lib.hid hn'
        have Hn2 := Lib.hid hn2'
        clear hn hn' hn2 hn2' c1 d1
        have b1 : (k : Int) < (xs.length : Int) := by omega
        have b1' : (k : Int) < (ys.length : Int) := by omega
        have b0 : (0 : Int) ≤ (k : Int) := by omega
        cases he : sameTs xs[k] ys[k] with
        | true =>
          have Hd : Hid (∀ j (h1 : j < xs.length) (h2 : j < ys.length), j < k + 1 → sameTs xs[j] ys[j] = true) := by
            intro j h1 h2 hj
            by_cases e : j = k
            · subst e; exact he
            · exact Hg.out j h1 h2 (by omega)
          go_wp2
          go_still_tail 8, (by kernel_rfl)
          change wpList _ _ _ _ _ wr.drew
          go_wp2_with fail
          refine (sameTasks_any _ _ _ _ _ Hn.out.drew Hn2.out.drew).mono ?_
          rintro e w1 ⟨rfl, hE2⟩
          have hE3 := hE.drew.trans hE2
          clear hE hE2
          go_wp2_with fail
          go_roundw
          case rel => exact ⟨k + 1, by omega, by go_num, hE3, Hd.out⟩
          case measure => simp [intOf]; omega
        | false =>
          have Hr := Lib.hid (sameBs_at hlt l2 he)
          go_wp2
          go_still_tail 8, (by kernel_rfl)
          change wpList _ _ _ _ _ wr.drew
          go_wp2_with fail
          refine (sameTasks_any _ _ _ _ _ Hn.out.drew Hn2.out.drew).mono ?_
          rintro e w1 ⟨rfl, hE2⟩
          have hE3 := hE.drew.trans hE2
          clear hE hE2
          go_wp2_with fail
          go_ret
          exact ⟨ret_bool Hr.out.symm, hE3⟩
      · have e : k = xs.length := by omega
        subst e
        have Hd := Lib.hid (sameBs_all HL.out fun j h1 h2 => Hg.out j h1 h2 h1)
        go_wp2
        go_ret
        exact ⟨ret_bool Hd.out.symm, hE⟩
  · have hb : (((xs.length : Nat) : Int) != (ys.length : Nat)) = true := by simp; omega
    have Hd : Hid (sameBs xs ys = false) := by
      show sameBs xs ys = false
      rw [Bool.eq_false_iff]
      intro e
      exact hl (by rw [sameBs_iff.1 e])
    clear hl
    go_enter Try.func58, Try.ntmps58
    go_wp2
    go_ret
    exact ⟨ret_bool Hd.out.symm, Ext.refl _⟩


/-- Is a task among some? -/
def hasT (ts : List T) (x : T) : Bool := ts.any fun t => sameT t x
theorem hasT_mem {ts : List T} {x : T} (h : x ∈ ts) : hasT ts x = true := by
  unfold hasT
  rw [List.any_eq_true]
  exact ⟨x, h, sameT_iff.2 rfl⟩
theorem hasT_step {ts : List T} {x : T} {k : Nat} (hk : k < ts.length) (h : sameT ts[k] x = true) : hasT ts x = true := by
  unfold hasT
  rw [List.any_eq_true]
  exact ⟨_, List.getElem_mem hk, h⟩
theorem hasT_no {ts : List T} {x : T} (h : ∀ j (hj : j < ts.length), sameT ts[j] x = false) : hasT ts x = false := by
  unfold hasT
  rw [List.any_eq_false]
  intro t ht
  obtain ⟨j, hj, rfl⟩ := List.getElem_of_mem ht
  rw [h j hj]
  simp

set_option maxHeartbeats 1000000 in
theorem hasTask_any (v n : Value) (ts : List T) (x : T) (w : World) (h : Tasks w v ts) (hn : Ints w n x.need) :
    Calls Try.prog 65 #[v, .agg #[.int .i64 x.id, n]] w fun e w' => e = .returned (.bool (hasT ts x)) ∧ Ext w w' := by
  obtain ⟨a, cap, rfl, h⟩ := h.open
  obtain ⟨an, cn, rfl, hn⟩ := hn.open
  have hl1 : ts.length ≤ 4194304 := h.1
  go_enter Try.func65, Try.ntmps65
  go_wp2_with fail
  have hEx : Ext w _ := (Ext.refl w).alloc (Obj.cells #[.int .i64 x.id, .slice an x.need.length cn] 45)
  have cx : (w.alloc (Obj.cells #[.int .i64 x.id, .slice an x.need.length cn] 45)).cell? ⟨w.heap.size, 0, none⟩ = some (.int .i64 x.id) := by rw [box_cell]; rfl
  have cy : (w.alloc (Obj.cells #[.int .i64 x.id, .slice an x.need.length cn] 45)).cell? ⟨w.heap.size, 1, none⟩ = some (.slice an x.need.length cn) := by rw [box_cell]; rfl
  generalize w.alloc (Obj.cells #[.int .i64 x.id, .slice an x.need.length cn] 45) = W at *
  have KS := Lib.hid (show ∀ w', Ext W w' → w'.cell? ⟨w.heap.size, 0, none⟩ = some (.int .i64 x.id) ∧ w'.cell? ⟨w.heap.size, 1, none⟩ = some (.slice an x.need.length cn) from fun w' h => ⟨h.cell cx, h.cell cy⟩)
  have H := Lib.hid (h.ext hEx)
  have Hn := Lib.hid (hn.ext hEx)
  have E0 := Lib.hid hEx
  clear h hn cx cy hEx
  go_loopw [5] (fun i wr => ∃ k : Nat, k ≤ ts.length ∧ i = .int .i64 k ∧ Ext W wr ∧ ∀ j (hj : j < ts.length), j < k → sameT ts[j] x = false) (fun i _ => ts.length - (intOf i).toNat)
  case atStart => exact ⟨0, by omega, rfl, Ext.refl _, fun _ _ h => by omega⟩
  case round =>
    obtain ⟨k, hk, rfl, hE, hg⟩ := hrel
    have Hg := Lib.hid hg
    have HE := Lib.hid hE
    obtain ⟨e0, e1⟩ := KS.out wr hE
    clear hg hE
    by_cases hlt : k < ts.length
    · obtain ⟨b, off, nd, he, c0, c1, hn'⟩ := (H.out.ext HE.out).at hlt
      subst he
      obtain ⟨na, nc, rfl, hn2⟩ := hn'.open
      have Hn2 := Lib.hid hn2
      have Hx := Lib.hid (Hn.out.ext HE.out)
      have b1 : (k : Int) < (ts.length : Int) := by omega
      have b0 : (0 : Int) ≤ (k : Int) := by omega
      clear hn' hn2
      have Hns : Hid (sameT ts[k] x = false → ∀ j (hj : j < ts.length), j < k + 1 → sameT ts[j] x = false) := by
        intro hs j hj hjk
        by_cases e : j = k
        · subst e; exact hs
        · exact Hg.out j hj (by omega)
      by_cases hid : ts[k].id = x.id
      · have hbb : (ts[k].id == x.id) = true := by simp [hid]
        have Hid' := Lib.hid hid
        clear hid
        cases hnn : (ts[k].need == x.need) with
        | true =>
          have Hr := Lib.hid (hasT_step hlt (show sameT ts[k] x = true by simp [sameT, hbb, hnn]))
          go_wp2
          go_still_tail 16, (by kernel_rfl)
          change wpList _ _ _ _ _ wr.drew
          go_wp2_with fail
          have cc := sameInts_any _ _ _ _ _ Hn2.out.drew Hx.out.drew
          rw [hnn] at cc
          refine cc.mono ?_
          clear cc
          rintro e w3 ⟨rfl, m, rfl⟩
          have F := E0.out.trans (HE.out.drewN (1 + m))
          go_wp2_with fail
          go_ret
          exact ⟨ret_bool Hr.out.symm, F⟩
        | false =>
          have Hs := Lib.hid (Hns.out (show sameT ts[k] x = false by simp [sameT, hnn]))
          go_wp2
          go_still_tail 16, (by kernel_rfl)
          change wpList _ _ _ _ _ wr.drew
          go_wp2_with fail
          have cc := sameInts_any _ _ _ _ _ Hn2.out.drew Hx.out.drew
          rw [hnn] at cc
          refine cc.mono ?_
          clear cc
          rintro e w3 ⟨rfl, m, rfl⟩
          have F := Lib.hid (HE.out.drewN (1 + m))
          go_wp2_with fail
          go_roundw
          case rel => exact ⟨k + 1, by omega, by go_num, F.out, Hs.out⟩
          case measure => simp [intOf]; omega
      · have hbb : (ts[k].id == x.id) = false := by simp [hid]
        have Hs := Lib.hid (Hns.out (show sameT ts[k] x = false by simp [sameT, hid]))
        clear hid
        go_wp2
        go_quiet (fail)
        go_wp2
        have F := Lib.hid (HE.out.drewN nq)
        go_roundw
        case rel => exact ⟨k + 1, by omega, by go_num, F.out, Hs.out⟩
        case measure => simp [intOf]; omega
    · have e : k = ts.length := by omega
      subst e
      have Hr := Lib.hid (hasT_no fun j hj => Hg.out j hj hj)
      have F := E0.out.trans HE.out
      go_wp2
      go_ret
      exact ⟨ret_bool Hr.out.symm, F⟩

end Go.Proofs.Ytcijbpjiioodlaa
