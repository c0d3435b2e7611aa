/- Nodes as they come in, and the copies that a law makes of them. -/
import Derived.Test.YtipmoedflpjioaaArg2
import Derived.Test.YtipmoedflpjioaaEq
import Derived.Test.YtipmoedflpjioaaNest
namespace Go.Proofs.Ytipmoedflpjioaa
set_option maxRecDepth 100000
open Go.RowKit

/-- A slice of slices of the laws' tasks that came in. -/
def ArgBins (w : World) (v : Value) (bs : List (List T)) : Prop :=
  bs.length ≤ 9223372036854775807 ∧ ∃ a cap, v = .slice a bs.length cap ∧ (0 < bs.length → ∃ b off, a = some ⟨b, off, none⟩ ∧ ∀ k (hk : k < bs.length), ∃ n, w.cell? ⟨b, off + k, none⟩ = some n ∧ ArgTasks w n bs[k])
theorem ArgBins.ext {w w' : World} {v : Value} {bs : List (List T)} (h : ArgBins w v bs) (k : Ext w w') : ArgBins w' v bs := by
  obtain ⟨hl, a, cap, hv, hc⟩ := h
  exact ⟨hl, a, cap, hv, fun h0 => let ⟨b, off, ha, hc⟩ := hc h0; ⟨b, off, ha, fun j hj => let ⟨n, h1, h2⟩ := hc j hj; ⟨n, k.cell h1, h2.ext k⟩⟩⟩

set_option maxHeartbeats 600000 in
theorem szTaskSS_any (v : Value) (bs : List (List T)) (left : Int) (w : World) (h : ArgBins w v bs) (h0 : 0 ≤ left) (h1 : left ≤ 1048576) :
    Calls Try.prog 54 #[v, .int .i64 left] w (SzPost (bs.length + weigh bs) left w) := by
  obtain ⟨hl, a, cap, rfl, hc⟩ := h
  have Hc := Lib.hid hc
  clear hc
  by_cases hlt : left - bs.length < 0
  · go_enter Try.func54, Try.ntmps54
    go_wp2
    go_ret
    exact ⟨-1, rfl, .inl rfl, Ext.refl _⟩
  · go_enter Try.func54, Try.ntmps54
    go_wp2
    go_loopw [1, 5] (fun l i wr => ∃ (k : Nat) (m : Int), k ≤ bs.length ∧ i = .int .i64 k ∧ l = .int .i64 m ∧ 0 ≤ m ∧ m + (bs.length + weigh (bs.take k) : Nat) = left ∧ Ext w wr) (fun _ i _ => bs.length - (intOf i).toNat)
    case atStart => exact ⟨0, left - bs.length, by omega, rfl, rfl, by omega, by simp [weigh], Ext.refl _⟩
    case round =>
      obtain ⟨k, m, hk, rfl, rfl, hm0, hm, hE⟩ := hrel
      have Hm := Lib.hid hm
      have hm1 : m ≤ 1048576 := by omega
      clear hm
      by_cases hkl : k < bs.length
      · obtain ⟨b, off, rfl, hc⟩ := Hc.out (by omega)
        obtain ⟨n, c1, hn⟩ := hc k hkl
        have c1' := hE.cell c1
        have Hn := Lib.hid (hn.ext hE)
        obtain ⟨an, cn, rfl, -⟩ := hn.2
        have Hst := Lib.hid (weigh_step hkl)
        clear c1 hc hn
        go_wp2_with fail
        refine (szTaskS_any _ _ _ _ Hn.out hm0 hm1).mono ?_
        rintro e w1 ⟨r, rfl, hr, hE2⟩
        have hE3 := hE.trans hE2
        clear hE hE2
        rcases hr with rfl | ⟨hr0, hr1⟩
        · go_wp2
          go_ret
          exact ⟨-1, rfl, .inl rfl, hE3⟩
        · have Hr1 := Lib.hid hr1
          clear hr1
          go_wp2
          go_roundw
          case rel => exact ⟨k + 1, r, by omega, by go_num, rfl, hr0, by have := Hr1.out; have := Hm.out; have := Hst.out; omega, hE3⟩
          case measure => simp [intOf]; omega
      · have e : k = bs.length := by omega
        subst e
        have Hm2 := Lib.hid (show m + (bs.length + weigh bs : Nat) = left by have := Hm.out; rwa [List.take_length] at this)
        clear Hm
        go_wp2
        go_ret
        exact ⟨m, rfl, .inr ⟨hm0, Hm2.out⟩, hE⟩

set_option maxHeartbeats 1000000 in
theorem toTaskSS_any (v : Value) (bs : List (List T)) (w : World) (h : ArgBins w v bs) (hl : bs.length + weigh bs ≤ 2097152) :
    Calls Try.prog 56 #[v] w fun e w' => ∃ g, e = .returned (.slice (some ⟨g, 0, none⟩) bs.length bs.length) ∧ Ext w w' ∧ BinsS w' w.heap.size (.slice (some ⟨g, 0, none⟩) bs.length bs.length) bs := by
  obtain ⟨_, a, cap, rfl, hc⟩ := h
  have Hc := Lib.hid hc
  clear hc
  obtain ⟨i0, hi, hz, hs, hby⟩ := info_parts info_bin
  have HN := Lib.hid (fun k (hk : k < bs.length) => weigh_le hk)
  go_enter Try.func56, Try.ntmps56
  go_wp2_with (at_make; refine wpList_make_full _ rfl _ _ 24 rfl w.heap.size 27 i0 (.slice none 0 0) 1 under_bins hi hz hs .i64 .i64 _ _ bs.length rfl rfl rfl rfl (by rw [hby]; omega) (by unfold maxLen; omega) (Nat.le_refl _) ?_; intro w1 hown hg)
  have hE : Ext w w1 := Below.grown (Below.refl _ _) hg (Nat.le_refl _) (by simp)
  have hg1 : w.heap.size < w1.heap.size := (hown.lt _ rfl).2
  have Ho := Lib.hid hown
  clear hown hg hi hz hs hby
  go_loopw [4] (fun i wr => ∃ (k : Nat) (xs : List Value), k ≤ bs.length ∧ i = .int .i64 k ∧ Ext w wr ∧ wr.ownsRow w.heap.size 27 1 (.slice (some ⟨w.heap.size, 0, none⟩) bs.length bs.length) bs.length xs ∧ ∀ j (h : j < bs.length), j < k → ∃ n, xs[j]? = some n ∧ TasksS wr w.heap.size n bs[j]) (fun i _ => bs.length - (intOf i).toNat)
  case atStart => exact ⟨0, _, by omega, rfl, hE, Ho.out, fun _ _ h => by omega⟩
  case round =>
    clear Ho hE hg1
    obtain ⟨k, xs, hk, rfl, hE, hown, hcs⟩ := hrel
    by_cases hlt : k < bs.length
    · obtain ⟨b, off, rfl, hc⟩ := Hc.out (by omega)
      obtain ⟨n, c1, hn⟩ := hc k hlt
      have c1' := hE.cell c1
      have Hn := Lib.hid (hn.ext hE)
      obtain ⟨an, cn, rfl, -⟩ := hn.2
      have hx := hown.1
      have hnl : bs[k].length + needs bs[k] ≤ 2097152 := by have := HN.out k hlt; omega
      have Hcs := Lib.hid hcs
      have Ho := Lib.hid hown
      clear c1 hc hn hcs hown
      go_wp2_with fail
      refine (toTaskS_any _ _ _ Hn.out hnl).mono ?_
      rintro e w1 ⟨g, rfl, hE2, hns⟩
      have ho1 := ownsRow_ext Ho.out hE2
      obtain ⟨p1, p2, p3, f1⟩ := ownsRow_put ho1 (k := k) (by omega) (.slice (some ⟨g, 0, none⟩) bs[k].length bs[k].length)
      have d0 := ho1.cellAt k (by omega)
      rw [List.getElem?_eq_getElem (by omega)] at d0
      have hE3 := (hE.trans hE2).below p3
      have St := Lib.hid p1
      have Hc2 : Hid (∀ j (h : j < bs.length), j < k + 1 → ∃ n, (xs.set k (.slice (some ⟨g, 0, none⟩) bs[k].length bs[k].length))[j]? = some n ∧ TasksS (w1.setCell ⟨w.heap.size, k, none⟩ (.slice (some ⟨g, 0, none⟩) bs[k].length bs[k].length)) w.heap.size n bs[j]) := by
        intro j hj hjk
        by_cases e : k = j
        · subst e
          exact ⟨_, by rw [List.getElem?_set_self (by omega)], (hns.base hE.le).kt p2 (by decide) (by decide)⟩
        · obtain ⟨n, hn, ht⟩ := Hcs.out j hj (by omega)
          exact ⟨n, by rw [List.getElem?_set_ne e, hn], (ht.ext hE2).kt p2 (by decide) (by decide)⟩
      clear p1 p2 p3 ho1 hns hE hE2
      go_wp2_with fail
      go_roundw
      case rel => exact ⟨k + 1, _, by omega, by go_num, hE3, St.out, Hc2.out⟩
      case measure => simp [intOf]; omega
    · have e : k = bs.length := by omega
      subst e
      have Ho1 := Lib.hid (show BinsS wr w.heap.size (.slice (some ⟨w.heap.size, 0, none⟩) bs.length bs.length) bs from ⟨xs, hown, fun j hj => hcs j hj hj⟩)
      clear hown hcs
      go_wp2
      go_ret
      exact ⟨_, rfl, hE, Ho1.out⟩

set_option maxHeartbeats 600000 in
theorem eqTaskSS_any (v u : Value) (xs ys : List (List T)) (w : World) (h : Bins w v xs) (h' : Bins w u ys) :
    Calls Try.prog 37 #[v, u] w fun e w' => e = .returned (.bool (sameBs xs ys)) ∧ Ext w w' := by
  obtain ⟨a, cap, rfl, h⟩ := h.open
  obtain ⟨a', cap', rfl, h'⟩ := h'.open
  have hx : xs.length ≤ 4194304 := h.1
  have hy : ys.length ≤ 4194304 := h'.1
  by_cases hl : xs.length = ys.length
  · have hb : (((xs.length : Nat) : Int) != (ys.length : Nat)) = false := by simp [hl]
    have HL := Lib.hid hl
    clear hl
    go_enter Try.func37, Try.ntmps37
    go_wp2
    go_loopw [5] (fun i wr => ∃ k : Nat, k ≤ xs.length ∧ i = .int .i64 k ∧ Ext w wr ∧ ∀ j (h1 : j < xs.length) (h2 : j < ys.length), j < k → sameTs xs[j] ys[j] = true) (fun i _ => xs.length - (intOf i).toNat)
    case atStart => exact ⟨0, by omega, rfl, Ext.refl _, fun _ _ _ h => by omega⟩
    case round =>
      obtain ⟨k, hk, rfl, hE, hg⟩ := hrel
      have Hg := Lib.hid hg
      clear hg
      by_cases hlt : k < xs.length
      · have l2 : k < ys.length := by have := HL.out; omega
        obtain ⟨b, off, nd, rfl, c1, hn⟩ := h.at hlt
        obtain ⟨b', off', nd', rfl, d1, hn2⟩ := h'.at l2
        obtain ⟨e1, f1, rfl, hn'⟩ := (hn.ext hE).open
        obtain ⟨e2, f2, rfl, hn2'⟩ := (hn2.ext hE).open
        have c1' := hE.cell c1
        have d1' := hE.cell d1
        have Hn := Lib.hid hn'
        have Hn2 := Lib.hid hn2'
        clear hn hn' hn2 hn2' c1 d1
        have b1 : (k : Int) < (xs.length : Int) := by omega
        have b1' : (k : Int) < (ys.length : Int) := by omega
        have b0 : (0 : Int) ≤ (k : Int) := by omega
        cases he : sameTs xs[k] ys[k] with
        | true =>
          have Hd : Hid (∀ j (h1 : j < xs.length) (h2 : j < ys.length), j < k + 1 → sameTs xs[j] ys[j] = true) := by
            intro j h1 h2 hj
            by_cases e : j = k
            · subst e; exact he
            · exact Hg.out j h1 h2 (by omega)
          go_wp2
          go_still_tail 8, (by kernel_rfl)
          change wpList _ _ _ _ _ wr.drew
          go_wp2_with fail
          refine (eqTaskS_any _ _ _ _ _ Hn.out.drew Hn2.out.drew).mono ?_
          rintro e w1 ⟨rfl, hE2⟩
          have hE3 := hE.drew.trans hE2
          clear hE hE2
          go_wp2_with fail
          go_roundw
          case rel => exact ⟨k + 1, by omega, by go_num, hE3, Hd.out⟩
          case measure => simp [intOf]; omega
        | false =>
          have Hr := Lib.hid (sameBs_at hlt l2 he)
          go_wp2
          go_still_tail 8, (by kernel_rfl)
          change wpList _ _ _ _ _ wr.drew
          go_wp2_with fail
          refine (eqTaskS_any _ _ _ _ _ Hn.out.drew Hn2.out.drew).mono ?_
          rintro e w1 ⟨rfl, hE2⟩
          have hE3 := hE.drew.trans hE2
          clear hE hE2
          go_wp2_with fail
          go_ret
          exact ⟨ret_bool Hr.out.symm, hE3⟩
      · have e : k = xs.length := by omega
        subst e
        have Hd := Lib.hid (sameBs_all HL.out fun j h1 h2 => Hg.out j h1 h2 h1)
        go_wp2
        go_ret
        exact ⟨ret_bool Hd.out.symm, hE⟩
  · have hb : (((xs.length : Nat) : Int) != (ys.length : Nat)) = true := by simp; omega
    have Hd : Hid (sameBs xs ys = false) := by
      show sameBs xs ys = false
      rw [Bool.eq_false_iff]
      intro e
      exact hl (by rw [sameBs_iff.1 e])
    clear hl
    go_enter Try.func37, Try.ntmps37
    go_wp2
    go_ret
    exact ⟨ret_bool Hd.out.symm, Ext.refl _⟩

end Go.Proofs.Ytipmoedflpjioaa
