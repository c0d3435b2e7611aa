/- Units and clusters: as they lie in memory, as they come in, the copies that a law makes of them, their comparison, their marks. No condition. -/
import Derived.Test.YtcijbpjiioodlaaMark
import Derived.Test.YtcijbpjiioodlaaOpen
namespace Go.Proofs.Ytcijbpjiioodlaa
section
set_option maxRecDepth 100000
open Go.RowKit

/-- A node of a cluster, and a cluster. -/
structure Un where
  op : Bool
  ts : List T
structure C where
  room : List Int
  us : List Un
/-- The tasks of all nodes. -/
def binsC (us : List Un) : List (List T) := us.map (·.ts)
theorem binsC_len (us : List Un) : (binsC us).length = us.length := by simp [binsC]
theorem binsC_get {us : List Un} {k : Nat} (h : k < us.length) : (binsC us)[k]'(by rw [binsC_len]; exact h) = us[k].ts := by simp [binsC]
theorem binsC_take (us : List Un) (k : Nat) : binsC (us.take k) = (binsC us).take k := by simp [binsC, List.map_take]
def weighU (us : List Un) : Nat := us.length + weigh (binsC us)
def weighC (c : C) : Nat := c.room.length + weighU c.us

/-- The cells of units: a bool, and a slice of tasks. -/
def UnitCells (w : World) (xs : List Value) (us : List Un) : Prop :=
  xs.length = us.length * 2 ∧ ∀ k (h : k < us.length), xs[k * 2]? = some (.bool us[k].op) ∧ ∃ n, xs[k * 2 + 1]? = some n ∧ Tasks w n us[k].ts
theorem UnitCells.ext {w w' : World} {xs : List Value} {us : List Un} (h : UnitCells w xs us) (k : Ext w w') : UnitCells w' xs us :=
  ⟨h.1, fun j hj => ⟨(h.2 j hj).1, let ⟨n, hn, hi⟩ := (h.2 j hj).2; ⟨n, hn, hi.ext k⟩⟩⟩
/-- A slice of units. -/
def Units (w : World) (v : Value) (us : List Un) : Prop :=
  us.length ≤ lim ∧ ∃ a cap xs, v = .slice a us.length cap ∧ Row w 38 a xs ∧ UnitCells w xs us
theorem Units.ext {w w' : World} {v : Value} {us : List Un} (h : Units w v us) (k : Ext w w') : Units w' v us := by
  obtain ⟨hl, a, cap, xs, hv, hr, hc⟩ := h
  exact ⟨hl, a, cap, xs, hv, hr.ext k, hc.ext k⟩
theorem Units.drew {w : World} {v : Value} {us : List Un} (h : Units w v us) : Units w.drew v us := h.ext (Ext.refl w).drew
theorem Units.open {w : World} {v : Value} {us : List Un} (h : Units w v us) : ∃ a cap, v = .slice a us.length cap ∧ Units w (.slice a us.length cap) us := by
  obtain ⟨hl, a, cap, xs, rfl, hr, hc⟩ := h
  exact ⟨a, cap, rfl, hl, a, cap, xs, rfl, hr, hc⟩
theorem Units.at {w : World} {a : Option Addr} {n cap : Nat} {us : List Un} (h : Units w (.slice a n cap) us) {k : Nat} (hk : k < us.length) :
    ∃ b off nd, a = some ⟨b, off, none⟩ ∧ w.cell? ⟨b, off + k * 2, none⟩ = some (.bool us[k].op) ∧ w.cell? ⟨b, off + k * 2 + 1, none⟩ = some nd ∧ Tasks w nd us[k].ts := by
  obtain ⟨hl, a', cap', xs, hv, hr, hc⟩ := h
  simp only [Value.slice.injEq] at hv
  obtain ⟨rfl, rfl, rfl⟩ := hv
  have hx := hc.1
  obtain ⟨b, off, ha, hcell⟩ := hr.at (by intro e; simp [e] at hx; omega)
  obtain ⟨h1, nd, h2, h3⟩ := hc.2 k hk
  exact ⟨b, off, nd, ha, by rw [hcell _ (by omega), h1], by rw [Nat.add_assoc, hcell _ (by omega), h2], h3⟩
theorem Units.of_own {w : World} {base : Nat} {v : Value} {n : Nat} {xs : List Value} {us : List Un} (h : w.ownsRow base 38 2 v n xs) (hc : UnitCells w xs us) (hl : us.length ≤ lim) : Units w v us := by
  have hn := h.1
  have hc1 := hc.1
  obtain ⟨a, cap, hv, hr⟩ := Row.of_own h
  exact ⟨hl, a, cap, xs, by rw [hv]; congr 1; omega, hr, hc⟩
/-- A cluster by value. -/
def Clu (w : World) (v : Value) (c : C) : Prop := ∃ r u, v = .agg #[r, u] ∧ Ints w r c.room ∧ Units w u c.us
theorem Clu.ext {w w' : World} {v : Value} {c : C} (h : Clu w v c) (k : Ext w w') : Clu w' v c := let ⟨r, u, hv, h1, h2⟩ := h; ⟨r, u, hv, h1.ext k, h2.ext k⟩

/-- A slice of the laws' units that came in. -/
def ArgUnits (w : World) (v : Value) (us : List Un) : Prop :=
  us.length ≤ 9223372036854775807 ∧ ∃ a cap, v = .slice a us.length cap ∧ (0 < us.length → ∃ b off, a = some ⟨b, off, none⟩ ∧ ∀ k (hk : k < us.length), w.cell? ⟨b, off + k * 2, none⟩ = some (.bool us[k].op) ∧ ∃ n, w.cell? ⟨b, off + k * 2 + 1, none⟩ = some n ∧ ArgTasks w n us[k].ts)
theorem ArgUnits.ext {w w' : World} {v : Value} {us : List Un} (h : ArgUnits w v us) (k : Ext w w') : ArgUnits w' v us := by
  obtain ⟨hl, a, cap, hv, hc⟩ := h
  exact ⟨hl, a, cap, hv, fun h0 => let ⟨b, off, ha, hc⟩ := hc h0; ⟨b, off, ha, fun j hj => ⟨k.cell (hc j hj).1, let ⟨n, h1, h2⟩ := (hc j hj).2; ⟨n, k.cell h1, h2.ext k⟩⟩⟩⟩
/-- A cluster that came in. -/
def ArgCluster (w : World) (v : Value) (c : C) : Prop := ∃ r u, v = .agg #[r, u] ∧ ArgInts w r c.room ∧ ArgUnits w u c.us
theorem ArgCluster.ext {w w' : World} {v : Value} {c : C} (h : ArgCluster w v c) (k : Ext w w') : ArgCluster w' v c := let ⟨r, u, hv, h1, h2⟩ := h; ⟨r, u, hv, h1.ext k, h2.ext k⟩

theorem weighU_step {us : List Un} {k : Nat} (h : k < us.length) : weigh (binsC (us.take (k + 1))) = weigh (binsC (us.take k)) + (us[k].ts.length + needs us[k].ts) := by
  rw [binsC_take, binsC_take, weigh_step (by rw [binsC_len]; exact h), binsC_get h]
theorem weighU_le {us : List Un} {k : Nat} (h : k < us.length) : us[k].ts.length + needs us[k].ts ≤ weigh (binsC us) := by
  have := weigh_le (bs := binsC us) (k := k) (by rw [binsC_len]; exact h)
  rwa [binsC_get h] at this

set_option maxHeartbeats 400000 in
theorem szUnit_any (op : Bool) (n : Value) (ts : List T) (left : Int) (w : World) (h : ArgTasks w n ts) (h0 : 0 ≤ left) (h1 : left ≤ 1048576) :
    Calls Try.prog 124 #[.agg #[.bool op, n], .int .i64 left] w (SzPost (ts.length + needs ts) left w) := by
  have h2 := h
  obtain ⟨hl, a, cap, rfl, hh⟩ := h2
  clear hh
  go_enter Try.func124, Try.ntmps124
  go_wp2_with fail
  have hEx : Ext w _ := (Ext.refl w).alloc (Obj.cells #[.bool op, .slice a ts.length cap] 129)
  refine (szTaskS_any _ _ _ _ (h.ext hEx) h0 h1).mono ?_
  rintro e w1 ⟨r, rfl, hr, hE⟩
  have hE1 := hEx.trans hE
  clear hE hEx
  rcases hr with rfl | ⟨hr0, hr1⟩
  · go_wp2
    go_ret
    exact ⟨-1, rfl, .inl rfl, hE1⟩
  · have Hr1 := Lib.hid hr1
    clear hr1
    go_wp2
    go_ret
    exact ⟨r, rfl, .inr ⟨hr0, Hr1.out⟩, hE1⟩

set_option maxHeartbeats 600000 in
theorem szUnitS_any (v : Value) (us : List Un) (left : Int) (w : World) (h : ArgUnits w v us) (h0 : 0 ≤ left) (h1 : left ≤ 1048576) :
    Calls Try.prog 74 #[v, .int .i64 left] w (SzPost (weighU us) left w) := by
  obtain ⟨hl, a, cap, rfl, hc⟩ := h
  have Hc := Lib.hid hc
  clear hc
  have hwu : weighU us = us.length + weigh (binsC us) := rfl
  rw [hwu]
  clear hwu
  by_cases hlt : left - us.length < 0
  · go_enter Try.func74, Try.ntmps74
    go_wp2
    go_ret
    exact ⟨-1, rfl, .inl rfl, Ext.refl _⟩
  · go_enter Try.func74, Try.ntmps74
    go_wp2
    go_loopw [1, 5] (fun l i wr => ∃ (k : Nat) (m : Int), k ≤ us.length ∧ i = .int .i64 k ∧ l = .int .i64 m ∧ 0 ≤ m ∧ m + (us.length + weigh (binsC (us.take k)) : Nat) = left ∧ Ext w wr) (fun _ i _ => us.length - (intOf i).toNat)
    case atStart => exact ⟨0, left - us.length, by omega, rfl, rfl, by omega, by simp [weigh, binsC], Ext.refl _⟩
    case round =>
      obtain ⟨k, m, hk, rfl, rfl, hm0, hm, hE⟩ := hrel
      have Hm := Lib.hid hm
      have hm1 : m ≤ 1048576 := by omega
      clear hm
      by_cases hkl : k < us.length
      · obtain ⟨b, off, rfl, hc⟩ := Hc.out (by omega)
        obtain ⟨c0, n, c1, hn⟩ := hc k hkl
        have c0' := hE.cell c0
        have c1' := hE.cell c1
        have Hn := Lib.hid (hn.ext hE)
        obtain ⟨an, cn, rfl, -⟩ := hn.2
        have Hst := Lib.hid (weighU_step hkl)
        clear c0 c1 hc hn
        go_wp2_with fail
        refine (szUnit_any _ _ _ _ _ Hn.out hm0 hm1).mono ?_
        rintro e w1 ⟨r, rfl, hr, hE2⟩
        have hE3 := hE.trans hE2
        clear hE hE2
        rcases hr with rfl | ⟨hr0, hr1⟩
        · go_wp2
          go_ret
          exact ⟨-1, rfl, .inl rfl, hE3⟩
        · have Hr1 := Lib.hid hr1
          clear hr1
          go_wp2
          go_roundw
          case rel => exact ⟨k + 1, r, by omega, by go_num, rfl, hr0, by have := Hr1.out; have := Hm.out; have := Hst.out; omega, hE3⟩
          case measure => simp [intOf]; omega
      · have e : k = us.length := by omega
        subst e
        have Hm2 := Lib.hid (show m + (us.length + weigh (binsC us) : Nat) = left by have := Hm.out; rwa [List.take_length] at this)
        clear Hm
        go_wp2
        go_ret
        exact ⟨m, rfl, .inr ⟨hm0, Hm2.out⟩, hE⟩

set_option maxHeartbeats 400000 in
theorem szCluster_any (v : Value) (c : C) (left : Int) (w : World) (h : ArgCluster w v c) (h0 : 0 ≤ left) (h1 : left ≤ 1048576) :
    Calls Try.prog 20 #[v, .int .i64 left] w (SzPost (weighC c) left w) := by
  obtain ⟨r, u, rfl, hr, hu⟩ := h
  have Hr := Lib.hid hr
  have Hu := Lib.hid hu
  obtain ⟨_, ra, rc, rfl, -⟩ := hr
  obtain ⟨_, ua, uc, rfl, -⟩ := hu
  have hwc : Hid (weighC c = c.room.length + weighU c.us) := rfl
  go_enter Try.func20, Try.ntmps20
  go_wp2_with fail
  have hEx : Ext w _ := (Ext.refl w).alloc (Obj.cells #[.slice ra c.room.length rc, .slice ua c.us.length uc] 25)
  have c1 : (w.alloc (Obj.cells #[.slice ra c.room.length rc, .slice ua c.us.length uc] 25)).cell? ⟨w.heap.size, 1, none⟩ = some (.slice ua c.us.length uc) := by rw [box_cell]; rfl
  generalize w.alloc (Obj.cells #[.slice ra c.room.length rc, .slice ua c.us.length uc] 25) = W at *
  refine (szIntS_any _ _ _ _ (Hr.out.ext hEx) h0 h1).mono ?_
  rintro e w1 ⟨r, rfl, hr, hE⟩
  have hE1 := hEx.trans hE
  have c1' := hE.cell c1
  clear hE hEx c1
  rcases hr with rfl | ⟨hr0, hr1⟩
  · go_wp2
    go_ret
    exact ⟨-1, rfl, .inl rfl, hE1⟩
  · have Hr1 := Lib.hid hr1
    have hr2 : r ≤ 1048576 := by omega
    clear hr1
    go_wp2_with fail
    refine (szUnitS_any _ _ _ _ (Hu.out.ext hE1) hr0 hr2).mono ?_
    rintro e w2 ⟨q, rfl, hq, hE⟩
    have hE2 := hE1.trans hE
    clear hE1 hE
    rcases hq with rfl | ⟨hq0, hq1⟩
    · go_wp2
      go_ret
      exact ⟨-1, rfl, .inl rfl, hE2⟩
    · have Hq := Lib.hid hq1
      clear hq1
      go_wp2
      go_ret
      exact ⟨q, rfl, .inr ⟨hq0, by have := Hq.out; have := Hr1.out; rw [hwc.out]; omega⟩, hE2⟩
end
end Go.Proofs.Ytcijbpjiioodlaa
