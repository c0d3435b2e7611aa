/- Units and clusters: as they lie in memory, as they come in, the copies that a law makes of them, their comparison, their marks. No condition. -/
import Derived.Test.YtfidamjepjgknaaMark
import Derived.Test.YtfidamjepjgknaaOpen
namespace Go.Proofs.Ytfidamjepjgknaa
section
set_option maxRecDepth 100000
open Go.RowKit

/-- A node of a cluster, and a cluster. -/
structure Un where
  op : Bool
  ts : List T
structure C where
  room : List Int
  us : List Un
/-- The tasks of all nodes. -/
def binsC (us : List Un) : List (List T) := us.map (·.ts)
theorem binsC_len (us : List Un) : (binsC us).length = us.length := by simp [binsC]
theorem binsC_get {us : List Un} {k : Nat} (h : k < us.length) : (binsC us)[k]'(by rw [binsC_len]; exact h) = us[k].ts := by simp [binsC]
theorem binsC_take (us : List Un) (k : Nat) : binsC (us.take k) = (binsC us).take k := by simp [binsC, List.map_take]
def weighU (us : List Un) : Nat := us.length + weigh (binsC us)
def weighC (c : C) : Nat := c.room.length + weighU c.us

/-- The cells of units: a bool, and a slice of tasks. -/
def UnitCells (w : World) (xs : List Value) (us : List Un) : Prop :=
  xs.length = us.length * 2 ∧ ∀ k (h : k < us.length), xs[k * 2]? = some (.bool us[k].op) ∧ ∃ n, xs[k * 2 + 1]? = some n ∧ Tasks w n us[k].ts
theorem UnitCells.ext {w w' : World} {xs : List Value} {us : List Un} (h : UnitCells w xs us) (k : Ext w w') : UnitCells w' xs us :=
  ⟨h.1, fun j hj => ⟨(h.2 j hj).1, let ⟨n, hn, hi⟩ := (h.2 j hj).2; ⟨n, hn, hi.ext k⟩⟩⟩
/-- A slice of units. -/
def Units (w : World) (v : Value) (us : List Un) : Prop :=
  us.length ≤ lim ∧ ∃ a cap xs, v = .slice a us.length cap ∧ Row w 31 a xs ∧ UnitCells w xs us
theorem Units.ext {w w' : World} {v : Value} {us : List Un} (h : Units w v us) (k : Ext w w') : Units w' v us := by
  obtain ⟨hl, a, cap, xs, hv, hr, hc⟩ := h
  exact ⟨hl, a, cap, xs, hv, hr.ext k, hc.ext k⟩
theorem Units.drew {w : World} {v : Value} {us : List Un} (h : Units w v us) : Units w.drew v us := h.ext (Ext.refl w).drew
theorem Units.open {w : World} {v : Value} {us : List Un} (h : Units w v us) : ∃ a cap, v = .slice a us.length cap ∧ Units w (.slice a us.length cap) us := by
  obtain ⟨hl, a, cap, xs, rfl, hr, hc⟩ := h
  exact ⟨a, cap, rfl, hl, a, cap, xs, rfl, hr, hc⟩
theorem Units.at {w : World} {a : Option Addr} {n cap : Nat} {us : List Un} (h : Units w (.slice a n cap) us) {k : Nat} (hk : k < us.length) :
    ∃ b off nd, a = some ⟨b, off, none⟩ ∧ w.cell? ⟨b, off + k * 2, none⟩ = some (.bool us[k].op) ∧ w.cell? ⟨b, off + k * 2 + 1, none⟩ = some nd ∧ Tasks w nd us[k].ts := by
  obtain ⟨hl, a', cap', xs, hv, hr, hc⟩ := h
  simp only [Value.slice.injEq] at hv
  obtain ⟨rfl, rfl, rfl⟩ := hv
  have hx := hc.1
  obtain ⟨b, off, ha, hcell⟩ := hr.at (by intro e; simp [e] at hx; omega)
  obtain ⟨h1, nd, h2, h3⟩ := hc.2 k hk
  exact ⟨b, off, nd, ha, by rw [hcell _ (by omega), h1], by rw [Nat.add_assoc, hcell _ (by omega), h2], h3⟩
theorem Units.of_own {w : World} {base : Nat} {v : Value} {n : Nat} {xs : List Value} {us : List Un} (h : w.ownsRow base 31 2 v n xs) (hc : UnitCells w xs us) (hl : us.length ≤ lim) : Units w v us := by
  have hn := h.1
  have hc1 := hc.1
  obtain ⟨a, cap, hv, hr⟩ := Row.of_own h
  exact ⟨hl, a, cap, xs, by rw [hv]; congr 1; omega, hr, hc⟩
/-- A cluster by value. -/
def Clu (w : World) (v : Value) (c : C) : Prop := ∃ r u, v = .agg #[r, u] ∧ Ints w r c.room ∧ Units w u c.us
theorem Clu.ext {w w' : World} {v : Value} {c : C} (h : Clu w v c) (k : Ext w w') : Clu w' v c := let ⟨r, u, hv, h1, h2⟩ := h; ⟨r, u, hv, h1.ext k, h2.ext k⟩

/-- A slice of the laws' units that came in. -/
def ArgUnits (w : World) (v : Value) (us : List Un) : Prop :=
  us.length ≤ 9223372036854775807 ∧ ∃ a cap, v = .slice a us.length cap ∧ (0 < us.length → ∃ b off, a = some ⟨b, off, none⟩ ∧ ∀ k (hk : k < us.length), w.cell? ⟨b, off + k * 2, none⟩ = some (.bool us[k].op) ∧ ∃ n, w.cell? ⟨b, off + k * 2 + 1, none⟩ = some n ∧ ArgTasks w n us[k].ts)
theorem ArgUnits.ext {w w' : World} {v : Value} {us : List Un} (h : ArgUnits w v us) (k : Ext w w') : ArgUnits w' v us := by
  obtain ⟨hl, a, cap, hv, hc⟩ := h
  exact ⟨hl, a, cap, hv, fun h0 => let ⟨b, off, ha, hc⟩ := hc h0; ⟨b, off, ha, fun j hj => ⟨k.cell (hc j hj).1, let ⟨n, h1, h2⟩ := (hc j hj).2; ⟨n, k.cell h1, h2.ext k⟩⟩⟩⟩
/-- A cluster that came in. -/
def ArgCluster (w : World) (v : Value) (c : C) : Prop := ∃ r u, v = .agg #[r, u] ∧ ArgInts w r c.room ∧ ArgUnits w u c.us
theorem ArgCluster.ext {w w' : World} {v : Value} {c : C} (h : ArgCluster w v c) (k : Ext w w') : ArgCluster w' v c := let ⟨r, u, hv, h1, h2⟩ := h; ⟨r, u, hv, h1.ext k, h2.ext k⟩

theorem weighU_step {us : List Un} {k : Nat} (h : k < us.length) : weigh (binsC (us.take (k + 1))) = weigh (binsC (us.take k)) + (us[k].ts.length + needs us[k].ts) := by
  rw [binsC_take, binsC_take, weigh_step (by rw [binsC_len]; exact h), binsC_get h]
theorem weighU_le {us : List Un} {k : Nat} (h : k < us.length) : us[k].ts.length + needs us[k].ts ≤ weigh (binsC us) := by
  have := weigh_le (bs := binsC us) (k := k) (by rw [binsC_len]; exact h)
  rwa [binsC_get h] at this

end
end Go.Proofs.Ytfidamjepjgknaa
