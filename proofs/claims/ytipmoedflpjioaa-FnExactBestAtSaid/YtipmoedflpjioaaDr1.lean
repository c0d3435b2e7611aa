/- The reader of a code: what a pick leaves as it was. No condition. -/
import Derived.Test.YtipmoedflpjioaaNest
import Derived.Laws.BitsAllLaws
import Derived.Deep.DeepCutAuto
import Derived.Deep.CutBlock
namespace Go.Proofs.Ytipmoedflpjioaa
set_option maxRecDepth 100000
open Go.RowKit

theorem xor_small (a b : Int) (ha : 0 ≤ a) (hb : 0 ≤ b) (ha2 : a < 4611686018427387904) (hb2 : b < 4611686018427387904) : 0 ≤ bits .xor .i64 a b ∧ bits .xor .i64 a b < 4611686018427387904 := by
  have h : (a.toNat ^^^ b.toNat) < 2 ^ 62 := Nat.xor_lt_two_pow (by omega) (by omega)
  have e : bits .xor .i64 a b = IntKind.i64.wrap ((BitVec.ofInt 64 a ^^^ BitVec.ofInt 64 b).toNat : Int) := rfl
  have ea : (BitVec.ofInt 64 a).toNat = a.toNat := by
    rw [BitVec.toNat_ofInt]
    omega
  have eb : (BitVec.ofInt 64 b).toNat = b.toNat := by
    rw [BitVec.toNat_ofInt]
    omega
  rw [e, BitVec.toNat_xor, ea, eb]
  generalize a.toNat ^^^ b.toNat = n at h
  simp [IntKind.wrap, IntKind.bits, IntKind.signed]
  omega

/-- A reader: a block of its own, and a code that lies below 'B'. -/
def Rdr (w : World) (B : Nat) (r : Value) (P : Nat) : Prop :=
  ∃ g a m c p, r = .pointer (some ⟨g, 0, none⟩) ∧ B ≤ g ∧ w.heap[g]? = some (.cells #[.slice a m c, .int .i64 ((p : Nat) : Int)] 102 (0, 0)) ∧ p ≤ P ∧ m ≤ 2000 ∧
    (0 < m → ∃ b off, a = some ⟨b, off, none⟩ ∧ b < B ∧ ∀ k, k < m → ∃ x : Nat, x < 256 ∧ w.cell? ⟨b, off + k, none⟩ = some (.int .u8 x))
theorem Rdr.step {w w' : World} {B P : Nat} {r : Value} {e : TypeId} (h : Rdr w B r P) (hb : Below B w w') (hk : KT e w w') (ne : 102 ≠ e) : Rdr w' B r P := by
  obtain ⟨g, a, m, c, p, hr, hB, hg, hp, hm, hc⟩ := h
  refine ⟨g, a, m, c, p, hr, hB, (hk.2 _ _ _ _ hg ne).trans hg, hp, hm, fun h0 => ?_⟩
  obtain ⟨b, off, ha, hbB, hx⟩ := hc h0
  exact ⟨b, off, ha, hbB, fun k hk' => let ⟨x, h1, h2⟩ := hx k hk'; ⟨x, h1, (Below.cell (p := ⟨b, off + k, none⟩) hb hbB).trans h2⟩⟩
theorem Rdr.le {w : World} {B P : Nat} {r : Value} (h : Rdr w B r P) : B ≤ w.heap.size := by
  obtain ⟨g, a, m, c, p, hr, hB, hg, _⟩ := h
  have := lt_of_heap hg
  omega
theorem Rdr.ext {w w' : World} {B P : Nat} {r : Value} (h : Rdr w B r P) (k : Ext w w') : Rdr w' B r P := h.step (Below.mono k h.le) (k.kt 3) (by decide)
theorem Rdr.mono {w : World} {B P P' : Nat} {r : Value} (h : Rdr w B r P) (k : P ≤ P') : Rdr w B r P' := by
  obtain ⟨g, a, m, c, p, hr, hB, hg, hp, hm, hc⟩ := h
  exact ⟨g, a, m, c, p, hr, hB, hg, by omega, hm, hc⟩

/-- What a drawing function leaves: all but the reader's own block. -/
structure Dr (B : Nat) (r : Value) (P : Nat) (w w' : World) : Prop where
  kt : KT 102 w w'
  bl : Below B w w'
  rd : Rdr w' B r P
  le : B ≤ w.heap.size
theorem Dr.start {B P : Nat} {r : Value} {w : World} (h : Rdr w B r P) : Dr B r P w w := ⟨KT.refl _ _, Below.refl _ _, h, h.le⟩
theorem Dr.trans {B P P' : Nat} {r : Value} {w w1 w2 : World} (h : Dr B r P w w1) (k : Dr B r P' w1 w2) : Dr B r P' w w2 := ⟨h.kt.trans k.kt, Below.trans h.bl k.bl, k.rd, h.le⟩
theorem Dr.ext {B P : Nat} {r : Value} {w w1 w2 : World} (h : Dr B r P w w1) (k : Ext w1 w2) : Dr B r P w w2 := ⟨h.kt.trans (k.kt _), Below.trans h.bl (Below.mono k h.rd.le), h.rd.ext k, h.le⟩
theorem Dr.own {B P : Nat} {r : Value} {w w1 w2 : World} {e : TypeId} (h : Dr B r P w w1) (hb : Below w.heap.size w1 w2) (hk : KT e w1 w2) (ne : 102 ≠ e) : Dr B r P w w2 :=
  ⟨KT.below h.kt hb, Below.trans h.bl (Below.mono hb h.le), h.rd.step (Below.mono hb h.le) hk ne, h.le⟩
theorem Dr.mono {B P P' : Nat} {r : Value} {w w1 : World} (h : Dr B r P w w1) (k : P ≤ P') : Dr B r P' w w1 := ⟨h.kt, h.bl, h.rd.mono k, h.le⟩
theorem Dr.size {B P : Nat} {r : Value} {w w1 : World} (h : Dr B r P w w1) : w.heap.size ≤ w1.heap.size := h.kt.1

theorem Dr.picked {B P : Nat} {w : World} {g m c p : Nat} {a : Option Addr} (hB : B ≤ g) (hg : w.heap[g]? = some (.cells #[.slice a m c, .int .i64 ((p : Nat) : Int)] 102 (0, 0))) (hp : p ≤ P) (hm : m ≤ 2000)
    (hc : 0 < m → ∃ b off, a = some ⟨b, off, none⟩ ∧ b < B ∧ ∀ k, k < m → ∃ x : Nat, x < 256 ∧ w.cell? ⟨b, off + k, none⟩ = some (.int .u8 x)) :
    Dr B (.pointer (some ⟨g, 0, none⟩)) (P + 1) w (w.setCell ⟨g, 1, none⟩ (.int .i64 ((p : Int) + 1))) := by
  have hbl : Below B w (w.setCell ⟨g, 1, none⟩ (.int .i64 ((p : Int) + 1))) := Below.setCell (Below.refl _ _) hB _
  refine ⟨KT.put (p := ⟨g, 1, none⟩) hg _, hbl, ⟨g, a, m, c, p + 1, rfl, hB, ?_, by omega, hm, fun h0 => ?_⟩, by have := lt_of_heap hg; omega⟩
  · rw [heap_put hg]
    simp
  · obtain ⟨b, off, ha, hbB, hx⟩ := hc h0
    exact ⟨b, off, ha, hbB, fun k hk' => let ⟨x, h1, h2⟩ := hx k hk'; ⟨x, h1, (Below.cell (p := ⟨b, off + k, none⟩) hbl hbB).trans h2⟩⟩

set_option maxHeartbeats 1000000 in
theorem pick_any (r : Value) (B P : Nat) (n : Int) (w : World) (h : Rdr w B r P) (hP : P ≤ 1000000) (h1 : 1 ≤ n) (h2 : n ≤ 1000000) :
    Calls Try.prog 89 #[r, .int .i64 n] w fun e w' => ∃ k : Nat, e = .returned (.int .i64 k) ∧ (k : Int) < n ∧ Dr B r (P + 1) w w' := by
  obtain ⟨g, a, m, c, p, rfl, hB, hg, hp, hm, hc⟩ := h
  have hD := Lib.hid (Dr.picked hB hg hp hm hc)
  have k0 : w.cell? ⟨g, 0, none⟩ = some (.slice a m c) := by simp [World.cell?, hg]
  have k1 : w.cell? ⟨g, 1, none⟩ = some (.int .i64 (p : Int)) := by simp [World.cell?, hg]
  have kf : w.frozen? ⟨g, 1, none⟩ = false := by simp [World.frozen?, hg]
  have q0 : (w.setCell ⟨g, 1, none⟩ (.int .i64 ((p : Int) + 1))).cell? ⟨g, 0, none⟩ = some (.slice a m c) := by simp [World.cell?, heap_put hg]
  have q1 : (w.setCell ⟨g, 1, none⟩ (.int .i64 ((p : Int) + 1))).cell? ⟨g, 1, none⟩ = some (.int .i64 ((p : Int) + 1)) := by simp [World.cell?, heap_put hg]
  have hn0 : (decide (n < 1)) = false := by simp; omega
  clear hg
  by_cases hm0 : m = 0
  · subst hm0
    clear hc
    go_enter Try.func89, Try.ntmps89
    go_upto_region 2 with fail
    generalize w.setCell ⟨g, 1, none⟩ (.int .i64 ((p : Int) + 1)) = w1 at *
    go_wp2
    go_ret
    exact ⟨0, rfl, by omega, hD.out⟩
  · obtain ⟨b, off, rfl, hbB, hx⟩ := hc (by omega)
    have hne : b ≠ g := by omega
    have hm1 : ((m : Int) == 0) = false := by simp; omega
    have cell : ∀ k, k < m → ∃ x : Nat, x < 256 ∧ (w.setCell ⟨g, 1, none⟩ (.int .i64 ((p : Int) + 1))).cell? ⟨b, off + k, none⟩ = some (.int .u8 x) := fun k hk => by
      obtain ⟨x, h1, h2⟩ := hx k hk
      refine ⟨x, h1, ?_⟩
      rw [World.cell?_of_block (w := w) (a := ⟨b, off + k, none⟩) (Below.heap_setCell w _ _ b (by simpa using hne))]
      exact h2
    clear hc hx
    by_cases hk : p < m
    · obtain ⟨x, hx1, hx2⟩ := cell p hk
      clear cell
      go_enter Try.func89, Try.ntmps89
      go_upto_region 2 with fail
      generalize w.setCell ⟨g, 1, none⟩ (.int .i64 ((p : Int) + 1)) = w1 at *
      go_wp2
      go_ret
      have hm0 : 0 ≤ (x : Int) % n := Int.emod_nonneg _ (by omega)
      have hm2 : (x : Int) % n < n := Int.emod_lt_of_pos _ (by omega)
      exact ⟨((x : Int) % n).toNat, ret_int (by omega), by omega, hD.out⟩
    · obtain ⟨j, hj, ej⟩ : ∃ j : Nat, j < m ∧ (p : Int) % (m : Int) = (j : Int) := ⟨p % m, Nat.mod_lt _ (by omega), by simp⟩
      obtain ⟨l, hl, el⟩ : ∃ l : Nat, l < m ∧ ((p : Int) * 7 + 3) % (m : Int) = (l : Int) := ⟨(p * 7 + 3) % m, Nat.mod_lt _ (by omega), by simp⟩
      obtain ⟨d, hd, ed⟩ : ∃ d : Nat, d ≤ p ∧ (p : Int) / (m : Int) = (d : Int) := ⟨p / m, Nat.div_le_self _ _, by simp⟩
      obtain ⟨x, hx1, hx2⟩ := cell j hj
      obtain ⟨y, hy1, hy2⟩ := cell l hl
      have j0 : (0 : Int) ≤ (j : Int) := by omega
      have j1 : (j : Int) < (m : Int) := by omega
      have l0 : (0 : Int) ≤ (l : Int) := by omega
      have l1 : (l : Int) < (m : Int) := by omega
      have m0 : ¬ (m : Int) = 0 := by omega
      clear cell
      go_enter Try.func89, Try.ntmps89
      go_upto_region 2 with fail
      generalize w.setCell ⟨g, 1, none⟩ (.int .i64 ((p : Int) + 1)) = w1 at *
      go_wp2
      go_quiet (fail)
      go_wp2
      go_ret
      obtain ⟨u0, u1⟩ := xor_small ((x : Int) * 131 + (y : Int) * 1117 + (p : Int) * 29 + (d : Int) * 53) (((x : Int) * 131 + (y : Int) * 1117 + (p : Int) * 29 + (d : Int) * 53) / 64) (by omega) (by omega) (by omega) (by omega)
      generalize bits .xor .i64 ((x : Int) * 131 + (y : Int) * 1117 + (p : Int) * 29 + (d : Int) * 53) (((x : Int) * 131 + (y : Int) * 1117 + (p : Int) * 29 + (d : Int) * 53) / 64) = z at *
      rw [Int.tmod_eq_emod_of_nonneg u0]
      have hm0 : 0 ≤ z % n := Int.emod_nonneg _ (by omega)
      have hm2 : z % n < n := Int.emod_lt_of_pos _ (by omega)
      exact ⟨(z % n).toNat, ret_int (by omega), by omega, hD.out.ext ((Ext.refl w1).drewN nq)⟩

end Go.Proofs.Ytipmoedflpjioaa
