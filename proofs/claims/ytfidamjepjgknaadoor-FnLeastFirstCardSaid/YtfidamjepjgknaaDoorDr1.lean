/- The reader of a code: what a pick leaves as it was. Drawn rooms and tasks: some numbers, bounded. A drawn task. No condition. -/
import Derived.Test.YtfidamjepjgknaaDoorOwn
import Derived.Laws.BitsAllLaws
import Derived.Deep.DeepCutAuto
import Derived.Deep.CutBlock
import Derived.Test.YtfidamjepjgknaaDoorS5
import Derived.Deep.RegionHeld3
namespace Go.Proofs.YtfidamjepjgknaaDoor
section
set_option maxRecDepth 100000
open Go.RowKit

theorem xor_small (a b : Int) (ha : 0 ≤ a) (hb : 0 ≤ b) (ha2 : a < 4611686018427387904) (hb2 : b < 4611686018427387904) : 0 ≤ bits .xor .i64 a b ∧ bits .xor .i64 a b < 4611686018427387904 := by
  have h : (a.toNat ^^^ b.toNat) < 2 ^ 62 := Nat.xor_lt_two_pow (by omega) (by omega)
  have e : bits .xor .i64 a b = IntKind.i64.wrap ((BitVec.ofInt 64 a ^^^ BitVec.ofInt 64 b).toNat : Int) := rfl
  have ea : (BitVec.ofInt 64 a).toNat = a.toNat := by
    rw [BitVec.toNat_ofInt]
    omega
  have eb : (BitVec.ofInt 64 b).toNat = b.toNat := by
    rw [BitVec.toNat_ofInt]
    omega
  rw [e, BitVec.toNat_xor, ea, eb]
  generalize a.toNat ^^^ b.toNat = n at h
  simp [IntKind.wrap, IntKind.bits, IntKind.signed]
  omega

/-- A reader: a block of its own, and a code that lies below 'B'. -/
def Rdr (w : World) (B : Nat) (r : Value) (P : Nat) : Prop :=
  ∃ g a m c p, r = .pointer (some ⟨g, 0, none⟩) ∧ B ≤ g ∧ w.heap[g]? = some (.cells #[.slice a m c, .int .i64 ((p : Nat) : Int)] 52 (0, 0)) ∧ p ≤ P ∧ m ≤ 2000 ∧
    (0 < m → ∃ b off, a = some ⟨b, off, none⟩ ∧ b < B ∧ ∀ k, k < m → ∃ x : Nat, x < 256 ∧ w.cell? ⟨b, off + k, none⟩ = some (.int .u8 x))
theorem Rdr.step {w w' : World} {B P : Nat} {r : Value} {e : TypeId} (h : Rdr w B r P) (hb : Below B w w') (hk : KT e w w') (ne : 52 ≠ e) : Rdr w' B r P := by
  obtain ⟨g, a, m, c, p, hr, hB, hg, hp, hm, hc⟩ := h
  refine ⟨g, a, m, c, p, hr, hB, (hk.2 _ _ _ _ hg ne).trans hg, hp, hm, fun h0 => ?_⟩
  obtain ⟨b, off, ha, hbB, hx⟩ := hc h0
  exact ⟨b, off, ha, hbB, fun k hk' => let ⟨x, h1, h2⟩ := hx k hk'; ⟨x, h1, (Below.cell (p := ⟨b, off + k, none⟩) hb hbB).trans h2⟩⟩
theorem Rdr.le {w : World} {B P : Nat} {r : Value} (h : Rdr w B r P) : B ≤ w.heap.size := by
  obtain ⟨g, a, m, c, p, hr, hB, hg, _⟩ := h
  have := lt_of_heap hg
  omega
theorem Rdr.ext {w w' : World} {B P : Nat} {r : Value} (h : Rdr w B r P) (k : Ext w w') : Rdr w' B r P := h.step (Below.mono k h.le) (k.kt 3) (by decide)
theorem Rdr.mono {w : World} {B P P' : Nat} {r : Value} (h : Rdr w B r P) (k : P ≤ P') : Rdr w B r P' := by
  obtain ⟨g, a, m, c, p, hr, hB, hg, hp, hm, hc⟩ := h
  exact ⟨g, a, m, c, p, hr, hB, hg, by omega, hm, hc⟩

/-- What a drawing function leaves: all but the reader's own block. -/
structure Dr (B : Nat) (r : Value) (P : Nat) (w w' : World) : Prop where
  kt : KT 52 w w'
  bl : Below B w w'
  rd : Rdr w' B r P
  le : B ≤ w.heap.size
theorem Dr.start {B P : Nat} {r : Value} {w : World} (h : Rdr w B r P) : Dr B r P w w := ⟨KT.refl _ _, Below.refl _ _, h, h.le⟩
theorem Dr.trans {B P P' : Nat} {r : Value} {w w1 w2 : World} (h : Dr B r P w w1) (k : Dr B r P' w1 w2) : Dr B r P' w w2 := ⟨h.kt.trans k.kt, Below.trans h.bl k.bl, k.rd, h.le⟩
theorem Dr.ext {B P : Nat} {r : Value} {w w1 w2 : World} (h : Dr B r P w w1) (k : Ext w1 w2) : Dr B r P w w2 := ⟨h.kt.trans (k.kt _), Below.trans h.bl (Below.mono k h.rd.le), h.rd.ext k, h.le⟩
theorem Dr.own {B P : Nat} {r : Value} {w w1 w2 : World} {e : TypeId} (h : Dr B r P w w1) (hb : Below w.heap.size w1 w2) (hk : KT e w1 w2) (ne : 52 ≠ e) : Dr B r P w w2 :=
  ⟨KT.below h.kt hb, Below.trans h.bl (Below.mono hb h.le), h.rd.step (Below.mono hb h.le) hk ne, h.le⟩
theorem Dr.mono {B P P' : Nat} {r : Value} {w w1 : World} (h : Dr B r P w w1) (k : P ≤ P') : Dr B r P' w w1 := ⟨h.kt, h.bl, h.rd.mono k, h.le⟩
theorem Dr.size {B P : Nat} {r : Value} {w w1 : World} (h : Dr B r P w w1) : w.heap.size ≤ w1.heap.size := h.kt.1

theorem Dr.picked {B P : Nat} {w : World} {g m c p : Nat} {a : Option Addr} (hB : B ≤ g) (hg : w.heap[g]? = some (.cells #[.slice a m c, .int .i64 ((p : Nat) : Int)] 52 (0, 0))) (hp : p ≤ P) (hm : m ≤ 2000)
    (hc : 0 < m → ∃ b off, a = some ⟨b, off, none⟩ ∧ b < B ∧ ∀ k, k < m → ∃ x : Nat, x < 256 ∧ w.cell? ⟨b, off + k, none⟩ = some (.int .u8 x)) :
    Dr B (.pointer (some ⟨g, 0, none⟩)) (P + 1) w (w.setCell ⟨g, 1, none⟩ (.int .i64 ((p : Int) + 1))) := by
  have hbl : Below B w (w.setCell ⟨g, 1, none⟩ (.int .i64 ((p : Int) + 1))) := Below.setCell (Below.refl _ _) hB _
  refine ⟨KT.put (p := ⟨g, 1, none⟩) hg _, hbl, ⟨g, a, m, c, p + 1, rfl, hB, ?_, by omega, hm, fun h0 => ?_⟩, by have := lt_of_heap hg; omega⟩
  · rw [heap_put hg]
    simp
  · obtain ⟨b, off, ha, hbB, hx⟩ := hc h0
    exact ⟨b, off, ha, hbB, fun k hk' => let ⟨x, h1, h2⟩ := hx k hk'; ⟨x, h1, (Below.cell (p := ⟨b, off + k, none⟩) hbl hbB).trans h2⟩⟩

set_option maxHeartbeats 1000000 in
theorem pick_any (r : Value) (B P : Nat) (n : Int) (w : World) (h : Rdr w B r P) (hP : P ≤ 1000000) (h1 : 1 ≤ n) (h2 : n ≤ 1000000) :
    Calls Tryd.prog 19 #[r, .int .i64 n] w fun e w' => ∃ k : Nat, e = .returned (.int .i64 k) ∧ (k : Int) < n ∧ Dr B r (P + 1) w w' := by
  obtain ⟨g, a, m, c, p, rfl, hB, hg, hp, hm, hc⟩ := h
  have hD := Lib.hid (Dr.picked hB hg hp hm hc)
  have k0 : w.cell? ⟨g, 0, none⟩ = some (.slice a m c) := by simp [World.cell?, hg]
  have k1 : w.cell? ⟨g, 1, none⟩ = some (.int .i64 (p : Int)) := by simp [World.cell?, hg]
  have kf : w.frozen? ⟨g, 1, none⟩ = false := by simp [World.frozen?, hg]
  have q0 : (w.setCell ⟨g, 1, none⟩ (.int .i64 ((p : Int) + 1))).cell? ⟨g, 0, none⟩ = some (.slice a m c) := by simp [World.cell?, heap_put hg]
  have q1 : (w.setCell ⟨g, 1, none⟩ (.int .i64 ((p : Int) + 1))).cell? ⟨g, 1, none⟩ = some (.int .i64 ((p : Int) + 1)) := by simp [World.cell?, heap_put hg]
  have hn0 : (decide (n < 1)) = false := by simp; omega
  clear hg
  by_cases hm0 : m = 0
  · subst hm0
    clear hc
    go_enter Tryd.func19, Tryd.ntmps19
    go_upto_region 2 with fail
    generalize w.setCell ⟨g, 1, none⟩ (.int .i64 ((p : Int) + 1)) = w1 at *
    go_wp2
    go_ret
    exact ⟨0, rfl, by omega, hD.out⟩
  · obtain ⟨b, off, rfl, hbB, hx⟩ := hc (by omega)
    have hne : b ≠ g := by omega
    have hm1 : ((m : Int) == 0) = false := by simp; omega
    have cell : ∀ k, k < m → ∃ x : Nat, x < 256 ∧ (w.setCell ⟨g, 1, none⟩ (.int .i64 ((p : Int) + 1))).cell? ⟨b, off + k, none⟩ = some (.int .u8 x) := fun k hk => by
      obtain ⟨x, h1, h2⟩ := hx k hk
      refine ⟨x, h1, ?_⟩
      rw [World.cell?_of_block (w := w) (a := ⟨b, off + k, none⟩) (Below.heap_setCell w _ _ b (by simpa using hne))]
      exact h2
    clear hc hx
    by_cases hk : p < m
    · obtain ⟨x, hx1, hx2⟩ := cell p hk
      clear cell
      go_enter Tryd.func19, Tryd.ntmps19
      go_upto_region 2 with fail
      generalize w.setCell ⟨g, 1, none⟩ (.int .i64 ((p : Int) + 1)) = w1 at *
      go_wp2
      go_ret
      have hm0 : 0 ≤ (x : Int) % n := Int.emod_nonneg _ (by omega)
      have hm2 : (x : Int) % n < n := Int.emod_lt_of_pos _ (by omega)
      exact ⟨((x : Int) % n).toNat, ret_int (by omega), by omega, hD.out⟩
    · obtain ⟨j, hj, ej⟩ : ∃ j : Nat, j < m ∧ (p : Int) % (m : Int) = (j : Int) := ⟨p % m, Nat.mod_lt _ (by omega), by simp⟩
      obtain ⟨l, hl, el⟩ : ∃ l : Nat, l < m ∧ ((p : Int) * 7 + 3) % (m : Int) = (l : Int) := ⟨(p * 7 + 3) % m, Nat.mod_lt _ (by omega), by simp⟩
      obtain ⟨d, hd, ed⟩ : ∃ d : Nat, d ≤ p ∧ (p : Int) / (m : Int) = (d : Int) := ⟨p / m, Nat.div_le_self _ _, by simp⟩
      obtain ⟨x, hx1, hx2⟩ := cell j hj
      obtain ⟨y, hy1, hy2⟩ := cell l hl
      have j0 : (0 : Int) ≤ (j : Int) := by omega
      have j1 : (j : Int) < (m : Int) := by omega
      have l0 : (0 : Int) ≤ (l : Int) := by omega
      have l1 : (l : Int) < (m : Int) := by omega
      have m0 : ¬ (m : Int) = 0 := by omega
      clear cell
      go_enter Tryd.func19, Tryd.ntmps19
      go_upto_region 2 with fail
      generalize w.setCell ⟨g, 1, none⟩ (.int .i64 ((p : Int) + 1)) = w1 at *
      go_wp2
      go_quiet (fail)
      go_wp2
      go_ret
      obtain ⟨u0, u1⟩ := xor_small ((x : Int) * 131 + (y : Int) * 1117 + (p : Int) * 29 + (d : Int) * 53) (((x : Int) * 131 + (y : Int) * 1117 + (p : Int) * 29 + (d : Int) * 53) / 64) (by omega) (by omega) (by omega) (by omega)
      generalize bits .xor .i64 ((x : Int) * 131 + (y : Int) * 1117 + (p : Int) * 29 + (d : Int) * 53) (((x : Int) * 131 + (y : Int) * 1117 + (p : Int) * 29 + (d : Int) * 53) / 64) = z at *
      rw [Int.tmod_eq_emod_of_nonneg u0]
      have hm0 : 0 ≤ z % n := Int.emod_nonneg _ (by omega)
      have hm2 : z % n < n := Int.emod_lt_of_pos _ (by omega)
      exact ⟨(z % n).toNat, ret_int (by omega), by omega, hD.out.ext ((Ext.refl w1).drewN nq)⟩
end

section
set_option maxRecDepth 100000
open Go.RowKit

/-- Three bounded numbers. -/
def Dn (xs : List Int) : Prop := xs.length = 3 ∧ ∀ n ∈ xs, 0 ≤ n ∧ n ≤ 100
def DnT (ts : List T) : Prop := ∀ t ∈ ts, Dn t.need
theorem Dn.good1 {t : T} (h : Dn t.need) : Good1 t := ⟨h.1, fun n hn => by have := h.2 n hn; omega⟩
theorem DnT.good {ts : List T} (h : DnT ts) : Good ts := fun t ht => (h t ht).good1
theorem Dn.edit {xs ys : List Int} {x : Int} (h : Dn xs) (h0 : 0 ≤ x) (h1 : x ≤ 100) (hl : ys.length = xs.length) (hy : ∀ y ∈ ys, y ∈ xs ∨ y = x) : Dn ys :=
  ⟨by rw [hl]; exact h.1, fun n hn => (hy n hn).elim (fun h2 => h.2 n h2) (fun h2 => by rw [h2]; exact ⟨h0, h1⟩)⟩

/-- The block that a slice of numbers lies in. -/
theorem Ints.blk {w : World} {a : Option Addr} {n c : Nat} {xs : List Int} (h : Ints w (.slice a n c) xs) (h0 : 0 < xs.length) :
    ∃ b off cs, a = some ⟨b, off, none⟩ ∧ w.heap[b]? = some (Obj.cells cs 3 (0, 0)) ∧ (∀ k (hk : k < xs.length), w.cell? ⟨b, off + k, none⟩ = some (.int .i64 xs[k])) ∧ ∀ k, w.frozen? ⟨b, k, none⟩ = false := by
  obtain ⟨hl, a', cap', hv, hr⟩ := h
  simp only [Value.slice.injEq] at hv
  obtain ⟨rfl, rfl, rfl⟩ := hv
  rcases hr with hr | ⟨b, off, cs, ha, hb, hc⟩
  · simp at hr; simp [hr] at h0
  · refine ⟨b, off, cs, ha, hb, fun k hk => ?_, fun k => by simp [World.frozen?, hb]⟩
    have := hc k (by simpa using hk)
    simp only [World.cell?, hb]
    rw [show cs[off + k]? = _ from this]
    simp [hk]
/-- A number is written: every slice of numbers is still one, of the same length. -/
theorem Ints.put {w : World} {v : Value} {xs : List Int} (h : Ints w v xs) {b k : Nat} {cs : Array Value} (hb : w.heap[b]? = some (Obj.cells cs 3 (0, 0))) (x : Int) :
    ∃ ys, Ints (w.setCell ⟨b, k, none⟩ (.int .i64 x)) v ys ∧ ys.length = xs.length ∧ ∀ y ∈ ys, y ∈ xs ∨ y = x := by
  obtain ⟨hl, a, cap, hv, hr⟩ := h
  rcases hr with hr | ⟨b', off, cs', ha, hb', hc⟩
  · have : xs = [] := by simpa using hr
    subst this
    exact ⟨[], ⟨hl, a, cap, hv, .inl rfl⟩, rfl, fun y hy => by simp at hy⟩
  · by_cases e : b' = b
    · subst e
      rw [hb'] at hb
      simp only [Option.some.injEq, Obj.cells.injEq, and_true] at hb
      subst hb
      by_cases hin : off ≤ k ∧ k < off + xs.length
      · refine ⟨xs.set (k - off) x, ⟨by simpa using hl, a, cap, by simpa using hv, .inr ⟨b', off, _, ha, heap_put hb' _, fun j hj => ?_⟩⟩, by simp, fun y hy => ?_⟩
        · simp only [List.length_map, List.length_set] at hj
          have := hc j (by simpa using hj)
          rw [Array.getElem?_setIfInBounds]
          by_cases ej : off + j = k
          · have hsz : k < cs'.size := by
              rcases Nat.lt_or_ge k cs'.size with h | h
              · exact h
              · rw [ej, Array.getElem?_eq_none h] at this
                simp [hj] at this
            rw [if_pos ej.symm, if_pos hsz]
            have : k - off = j := by omega
            subst this
            simp [hj]
          · rw [if_neg (by omega), this]
            simp only [List.getElem?_map]
            rw [List.getElem?_set_ne (by omega)]
        · rcases List.mem_or_eq_of_mem_set hy with h | h
          · exact .inl h
          · exact .inr h
      · refine ⟨xs, ⟨hl, a, cap, hv, .inr ⟨b', off, _, ha, heap_put hb' _, fun j hj => ?_⟩⟩, rfl, fun y hy => .inl hy⟩
        simp only [List.length_map] at hj
        rw [Array.getElem?_setIfInBounds, if_neg (by omega)]
        exact hc j (by simpa using hj)
    · refine ⟨xs, ⟨hl, a, cap, hv, .inr ⟨b', off, cs', ha, ?_, hc⟩⟩, rfl, fun y hy => .inl hy⟩
      rw [Below.heap_setCell _ _ _ _ (by simpa using e)]
      exact hb'

/-- A number of a need is written. -/
theorem OwnTasks.putNeed {w : World} {B : Nat} {v : Value} {ts : List T} (h : OwnTasks w B v ts) (hd : DnT ts) {b k : Nat} {cs : Array Value} (hb : w.heap[b]? = some (Obj.cells cs 3 (0, 0))) {x : Int} (h0 : 0 ≤ x) (h1 : x ≤ 100) :
    ∃ us, OwnTasks (w.setCell ⟨b, k, none⟩ (.int .i64 x)) B v us ∧ us.length = ts.length ∧ DnT us := by
  obtain ⟨xs, ho, hl, hc⟩ := h
  have hkt := KT.put (p := ⟨b, k, none⟩) hb (.int .i64 x)
  have each : ∀ i : Fin ts.length, ∃ ys : List Int, (∃ n, xs[i.1 * 2 + 1]? = some n ∧ Ints (w.setCell ⟨b, k, none⟩ (.int .i64 x)) n ys) ∧ Dn ys := fun i => by
    obtain ⟨_, n, hn, hi⟩ := hc i.1 i.2
    obtain ⟨ys, hy, hyl, hm⟩ := hi.put (k := k) hb x
    exact ⟨ys, ⟨n, hn, hy⟩, (hd _ (List.getElem_mem i.2)).edit h0 h1 hyl hm⟩
  obtain ⟨f, hf⟩ := Classical.axiomOfChoice each
  have hlen : (List.ofFn fun i : Fin ts.length => T.mk ts[i].id (f i)).length = ts.length := by simp
  refine ⟨List.ofFn fun i : Fin ts.length => T.mk ts[i].id (f i), ⟨xs, by rw [hlen]; exact ownsRow_kt ho hkt (by decide), by rw [hlen]; exact hl, fun j hj => ?_⟩, hlen, fun t ht => ?_⟩
  · rw [hlen] at hj
    have := (hf ⟨j, hj⟩).1
    simp only [List.getElem_ofFn]
    exact ⟨(hc j hj).1, this⟩
  · obtain ⟨i, rfl⟩ := List.mem_ofFn.1 ht
    exact (hf i).2
/-- A task's number is written. -/
theorem OwnTasks.putId {w : World} {B g c : Nat} {ts : List T} (h : OwnTasks w B (.slice (some ⟨g, 0, none⟩) ts.length c) ts) {k : Nat} (hk : k < ts.length) (id : Int) :
    OwnTasks (w.setCell ⟨g, k * 2, none⟩ (.int .i64 id)) B (.slice (some ⟨g, 0, none⟩) ts.length c) (ts.set k ⟨id, ts[k].need⟩) ∧ KT 31 w (w.setCell ⟨g, k * 2, none⟩ (.int .i64 id)) ∧ Below B w (w.setCell ⟨g, k * 2, none⟩ (.int .i64 id)) ∧ w.frozen? ⟨g, k * 2, none⟩ = false := by
  obtain ⟨xs, ho, hl, hc⟩ := h
  obtain ⟨p1, p2, p3, p4⟩ := ownsRow_put ho (k := k * 2) (by omega) (.int .i64 id)
  refine ⟨⟨xs.set (k * 2) (.int .i64 id), by simpa using p1, by simpa using hl, fun j hj => ?_⟩, p2, p3, p4⟩
  simp only [List.length_set] at hj
  obtain ⟨q1, n, q2, q3⟩ := hc j hj
  by_cases e : k = j
  · subst e
    refine ⟨by rw [List.getElem?_set_self (by omega), List.getElem_set_self], n, by rw [List.getElem?_set_ne (by omega), q2], ?_⟩
    rw [List.getElem_set_self]
    exact q3.kt p2 (by decide)
  · refine ⟨by rw [List.getElem?_set_ne (by omega), List.getElem_set_ne e, q1], n, by rw [List.getElem?_set_ne (by omega), q2], ?_⟩
    rw [List.getElem_set_ne e]
    exact q3.kt p2 (by decide)
theorem DnT.putId {ts : List T} (h : DnT ts) {k : Nat} (hk : k < ts.length) (id : Int) : DnT (ts.set k ⟨id, ts[k].need⟩) := fun t ht => by
  rcases List.mem_or_eq_of_mem_set ht with h1 | rfl
  · exact h t h1
  · exact h ts[k] (List.getElem_mem hk)

set_option maxHeartbeats 1000000 in
theorem l91Room_any (r : Value) (B P : Nat) (w : World) (h : Rdr w B r P) (hP : P ≤ 900000) :
    Calls Tryd.prog 18 #[r] w fun e w' => ∃ v xs, e = .returned v ∧ Ints w' v xs ∧ Dn xs ∧ Dr B r (P + 6) w w' := by
  have D0 := Lib.hid (Dr.start h)
  clear h
  go_enter Tryd.func18, Tryd.ntmps18
  go_wp2_with fail
  refine (pick_any _ B _ 10 _ D0.out.rd (by omega) (by omega) (by omega)).mono ?_
  rintro e w1 ⟨k1, rfl, b1, d1⟩
  have D1 := Lib.hid (D0.out.trans d1)
  clear d1 D0
  go_wp2_with fail
  refine (pick_any _ B _ 10 _ D1.out.rd (by omega) (by omega) (by omega)).mono ?_
  rintro e w2 ⟨k2, rfl, b2, d2⟩
  have D2 := Lib.hid (D1.out.trans d2)
  clear d2 D1
  go_wp2_with fail
  refine (pick_any _ B _ 10 _ D2.out.rd (by omega) (by omega) (by omega)).mono ?_
  rintro e w3 ⟨k3, rfl, b3, d3⟩
  have D3 := Lib.hid (D2.out.trans d3)
  clear d3 D2
  have I3 := Lib.hid (Ints.lit w3 #[.int .i64 (6 + k1), .int .i64 (6 + k2), .int .i64 (6 + k3)] [6 + (k1 : Int), 6 + (k2 : Int), 6 + (k3 : Int)] 3 3 rfl rfl (by simp [lim]))
  have N3 : Hid (Dn [6 + (k1 : Int), 6 + (k2 : Int), 6 + (k3 : Int)]) := ⟨rfl, fun n hn => by simp at hn; omega⟩
  have D4 := Lib.hid (D3.out.ext ((Ext.refl w3).alloc (.cells #[.int .i64 (6 + k1), .int .i64 (6 + k2), .int .i64 (6 + k3)] 3)))
  go_wp2_with fail
  refine (pick_any _ B _ 50 _ D4.out.rd (by omega) (by omega) (by omega)).mono ?_
  rintro e w5 ⟨k5, rfl, b5, d5⟩
  have I5 := Lib.hid (I3.out.kt d5.kt (by decide))
  have D5 := Lib.hid (D4.out.trans d5)
  generalize [6 + (k1 : Int), 6 + (k2 : Int), 6 + (k3 : Int)] = xs at *
  have L3 := Lib.hid D3.out.size
  clear d5 D4 I3 D3
  by_cases h5 : k5 = 0
  · subst h5
    go_wp2_with fail
    refine (pick_any _ B _ 3 _ D5.out.rd (by omega) (by omega) (by omega)).mono ?_
    rintro e w6 ⟨k6, rfl, b6, d6⟩
    have I6 := Lib.hid (I5.out.kt d6.kt (by decide))
    have D6 := Lib.hid (D5.out.trans d6)
    clear d6 D5 I5
    have L6 := Lib.hid (Ints.lit w6 #[.int .i64 0, .int .i64 1, .int .i64 20, .int .i64 21] [0, 1, 20, 21] 4 4 rfl rfl (by simp [lim]))
    have E6 := (Ext.refl w6).alloc (.cells #[.int .i64 0, .int .i64 1, .int .i64 20, .int .i64 21] 3)
    have J6 := Lib.hid (I6.out.ext E6)
    have D7 := Lib.hid (D6.out.ext E6)
    clear E6
    go_wp2_with fail
    refine (pick_any _ B _ 4 _ D7.out.rd (by omega) (by omega) (by omega)).mono ?_
    rintro e w7 ⟨k7, rfl, b7, d7⟩
    have D8 := Lib.hid (D7.out.trans d7)
    obtain ⟨g1, o1, cs1, hg1, hb1, hc1, hf1⟩ := (J6.out.kt d7.kt (by decide)).blk (by rw [N3.out.1]; omega)
    obtain ⟨g2, o2, hg2, hc2⟩ := (L6.out.kt d7.kt (by decide)).at (by simp)
    simp only [Option.some.injEq, Addr.mk.injEq, and_true] at hg1 hg2
    obtain ⟨rfl, rfl⟩ := hg1
    obtain ⟨rfl, rfl⟩ := hg2
    have fr := hf1 k6
    have old := hc1 k6 (by rw [N3.out.1]; omega)
    have c7 := hc2 k7 (by simp; omega)
    simp only [Nat.zero_add] at c7 old
    have hx : 0 ≤ ([0, 1, 20, 21] : List Int)[k7]'(by simp; omega) ∧ ([0, 1, 20, 21] : List Int)[k7]'(by simp; omega) ≤ 100 := by
      have hm := List.getElem_mem (l := ([0, 1, 20, 21] : List Int)) (n := k7) (by simp; omega)
      generalize ([0, 1, 20, 21] : List Int)[k7]'(by simp; omega) = z at hm
      simp at hm
      omega
    generalize ([0, 1, 20, 21] : List Int)[k7]'(by simp; omega) = z at *
    obtain ⟨ys, hy, hyl, hym⟩ := (J6.out.kt d7.kt (by decide)).put (k := k6) hb1 z
    have Hy := Lib.hid hy
    have Ny := Lib.hid (N3.out.edit hx.1 hx.2 hyl hym)
    have kt := KT.put (p := ⟨w3.heap.size, k6, none⟩) hb1 (.int .i64 z)
    have D9 := Lib.hid (D8.out.own (Below.setCell (p := ⟨w3.heap.size, k6, none⟩) (Below.refl _ _) (by have := L3.out; simpa using this) (.int .i64 z)) kt (by decide))
    clear hc1 hc2 hf1 hy hym kt hb1 d7
    go_wp2_with fail
    go_ret
    exact ⟨_, ys, rfl, Hy.out, Ny.out, D9.out⟩
  · have h5' : (((k5 : Nat) : Int) == 0) = false := by simp; omega
    go_wp2_with fail
    go_ret
    exact ⟨_, xs, rfl, I5.out, N3.out, D5.out.mono (by omega)⟩
end

section
set_option maxRecDepth 100000
open Go.RowKit

theorem Dr.heap {B P : Nat} {r : Value} {w w1 : World} (h : Dr B r P w w1) {b : Nat} {cs : Array Value} {t : TypeId} {fz : Nat × Nat} (hb : w.heap[b]? = some (.cells cs t fz)) (ne : t ≠ 52) : w1.heap[b]? = some (.cells cs t fz) := (h.kt.2 _ _ _ _ hb ne).trans hb
theorem task_end {B P g : Nat} {r s : Value} {id : Int} {w wc : World} {ys : List Int} (hy : Ints wc s ys) (hn : Dn ys) (hr : wc.heap[w.heap.size]? = some (.cells #[.int .i64 0, .slice none 0 0] 31 (0, 0))) (hd : Dr B r P w wc) (hg : g = w.heap.size) (hs : ∀ g, s.ownBlock = some g → w.heap.size ≤ g) :
    ∃ n xs, Ending.returned (.agg #[.int .i64 id, s]) = .returned (.agg #[.int .i64 id, n]) ∧ Ints ((wc.setCell ⟨g, 0, none⟩ (.int .i64 id)).setCell ⟨g, 1, none⟩ s) n xs ∧ Dn xs ∧ (∀ g, n.ownBlock = some g → w.heap.size ≤ g) ∧ Dr B r P w ((wc.setCell ⟨g, 0, none⟩ (.int .i64 id)).setCell ⟨g, 1, none⟩ s) := by
  subst hg
  have k1 := KT.put (p := ⟨w.heap.size, 0, none⟩) hr (.int .i64 id)
  have k2 := KT.put (p := ⟨w.heap.size, 1, none⟩) (heap_put (k := 0) hr (.int .i64 id)) s
  exact ⟨s, ys, rfl, (hy.kt k1 (by decide)).kt k2 (by decide), hn, hs,
    (hd.own (Below.setCell (p := ⟨w.heap.size, 0, none⟩) (Below.refl _ _) (Nat.le_refl _) _) k1 (by decide)).own (Below.setCell (p := ⟨w.heap.size, 1, none⟩) (Below.refl _ _) (Nat.le_refl _) _) k2 (by decide)⟩

set_option maxHeartbeats 1000000 in
theorem l91Task_any (r : Value) (B P : Nat) (id : Int) (w : World) (h : Rdr w B r P) (hP : P ≤ 900000) :
    Calls Tryd.prog 31 #[r, .int .i64 id] w fun e w' => ∃ n xs, e = .returned (.agg #[.int .i64 id, n]) ∧ Ints w' n xs ∧ Dn xs ∧ (∀ g, n.ownBlock = some g → w.heap.size ≤ g) ∧ Dr B r (P + 7) w w' := by
  have S0 := Lib.hid (Dr.start h)
  clear h
  go_enter Tryd.func31, Tryd.ntmps31
  go_wp2_with fail
  have D0 := Lib.hid (S0.out.ext ((Ext.refl w).alloc (.cells #[.int .i64 0, .slice none 0 0] 31)))
  have R0 := Lib.hid (heap_alloc_new w (.cells #[.int .i64 0, .slice none 0 0] 31))
  generalize w.alloc (.cells #[.int .i64 0, .slice none 0 0] 31) = W0 at *
  clear S0
  refine (pick_any _ B _ 6 _ D0.out.rd (by omega) (by omega) (by omega)).mono ?_
  rintro e w1 ⟨k1, rfl, b1, d1⟩
  have R1 := Lib.hid (d1.heap R0.out (by decide))
  have D1 := Lib.hid (D0.out.trans d1)
  clear d1 D0 R0
  go_wp2_with fail
  refine (pick_any _ B _ 6 _ D1.out.rd (by omega) (by omega) (by omega)).mono ?_
  rintro e w2 ⟨k2, rfl, b2, d2⟩
  have R2 := Lib.hid (d2.heap R1.out (by decide))
  have D2 := Lib.hid (D1.out.trans d2)
  clear d2 D1 R1
  go_wp2_with fail
  refine (pick_any _ B _ 6 _ D2.out.rd (by omega) (by omega) (by omega)).mono ?_
  rintro e w3 ⟨k3, rfl, b3, d3⟩
  have R3 := Lib.hid (d3.heap R2.out (by decide))
  have D3 := Lib.hid (D2.out.trans d3)
  clear d3 D2 R2
  go_wp2_with fail
  have E4 := ((Ext.refl w3).alloc (.cells #[.int .i64 k1, .int .i64 k2, .int .i64 k3] 3)).alloc (.cells #[.int .i64 id, .slice (some ⟨w3.heap.size, 0, none⟩) 3 3] 31)
  have I4 := Lib.hid ((Ints.lit w3 #[.int .i64 k1, .int .i64 k2, .int .i64 k3] [(k1 : Int), (k2 : Int), (k3 : Int)] 3 3 rfl rfl (by simp [lim])).ext ((Ext.refl _).alloc (.cells #[.int .i64 id, .slice (some ⟨w3.heap.size, 0, none⟩) 3 3] 31)))
  have N4 : Hid (Dn [(k1 : Int), (k2 : Int), (k3 : Int)]) := ⟨rfl, fun n hn => by simp at hn; omega⟩
  have X4 := Lib.hid (heap_alloc_new (w3.alloc (.cells #[.int .i64 k1, .int .i64 k2, .int .i64 k3] 3)) (.cells #[.int .i64 id, .slice (some ⟨w3.heap.size, 0, none⟩) 3 3] 31))
  have R4 := Lib.hid ((E4.block (lt_of_heap R3.out)).trans R3.out)
  have D4 := Lib.hid (D3.out.ext E4)
  rw [World.size_alloc] at X4
  have L4 := Lib.hid D3.out.size
  generalize [(k1 : Int), (k2 : Int), (k3 : Int)] = xs at *
  generalize (w3.alloc (.cells #[.int .i64 k1, .int .i64 k2, .int .i64 k3] 3)).alloc (.cells #[.int .i64 id, .slice (some ⟨w3.heap.size, 0, none⟩) 3 3] 31) = W4 at *
  clear E4 D3 R3
  refine (pick_any _ B _ 3 _ D4.out.rd (by omega) (by omega) (by omega)).mono ?_
  rintro e w5 ⟨k5, rfl, b5, d5⟩
  have R5 := Lib.hid (d5.heap R4.out (by decide))
  have X5 := Lib.hid (d5.heap X4.out (by decide))
  have I5 := Lib.hid (I4.out.kt d5.kt (by decide))
  have D5 := Lib.hid (D4.out.trans d5)
  clear d5 D4 R4 X4 I4
  by_cases h5 : k5 = 0
  · subst h5
    have cx := cell_of_heap X5.out 1
    go_upto_region 3 with fail
    go_cut [] from 18 to 26 (fun wx => ∃ ys, Ints wx (.slice (some ⟨w3.heap.size, 0, none⟩) 3 3) ys ∧ Dn ys ∧ wx.heap[w.heap.size]? = some (.cells #[.int .i64 0, .slice none 0 0] 31 (0, 0)) ∧ wx.heap[w3.heap.size + 1]? = some (.cells #[.int .i64 id, .slice (some ⟨w3.heap.size, 0, none⟩) 3 3] 31 (0, 0)) ∧ Dr B r (P + 7) w wx)
    case first =>
      have Dd := Lib.hid (D5.out.ext (Ext.refl w5).drew)
      have cd := (Ext.refl w5).drew.cell cx
      go_region_held3 (fun w' => w'.cell? ⟨w3.heap.size + 1, 1, none⟩ = some (.slice (some ⟨w3.heap.size, 0, none⟩) 3 3))
        (first | exact cd | exact ce | exact cf | exact cg _)
        (first
          | (go_at_call 19
             refine (pick_any _ B _ 3 _ Dd.out.rd (by omega) (by omega) (by omega)).mono ?_
             rintro e w6 ⟨k6, rfl, b6, d6⟩
             have De := Lib.hid (Dd.out.trans d6)
             have Xe := Lib.hid (d6.heap (((Ext.refl w5).drew.block (lt_of_heap X5.out)).trans X5.out) (by decide))
             have Re := Lib.hid (d6.heap (((Ext.refl w5).drew.block (lt_of_heap R5.out)).trans R5.out) (by decide))
             have Ie := Lib.hid ((I5.out.ext (Ext.refl w5).drew).kt d6.kt (by decide))
             have ce := cell_of_heap Xe.out 1
             clear d6 Dd)
          | (go_at_call 19
             refine (pick_any _ B _ 4 _ De.out.rd (by omega) (by omega) (by omega)).mono ?_
             rintro e w7 ⟨k7, rfl, b7, d7⟩
             have Df := Lib.hid (De.out.trans d7)
             have Xf := Lib.hid (d7.heap Xe.out (by decide))
             have Rf := Lib.hid (d7.heap Re.out (by decide))
             have If := Lib.hid (Ie.out.kt d7.kt (by decide))
             have cf := cell_of_heap Xf.out 1
             obtain ⟨g1, o1, cs1, hg1, hb1, hc1, hf1⟩ := If.out.blk (by rw [N4.out.1]; omega)
             simp only [Option.some.injEq, Addr.mk.injEq, and_true] at hg1
             obtain ⟨rfl, rfl⟩ := hg1
             have fr := hf1 k6
             have old := hc1 k6 (by rw [N4.out.1]; omega)
             simp only [Nat.zero_add] at old
             have cg : ∀ u, (w7.setCell ⟨w3.heap.size, k6, none⟩ u).cell? ⟨w3.heap.size + 1, 1, none⟩ = some (.slice (some ⟨w3.heap.size, 0, none⟩) 3 3) := by
               intro u
               rw [World.cell?_of_block (w := w7) (a := ⟨w3.heap.size + 1, 1, none⟩) (Below.heap_setCell w7 _ _ _ (by simp))]
               exact cf
             clear d7 De hc1 hf1))
      all_goals
        rw [IntWalk.i64_in (4 + (k7 : Int)) (by omega)]
        obtain ⟨ys, hy, hyl, hym⟩ := If.out.put (k := k6) hb1 (4 + (k7 : Int))
        have Ny := N4.out.edit (by omega) (by omega) hyl hym
        have kt := KT.put (p := ⟨w3.heap.size, k6, none⟩) hb1 (.int .i64 (4 + (k7 : Int)))
        have D9 := Df.out.own (Below.setCell (p := ⟨w3.heap.size, k6, none⟩) (Below.refl _ _) (by have := L4.out; have := World.size_alloc w; simp; omega) (.int .i64 (4 + (k7 : Int)))) kt (by decide)
        have r1 := (kt.2 _ _ _ _ Rf.out (by decide)).trans Rf.out
        have x1 := (kt.2 _ _ _ _ Xf.out (by decide)).trans Xf.out
        go_wp2_with fail
        go_meet
        exact ⟨ys, hy, Ny, r1, x1, D9.mono (by omega)⟩
    case rest =>
      obtain ⟨ys, hy, hn, hr, hx, hd⟩ := hcut
      have c0 := cell_of_heap hx 0
      have c1 := cell_of_heap hx 1
      have r0 := cell_of_heap hr 0
      have r1 := cell_of_heap hr 1
      have f0 := frozen_of_heap hr 0
      have f1 := frozen_of_heap hr 1
      have Hy := Lib.hid hy
      have Hn := Lib.hid hn
      have Hd := Lib.hid hd
      have Hr := Lib.hid hr
      have Hx := Lib.hid hx
      clear hy hn hr hx hd
      go_wp2_with fail
      refine bodyPost_ret (v := .agg #[.int .i64 id, .slice (some ⟨w3.heap.size, 0, none⟩) 3 3]) ?_ rfl (task_end Hy.out Hn.out Hr.out Hd.out rfl (fun g hg => by simp only [Value.ownBlock, Option.some.injEq] at hg; have := L4.out; omega))
      simp [results, Tryd.results31, go_sem, r0, r1]
  · have h5' : (((k5 : Nat) : Int) == 0) = false := by simp; omega
    have c0 := cell_of_heap X5.out 0
    have c1 := cell_of_heap X5.out 1
    have r0 := cell_of_heap R5.out 0
    have r1 := cell_of_heap R5.out 1
    have f0 := frozen_of_heap R5.out 0
    have f1 := frozen_of_heap R5.out 1
    go_wp2_with fail
    refine bodyPost_ret (v := .agg #[.int .i64 id, .slice (some ⟨w3.heap.size, 0, none⟩) 3 3]) ?_ rfl (task_end I5.out N4.out R5.out (D5.out.mono (by omega)) rfl (fun g hg => by simp only [Value.ownBlock, Option.some.injEq] at hg; have := L4.out; omega))
    simp [results, Tryd.results31, go_sem, r0, r1]
end

end Go.Proofs.YtfidamjepjgknaaDoor
