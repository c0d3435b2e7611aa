/- Drawn rooms and tasks: some numbers, bounded. No condition. -/
import Derived.Test.YtipmoedflpjioaaDr1
import Derived.Test.YtipmoedflpjioaaS5
namespace Go.Proofs.Ytipmoedflpjioaa
set_option maxRecDepth 100000
open Go.RowKit

/-- Three bounded numbers. -/
def Dn (xs : List Int) : Prop := xs.length = 3 ∧ ∀ n ∈ xs, 0 ≤ n ∧ n ≤ 100
def DnT (ts : List T) : Prop := ∀ t ∈ ts, Dn t.need
theorem Dn.good1 {t : T} (h : Dn t.need) : Good1 t := ⟨h.1, fun n hn => by have := h.2 n hn; omega⟩
theorem DnT.good {ts : List T} (h : DnT ts) : Good ts := fun t ht => (h t ht).good1
theorem Dn.edit {xs ys : List Int} {x : Int} (h : Dn xs) (h0 : 0 ≤ x) (h1 : x ≤ 100) (hl : ys.length = xs.length) (hy : ∀ y ∈ ys, y ∈ xs ∨ y = x) : Dn ys :=
  ⟨by rw [hl]; exact h.1, fun n hn => (hy n hn).elim (fun h2 => h.2 n h2) (fun h2 => by rw [h2]; exact ⟨h0, h1⟩)⟩

/-- The block that a slice of numbers lies in. -/
theorem Ints.blk {w : World} {a : Option Addr} {n c : Nat} {xs : List Int} (h : Ints w (.slice a n c) xs) (h0 : 0 < xs.length) :
    ∃ b off cs, a = some ⟨b, off, none⟩ ∧ w.heap[b]? = some (Obj.cells cs 3 (0, 0)) ∧ (∀ k (hk : k < xs.length), w.cell? ⟨b, off + k, none⟩ = some (.int .i64 xs[k])) ∧ ∀ k, w.frozen? ⟨b, k, none⟩ = false := by
  obtain ⟨hl, a', cap', hv, hr⟩ := h
  simp only [Value.slice.injEq] at hv
  obtain ⟨rfl, rfl, rfl⟩ := hv
  rcases hr with hr | ⟨b, off, cs, ha, hb, hc⟩
  · simp at hr; simp [hr] at h0
  · refine ⟨b, off, cs, ha, hb, fun k hk => ?_, fun k => by simp [World.frozen?, hb]⟩
    have := hc k (by simpa using hk)
    simp only [World.cell?, hb]
    rw [show cs[off + k]? = _ from this]
    simp [hk]
/-- A number is written: every slice of numbers is still one, of the same length. -/
theorem Ints.put {w : World} {v : Value} {xs : List Int} (h : Ints w v xs) {b k : Nat} {cs : Array Value} (hb : w.heap[b]? = some (Obj.cells cs 3 (0, 0))) (x : Int) :
    ∃ ys, Ints (w.setCell ⟨b, k, none⟩ (.int .i64 x)) v ys ∧ ys.length = xs.length ∧ ∀ y ∈ ys, y ∈ xs ∨ y = x := by
  obtain ⟨hl, a, cap, hv, hr⟩ := h
  rcases hr with hr | ⟨b', off, cs', ha, hb', hc⟩
  · have : xs = [] := by simpa using hr
    subst this
    exact ⟨[], ⟨hl, a, cap, hv, .inl rfl⟩, rfl, fun y hy => by simp at hy⟩
  · by_cases e : b' = b
    · subst e
      rw [hb'] at hb
      simp only [Option.some.injEq, Obj.cells.injEq, and_true] at hb
      subst hb
      by_cases hin : off ≤ k ∧ k < off + xs.length
      · refine ⟨xs.set (k - off) x, ⟨by simpa using hl, a, cap, by simpa using hv, .inr ⟨b', off, _, ha, heap_put hb' _, fun j hj => ?_⟩⟩, by simp, fun y hy => ?_⟩
        · simp only [List.length_map, List.length_set] at hj
          have := hc j (by simpa using hj)
          rw [Array.getElem?_setIfInBounds]
          by_cases ej : off + j = k
          · have hsz : k < cs'.size := by
              rcases Nat.lt_or_ge k cs'.size with h | h
              · exact h
              · rw [ej, Array.getElem?_eq_none h] at this
                simp [hj] at this
            rw [if_pos ej.symm, if_pos hsz]
            have : k - off = j := by omega
            subst this
            simp [hj]
          · rw [if_neg (by omega), this]
            simp only [List.getElem?_map]
            rw [List.getElem?_set_ne (by omega)]
        · rcases List.mem_or_eq_of_mem_set hy with h | h
          · exact .inl h
          · exact .inr h
      · refine ⟨xs, ⟨hl, a, cap, hv, .inr ⟨b', off, _, ha, heap_put hb' _, fun j hj => ?_⟩⟩, rfl, fun y hy => .inl hy⟩
        simp only [List.length_map] at hj
        rw [Array.getElem?_setIfInBounds, if_neg (by omega)]
        exact hc j (by simpa using hj)
    · refine ⟨xs, ⟨hl, a, cap, hv, .inr ⟨b', off, cs', ha, ?_, hc⟩⟩, rfl, fun y hy => .inl hy⟩
      rw [Below.heap_setCell _ _ _ _ (by simpa using e)]
      exact hb'

/-- A number of a need is written. -/
theorem OwnTasks.putNeed {w : World} {B : Nat} {v : Value} {ts : List T} (h : OwnTasks w B v ts) (hd : DnT ts) {b k : Nat} {cs : Array Value} (hb : w.heap[b]? = some (Obj.cells cs 3 (0, 0))) {x : Int} (h0 : 0 ≤ x) (h1 : x ≤ 100) :
    ∃ us, OwnTasks (w.setCell ⟨b, k, none⟩ (.int .i64 x)) B v us ∧ us.length = ts.length ∧ DnT us := by
  obtain ⟨xs, ho, hl, hc⟩ := h
  have hkt := KT.put (p := ⟨b, k, none⟩) hb (.int .i64 x)
  have each : ∀ i : Fin ts.length, ∃ ys : List Int, (∃ n, xs[i.1 * 2 + 1]? = some n ∧ Ints (w.setCell ⟨b, k, none⟩ (.int .i64 x)) n ys) ∧ Dn ys := fun i => by
    obtain ⟨_, n, hn, hi⟩ := hc i.1 i.2
    obtain ⟨ys, hy, hyl, hm⟩ := hi.put (k := k) hb x
    exact ⟨ys, ⟨n, hn, hy⟩, (hd _ (List.getElem_mem i.2)).edit h0 h1 hyl hm⟩
  obtain ⟨f, hf⟩ := Classical.axiomOfChoice each
  have hlen : (List.ofFn fun i : Fin ts.length => T.mk ts[i].id (f i)).length = ts.length := by simp
  refine ⟨List.ofFn fun i : Fin ts.length => T.mk ts[i].id (f i), ⟨xs, by rw [hlen]; exact ownsRow_kt ho hkt (by decide), by rw [hlen]; exact hl, fun j hj => ?_⟩, hlen, fun t ht => ?_⟩
  · rw [hlen] at hj
    have := (hf ⟨j, hj⟩).1
    simp only [List.getElem_ofFn]
    exact ⟨(hc j hj).1, this⟩
  · obtain ⟨i, rfl⟩ := List.mem_ofFn.1 ht
    exact (hf i).2
/-- A task's number is written. -/
theorem OwnTasks.putId {w : World} {B g c : Nat} {ts : List T} (h : OwnTasks w B (.slice (some ⟨g, 0, none⟩) ts.length c) ts) {k : Nat} (hk : k < ts.length) (id : Int) :
    OwnTasks (w.setCell ⟨g, k * 2, none⟩ (.int .i64 id)) B (.slice (some ⟨g, 0, none⟩) ts.length c) (ts.set k ⟨id, ts[k].need⟩) ∧ KT 38 w (w.setCell ⟨g, k * 2, none⟩ (.int .i64 id)) ∧ Below B w (w.setCell ⟨g, k * 2, none⟩ (.int .i64 id)) ∧ w.frozen? ⟨g, k * 2, none⟩ = false := by
  obtain ⟨xs, ho, hl, hc⟩ := h
  obtain ⟨p1, p2, p3, p4⟩ := ownsRow_put ho (k := k * 2) (by omega) (.int .i64 id)
  refine ⟨⟨xs.set (k * 2) (.int .i64 id), by simpa using p1, by simpa using hl, fun j hj => ?_⟩, p2, p3, p4⟩
  simp only [List.length_set] at hj
  obtain ⟨q1, n, q2, q3⟩ := hc j hj
  by_cases e : k = j
  · subst e
    refine ⟨by rw [List.getElem?_set_self (by omega), List.getElem_set_self], n, by rw [List.getElem?_set_ne (by omega), q2], ?_⟩
    rw [List.getElem_set_self]
    exact q3.kt p2 (by decide)
  · refine ⟨by rw [List.getElem?_set_ne (by omega), List.getElem_set_ne e, q1], n, by rw [List.getElem?_set_ne (by omega), q2], ?_⟩
    rw [List.getElem_set_ne e]
    exact q3.kt p2 (by decide)
theorem DnT.putId {ts : List T} (h : DnT ts) {k : Nat} (hk : k < ts.length) (id : Int) : DnT (ts.set k ⟨id, ts[k].need⟩) := fun t ht => by
  rcases List.mem_or_eq_of_mem_set ht with h1 | rfl
  · exact h t h1
  · exact h ts[k] (List.getElem_mem hk)

set_option maxHeartbeats 1000000 in
theorem l91Room_any (r : Value) (B P : Nat) (w : World) (h : Rdr w B r P) (hP : P ≤ 900000) :
    Calls Try.prog 104 #[r] w fun e w' => ∃ v xs, e = .returned v ∧ Ints w' v xs ∧ Dn xs ∧ Dr B r (P + 6) w w' := by
  have D0 := Lib.hid (Dr.start h)
  clear h
  go_enter Try.func104, Try.ntmps104
  go_wp2_with fail
  refine (pick_any _ B _ 10 _ D0.out.rd (by omega) (by omega) (by omega)).mono ?_
  rintro e w1 ⟨k1, rfl, b1, d1⟩
  have D1 := Lib.hid (D0.out.trans d1)
  clear d1 D0
  go_wp2_with fail
  refine (pick_any _ B _ 10 _ D1.out.rd (by omega) (by omega) (by omega)).mono ?_
  rintro e w2 ⟨k2, rfl, b2, d2⟩
  have D2 := Lib.hid (D1.out.trans d2)
  clear d2 D1
  go_wp2_with fail
  refine (pick_any _ B _ 10 _ D2.out.rd (by omega) (by omega) (by omega)).mono ?_
  rintro e w3 ⟨k3, rfl, b3, d3⟩
  have D3 := Lib.hid (D2.out.trans d3)
  clear d3 D2
  have I3 := Lib.hid (Ints.lit w3 #[.int .i64 (6 + k1), .int .i64 (6 + k2), .int .i64 (6 + k3)] [6 + (k1 : Int), 6 + (k2 : Int), 6 + (k3 : Int)] 3 3 rfl rfl (by simp [lim]))
  have N3 : Hid (Dn [6 + (k1 : Int), 6 + (k2 : Int), 6 + (k3 : Int)]) := ⟨rfl, fun n hn => by simp at hn; omega⟩
  have D4 := Lib.hid (D3.out.ext ((Ext.refl w3).alloc (.cells #[.int .i64 (6 + k1), .int .i64 (6 + k2), .int .i64 (6 + k3)] 3)))
  go_wp2_with fail
  refine (pick_any _ B _ 50 _ D4.out.rd (by omega) (by omega) (by omega)).mono ?_
  rintro e w5 ⟨k5, rfl, b5, d5⟩
  have I5 := Lib.hid (I3.out.kt d5.kt (by decide))
  have D5 := Lib.hid (D4.out.trans d5)
  generalize [6 + (k1 : Int), 6 + (k2 : Int), 6 + (k3 : Int)] = xs at *
  have L3 := Lib.hid D3.out.size
  clear d5 D4 I3 D3
  by_cases h5 : k5 = 0
  · subst h5
    go_wp2_with fail
    refine (pick_any _ B _ 3 _ D5.out.rd (by omega) (by omega) (by omega)).mono ?_
    rintro e w6 ⟨k6, rfl, b6, d6⟩
    have I6 := Lib.hid (I5.out.kt d6.kt (by decide))
    have D6 := Lib.hid (D5.out.trans d6)
    clear d6 D5 I5
    have L6 := Lib.hid (Ints.lit w6 #[.int .i64 0, .int .i64 1, .int .i64 20, .int .i64 21] [0, 1, 20, 21] 4 4 rfl rfl (by simp [lim]))
    have E6 := (Ext.refl w6).alloc (.cells #[.int .i64 0, .int .i64 1, .int .i64 20, .int .i64 21] 3)
    have J6 := Lib.hid (I6.out.ext E6)
    have D7 := Lib.hid (D6.out.ext E6)
    clear E6
    go_wp2_with fail
    refine (pick_any _ B _ 4 _ D7.out.rd (by omega) (by omega) (by omega)).mono ?_
    rintro e w7 ⟨k7, rfl, b7, d7⟩
    have D8 := Lib.hid (D7.out.trans d7)
    obtain ⟨g1, o1, cs1, hg1, hb1, hc1, hf1⟩ := (J6.out.kt d7.kt (by decide)).blk (by rw [N3.out.1]; omega)
    obtain ⟨g2, o2, hg2, hc2⟩ := (L6.out.kt d7.kt (by decide)).at (by simp)
    simp only [Option.some.injEq, Addr.mk.injEq, and_true] at hg1 hg2
    obtain ⟨rfl, rfl⟩ := hg1
    obtain ⟨rfl, rfl⟩ := hg2
    have fr := hf1 k6
    have old := hc1 k6 (by rw [N3.out.1]; omega)
    have c7 := hc2 k7 (by simp; omega)
    simp only [Nat.zero_add] at c7 old
    have hx : 0 ≤ ([0, 1, 20, 21] : List Int)[k7]'(by simp; omega) ∧ ([0, 1, 20, 21] : List Int)[k7]'(by simp; omega) ≤ 100 := by
      have hm := List.getElem_mem (l := ([0, 1, 20, 21] : List Int)) (n := k7) (by simp; omega)
      generalize ([0, 1, 20, 21] : List Int)[k7]'(by simp; omega) = z at hm
      simp at hm
      omega
    generalize ([0, 1, 20, 21] : List Int)[k7]'(by simp; omega) = z at *
    obtain ⟨ys, hy, hyl, hym⟩ := (J6.out.kt d7.kt (by decide)).put (k := k6) hb1 z
    have Hy := Lib.hid hy
    have Ny := Lib.hid (N3.out.edit hx.1 hx.2 hyl hym)
    have kt := KT.put (p := ⟨w3.heap.size, k6, none⟩) hb1 (.int .i64 z)
    have D9 := Lib.hid (D8.out.own (Below.setCell (p := ⟨w3.heap.size, k6, none⟩) (Below.refl _ _) (by have := L3.out; simpa using this) (.int .i64 z)) kt (by decide))
    clear hc1 hc2 hf1 hy hym kt hb1 d7
    go_wp2_with fail
    go_ret
    exact ⟨_, ys, rfl, Hy.out, Ny.out, D9.out⟩
  · have h5' : (((k5 : Nat) : Int) == 0) = false := by simp; omega
    go_wp2_with fail
    go_ret
    exact ⟨_, xs, rfl, I5.out, N3.out, D5.out.mono (by omega)⟩

end Go.Proofs.Ytipmoedflpjioaa
