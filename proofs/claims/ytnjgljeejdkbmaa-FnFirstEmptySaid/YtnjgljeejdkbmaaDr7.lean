/- Drawn numbers of tasks, drawn tasks beside drawn nodes. No condition. -/
import Derived.Test.YtnjgljeejdkbmaaDr6
namespace Go.Proofs.Ytnjgljeejdkbmaa
set_option maxRecDepth 100000
open Go.RowKit

set_option maxHeartbeats 1000000 in
theorem l91Id_any (r v : Value) (B P : Nat) (bs : List (List T)) (w : World) (h : Rdr w B r P) (hP : P ≤ 100000) (hb : Bins w v bs) (hf : bs.flatten.length ≤ 100) :
    Calls Try.prog 74 #[r, v] w fun e w' => ∃ n : Int, e = .returned (.int .i64 n) ∧ Dr B r (P + 2) w w' := by
  have S0 := Lib.hid (Dr.start h)
  clear h
  go_enter Try.func74, Try.ntmps74
  go_wp2_with fail
  refine (l2All_any _ _ _ hb (by omega)).mono ?_
  rintro e w1 ⟨va, rfl, hE, ho⟩
  have D1 := Lib.hid (S0.out.ext hE)
  have T1 := Lib.hid (ho.done (by unfold lim; omega))
  obtain ⟨aa, ac, rfl⟩ := ho.form
  clear hE ho S0 hb
  generalize bs.flatten = all at *
  by_cases h0 : 0 < all.length
  · have h0' : (0 : Int) < (all.length : Int) := by omega
    go_wp2_with fail
    refine (pick_any _ B _ 6 _ D1.out.rd (by omega) (by omega) (by omega)).mono ?_
    rintro e w2 ⟨k2, rfl, b2, d2⟩
    have D2 := Lib.hid (D1.out.trans d2)
    have T2 := Lib.hid (T1.out.kt d2.kt (by decide) (by decide))
    clear d2 D1 T1
    by_cases h2 : 0 < k2
    · have h2' : (0 : Int) < (k2 : Int) := by omega
      go_wp2_with fail
      refine (pick_any _ B _ _ _ D2.out.rd (by omega) (by omega) (by omega)).mono ?_
      rintro e w3 ⟨k3, rfl, b3, d3⟩
      have D3 := Lib.hid (D2.out.trans d3)
      have T3 := Lib.hid (T2.out.kt d3.kt (by decide) (by decide))
      clear d3 D2 T2
      obtain ⟨b, off, nd, rfl, c0, c1, hn⟩ := T3.out.at (k := k3) (by omega)
      have i0 : (0 : Int) ≤ (k3 : Int) := by omega
      clear c1 hn
      go_wp2
      go_ret
      exact ⟨_, rfl, D3.out⟩
    · have h2' : k2 = 0 := by omega
      subst h2'
      go_wp2_with fail
      refine (pick_any _ B _ 42 _ D2.out.rd (by omega) (by omega) (by omega)).mono ?_
      rintro e w3 ⟨k3, rfl, b3, d3⟩
      have D3 := Lib.hid (D2.out.trans d3)
      clear d3 D2 T2
      go_wp2
      go_ret
      exact ⟨_, rfl, D3.out⟩
  · have h0' : all = [] := List.eq_nil_of_length_eq_zero (by omega)
    subst h0'
    clear T1
    go_wp2_with fail
    refine (pick_any _ B _ 42 _ D1.out.rd (by omega) (by omega) (by omega)).mono ?_
    rintro e w3 ⟨k3, rfl, b3, d3⟩
    have D3 := Lib.hid ((D1.out.trans d3).mono (show P + 1 ≤ P + 2 by omega))
    clear d3 D1
    go_wp2
    go_ret
    exact ⟨_, rfl, D3.out⟩

theorem Dr.block {B P : Nat} {r : Value} {w w1 : World} (h : Dr B r P w w1) {b : Nat} {cs : Array Value} {t : TypeId} {fz : Nat × Nat} (hb : w.heap[b]? = some (.cells cs t fz)) (ne : t ≠ 96) : w1.heap[b]? = some (.cells cs t fz) := (h.kt.2 _ _ _ _ hb ne).trans hb

set_option maxHeartbeats 400000 in
theorem DrawBinsWhere_any (v : Value) (n : Nat) (w : World) (h : ArgCode w v n) :
    Calls Try.prog 35 #[v] w fun e w' => ∃ (vr vb : Value) (room : List Int) (bs : List (List T)) (id : Int), e = .returned (.tuple #[vr, vb, .int .i64 id]) ∧ DrawnBins w' vr vb room bs ∧ Ext w w' := by
  go_enter Try.func35, Try.ntmps35
  go_wp2_with fail
  refine (l6Open_any _ _ _ h).mono ?_
  rintro e w1 ⟨r, rfl, hE, hr⟩
  go_wp2_with fail
  refine (l91Bins_any _ _ _ _ hr (by omega)).mono ?_
  rintro e w2 ⟨vr, room, vb, bs, rfl, hi, hz, hd, h5, h11, dr⟩
  have E2 := Lib.hid (hE.below dr.bl)
  have hb := Lib.hid (show DrawnBins w2 vr vb room bs from ⟨hi, hz.bins (by omega) (by omega), hd, by omega, by omega⟩)
  have rd := Lib.hid dr.rd
  clear hi hz dr hE
  go_wp2_with fail
  refine (l91Id_any _ _ _ _ _ _ rd.out (by omega) hb.out.2.1 (by omega)).mono ?_
  rintro e w3 ⟨id, rfl, d3⟩
  have hb3 := Lib.hid (show DrawnBins w3 vr vb room bs from ⟨hb.out.1.kt d3.kt (by decide), hb.out.2.1.kt d3.kt (by decide) (by decide) (by decide), hb.out.2.2⟩)
  have E3 := Lib.hid (E2.out.below d3.bl)
  clear d3 E2 hb rd
  go_wp2
  go_ret3
  exact ⟨_, _, room, bs, id, rfl, hb3.out, E3.out⟩

theorem DnB.snoc {bs : List (List T)} (h : DnB bs) : DnB (bs ++ [[]]) := fun b hb => by
  rcases List.mem_append.1 hb with hb | hb
  · exact h b hb
  · simp at hb
    subst hb
    intro t ht
    simp at ht

set_option maxHeartbeats 1000000 in
theorem DrawGatherEmpty_any (v : Value) (n : Nat) (w : World) (h : ArgCode w v n) :
    Calls Try.prog 38 #[v] w fun e w' => ∃ (vr vb : Value) (room : List Int) (bs : List (List T)), e = .returned (.tuple #[vr, vb]) ∧ DrawnBins w' vr vb room bs ∧ Ext w w' := by
  go_enter Try.func38, Try.ntmps38
  go_wp2_with fail
  refine (l6Open_any _ _ _ h).mono ?_
  rintro e w1 ⟨r, rfl, hE, hr⟩
  go_wp2_with fail
  refine (l91Bins_any _ _ _ _ hr (by omega)).mono ?_
  rintro e w2 ⟨vr, room, vb, bs, rfl, hi, hz, hd, h5, h11, dr⟩
  obtain ⟨ar, cr, rfl, hi⟩ := hi.open
  have E2 := Lib.hid (hE.below dr.bl)
  have Hi := Lib.hid hi
  have Hz := Lib.hid hz
  have rd := Lib.hid dr.rd
  have Hd := Lib.hid hd
  have le := dr.size
  have le0 := Lib.hid hE.le
  clear hi hz dr hE hd
  go_wp2_with fail
  refine (pick_any _ _ _ 2 _ rd.out (by omega) (by omega) (by omega)).mono ?_
  rintro e w3 ⟨k3, rfl, b3, d3⟩
  have E3 := Lib.hid (E2.out.below d3.bl)
  have Hi3 := Lib.hid (Hi.out.kt d3.kt (by decide))
  have Hz3 := Lib.hid (Hz.out.kt d3.kt (by decide) (by decide) (by decide))
  have le3 := d3.size
  clear d3 E2 Hi Hz rd
  by_cases h3 : k3 = 0
  · subst h3
    obtain ⟨ab, cb, rfl⟩ := Hz3.out.form
    have Eb := Lib.hid (((Ext.refl w3).alloc (.cells #[] 49)).alloc (.cells #[.slice (some ⟨w3.heap.size, 0, none⟩) 0 0] 27))
    have hrw : Row ((w3.alloc (.cells #[] 49)).alloc (.cells #[.slice (some ⟨w3.heap.size, 0, none⟩) 0 0] 27)) 27 (some ⟨w3.heap.size + 1, 0, none⟩) [.slice (some ⟨w3.heap.size, 0, none⟩) 0 0] := by
      have := Row.lit (w3.alloc (.cells #[] 49)) #[.slice (some ⟨w3.heap.size, 0, none⟩) 0 0] 27
      simpa using this
    have Hrw := Lib.hid hrw
    have Hfl := Lib.hid (show (bs ++ [[]]).flatten = bs.flatten by simp)
    clear hrw
    go_wp2_with (at_builtin; refine app_nest rfl _ _ rfl w1.heap.size _ bs rfl Hz3.out Eb.out (by omega) (by omega) _ _ (.slice (some ⟨w3.heap.size, 0, none⟩) 0 0) [] rfl Hrw.out ((OwnTasks.lit0 w3 w3.heap.size (Nat.le_refl _)).alloc _) (by unfold lim; omega) ?_; intro v' w7 hnest hkt hbl)
    have hfl := Hfl.out
    have hb := Lib.hid (show DrawnBins w7 (.slice ar room.length cr) v' room (bs ++ [[]]) from ⟨(Hi3.out.ext Eb.out).kt hkt (by decide), hnest.bins (by simp; omega) (by rw [hfl]; omega), Hd.out.snoc, by simp; omega, by rw [hfl]; omega⟩)
    have E7 := Lib.hid ((E3.out.trans Eb.out).below (Below.mono hbl le0.out))
    clear hnest hkt hbl Hz3 Hi3 E3 Eb Hrw hfl
    go_ret2
    exact ⟨_, _, room, _, rfl, hb.out, E7.out⟩
  · have h3' : (((k3 : Nat) : Int) == 0) = false := beq_eq_false_iff_ne.2 (by omega)
    have hb := Lib.hid (show DrawnBins w3 (.slice ar room.length cr) vb room bs from ⟨Hi3.out, Hz3.out.bins (by omega) (by omega), Hd.out, by omega, by omega⟩)
    clear h3
    go_wp2
    go_ret2
    exact ⟨_, _, room, bs, rfl, hb.out, E3.out⟩

end Go.Proofs.Ytnjgljeejdkbmaa
