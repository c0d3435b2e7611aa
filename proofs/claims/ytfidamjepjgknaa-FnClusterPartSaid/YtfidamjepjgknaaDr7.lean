/- Drawn numbers of tasks, drawn tasks beside drawn nodes. No condition. -/
import Derived.Test.YtfidamjepjgknaaDr4
namespace Go.Proofs.Ytfidamjepjgknaa
set_option maxRecDepth 100000
open Go.RowKit

set_option maxHeartbeats 1000000 in
theorem l91Id_any (r v : Value) (B P : Nat) (bs : List (List T)) (w : World) (h : Rdr w B r P) (hP : P ≤ 100000) (hb : Bins w v bs) (hf : bs.flatten.length ≤ 100) :
    Calls Try.prog 63 #[r, v] w fun e w' => ∃ n : Int, e = .returned (.int .i64 n) ∧ Dr B r (P + 2) w w' := by
  have S0 := Lib.hid (Dr.start h)
  clear h
  go_enter Try.func63, Try.ntmps63
  go_wp2_with fail
  refine (l2All_any _ _ _ hb (by omega)).mono ?_
  rintro e w1 ⟨va, rfl, hE, ho⟩
  have D1 := Lib.hid (S0.out.ext hE)
  have T1 := Lib.hid (ho.done (by unfold lim; omega))
  obtain ⟨aa, ac, rfl⟩ := ho.form
  clear hE ho S0 hb
  generalize bs.flatten = all at *
  by_cases h0 : 0 < all.length
  · have h0' : (0 : Int) < (all.length : Int) := by omega
    go_wp2_with fail
    refine (pick_any _ B _ 6 _ D1.out.rd (by omega) (by omega) (by omega)).mono ?_
    rintro e w2 ⟨k2, rfl, b2, d2⟩
    have D2 := Lib.hid (D1.out.trans d2)
    have T2 := Lib.hid (T1.out.kt d2.kt (by decide) (by decide))
    clear d2 D1 T1
    by_cases h2 : 0 < k2
    · have h2' : (0 : Int) < (k2 : Int) := by omega
      go_wp2_with fail
      refine (pick_any _ B _ _ _ D2.out.rd (by omega) (by omega) (by omega)).mono ?_
      rintro e w3 ⟨k3, rfl, b3, d3⟩
      have D3 := Lib.hid (D2.out.trans d3)
      have T3 := Lib.hid (T2.out.kt d3.kt (by decide) (by decide))
      clear d3 D2 T2
      obtain ⟨b, off, nd, rfl, c0, c1, hn⟩ := T3.out.at (k := k3) (by omega)
      have i0 : (0 : Int) ≤ (k3 : Int) := by omega
      clear c1 hn
      go_wp2
      go_ret
      exact ⟨_, rfl, D3.out⟩
    · have h2' : k2 = 0 := by omega
      subst h2'
      go_wp2_with fail
      refine (pick_any _ B _ 42 _ D2.out.rd (by omega) (by omega) (by omega)).mono ?_
      rintro e w3 ⟨k3, rfl, b3, d3⟩
      have D3 := Lib.hid (D2.out.trans d3)
      clear d3 D2 T2
      go_wp2
      go_ret
      exact ⟨_, rfl, D3.out⟩
  · have h0' : all = [] := List.eq_nil_of_length_eq_zero (by omega)
    subst h0'
    clear T1
    go_wp2_with fail
    refine (pick_any _ B _ 42 _ D1.out.rd (by omega) (by omega) (by omega)).mono ?_
    rintro e w3 ⟨k3, rfl, b3, d3⟩
    have D3 := Lib.hid ((D1.out.trans d3).mono (show P + 1 ≤ P + 2 by omega))
    clear d3 D1
    go_wp2
    go_ret
    exact ⟨_, rfl, D3.out⟩

theorem Dr.block {B P : Nat} {r : Value} {w w1 : World} (h : Dr B r P w w1) {b : Nat} {cs : Array Value} {t : TypeId} {fz : Nat × Nat} (hb : w.heap[b]? = some (.cells cs t fz)) (ne : t ≠ 62) : w1.heap[b]? = some (.cells cs t fz) := (h.kt.2 _ _ _ _ hb ne).trans hb

theorem DnB.snoc {bs : List (List T)} (h : DnB bs) : DnB (bs ++ [[]]) := fun b hb => by
  rcases List.mem_append.1 hb with hb | hb
  · exact h b hb
  · simp at hb
    subst hb
    intro t ht
    simp at ht

end Go.Proofs.Ytfidamjepjgknaa
