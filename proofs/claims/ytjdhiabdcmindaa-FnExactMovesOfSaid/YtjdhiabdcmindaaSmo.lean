/- The reference: whether a move is possible; all possible moves. No condition. -/
import Derived.Test.YtjdhiabdcmindaaSgp
import Derived.Test.YtjdhiabdcmindaaS9
namespace Go.Proofs.Ytjdhiabdcmindaa
set_option maxRecDepth 100000
open Go.RowKit

/-- Whether a move of valid nodes is possible. -/
def canB (room : List Int) (bs : List (List T)) (id tt : Int) : Bool :=
  match where0 bs id with
  | none => false
  | some k => inB tt 0 ((bs.length : Int) - 1) && !(tt == (k : Int)) && fits11 room (bs.getD tt.toNat []) (foundL id bs.flatten ⟨0, []⟩)
theorem can_none {room : List Int} {bs : List (List T)} {id tt : Int} (h : where0 bs id = none) : canB room bs id tt = false := by unfold canB; rw [h]
theorem can_out {room : List Int} {bs : List (List T)} {id tt : Int} {k : Nat} (h : where0 bs id = some k) (h2 : inB tt 0 ((bs.length : Int) - 1) = false) : canB room bs id tt = false := by unfold canB; rw [h]; simp [h2]
theorem can_same {room : List Int} {bs : List (List T)} {id tt : Int} {k : Nat} (h : where0 bs id = some k) (h2 : tt = (k : Int)) : canB room bs id tt = false := by unfold canB; rw [h]; simp [h2]
theorem can_fits {room : List Int} {bs : List (List T)} {id : Int} {k d : Nat} (h : where0 bs id = some k) (hd : d < bs.length) (ne : d ≠ k) : canB room bs id (d : Int) = fits11 room bs[d] (foundL id bs.flatten ⟨0, []⟩) := by
  have h1 : inB (d : Int) 0 ((bs.length : Int) - 1) = true := inB_true (by omega) (by omega)
  have h2 : ((d : Int) == (k : Int)) = false := beq_eq_false_iff_ne.2 (by omega)
  unfold canB
  rw [h]
  simp only [h1, h2, Bool.not_false, Bool.true_and, Int.toNat_natCast, getD_at hd]
theorem where_mem {bs : List (List T)} {id : Int} {k : Nat} (h : where0 bs id = some k) : ∃ t ∈ bs.flatten, t.id = id := by
  obtain ⟨hk, h1, -⟩ := List.findIdx?_eq_some_iff_getElem.1 h
  obtain ⟨t, ht, e⟩ := List.any_eq_true.1 h1
  exact ⟨t, List.mem_flatten.2 ⟨_, List.getElem_mem hk, ht⟩, beq_iff_eq.1 e⟩

set_option maxHeartbeats 8000000 in
theorem l15Can_any (v u : Value) (room : List Int) (id dst : Int) (bs : List (List T)) (w : World) (hr : Ints w v room) (h : Bins w u bs) (r3 : room.length = 3) (gb : GoodB bs) (hl : bs.length ≤ 1000) (hlb : ∀ b ∈ bs, b.length ≤ 1000) :
    Calls Try.prog 38 #[v, u, .agg #[.int .i64 id, .int .i64 dst]] w fun e w' => e = .returned (.bool (canB room bs id dst)) ∧ Ext w w' := by
  obtain ⟨ra, rc, rfl, hr⟩ := hr.open
  obtain ⟨a, c, rfl, h⟩ := h.open
  have E0 := Lib.hid ((Ext.refl w).alloc (.cells #[.int .i64 id, .int .i64 dst] 28))
  have H0 := Lib.hid (heap_alloc_new w (.cells #[.int .i64 id, .int .i64 dst] 28))
  have Hr := Lib.hid (hr.ext E0.out)
  have Hb := Lib.hid (h.ext E0.out)
  have R3 := Lib.hid r3
  have GB := Lib.hid gb
  have HLB := Lib.hid hlb
  clear hr h r3 gb hlb
  go_enter Try.func38, Try.ntmps38
  go_wp2_with fail
  generalize w.alloc (.cells #[.int .i64 id, .int .i64 dst] 28) = W0 at *
  have cc := l2Where_any _ bs id W0 Hb.out
  cases hw : where0 bs id with
  | none =>
    have HC := Lib.hid (can_none (room := room) (tt := dst) hw)
    rw [hw] at cc
    refine cc.mono ?_
    clear cc hw
    rintro e w1 ⟨rfl, hE1⟩
    have E1 := Lib.hid (E0.out.trans hE1)
    clear hE1
    simp only [nodeI]
    go_wp2_with fail
    go_ret
    exact ⟨ret_bool HC.out.symm, E1.out⟩
  | some k =>
    have HW := Lib.hid hw
    rw [hw] at cc
    refine cc.mono ?_
    clear cc hw
    rintro e w1 ⟨rfl, hE1⟩
    have E1 := Lib.hid (E0.out.trans hE1)
    have H1 := Lib.hid ((hE1.block (lt_of_heap H0.out)).trans H0.out)
    have HR1 := Lib.hid (Hr.out.ext hE1)
    have HB1 := Lib.hid (Hb.out.ext hE1)
    have m0 := cell_of_heap H1.out 0
    have m1 := cell_of_heap H1.out 1
    simp only [List.getElem?_toArray, List.getElem?_cons_zero, List.getElem?_cons_succ] at m0 m1
    have k0 : ¬ (k : Int) < 0 := by omega
    clear hE1 E0 H0 Hr Hb
    simp only [nodeI]
    cases hin : inB dst 0 ((bs.length : Int) - 1) with
    | false =>
      have HC := Lib.hid (can_out (room := room) HW.out hin)
      go_wp2_with (go_at_call 52; refine (l6In_any _ _ _ _).mono ?_; rintro e w' ⟨rfl, rfl⟩; rw [hin])
      go_ret
      exact ⟨ret_bool HC.out.symm, E1.out⟩
    | true =>
      obtain ⟨d, rfl⟩ : ∃ d : Nat, dst = (d : Int) := ⟨dst.toNat, by have := inB_iff.1 hin; omega⟩
      have hdl : d < bs.length := by have := inB_iff.1 hin; omega
      by_cases hdk : d = k
      · have HC := Lib.hid (can_same (room := room) HW.out (show (d : Int) = (k : Int) by rw [hdk]))
        have be : ((d : Int) == (k : Int)) = true := by rw [hdk]; exact beq_self_eq_true _
        clear hdk
        go_wp2_with (go_at_call 52; refine (l6In_any _ _ _ _).mono ?_; rintro e w' ⟨rfl, rfl⟩; rw [hin])
        go_ret
        exact ⟨ret_bool HC.out.symm, E1.out⟩
      · have HC := Lib.hid (can_fits (room := room) HW.out hdl hdk)
        have be : ((d : Int) == (k : Int)) = false := beq_eq_false_iff_ne.2 (by omega)
        have FM := Lib.hid (found_mem (where_mem HW.out) ⟨0, []⟩)
        clear hdk HW
        go_wp2_with (first | (go_at_call 52; refine (l6In_any _ _ _ _).mono ?_; rintro e w' ⟨rfl, rfl⟩; rw [hin]) | fail)
        refine (l15Take_any _ id bs w1 HB1.out hl HLB.out).mono ?_
        rintro e w2 ⟨oa, oc, na, nc, x, hx, rfl, hE2, -, hI2⟩
        have HX := Lib.hid hx
        have EA := Lib.hid ((Ext.refl w2).alloc (.cells #[.int .i64 x.id, .slice na x.need.length nc] 56))
        have HA := Lib.hid (heap_alloc_new w2 (.cells #[.int .i64 x.id, .slice na x.need.length nc] 56))
        have E2 := Lib.hid ((E1.out.trans hE2).trans EA.out)
        have H3 := Lib.hid ((EA.out.block (lt_of_heap ((hE2.block (lt_of_heap H1.out)).trans H1.out))).trans ((hE2.block (lt_of_heap H1.out)).trans H1.out))
        have HR3 := Lib.hid (HR1.out.ext (hE2.trans EA.out))
        have HB3 := Lib.hid (HB1.out.ext (hE2.trans EA.out))
        have HN3 := Lib.hid (hI2.ext EA.out)
        have GX := Lib.hid (show Good1 x from by
          rw [HX.out]
          obtain ⟨b, hb, ht⟩ := List.mem_flatten.1 FM.out.1
          exact GB.out b hb _ ht)
        have HC2 := Lib.hid (show canB room bs id (d : Int) = fits11 room bs[d] x from by rw [HX.out]; exact HC.out)
        have m1 := cell_of_heap H3.out 1
        simp only [List.getElem?_toArray, List.getElem?_cons_zero, List.getElem?_cons_succ] at m1
        clear hx hE2 hI2 HC FM HX E1 H1 HR1 HB1 be hin m0
        go_upto_region 5 with fail
        generalize w2.alloc (.cells #[.int .i64 x.id, .slice na x.need.length nc] 56) = W3 at *
        obtain ⟨tb, tf, nd, he, kt, ht⟩ := HB3.out.at hdl
        subst he
        obtain ⟨ta, tc, rfl, ht⟩ := ht.open
        have TT := Lib.hid ht
        have x0 := cell_of_heap HA.out 0
        have x1 := cell_of_heap HA.out 1
        simp only [List.getElem?_toArray, List.getElem?_cons_zero, List.getElem?_cons_succ] at x0 x1
        have M1 := Lib.hid m1
        have KT := Lib.hid kt
        have X0 := Lib.hid x0
        have X1 := Lib.hid x1
        have i0 : (0 : Int) ≤ (d : Int) := by omega
        have i1 : (d : Int) < (bs.length : Int) := by omega
        clear ht
        try rw [Code.wp_region]
        refine wp_region_held_drew (S := fun w' => w'.cell? ⟨w.heap.size, 1, none⟩ = some (.int .i64 (d : Int)) ∧ w'.cell? ⟨tb, tf + d, none⟩ = some (.slice ta bs[d].length tc) ∧ w'.cell? ⟨w2.heap.size, 0, none⟩ = some (.int .i64 x.id) ∧ w'.cell? ⟨w2.heap.size, 1, none⟩ = some (.slice na x.need.length nc)) (by kernel_rfl) (⟨m1, kt, x0, x1⟩) (fun hHeld => ?_)
        refine takeH (i := 0) (d := some 38) (v := ?_) rfl rfl (by kernel_rfl) (by kernel_rfl) (by kernel_rfl) (fun _ _ _ h => h) (by rfl) ?_ (by assumption) ?_
        rotate_left
        · intro w hSw; (try dsimp only at hSw); (try have l0 := hSw.1; have l1 := hSw.2.1; have l2 := hSw.2.2.1; have l3 := hSw.2.2.2; go_simp); (try with_reducible rfl)
        try simp only [Act.put, List.setIfInBounds_toArray, List.set_cons_zero, List.set_cons_succ]
        refine takeH (i := 1) (d := some 39) (v := ?_) rfl rfl (by kernel_rfl) (by kernel_rfl) (by kernel_rfl) (fun _ _ _ h => h) (by rfl) ?_ (by assumption) ?_
        rotate_left
        · intro w hSw; (try dsimp only at hSw); (try have l0 := hSw.1; have l1 := hSw.2.1; have l2 := hSw.2.2.1; have l3 := hSw.2.2.2; go_simp); (try with_reducible rfl)
        try simp only [Act.put, List.setIfInBounds_toArray, List.set_cons_zero, List.set_cons_succ]
        refine takeH (i := 2) (d := some 40) (v := ?_) rfl rfl (by kernel_rfl) (by kernel_rfl) (by kernel_rfl) (fun _ _ _ h => h) (by rfl) ?_ (by assumption) ?_
        rotate_left
        · intro w hSw; (try dsimp only at hSw); (try have l0 := hSw.1; have l1 := hSw.2.1; have l2 := hSw.2.2.1; have l3 := hSw.2.2.2; go_simp); (try with_reducible rfl)
        try simp only [Act.put, List.setIfInBounds_toArray, List.set_cons_zero, List.set_cons_succ]
        refine takeH (i := 3) (d := some 41) (v := ?_) rfl rfl (by kernel_rfl) (by kernel_rfl) (by kernel_rfl) (fun _ _ _ h => h) (by rfl) ?_ (by assumption) ?_
        rotate_left
        · intro w hSw; (try dsimp only at hSw); (try have l0 := hSw.1; have l1 := hSw.2.1; have l2 := hSw.2.2.1; have l3 := hSw.2.2.2; go_simp); (try with_reducible rfl)
        try simp only [Act.put, List.setIfInBounds_toArray, List.set_cons_zero, List.set_cons_succ]
        refine takeH (i := 4) (d := some 42) (v := ?_) rfl rfl (by kernel_rfl) (by kernel_rfl) (by kernel_rfl) (fun _ _ _ h => h) (by rfl) ?_ (by assumption) ?_
        rotate_left
        · intro w hSw; (try dsimp only at hSw); (try have l0 := hSw.1; have l1 := hSw.2.1; have l2 := hSw.2.2.1; have l3 := hSw.2.2.2; go_simp); (try with_reducible rfl)
        try simp only [Act.put, List.setIfInBounds_toArray, List.set_cons_zero, List.set_cons_succ]
        refine takeH (i := 5) (d := some 43) (v := ?_) rfl rfl (by kernel_rfl) (by kernel_rfl) (by kernel_rfl) (fun _ _ _ h => h) (by rfl) ?_ (by assumption) ?_
        rotate_left
        · intro w hSw; (try dsimp only at hSw); (try have l0 := hSw.1; have l1 := hSw.2.1; have l2 := hSw.2.2.1; have l3 := hSw.2.2.2; go_simp); (try with_reducible rfl)
        try simp only [Act.put, List.setIfInBounds_toArray, List.set_cons_zero, List.set_cons_succ]
        refine takeH (i := 6) (d := some 44) (v := ?_) rfl rfl (by kernel_rfl) (by kernel_rfl) (by kernel_rfl) (fun _ _ _ h => h) (by rfl) ?_ (by assumption) ?_
        rotate_left
        · intro w hSw; (try dsimp only at hSw); (try have l0 := hSw.1; have l1 := hSw.2.1; have l2 := hSw.2.2.1; have l3 := hSw.2.2.2; go_simp); (try with_reducible rfl)
        try simp only [Act.put, List.setIfInBounds_toArray, List.set_cons_zero, List.set_cons_succ]
        refine oneH (i := 7) (by kernel_rfl) rfl (by rfl) (fun K hK => ?_)
        go_simp
        refine (l11Fits_any _ _ _ room bs[d] x _ (HR3.out.ext (Ext.refl W3).drew) (TT.out.ext (Ext.refl W3).drew) (HN3.out.ext (Ext.refl W3).drew) R3.out (GB.out _ (List.getElem_mem hdl)) GX.out).mono ?_; rintro e w4 ⟨rfl, hE4⟩; have X4 := Lib.hid ((Ext.refl W3).drew.trans hE4); clear hE4
        try dsimp only
        refine hK.out _ _ (⟨X4.out.cell M1.out, X4.out.cell KT.out, X4.out.cell X0.out, X4.out.cell X1.out⟩) (fun hHeld => ?_)
        clear hK K
        try simp only [Act.put, List.setIfInBounds_toArray, List.set_cons_zero, List.set_cons_succ]
        refine takeH (i := 8) (d := some 6) (v := ?_) rfl rfl (by kernel_rfl) (by kernel_rfl) (by kernel_rfl) (fun _ _ _ h => h) (by rfl) ?_ (by assumption) ?_
        rotate_left
        · intro w hSw; (try dsimp only at hSw); (try have l0 := hSw.1; have l1 := hSw.2.1; have l2 := hSw.2.2.1; have l3 := hSw.2.2.2; go_simp); (try with_reducible rfl)
        try simp only [Act.put, List.setIfInBounds_toArray, List.set_cons_zero, List.set_cons_succ]
        refine wpAnyH_done (by kernel_rfl) ?_ _
        have F := Lib.hid (E2.out.trans X4.out)
        clear hHeld m1 kt x0 x1
        go_wp2_with fail
        go_ret
        exact ⟨ret_bool HC2.out.symm, F.out⟩

end Go.Proofs.Ytjdhiabdcmindaa
