/- The reference's drawing of a room, the tasks of a node and a task. No condition. -/
import Derived.Test.YtipmoedflpjioaaDr9
import Derived.Test.YtipmoedflpjioaaReg
namespace Go.Proofs.Ytipmoedflpjioaa
set_option maxRecDepth 100000
open Go.RowKit

/-- A drawn room, the tasks of a node, and a task. -/
def DrawnOne (w : World) (vr vb n : Value) (room : List Int) (b : List T) (x : T) : Prop := Ints w vr room ∧ Tasks w vb b ∧ DnT b ∧ b.length ≤ 20 ∧ Ints w n x.need ∧ Dn x.need
theorem NewN.ext {w w' : World} {b0 : Nat} {vr vb n : Value} {room : List Int} {bs : List (List T)} {x : T} (h : NewN w b0 vr vb n room bs x) (k : Ext w w') : NewN w' b0 vr vb n room bs x := ⟨h.1.ext k, h.2.1.ext k, h.2.2.1, h.2.2.2.1, h.2.2.2.2.1, h.2.2.2.2.2.1.ext k, h.2.2.2.2.2.2⟩
theorem NewN.rd {w w' : World} {b0 : Nat} {vr vb n : Value} {room : List Int} {bs : List (List T)} {x : T} (h : NewN w b0 vr vb n room bs x) (k : KT 102 w w') : NewN w' b0 vr vb n room bs x :=
  ⟨h.1.kt k (by decide), h.2.1.kt k (by decide) (by decide) (by decide), h.2.2.1, h.2.2.2.1, h.2.2.2.2.1, h.2.2.2.2.2.1.kt k (by decide), h.2.2.2.2.2.2⟩
theorem box_far {w : World} {b x : Nat} {u u' : Value} {o : Obj} (h : w.heap[x]? = some o) (hx : x ≠ b) : ((w.setCell ⟨b, 0, none⟩ u).setCell ⟨b, 1, none⟩ u').heap[x]? = some o :=
  ((Below.heap_setCell _ ⟨b, 1, none⟩ u' x hx).trans (Below.heap_setCell w ⟨b, 0, none⟩ u x hx)).trans h
theorem one_len {bs : List (List T)} {k m : Nat} (hk : k < bs.length) (h : bs.flatten.length ≤ m) : bs[k].length ≤ m := Nat.le_trans (bin_len (List.getElem_mem hk)) h
theorem nest_row {w : World} {B C : Nat} {a : Option Addr} {n c : Nat} {bs : List (List T)} (h : Nest w B C (.slice a n c) bs) (h0 : bs.length ≠ 0) : ∃ b cs, a = some ⟨b, 0, none⟩ ∧ B ≤ b ∧ w.heap[b]? = some (.cells cs 27 (0, 0)) := by
  obtain ⟨xs, ⟨_, h1⟩, _⟩ := h
  rcases h1 with ⟨_, hn⟩ | ⟨g, cap, cur, hv, hB, hg, _⟩
  · omega
  · cases hv
    exact ⟨g, _, rfl, hB, hg⟩
theorem Bins.look {w : World} {b n c k : Nat} {bs : List (List T)} {cs : Array Value} {t : TypeId} {fz : Nat × Nat} {nd : Value} (h : Bins w (.slice (some ⟨b, 0, none⟩) n c) bs) (hb : w.heap[b]? = some (.cells cs t fz)) (hk : k < bs.length) (hn : cs[k]? = some nd) : Tasks w nd bs[k] := by
  obtain ⟨b', off, nd', he, c0, ht⟩ := h.at hk
  cases he
  rw [Nat.zero_add, cell_of_heap hb, hn] at c0
  cases c0
  exact ht
theorem DrawnOne.ext {w w' : World} {vr vb n : Value} {room : List Int} {b : List T} {x : T} (h : DrawnOne w vr vb n room b x) (k : Ext w w') : DrawnOne w' vr vb n room b x := ⟨h.1.ext k, h.2.1.ext k, h.2.2.1, h.2.2.2.1, h.2.2.2.2.1.ext k, h.2.2.2.2.2⟩

set_option maxHeartbeats 2000000 in
theorem DrawBestScore_any (v : Value) (n : Nat) (w : World) (h : ArgCode w v n) :
    Calls Try.prog 44 #[v] w fun e w' => ∃ (vr vb nx : Value) (room : List Int) (b : List T) (x : T), e = .returned (.tuple #[vr, vb, .agg #[.int .i64 x.id, nx]]) ∧ DrawnOne w' vr vb nx room b x ∧ Ext w w' ∧ ∃ a m c, nx = .slice a m c := by
  have E0 := Lib.hid ((Ext.refl w).alloc (.cells #[.int .i64 0, .slice none 0 0] 38))
  have R0 := Lib.hid (heap_alloc_new w (.cells #[.int .i64 0, .slice none 0 0] 38))
  have hc2 : ArgCode (w.alloc (.cells #[.int .i64 0, .slice none 0 0] 38)) v n := by
    obtain ⟨hn, a, c, hv, hcap, hc⟩ := h
    exact ⟨hn, a, c, hv, hcap, fun h0 => let ⟨b, off, ha, hx⟩ := hc h0; ⟨b, off, ha, fun k hk => let ⟨x, h1, h2⟩ := hx k hk; ⟨x, h1, E0.out.cell h2⟩⟩⟩
  have HC := Lib.hid hc2
  clear hc2 h
  go_enter Try.func44, Try.ntmps44
  go_wp2_with fail
  refine (l6Open_any _ _ _ HC.out).mono ?_
  have sz : (w.alloc (.cells #[.int .i64 0, .slice none 0 0] 38)).heap.size = w.heap.size + 1 := by simp
  generalize w.alloc (.cells #[.int .i64 0, .slice none 0 0] 38) = W0 at *
  rintro e w1 ⟨r, rfl, hE, hr⟩
  have R1 := Lib.hid ((hE.block (lt_of_heap R0.out)).trans R0.out)
  have E1 := Lib.hid (E0.out.trans hE)
  have le1 := hE.le
  clear R0 E0 hE HC
  go_wp2_with fail
  refine (l91New_any _ _ _ _ hr (by omega)).mono ?_
  rintro e w2 ⟨vr, vb, nx, room, bs, x, b0, rfl, hn, hb0, dr, na, nn, nc, rfl⟩
  have R2 := Lib.hid (dr.heap R1.out (by decide))
  have E2 := Lib.hid (E1.out.below (Below.mono dr.bl (by omega)))
  have HN := Lib.hid hn
  have DR := Lib.hid dr
  have DW := Lib.hid hn.drawn
  obtain ⟨ra, rc, hvr, -⟩ := hn.1.open
  obtain ⟨ba, bc, hvb, -⟩ := hn.drawn.1.2.1.open
  subst hvr hvb
  have hwlt : w.heap.size < w2.heap.size := lt_of_heap R2.out
  clear R1 E1 dr hn hr
  have EX := Lib.hid ((Ext.refl w2).alloc (.cells #[.int .i64 x.id, .slice na nn nc] 38))
  have x0 : (w2.alloc (.cells #[.int .i64 x.id, .slice na nn nc] 38)).cell? ⟨w2.heap.size, 0, none⟩ = some (.int .i64 x.id) := by rw [box_cell]; rfl
  have x1 : (w2.alloc (.cells #[.int .i64 x.id, .slice na nn nc] 38)).cell? ⟨w2.heap.size, 1, none⟩ = some (.slice na nn nc) := by rw [box_cell]; rfl
  have hne : w2.heap.size ≠ w.heap.size := by omega
  have Hne := Lib.hid hne
  clear hne
  by_cases hz : bs.length = 0
  · have hzb : (((bs.length : Nat) : Int) == 0) = true := by simp [hz]
    have Hz := Lib.hid hz
    clear hz
    go_wp2_with fail
    have EXd := Lib.hid EX.out.drew
    have x0 : (w2.alloc (.cells #[.int .i64 x.id, .slice na nn nc] 38)).heap[w2.heap.size]? = some (.cells #[.int .i64 x.id, .slice na nn nc] 38) := heap_alloc_new w2 (.cells #[.int .i64 x.id, .slice na nn nc] 38)
    have r0 : (w2.alloc (.cells #[.int .i64 x.id, .slice na nn nc] 38)).heap[w.heap.size]? = some (.cells #[.int .i64 0, .slice none 0 0] 38) := heap_skip _ _ R2.out
    generalize w2.alloc (.cells #[.int .i64 x.id, .slice na nn nc] 38) = W3 at *
    have DX := Lib.hid (DR.out.ext EX.out.drew).rd
    have HX := Lib.hid (HN.out.ext EXd.out)
    have X0 := Lib.hid (show W3.drew.heap[w2.heap.size]? = some (.cells #[.int .i64 x.id, .slice na nn nc] 38) from x0)
    have RX := Lib.hid (show W3.drew.heap[w.heap.size]? = some (.cells #[.int .i64 0, .slice none 0 0] 38) from r0)
    have E3 := Lib.hid (E2.out.trans EXd.out)
    have HX0 := Lib.hid (HN.out.ext EX.out)
    have E30 := Lib.hid (E2.out.trans EX.out)
    have Hlt := Lib.hid (show w.heap.size < b0 by omega)
    have q0 := cell_of_heap (w := W3) RX.out 0
    have q1 := cell_of_heap (w := W3) RX.out 1
    have g0 := frozen_of_heap (w := W3) RX.out 0
    have g1 := frozen_of_heap (w := W3) RX.out 1
    clear x0 r0 EX HN DR R2
    have hn0 : w2.heap.size ≠ w.heap.size := Hne.out
    refine wp_region_held_drew (S := fun w' => w'.heap[w2.heap.size]? = some (.cells #[.int .i64 x.id, .slice na nn nc] 38)) (by kernel_rfl) (X0.out) (fun hHeld => ?_)
    refine takeH (i := 0) (d := some 20) (v := ?_) rfl rfl (by kernel_rfl) (by kernel_rfl) (by kernel_rfl) (fun _ _ _ h => h) (by rfl) ?_ (by assumption) ?_
    rotate_left
    · intro w hSw; (try dsimp only at hSw); (try go_simp); (try with_reducible rfl)
    try simp only [Act.put, List.setIfInBounds_toArray, List.set_cons_zero, List.set_cons_succ]
    refine takeH (i := 2) (d := some 22) (v := ?_) rfl rfl (by kernel_rfl) (by kernel_rfl) (by kernel_rfl) (fun _ _ _ h => h) (by rfl) ?_ (by assumption) ?_
    rotate_left
    · intro w hSw; (try dsimp only at hSw); (try have l0 := cell_of_heap hSw 0; have l1 := cell_of_heap hSw 1; go_simp); (try with_reducible rfl)
    try simp only [Act.put, List.setIfInBounds_toArray, List.set_cons_zero, List.set_cons_succ]
    refine takeH (i := 3) (d := some 2) (v := ?_) rfl rfl (by kernel_rfl) (by kernel_rfl) (by kernel_rfl) (fun _ _ _ h => h) (by rfl) ?_ (by assumption) ?_
    rotate_left
    · intro w hSw; (try dsimp only at hSw); (try go_simp); (try with_reducible rfl)
    try simp only [Act.put, List.setIfInBounds_toArray, List.set_cons_zero, List.set_cons_succ]
    refine oneH (i := 1) (by kernel_rfl) rfl (by rfl) (fun K hK => ?_)
    go_simp
    try dsimp only
    refine hK.out _ _ (heap_skip _ _ hHeld) (fun hHeld => ?_)
    clear hK K
    try simp only [Act.put, List.setIfInBounds_toArray, List.set_cons_zero, List.set_cons_succ]
    refine takeH (i := 4) (d := some 3) (v := ?_) rfl rfl (by kernel_rfl) (by kernel_rfl) (by kernel_rfl) (fun _ _ _ h => h) (by rfl) ?_ (by assumption) ?_
    rotate_left
    · intro w hSw; (try dsimp only at hSw); (try go_simp); (try with_reducible rfl)
    try simp only [Act.put, List.setIfInBounds_toArray, List.set_cons_zero, List.set_cons_succ]
    have q2 := cell_of_heap (w := (W3.alloc (.cells #[] 38))) (heap_skip _ _ RX.out) 0
    have q3 := cell_of_heap (w := (W3.alloc (.cells #[] 38))) (heap_skip _ _ RX.out) 1
    have g2 := frozen_of_heap (w := (W3.alloc (.cells #[] 38))) (heap_skip _ _ RX.out) 0
    have g3 := frozen_of_heap (w := (W3.alloc (.cells #[] 38))) (heap_skip _ _ RX.out) 1
    refine oneH (i := 5) (by kernel_rfl) rfl (by rfl) (fun K hK => ?_)
    go_simp
    try dsimp only
    refine hK.out _ _ (box_far hHeld Hne.out) (fun hHeld => ?_)
    clear hK K
    try simp only [Act.put, List.setIfInBounds_toArray, List.set_cons_zero, List.set_cons_succ]
    refine wpAnyH_done (by kernel_rfl) ?_ _
    have RY := heap_skip W3 (.cells #[] 38) RX.out
    have F := Lib.hid (((HX0.out.ext ((Ext.refl W3).alloc (.cells #[] 38))).put RY Hlt.out (.int .i64 x.id) (.slice na nn nc)).drawn.ext (Ext.refl _).drew)
    have E := Lib.hid ((((E30.out.alloc (.cells #[] 38)).setCell (p := ⟨w.heap.size, 0, none⟩) (Nat.le_refl _) (.int .i64 x.id)).setCell (p := ⟨w.heap.size, 1, none⟩) (Nat.le_refl _) (.slice na nn nc)).drew)
    go_wp2_with fail
    refine bodyPost_ret (v := .tuple #[.slice ra room.length rc, .slice (some ⟨W3.heap.size, 0, none⟩) 0 0, .agg #[.int .i64 x.id, .slice na nn nc]]) ?_ rfl ⟨_, _, _, room, [], x, rfl, ⟨F.out.1.1, ⟨by simp, _, _, [], rfl, .inl rfl, TaskCells.nil _⟩, fun t ht => absurd ht (by simp), by simp, F.out.2.1, F.out.2.2⟩, E.out, _, _, _, rfl⟩
    simp [results, Try.results44, go_sem, q2, q3]

  · have hzb : (((bs.length : Nat) : Int) == 0) = false := beq_eq_false_iff_ne.2 (by omega)
    have Hz := Lib.hid hz
    clear hz
    go_wp2_with fail
    have EXd := Lib.hid EX.out.drew
    have x0 : (w2.alloc (.cells #[.int .i64 x.id, .slice na nn nc] 38)).heap[w2.heap.size]? = some (.cells #[.int .i64 x.id, .slice na nn nc] 38) := heap_alloc_new w2 (.cells #[.int .i64 x.id, .slice na nn nc] 38)
    have r0 : (w2.alloc (.cells #[.int .i64 x.id, .slice na nn nc] 38)).heap[w.heap.size]? = some (.cells #[.int .i64 0, .slice none 0 0] 38) := heap_skip _ _ R2.out
    generalize w2.alloc (.cells #[.int .i64 x.id, .slice na nn nc] 38) = W3 at *
    have DX := Lib.hid (DR.out.ext EX.out.drew).rd
    have HX := Lib.hid (HN.out.ext EXd.out)
    have X0 := Lib.hid (show W3.drew.heap[w2.heap.size]? = some (.cells #[.int .i64 x.id, .slice na nn nc] 38) from x0)
    have RX := Lib.hid (show W3.drew.heap[w.heap.size]? = some (.cells #[.int .i64 0, .slice none 0 0] 38) from r0)
    have E3 := Lib.hid (E2.out.trans EXd.out)
    have HX0 := Lib.hid (HN.out.ext EX.out)
    have E30 := Lib.hid (E2.out.trans EX.out)
    have Hlt := Lib.hid (show w.heap.size < b0 by omega)
    have q0 := cell_of_heap (w := W3) RX.out 0
    have q1 := cell_of_heap (w := W3) RX.out 1
    have g0 := frozen_of_heap (w := W3) RX.out 0
    have g1 := frozen_of_heap (w := W3) RX.out 1
    clear x0 r0 EX HN DR R2
    have hz := Hz.out
    obtain ⟨bb, cs, hba, hbB, hbb⟩ := nest_row HX.out.2.1 hz
    cases hba
    have BB := Lib.hid hbb
    have Hbw := Lib.hid (show bb ≠ w.heap.size by have := Hlt.out; omega)
    have i1 : 1 ≤ (bs.length : Int) := by omega
    have i2 : (bs.length : Int) ≤ 1000000 := by have := HX.out.2.2.2.1; omega
    have I1 := Lib.hid i1
    have I2 := Lib.hid i2
    clear hz hbb hbB i1 i2
    refine wp_region_held_drew (S := fun w' => w'.heap[w2.heap.size]? = some (.cells #[.int .i64 x.id, .slice na nn nc] 38) ∧ w'.heap[bb]? = some (.cells cs 27 (0, 0))) (by kernel_rfl) (⟨X0.out, BB.out⟩) (fun hHeld => ?_)
    refine takeH (i := 0) (d := some 23) (v := ?_) rfl rfl (by kernel_rfl) (by kernel_rfl) (by kernel_rfl) (fun _ _ _ h => h) (by rfl) ?_ (by assumption) ?_
    rotate_left
    · intro w hSw; (try dsimp only at hSw); (try go_simp); (try with_reducible rfl)
    try simp only [Act.put, List.setIfInBounds_toArray, List.set_cons_zero, List.set_cons_succ]
    refine takeH (i := 1) (d := some 24) (v := ?_) rfl rfl (by kernel_rfl) (by kernel_rfl) (by kernel_rfl) (fun _ _ _ h => h) (by rfl) ?_ (by assumption) ?_
    rotate_left
    · intro w hSw; (try dsimp only at hSw); (try go_simp); (try with_reducible rfl)
    try simp only [Act.put, List.setIfInBounds_toArray, List.set_cons_zero, List.set_cons_succ]
    refine takeH (i := 2) (d := some 25) (v := ?_) rfl rfl (by kernel_rfl) (by kernel_rfl) (by kernel_rfl) (fun _ _ _ h => h) (by rfl) ?_ (by assumption) ?_
    rotate_left
    · intro w hSw; (try dsimp only at hSw); (try go_simp); (try with_reducible rfl)
    try simp only [Act.put, List.setIfInBounds_toArray, List.set_cons_zero, List.set_cons_succ]
    refine takeH (i := 3) (d := some 26) (v := ?_) rfl rfl (by kernel_rfl) (by kernel_rfl) (by kernel_rfl) (fun _ _ _ h => h) (by rfl) ?_ (by assumption) ?_
    rotate_left
    · intro w hSw; (try dsimp only at hSw); (try go_simp); (try with_reducible rfl)
    try simp only [Act.put, List.setIfInBounds_toArray, List.set_cons_zero, List.set_cons_succ]
    refine takeH (i := 4) (d := some 27) (v := ?_) rfl rfl (by kernel_rfl) (by kernel_rfl) (by kernel_rfl) (fun _ _ _ h => h) (by rfl) ?_ (by assumption) ?_
    rotate_left
    · intro w hSw; (try dsimp only at hSw); (try go_simp); (try with_reducible rfl)
    try simp only [Act.put, List.setIfInBounds_toArray, List.set_cons_zero, List.set_cons_succ]
    refine takeH (i := 8) (d := some 31) (v := ?_) rfl rfl (by kernel_rfl) (by kernel_rfl) (by kernel_rfl) (fun _ _ _ h => h) (by rfl) ?_ (by assumption) ?_
    rotate_left
    · intro w hSw; (try dsimp only at hSw); (try have l0 := cell_of_heap hSw.1 0; have l1 := cell_of_heap hSw.1 1; go_simp); (try with_reducible rfl)
    try simp only [Act.put, List.setIfInBounds_toArray, List.set_cons_zero, List.set_cons_succ]
    refine oneH (i := 5) (by kernel_rfl) rfl (by rfl) (fun K hK => ?_)
    go_simp
    refine (pick_any _ _ _ _ _ DX.out (by omega) I1.out I2.out).mono ?_
    rintro e w4 ⟨k, rfl, hk', dr⟩
    have hk : k < bs.length := by omega
    have k0 : (0 : Int) ≤ (k : Int) := by omega
    obtain ⟨nd, hnd⟩ : ∃ nd, cs[k]? = some nd := by
      obtain ⟨b', nd', ha, _, _, hc, _⟩ := HX.out.2.1.at hk
      cases ha
      rw [cell_of_heap BB.out] at hc
      exact ⟨nd', hc⟩
    try dsimp only
    refine hK.out _ _ (⟨dr.heap hHeld.1 (by decide), dr.heap hHeld.2 (by decide)⟩) (fun hHeld => ?_)
    clear hK K
    try simp only [Act.put, List.setIfInBounds_toArray, List.set_cons_zero, List.set_cons_succ]
    refine takeH (i := 6) (d := some 29) (v := ?_) rfl rfl (by kernel_rfl) (by kernel_rfl) (by kernel_rfl) (fun _ _ _ h => h) (by rfl) ?_ (by assumption) ?_
    rotate_left
    · intro w hSw; (try dsimp only at hSw); (try go_simp); (try with_reducible rfl)
    try simp only [Act.put, List.setIfInBounds_toArray, List.set_cons_zero, List.set_cons_succ]
    refine takeH (i := 7) (d := some 30) (v := ?_) rfl rfl (by kernel_rfl) (by kernel_rfl) (by kernel_rfl) (fun _ _ _ h => h) (by rfl) ?_ (by assumption) ?_
    rotate_left
    · intro w hSw; (try dsimp only at hSw); (try have l0 := (cell_of_heap hSw.2 k).trans hnd; go_simp); (try with_reducible rfl)
    try simp only [Act.put, List.setIfInBounds_toArray, List.set_cons_zero, List.set_cons_succ]
    refine takeH (i := 9) (d := some 2) (v := ?_) rfl rfl (by kernel_rfl) (by kernel_rfl) (by kernel_rfl) (fun _ _ _ h => h) (by rfl) ?_ (by assumption) ?_
    rotate_left
    · intro w hSw; (try dsimp only at hSw); (try go_simp); (try with_reducible rfl)
    try simp only [Act.put, List.setIfInBounds_toArray, List.set_cons_zero, List.set_cons_succ]
    refine takeH (i := 10) (d := some 3) (v := ?_) rfl rfl (by kernel_rfl) (by kernel_rfl) (by kernel_rfl) (fun _ _ _ h => h) (by rfl) ?_ (by assumption) ?_
    rotate_left
    · intro w hSw; (try dsimp only at hSw); (try go_simp); (try with_reducible rfl)
    try simp only [Act.put, List.setIfInBounds_toArray, List.set_cons_zero, List.set_cons_succ]
    have r9 := dr.heap RX.out (by decide)
    have q8 := cell_of_heap r9 0
    have q9 := cell_of_heap r9 1
    have g8 := frozen_of_heap r9 0
    have g9 := frozen_of_heap r9 1
    refine oneH (i := 11) (by kernel_rfl) rfl (by rfl) (fun K hK => ?_)
    go_simp
    try dsimp only
    refine hK.out _ _ (⟨box_far hHeld.1 Hne.out, box_far hHeld.2 Hbw.out⟩) (fun hHeld => ?_)
    clear hK K
    try simp only [Act.put, List.setIfInBounds_toArray, List.set_cons_zero, List.set_cons_succ]
    refine wpAnyH_done (by kernel_rfl) ?_ _
    have F := Lib.hid ((HX.out.rd dr.kt).put r9 Hlt.out (.int .i64 x.id) (.slice na nn nc)).drawn
    have E := Lib.hid (((E3.out.below (Below.mono dr.bl (by omega))).setCell (p := ⟨w.heap.size, 0, none⟩) (Nat.le_refl _) (.int .i64 x.id)).setCell (p := ⟨w.heap.size, 1, none⟩) (Nat.le_refl _) (.slice na nn nc))
    have Tk := Lib.hid (F.out.1.2.1.look hHeld.2 hk hnd)
    have L := Lib.hid (one_len hk F.out.1.2.2.2.2)
    go_wp2_with fail
    refine bodyPost_ret (v := .tuple #[.slice ra room.length rc, nd, .agg #[.int .i64 x.id, .slice na nn nc]]) ?_ rfl ⟨_, _, _, room, bs[k], x, rfl, ⟨F.out.1.1, Tk.out, F.out.1.2.2.1 _ (List.getElem_mem hk), L.out, F.out.2.1, F.out.2.2⟩, E.out, _, _, _, rfl⟩
    simp [results, Try.results44, go_sem, q8, q9]


end Go.Proofs.Ytipmoedflpjioaa
