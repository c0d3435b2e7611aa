/- A move that is possible, done by the program on nodes that the call owns. No condition. -/
import Derived.Test.YtjdhiabdcmindaaDoorDel
import Derived.Test.YtjdhiabdcmindaaDoorI8
import Derived.Test.YtjdhiabdcmindaaDoorI16
import Derived.Test.YtjdhiabdcmindaaDoorReg
namespace Go.Proofs.YtjdhiabdcmindaaDoor
set_option maxRecDepth 100000
open Go.RowKit

theorem NestS.nest {w : World} {L : Nat} {v : Value} {bs : List (List T)} (h : NestS w L v bs) (hb : ∀ b ∈ bs, ∀ t ∈ b, t.need.length ≤ lim) : Nest w L L v bs := by
  obtain ⟨xs, S, h1, h2, h3, h4⟩ := h
  have hx := h1.1
  refine ⟨xs, h1, by omega, fun k hk => ?_, fun i j n m g hij hi hj hgi hgj => ?_⟩
  · obtain ⟨n, hn, ys, nb, r, hc, hp, hq⟩ := h4 k hk
    refine ⟨n, hn, ys, ?_, r.1, fun j hj => ?_⟩
    · obtain ⟨hl, r⟩ := r
      refine ⟨hl, ?_⟩
      rcases r with r | ⟨g, cap, cur, rfl, hB, r⟩
      · exact .inl r
      · exact .inr ⟨g, cap, cur, rfl, (h2 k g (hp g rfl)).1, r⟩
    · obtain ⟨c0, m, c1, hm⟩ := hc.1 j hj hj
      exact ⟨c0, m, c1, hm.2.done (hb _ (List.getElem_mem hk) _ (List.getElem_mem hj))⟩
  · have at' : ∀ (i : Nat) (n : Value), xs[i]? = some n → n.ownBlock = some g → S i g := fun i n hi hg => by
      have hil : i < bs.length := by
        rcases Nat.lt_or_ge i xs.length with h | h
        · omega
        · simp [List.getElem?_eq_none h] at hi
      obtain ⟨n', hn', ys, nb, r, hc, hp, hq⟩ := h4 i hil
      rw [hi] at hn'
      cases hn'
      exact hp g hg
    exact h3 i j g hij (at' i n hi hgi) (at' j m hj hgj)

/-- The nodes after a move. -/
def movL (bs : List (List T)) (k i to : Nat) (x : T) : List (List T) := (bs.set k ((bs.getD k []).take i ++ (bs.getD k []).drop (i + 1))).set to (bs.getD to [] ++ [x])
theorem keepBox {w w1 : World} {b k g y : Nat} {u : Value} (hg : w.grownBy w1 (some g)) (hy : y < w.heap.size) (h1 : y ≠ g) (h2 : y ≠ b) : (w1.setCell ⟨b, k, none⟩ u).heap[y]? = w.heap[y]? :=
  (Below.heap_setCell w1 ⟨b, k, none⟩ u y h2).trans (hg.block y hy (fun e => h1 (by cases e; rfl)))
theorem cell_of_block {w w' : World} {b o : Nat} {v : Value} (h : w'.heap[b]? = w.heap[b]?) (hc : w.cell? ⟨b, o, none⟩ = some v) : w'.cell? ⟨b, o, none⟩ = some v := by
  rw [World.cell?_of_block (w := w) (a := ⟨b, o, none⟩) h]; exact hc
theorem ownsRow_max {w : World} {B : Nat} {e : TypeId} {size g n c : Nat} {xs : List Value} (h : w.ownsRow B e size (.slice (some ⟨g, 0, none⟩) n c) n xs) : c ≤ 9223372036854775807 := by
  obtain ⟨_, h⟩ := h
  rcases h with ⟨h, _⟩ | ⟨g', cap, cur, hv, _, _, _, h2, _⟩
  · cases h
  · simp only [Value.slice.injEq, Option.some.injEq, Addr.mk.injEq, true_and, and_true] at hv
    obtain ⟨rfl, rfl⟩ := hv
    unfold maxLen at h2; omega

/-- Every row of other things than tasks and nodes is as it was. -/
def KM (w w' : World) : Prop := w.heap.size ≤ w'.heap.size ∧ ∀ (b : Nat) (cs : Array Value) (t : TypeId) (fz : Nat × Nat), w.heap[b]? = some (Obj.cells cs t fz) → t ≠ 61 → t ≠ 51 → w'.heap[b]? = w.heap[b]?
theorem KM.trans {a b c : World} (h : KM a b) (k : KM b c) : KM a c :=
  ⟨Nat.le_trans h.1 k.1, fun x cs t fz hx h1 h2 => by have e := h.2 x cs t fz hx h1 h2; exact (k.2 x cs t fz (e.trans hx) h1 h2).trans e⟩
theorem KT.kmt {w w' : World} (h : KT 61 w w') : KM w w' := ⟨h.1, fun b cs t fz hb h1 _ => h.2 b cs t fz hb h1⟩
theorem KT.kmb {w w' : World} (h : KT 51 w w') : KM w w' := ⟨h.1, fun b cs t fz hb _ h2 => h.2 b cs t fz hb h2⟩
theorem Ext.km {w w' : World} (h : Ext w w') : KM w w' := ⟨h.le, fun _ _ _ _ hb _ _ => h.block (lt_of_heap hb)⟩
theorem ownsRow_km {w w' : World} {B : Nat} {e : TypeId} {size n : Nat} {v : Value} {xs : List Value} (h : w.ownsRow B e size v n xs) (k : KM w w') (n1 : e ≠ 61) (n2 : e ≠ 51) : w'.ownsRow B e size v n xs := by
  obtain ⟨hl, h⟩ := h
  refine ⟨hl, ?_⟩
  rcases h with h | ⟨g, cap, cur, rfl, hB, hh, r⟩
  · exact .inl h
  · exact .inr ⟨g, cap, cur, rfl, hB, (k.2 _ _ _ _ hh n1 n2).trans hh, r⟩

set_option maxHeartbeats 8000000 in
theorem move_any (v : Value) (room : List Int) (bs : List (List T)) (id : Int) (k i to B c : Nat) (a : Option Addr) (w : World) (hr : Ints w v room) (hb : Nest w B B (.slice a bs.length c) bs) (hB : B ≤ w.heap.size) (r3 : room.length = 3) (gb : GoodB bs) (hl : bs.length ≤ 1000) (hlb : ∀ b ∈ bs, b.length ≤ 1000)
    (hk : k < bs.length) (hto : to < bs.length) (hne : to ≠ k) (hi : i < bs[k].length) (hw : where0 bs id = some k) (hfi : bs[k].findIdx? (isId id) = some i) (hf : fits11 room bs[to] bs[k][i] = true) :
    Calls Tryd.prog 36 #[v, .slice a bs.length c, .agg #[.int .i64 id, .int .i64 (to : Int)]] w fun e w' => e = .returned .nilIface ∧ Below B w w' ∧ Nest w' B B (.slice a bs.length c) (movL bs k i to bs[k][i]) ∧ KM w w' := by
  obtain ⟨ra, rc, rfl, hr⟩ := hr.open
  have R3 := Lib.hid r3
  have GB := Lib.hid gb
  have HF := Lib.hid hf
  have HLB := Lib.hid hlb
  have E0 := Lib.hid ((Ext.refl w).alloc (.cells #[.int .i64 id, .int .i64 (to : Int)] 35))
  have H0 := Lib.hid (heap_alloc_new w (.cells #[.int .i64 id, .int .i64 (to : Int)] 35))
  have hs0 : (w.alloc (.cells #[.int .i64 id, .int .i64 (to : Int)] 35)).heap.size = w.heap.size + 1 := by simp
  have Hr := Lib.hid hr
  have Hb := Lib.hid hb
  obtain ⟨b, nd, hab, -, hBb, c0, hot, -⟩ := hb.at hk
  subst hab
  have hbw : b < w.heap.size := World.block_lt_of_cell? w ⟨b, k, none⟩ c0
  obtain ⟨ga, cc, hnd⟩ := hot.form
  subst hnd
  have hot0 := hot
  obtain ⟨xs, hrow, hcells⟩ := hot
  obtain ⟨g, hga, -, hBg, hgw, -, hrow⟩ := ownsRow_at hrow (by omega)
  subst hga
  obtain ⟨-, hgh⟩ := hot0.block (g := g) rfl
  clear hot0
  obtain ⟨q, hq⟩ : ∃ q, bs[k].length = q + 1 := ⟨bs[k].length - 1, by omega⟩
  rw [hq] at hrow c0
  have hiq : i ≤ q := by omega
  have HGH := Lib.hid hgh
  clear hgh
  have ROW := Lib.hid hrow
  have CELLS := Lib.hid hcells
  have C0 := Lib.hid c0
  have HW := Lib.hid hw
  have HFI := Lib.hid hfi
  have HQ := Lib.hid hq
  have BINS := Lib.hid (show Bins w (.slice (some ⟨b, 0, none⟩) bs.length c) bs from hb.done (by unfold lim; omega) (fun b hb => by have := hlb b hb; unfold lim; omega))
  clear hr hb hf hrow hcells c0 hw hfi gb r3 hq hlb
  go_enter Tryd.func36, Tryd.ntmps36
  go_wp2_with fail
  generalize w.alloc (.cells #[.int .i64 id, .int .i64 (to : Int)] 35) = W0 at *
  have cc0 := whereOf_any _ bs id W0 (BINS.out.ext E0.out)
  rw [HW.out] at cc0
  refine cc0.mono ?_
  clear cc0
  rintro e w1 ⟨rfl, hE1⟩
  have E1 := Lib.hid (E0.out.trans hE1)
  have H1 := Lib.hid ((hE1.block (lt_of_heap H0.out)).trans H0.out)
  clear hE1 E0 H0
  have m0 := cell_of_heap H1.out 0
  have m1' := cell_of_heap H1.out 1
  simp only [List.getElem?_toArray, List.getElem?_cons_zero, List.getElem?_cons_succ] at m0 m1'
  have k0 : (0 : Int) ≤ (k : Int) := by omega
  have kn : ¬ (k : Int) < 0 := by omega
  have k9 : (k : Int) < (bs.length : Int) := by omega
  have t0 : (0 : Int) ≤ (to : Int) := by omega
  have t9 : (to : Int) < (bs.length : Int) := by omega
  have hin : inB (to : Int) 0 ((bs.length : Int) - 1) = true := inB_true (by omega) (by omega)
  have hkt : ((k : Int) == (to : Int)) = false := beq_eq_false_iff_ne.2 (by omega)
  simp only [nodeI]
  go_wp2_with (go_at_call 23; refine (within_any _ _ _ _).mono ?_; rintro e w' ⟨rfl, rfl⟩; rw [hin])
  have K1 := Lib.hid (E1.out.cell C0.out)
  have M1 := Lib.hid m0
  have k1 := K1.out
  have m1 := M1.out
  have T1 := Lib.hid (show Tasks w1 (.slice (some ⟨g, 0, none⟩) (q + 1) cc) bs[k] from by
    obtain ⟨b', o', n', e', c', t'⟩ := (BINS.out.ext E1.out).at hk
    cases e'
    rw [Nat.zero_add, K1.out] at c'
    cases c'
    exact t')
  refine wp_region_held_drew (S := fun w' => w'.cell? ⟨b, k, none⟩ = some (.slice (some ⟨g, 0, none⟩) (q + 1) cc) ∧ w'.cell? ⟨w.heap.size, 0, none⟩ = some (.int .i64 id)) (by kernel_rfl) ⟨k1, m1⟩ (fun hHeld => ?_)
  refine takeH (i := 0) (d := some 32) (v := ?_) rfl rfl (by kernel_rfl) (by kernel_rfl) (by kernel_rfl) (fun _ _ _ h => h) (by rfl) ?_ (by assumption) ?_
  rotate_left
  · intro w hSw; (try dsimp only at hSw); (try have l0 := hSw.1; have l1 := hSw.2; go_simp); (try with_reducible rfl)
  try simp only [Act.put, List.setIfInBounds_toArray, List.set_cons_zero, List.set_cons_succ]
  refine takeH (i := 1) (d := some 33) (v := ?_) rfl rfl (by kernel_rfl) (by kernel_rfl) (by kernel_rfl) (fun _ _ _ h => h) (by rfl) ?_ (by assumption) ?_
  rotate_left
  · intro w hSw; (try dsimp only at hSw); (try have l0 := hSw.1; have l1 := hSw.2; go_simp); (try with_reducible rfl)
  try simp only [Act.put, List.setIfInBounds_toArray, List.set_cons_zero, List.set_cons_succ]
  refine takeH (i := 2) (d := some 34) (v := ?_) rfl rfl (by kernel_rfl) (by kernel_rfl) (by kernel_rfl) (fun _ _ _ h => h) (by rfl) ?_ (by assumption) ?_
  rotate_left
  · intro w hSw; (try dsimp only at hSw); (try have l0 := hSw.1; have l1 := hSw.2; go_simp); (try with_reducible rfl)
  try simp only [Act.put, List.setIfInBounds_toArray, List.set_cons_zero, List.set_cons_succ]
  refine takeH (i := 3) (d := some 35) (v := ?_) rfl rfl (by kernel_rfl) (by kernel_rfl) (by kernel_rfl) (fun _ _ _ h => h) (by rfl) ?_ (by assumption) ?_
  rotate_left
  · intro w hSw; (try dsimp only at hSw); (try have l0 := hSw.1; have l1 := hSw.2; go_simp); (try with_reducible rfl)
  try simp only [Act.put, List.setIfInBounds_toArray, List.set_cons_zero, List.set_cons_succ]
  refine takeH (i := 4) (d := some 36) (v := ?_) rfl rfl (by kernel_rfl) (by kernel_rfl) (by kernel_rfl) (fun _ _ _ h => h) (by rfl) ?_ (by assumption) ?_
  rotate_left
  · intro w hSw; (try dsimp only at hSw); (try have l0 := hSw.1; have l1 := hSw.2; go_simp); (try with_reducible rfl)
  try simp only [Act.put, List.setIfInBounds_toArray, List.set_cons_zero, List.set_cons_succ]
  refine takeH (i := 5) (d := some 37) (v := ?_) rfl rfl (by kernel_rfl) (by kernel_rfl) (by kernel_rfl) (fun _ _ _ h => h) (by rfl) ?_ (by assumption) ?_
  rotate_left
  · intro w hSw; (try dsimp only at hSw); (try have l0 := hSw.1; have l1 := hSw.2; go_simp); (try with_reducible rfl)
  try simp only [Act.put, List.setIfInBounds_toArray, List.set_cons_zero, List.set_cons_succ]
  refine oneH (i := 6) (by kernel_rfl) rfl (by rfl) (fun K hK => ?_)
  go_simp
  refine (hasId_any id _).mono ?_; rintro e w2 ⟨rfl, hw2⟩; have H2 := Lib.hid hw2; have X2 := Lib.hid (show Ext w1 w2 from hw2 ▸ (Ext.refl w1).drew.alloc _); clear hw2
  try dsimp only
  refine hK.out _ _ (⟨X2.out.cell K1.out, X2.out.cell M1.out⟩) (fun hHeld => ?_)
  clear hK K
  try simp only [Act.put, List.setIfInBounds_toArray, List.set_cons_zero, List.set_cons_succ]
  refine oneH (i := 7) (by kernel_rfl) rfl (by rfl) (fun K hK => ?_)
  go_simp
  have cc := indexFuncT_any _ bs[k] id w1.heap.size _ (T1.out.ext X2.out) (by rw [H2.out]; exact box_cell w1.drew _ _ 0); rw [HFI.out] at cc; refine cc.mono ?_; clear cc; rintro e w3 ⟨rfl, hE3⟩; have X3 := Lib.hid (X2.out.trans hE3); clear hE3
  try dsimp only
  refine hK.out _ _ (⟨X3.out.cell K1.out, X3.out.cell M1.out⟩) (fun hHeld => ?_)
  clear hK K
  try simp only [Act.put, List.setIfInBounds_toArray, List.set_cons_zero, List.set_cons_succ]
  refine takeH (i := 8) (d := some 8) (v := ?_) rfl rfl (by kernel_rfl) (by kernel_rfl) (by kernel_rfl) (fun _ _ _ h => h) (by rfl) ?_ (by assumption) ?_
  rotate_left
  · intro w hSw; (try dsimp only at hSw); (try have l0 := hSw.1; go_simp); (try with_reducible rfl)
  try simp only [Act.put, List.setIfInBounds_toArray, List.set_cons_zero, List.set_cons_succ]
  refine wpAnyH_done (by kernel_rfl) ?_ _
  have E3 := Lib.hid (E1.out.trans X3.out)
  have w3l : w.heap.size ≤ w3.heap.size := E3.out.le
  have K3 := Lib.hid (X3.out.cell K1.out)
  have H3 := Lib.hid ((X3.out.block (lt_of_heap H1.out)).trans H1.out)
  have k3 := K3.out
  obtain ⟨b', o', nd', e', d0, d1, hn⟩ := (T1.out.ext X3.out).at hi
  cases e'
  obtain ⟨na, nc, rfl, hn⟩ := hn.open
  rw [Nat.zero_add] at d0 d1
  have HN3 := Lib.hid hn
  have i0 : (0 : Int) ≤ (i : Int) := by omega
  have i1 : (i : Int) < (q : Int) + 1 := by omega
  have i2 : (i : Int) < ((q + 1 : Nat) : Int) := by omega
  clear hHeld m0 m1 m1' k1 hn T1 K1 M1 X2 H2 X3 hin hkt
  simp only [nodeI]
  go_wp2_with fail
  have E4 := Lib.hid (E3.out.alloc (.cells #[.int .i64 bs[k][i].id, .slice na bs[k][i].need.length nc] 61))
  have H4m := Lib.hid ((((Ext.refl w3).alloc (.cells #[.int .i64 bs[k][i].id, .slice na bs[k][i].need.length nc] 61)).block (lt_of_heap H3.out)).trans H3.out)
  have H4x := Lib.hid (heap_alloc_new w3 (.cells #[.int .i64 bs[k][i].id, .slice na bs[k][i].need.length nc] 61))
  have HN4 := Lib.hid (HN3.out.ext ((Ext.refl w3).alloc (.cells #[.int .i64 bs[k][i].id, .slice na bs[k][i].need.length nc] 61)))
  generalize w3.alloc (.cells #[.int .i64 bs[k][i].id, .slice na bs[k][i].need.length nc] 61) = W4 at *
  have HR4 := Lib.hid (Hr.out.ext E4.out)
  obtain ⟨b', o', nd', e', ct, ht⟩ := (BINS.out.ext E4.out).at hto
  cases e'
  obtain ⟨ta, tc, rfl, ht⟩ := ht.open
  rw [Nat.zero_add] at ct
  have TT := Lib.hid ht
  have KTt := Lib.hid ct
  have mt := cell_of_heap H4m.out 1
  have x0 := cell_of_heap H4x.out 0
  have x1 := cell_of_heap H4x.out 1
  simp only [List.getElem?_toArray, List.getElem?_cons_zero, List.getElem?_cons_succ] at mt x0 x1
  have MT := Lib.hid mt
  have X0 := Lib.hid x0
  have X1 := Lib.hid x1
  have kt := KTt.out
  clear ht ct d0 d1 k3 H3 K3 HN3 E3
  refine wp_region_held_drew (S := fun w' => w'.cell? ⟨w.heap.size, 1, none⟩ = some (.int .i64 (to : Int)) ∧ w'.cell? ⟨b, to, none⟩ = some (.slice ta bs[to].length tc) ∧ w'.cell? ⟨w3.heap.size, 0, none⟩ = some (.int .i64 bs[k][i].id) ∧ w'.cell? ⟨w3.heap.size, 1, none⟩ = some (.slice na bs[k][i].need.length nc)) (by kernel_rfl) ⟨mt, kt, x0, x1⟩ (fun hHeld => ?_)
  refine takeH (i := 0) (d := some 47) (v := ?_) rfl rfl (by kernel_rfl) (by kernel_rfl) (by kernel_rfl) (fun _ _ _ h => h) (by rfl) ?_ (by assumption) ?_
  rotate_left
  · intro w hSw; (try dsimp only at hSw); (try have l0 := hSw.1; have l1 := hSw.2.1; have l2 := hSw.2.2.1; have l3 := hSw.2.2.2; go_simp); (try with_reducible rfl)
  try simp only [Act.put, List.setIfInBounds_toArray, List.set_cons_zero, List.set_cons_succ]
  refine takeH (i := 1) (d := some 48) (v := ?_) rfl rfl (by kernel_rfl) (by kernel_rfl) (by kernel_rfl) (fun _ _ _ h => h) (by rfl) ?_ (by assumption) ?_
  rotate_left
  · intro w hSw; (try dsimp only at hSw); (try have l0 := hSw.1; have l1 := hSw.2.1; have l2 := hSw.2.2.1; have l3 := hSw.2.2.2; go_simp); (try with_reducible rfl)
  try simp only [Act.put, List.setIfInBounds_toArray, List.set_cons_zero, List.set_cons_succ]
  refine takeH (i := 2) (d := some 49) (v := ?_) rfl rfl (by kernel_rfl) (by kernel_rfl) (by kernel_rfl) (fun _ _ _ h => h) (by rfl) ?_ (by assumption) ?_
  rotate_left
  · intro w hSw; (try dsimp only at hSw); (try have l0 := hSw.1; have l1 := hSw.2.1; have l2 := hSw.2.2.1; have l3 := hSw.2.2.2; go_simp); (try with_reducible rfl)
  try simp only [Act.put, List.setIfInBounds_toArray, List.set_cons_zero, List.set_cons_succ]
  refine takeH (i := 3) (d := some 50) (v := ?_) rfl rfl (by kernel_rfl) (by kernel_rfl) (by kernel_rfl) (fun _ _ _ h => h) (by rfl) ?_ (by assumption) ?_
  rotate_left
  · intro w hSw; (try dsimp only at hSw); (try have l0 := hSw.1; have l1 := hSw.2.1; have l2 := hSw.2.2.1; have l3 := hSw.2.2.2; go_simp); (try with_reducible rfl)
  try simp only [Act.put, List.setIfInBounds_toArray, List.set_cons_zero, List.set_cons_succ]
  refine takeH (i := 4) (d := some 51) (v := ?_) rfl rfl (by kernel_rfl) (by kernel_rfl) (by kernel_rfl) (fun _ _ _ h => h) (by rfl) ?_ (by assumption) ?_
  rotate_left
  · intro w hSw; (try dsimp only at hSw); (try have l0 := hSw.1; have l1 := hSw.2.1; have l2 := hSw.2.2.1; have l3 := hSw.2.2.2; go_simp); (try with_reducible rfl)
  try simp only [Act.put, List.setIfInBounds_toArray, List.set_cons_zero, List.set_cons_succ]
  refine takeH (i := 5) (d := some 52) (v := ?_) rfl rfl (by kernel_rfl) (by kernel_rfl) (by kernel_rfl) (fun _ _ _ h => h) (by rfl) ?_ (by assumption) ?_
  rotate_left
  · intro w hSw; (try dsimp only at hSw); (try have l0 := hSw.1; have l1 := hSw.2.1; have l2 := hSw.2.2.1; have l3 := hSw.2.2.2; go_simp); (try with_reducible rfl)
  try simp only [Act.put, List.setIfInBounds_toArray, List.set_cons_zero, List.set_cons_succ]
  refine takeH (i := 6) (d := some 53) (v := ?_) rfl rfl (by kernel_rfl) (by kernel_rfl) (by kernel_rfl) (fun _ _ _ h => h) (by rfl) ?_ (by assumption) ?_
  rotate_left
  · intro w hSw; (try dsimp only at hSw); (try have l0 := hSw.1; have l1 := hSw.2.1; have l2 := hSw.2.2.1; have l3 := hSw.2.2.2; go_simp); (try with_reducible rfl)
  try simp only [Act.put, List.setIfInBounds_toArray, List.set_cons_zero, List.set_cons_succ]
  refine oneH (i := 7) (by kernel_rfl) rfl (by rfl) (fun K hK => ?_)
  go_simp
  have cc := hasRoom_any _ _ _ room bs[to] bs[k][i] _ (HR4.out.ext (Ext.refl W4).drew) (TT.out.ext (Ext.refl W4).drew) (HN4.out.ext (Ext.refl W4).drew) R3.out (GB.out _ (List.getElem_mem hto)) (GB.out _ (List.getElem_mem hk) _ (List.getElem_mem hi)); rw [HF.out] at cc; refine cc.mono ?_; clear cc; rintro e w5 ⟨rfl, hE5⟩; have X5 := Lib.hid ((Ext.refl W4).drew.trans hE5); clear hE5
  try dsimp only
  refine hK.out _ _ (⟨X5.out.cell MT.out, X5.out.cell KTt.out, X5.out.cell X0.out, X5.out.cell X1.out⟩) (fun hHeld => ?_)
  clear hK K
  try simp only [Act.put, List.setIfInBounds_toArray, List.set_cons_zero, List.set_cons_succ]
  refine takeH (i := 8) (d := some 55) (v := ?_) rfl rfl (by kernel_rfl) (by kernel_rfl) (by kernel_rfl) (fun _ _ _ h => h) (by rfl) ?_ (by assumption) ?_
  rotate_left
  · intro w hSw; (try dsimp only at hSw); (try have l0 := hSw.1; go_simp); (try with_reducible rfl)
  try simp only [Act.put, List.setIfInBounds_toArray, List.set_cons_zero, List.set_cons_succ]
  refine wpAnyH_done (by kernel_rfl) ?_ _
  have E5 := Lib.hid (E4.out.trans X5.out)
  have N5 := Lib.hid (Hb.out.ext E5.out)
  have K5 := Lib.hid (E5.out.cell C0.out)
  have H5m := Lib.hid ((X5.out.block (lt_of_heap H4m.out)).trans H4m.out)
  have H5x := Lib.hid ((X5.out.block (lt_of_heap H4x.out)).trans H4x.out)
  have HN5 := Lib.hid (HN4.out.ext X5.out)
  have k5 := K5.out
  have r1 : IntKind.i64.wrap ((i : Int) + 1) = (i : Int) + 1 := IntWalk.i64_in _ (by have := HLB.out _ (List.getElem_mem hk); have := HQ.out; omega)
  have hB5 : B ≤ w5.heap.size := Nat.le_trans hB E5.out.le
  have hq1 : q + 1 ≤ 1000 := by have := HLB.out _ (List.getElem_mem hk); have := HQ.out; omega
  clear hHeld mt kt x0 x1 HR4 TT HN4 KTt MT X0 X1 H4m H4x E4 X5
  go_wp2_with fail
  refine (Delete1_any B g q cc i xs w5 (ownsRow_ext ROW.out E5.out) hiq CELLS.out.one (by omega) (ownsRow_max ROW.out)).mono ?_
  rintro e w6 ⟨rfl, hg6, ho6⟩
  obtain ⟨gcs, gfz, hgh⟩ := HGH.out
  have KT6 := Lib.hid (KT.grown ((E5.out.block hgw).trans hgh) hg6)
  have hlen : (bs[k].take i ++ bs[k].drop (i + 1)).length = q := by have := HQ.out; simp; omega
  have TC6 : TaskCells w6 (xs.take (i * 2) ++ xs.drop ((i + 1) * 2)) (bs[k].take i ++ bs[k].drop (i + 1)) := by
    have hx := CELLS.out.1
    have a1 := CELLS.out.sub (l := 0) (n := i) (by omega)
    have a2 := CELLS.out.sub (l := i + 1) (n := q - i) (by have := HQ.out; omega)
    rw [Nat.zero_mul, List.drop_zero, List.drop_zero] at a1
    rw [List.take_of_length_le (by have := HQ.out; simp; omega), List.take_of_length_le (by have := HQ.out; simp; omega)] at a2
    exact ((a1.app a2).ext E5.out).kt KT6.out (by decide)
  have OT6 : OwnTasks w6 B (.slice (some ⟨g, 0, none⟩) q cc) (bs[k].take i ++ bs[k].drop (i + 1)) := ⟨_, by rw [hlen]; exact ho6, TC6⟩
  obtain ⟨p1, -, p3, p4, p5, p6, p7⟩ := Nest.push N5.out hk K5.out hB5 OT6 hg6 (.inl rfl)
  have hne1 : w.heap.size ≠ g := by omega
  have hne2 : w.heap.size ≠ b := by omega
  have H7m := Lib.hid ((keepBox (b := b) (k := k) (u := .slice (some ⟨g, 0, none⟩) q cc) hg6 (lt_of_heap H5m.out) hne1 hne2).trans H5m.out)
  have H7x := Lib.hid ((keepBox (b := b) (k := k) (u := .slice (some ⟨g, 0, none⟩) q cc) hg6 (lt_of_heap H5x.out) (by omega) (by omega)).trans H5x.out)
  have HN7 := Lib.hid ((HN5.out.kt KT6.out (by decide)).kt p3 (by decide))
  have N7 := Lib.hid p1
  have K7 := Lib.hid (show KM w (w6.setCell ⟨b, k, none⟩ (.slice (some ⟨g, 0, none⟩) q cc)) from E5.out.km.trans (KT6.out.kmt.trans p3.kmb))
  have B7 := Lib.hid (show Below B w (w6.setCell ⟨b, k, none⟩ (.slice (some ⟨g, 0, none⟩) q cc)) from Below.trans (Below.trans (Below.mono E5.out hB) p5) p4)
  clear hg6 ho6 TC6 OT6 p1 p3 p4 p5 hgh KT6 HGH H5m H5x HN5 N5 K5 k5
  go_wp2_with fail
  generalize w6.setCell ⟨b, k, none⟩ (.slice (some ⟨g, 0, none⟩) q cc) = W7 at *
  clear p6 p7
  have hto' : to < (bs.set k (bs[k].take i ++ bs[k].drop (i + 1))).length := by simpa using hto
  have hget : (bs.set k (bs[k].take i ++ bs[k].drop (i + 1)))[to] = bs[to] := List.getElem_set_ne (fun e => hne e.symm) _
  have hsl : (bs.set k (bs[k].take i ++ bs[k].drop (i + 1))).length = bs.length := by simp
  have N7' := N7.out
  rw [← hsl] at N7'
  obtain ⟨b2, nd2, he2, -, -, c2, ot2, -⟩ := N7'.at hto'
  cases he2
  rw [hget] at ot2
  obtain ⟨a2, cc2, rfl⟩ := ot2.form
  have m1 := cell_of_heap H7m.out 1
  have x0 := cell_of_heap H7x.out 0
  have x1 := cell_of_heap H7x.out 1
  simp only [List.getElem?_toArray, List.getElem?_cons_zero, List.getElem?_cons_succ] at m1 x0 x1
  have EX := Lib.hid (((Ext.refl W7).alloc (.cells #[.int .i64 bs[k][i].id, .slice na bs[k][i].need.length nc] 61)).drew)
  have Lit := Lib.hid (Tasks.lit1 (t := bs[k][i]) HN7.out 1).drew
  have cbx := EX.out.cell c2
  have m1x := EX.out.cell m1
  have x0x := EX.out.cell x0
  have x1x := EX.out.cell x1
  have NZ := Lib.hid (N7.out.ext EX.out)
  have Hz := Lib.hid (ot2.ext EX.out)
  have hs7 : w.heap.size ≤ W7.heap.size := B7.out.size
  have Sz := Lib.hid (Nat.le_trans (Nat.le_trans hB hs7) EX.out.le)
  have H8m := Lib.hid ((EX.out.block (lt_of_heap H7m.out)).trans H7m.out)
  have MK := Lib.hid (show ∀ w', ((W7.alloc (.cells #[.int .i64 bs[k][i].id, .slice na bs[k][i].need.length nc] 61)).drew).grownBy w' (Value.slice a2 bs[to].length cc2).ownBlock → w'.cell? ⟨w.heap.size, 1, none⟩ = some (.int .i64 (to : Int)) from fun w' hg => cell_of_block (hg.block _ (lt_of_heap H8m.out) (fun e => by
    obtain ⟨-, cs, fz, hh⟩ := Hz.out.block e.symm
    rw [H8m.out] at hh
    simp only [Option.some.injEq, Obj.cells.injEq] at hh
    exact absurd hh.2.1 (by decide))) m1x)
  clear N7' ot2 hget hsl hs7
  go_region_law ((refine step_app2_tasks rfl _ _ rfl B _ bs[to] rfl Hz.out Sz.out _ _ _ [bs[k][i]] rfl Lit.out (by have := HLB.out _ (List.getElem_mem hto); unfold lim; simp; omega) ?_; intro v' w9 hown hg hbk; have m9 := MK.out w9 hg; obtain ⟨pa, pc, rfl⟩ := hown.form; obtain ⟨p1, p2, p3, p4, p5, p6, p7⟩ := Nest.push NZ.out hto' cbx Sz.out hown hg hbk))
  all_goals
    have el : (bs[to] ++ [bs[k][i]]).length = bs[to].length + 1 := by simp
    rw [el] at p1 p3 p4
    have HZ := Lib.hid (show Below B w _ ∧ Nest _ B B (.slice (some ⟨b, 0, none⟩) bs.length c) _ ∧ KM w _ from ⟨Below.trans (Below.trans (Below.trans B7.out (Below.mono EX.out (Nat.le_trans hB B7.out.size))) p5) p4, p1, K7.out.trans (EX.out.km.trans (p2.kmt.trans p3.kmb))⟩)
    clear p1 p2 p3 p4 p5 p6 p7 hown hg hbk cbx c2 m1 x0 x1 m1x x0x x1x m9
    go_wp2_with fail
    go_ret
    exact ⟨rfl, HZ.out.1, by have := HZ.out.2.1; unfold movL; rw [getD_at hk, getD_at hto]; exact this, HZ.out.2.2⟩

end Go.Proofs.YtjdhiabdcmindaaDoor
