/- Cw Cx Cy Cr Cq Cqd Cqo Cqa Cz Drc in one text (printed by merge.py). No condition. -/
import Derived.Test.YtfidamjepjgknaaNu
import Derived.Test.YtfidamjepjgknaaCl
import Derived.Test.YtfidamjepjgknaaRegZ
import Derived.Test.YtfidamjepjgknaaTk
import Derived.Test.YtfidamjepjgknaaCode
import Derived.Test.YtfidamjepjgknaaDr7
/- Clusters that a call owns; the reference's copy of a cluster (printed by gen_cw.py). No condition. -/
section
namespace Go.Proofs.Ytfidamjepjgknaa
set_option maxRecDepth 100000
open Go.RowKit

/-- Numbers in a slice that has room for them all. -/
def IntsC (w : World) (v : Value) (xs : List Int) : Prop := Ints w v xs ∧ ∃ a cap, v = .slice a xs.length cap ∧ xs.length ≤ cap
theorem IntsC.ext {w w' : World} {v : Value} {xs : List Int} (h : IntsC w v xs) (k : Ext w w') : IntsC w' v xs := ⟨h.1.ext k, h.2⟩
theorem IntsC.kt {w w' : World} {v : Value} {xs : List Int} {e : TypeId} (h : IntsC w v xs) (k : KT e w w') (ne : 3 ≠ e) : IntsC w' v xs := ⟨h.1.kt k ne, h.2⟩
theorem IntsC.open {w : World} {v : Value} {xs : List Int} (h : IntsC w v xs) : ∃ a cap, v = .slice a xs.length cap ∧ IntsC w (.slice a xs.length cap) xs := by
  have h' := h
  obtain ⟨h1, a, cap, rfl, _⟩ := h
  exact ⟨a, cap, rfl, h'⟩
theorem IntsC.nil (w : World) : IntsC w (.slice none 0 0) [] := ⟨Ints.nil w, none, 0, rfl, Nat.le_refl _⟩
theorem OwnInts.capd {w : World} {B : Nat} {v : Value} {xs : List Int} (h : OwnInts w B v xs) (hl : xs.length ≤ lim) : IntsC w v xs := by
  refine ⟨h.done hl, ?_⟩
  obtain ⟨_, h1⟩ := h
  rcases h1 with ⟨rfl, hn⟩ | ⟨g, cap, cur, rfl, _, _, r, _⟩
  · exact ⟨none, 0, by rw [hn], by omega⟩
  · exact ⟨_, _, rfl, r⟩
/-- A cluster whose units the call owns. -/
def OwnCl (w : World) (B : Nat) (v : Value) (c : C) : Prop := ∃ r u, v = .agg #[r, u] ∧ IntsC w r c.room ∧ NestU w B u c.us
theorem OwnCl.ext {w w' : World} {B : Nat} {v : Value} {c : C} (h : OwnCl w B v c) (k : Ext w w') : OwnCl w' B v c := let ⟨r, u, hv, h1, h2⟩ := h; ⟨r, u, hv, h1.ext k, h2.ext k⟩
theorem OwnCl.kt {w w' : World} {B : Nat} {v : Value} {c : C} {e : TypeId} (h : OwnCl w B v c) (k : KT e w w') (n1 : 3 ≠ e) (n2 : 37 ≠ e) (n3 : 31 ≠ e) : OwnCl w' B v c := let ⟨r, u, hv, h1, h2⟩ := h; ⟨r, u, hv, h1.kt k n1, h2.kt k n1 n2 n3⟩
theorem OwnCl.base {w : World} {B B' : Nat} {v : Value} {c : C} (h : OwnCl w B v c) (hb : B' ≤ B) : OwnCl w B' v c := let ⟨r, u, hv, h1, h2⟩ := h; ⟨r, u, hv, h1, h2.base hb⟩
theorem OwnCl.open {w : World} {B : Nat} {v : Value} {c : C} (h : OwnCl w B v c) : ∃ ra rc ua uc, v = .agg #[.slice ra c.room.length rc, .slice ua c.us.length uc] ∧ IntsC w (.slice ra c.room.length rc) c.room ∧ NestU w B (.slice ua c.us.length uc) c.us := by
  obtain ⟨r, u, rfl, h1, h2⟩ := h
  obtain ⟨ra, rc, rfl, h1⟩ := h1.open
  obtain ⟨ua, uc, rfl⟩ := h2.form
  exact ⟨ra, rc, ua, uc, rfl, h1, h2⟩
theorem OwnCl.zero (w : World) (B : Nat) : OwnCl w B (.agg #[.slice none 0 0, .slice none 0 0]) ⟨[], []⟩ := ⟨_, _, rfl, IntsC.nil _, NestU.nil _ _⟩
/-- What a drawn cluster is like. -/
structure Dc (c : C) : Prop where
  room : c.us = [] ∨ c.room.length = 3
  room3 : c.room.length ≤ 3
  us : c.us.length ≤ 10
  need : ∀ u ∈ c.us, ∀ t ∈ u.ts, t.need.length ≤ 3
  fl : (binsC c.us).flatten.length ≤ 20
theorem Dc.zero : Dc ⟨[], []⟩ := ⟨.inl rfl, by simp, by simp, fun u hu => (by cases hu), by simp [binsC]⟩
theorem ts_le {us : List Un} {u : Un} (h : u ∈ us) : u.ts.length ≤ (binsC us).flatten.length := by
  obtain ⟨k, hk, rfl⟩ := List.getElem_of_mem h
  have := (List.sublist_flatten_of_mem (show us[k].ts ∈ binsC us from List.mem_map.2 ⟨_, List.getElem_mem hk, rfl⟩)).length_le
  exact this
theorem weigh_le4 {bs : List (List T)} (h : ∀ b ∈ bs, ∀ t ∈ b, t.need.length ≤ 3) : weigh bs ≤ 4 * bs.flatten.length := by
  induction bs with
  | nil => simp [weigh]
  | cons b r ih =>
    have h1 := ih fun x hx => h x (by simp [hx])
    have h2 : needs b ≤ 3 * b.length := by
      have h3 := h b (by simp)
      clear h ih h1
      induction b with
      | nil => simp [needs]
      | cons t q ih =>
        have := ih fun u hu => h3 u (by simp [hu])
        have := h3 t (by simp)
        simp [needs] at *
        omega
    simp [weigh] at *
    omega
theorem Dc.weigh {c : C} (h : Dc c) : weighC c ≤ 1000 := by
  have h1 := weigh_le4 (bs := binsC c.us) fun b hb t ht => by
    obtain ⟨u, hu, rfl⟩ := List.mem_map.1 hb
    exact h.need u hu t ht
  have h2 := h.room3
  have h3 := h.us
  have h4 := h.fl
  unfold weighC weighU
  omega
theorem OwnCl.clu {w : World} {B : Nat} {v : Value} {c : C} (h : OwnCl w B v c) (d : Dc c) : Clu w v c := by
  obtain ⟨r, u, hv, h1, h2⟩ := h
  refine ⟨r, u, hv, h1.1, h2.units (by have := d.us; unfold lim; omega) fun u hu => ?_⟩
  have := ts_le hu
  have := d.fl
  unfold lim; omega
/-- A box of a cluster is written. -/
theorem cbox_put {w : World} {y : Nat} {a b : Value} (hy : w.heap[y]? = some (.cells #[a, b] 26 (0, 0))) (u0 u1 : Value) :
    KT 26 w ((w.setCell ⟨y, 0, none⟩ u0).setCell ⟨y, 1, none⟩ u1) ∧ ((w.setCell ⟨y, 0, none⟩ u0).setCell ⟨y, 1, none⟩ u1).heap[y]? = some (.cells #[u0, u1] 26 (0, 0)) ∧ (∀ g, g ≠ y → ((w.setCell ⟨y, 0, none⟩ u0).setCell ⟨y, 1, none⟩ u1).heap[g]? = w.heap[g]?) ∧ ((w.setCell ⟨y, 0, none⟩ u0).setCell ⟨y, 1, none⟩ u1).heap.size = w.heap.size := by
  have h1 := heap_put (k := 0) hy u0
  have h2 := heap_put (k := 1) h1 u1
  refine ⟨⟨by simp, fun b cs t fz hb ht => ?_⟩, by simpa using h2, fun g hg => (Below.heap_setCell _ ⟨y, 1, none⟩ u1 g hg).trans (Below.heap_setCell _ ⟨y, 0, none⟩ u0 g hg), by simp⟩
  have e1 := (KT.put (p := ⟨y, 0, none⟩) hy u0).2 b cs t fz hb ht
  exact ((KT.put (p := ⟨y, 1, none⟩) h1 u1).2 b cs t fz (e1.trans hb) ht).trans e1
/-- The box of a cluster gets other units. -/
theorem cbox_put1 {w : World} {y : Nat} {a b : Value} (hy : w.heap[y]? = some (.cells #[a, b] 26 (0, 0))) (u1 : Value) :
    KT 26 w (w.setCell ⟨y, 1, none⟩ u1) ∧ (w.setCell ⟨y, 1, none⟩ u1).heap[y]? = some (.cells #[a, u1] 26 (0, 0)) ∧ ∀ g, g ≠ y → (w.setCell ⟨y, 1, none⟩ u1).heap[g]? = w.heap[g]? :=
  ⟨KT.put (p := ⟨y, 1, none⟩) hy u1, by simpa using heap_put (k := 1) hy u1, fun g hg => Below.heap_setCell _ ⟨y, 1, none⟩ u1 g hg⟩

/-- What the copy's loop keeps: the argument's box, the result's box, the copy's box X. -/
structure Cp (w wr : World) (X : Nat) (AB : Obj) (vr su : Value) (room : List Int) : Prop where
  ext : Ext w wr
  box : wr.heap[w.heap.size]? = some AB
  res : wr.heap[w.heap.size + 1]? = some (Obj.cells #[.slice none 0 0, .slice none 0 0] 26)
  out : wr.heap[X]? = some (Obj.cells #[vr, su] 26)
  room : IntsC wr vr room
  lo : w.heap.size + 1 < X

set_option maxHeartbeats 4000000 in
theorem l21Copy_own (v : Value) (c : C) (w : World) (h : Clu w v c) (hl : c.us.length ≤ 100) (hr3 : c.room.length ≤ 1000) (hn : ∀ u ∈ c.us, ∀ t ∈ u.ts, t.need.length ≤ 1000) :
    Calls Try.prog 52 #[v] w fun e w' => ∃ v', e = .returned v' ∧ Ext w w' ∧ OwnCl w' w.heap.size v' c := by
  obtain ⟨ra, rc, ua, uc, rfl, hr, hu⟩ := h.open
  have Hr := Lib.hid hr
  have Hu := Lib.hid hu
  have HNN := Lib.hid hn
  have HL := Lib.hid hr3
  have HW := Lib.hid (Nat.le_refl w.heap.size)
  clear h hr hu hn hr3
  have E0 := Lib.hid ((((Ext.refl w).alloc (Obj.cells #[.slice ra c.room.length rc, .slice ua c.us.length uc] 26)).alloc (Obj.cells #[.slice none 0 0, .slice none 0 0] 26)).alloc (.cells #[] 3))
  have A0 := Lib.hid (heap_skip ((w.alloc (Obj.cells #[.slice ra c.room.length rc, .slice ua c.us.length uc] 26)).alloc (Obj.cells #[.slice none 0 0, .slice none 0 0] 26)) (.cells #[] 3) (heap_skip (w.alloc (Obj.cells #[.slice ra c.room.length rc, .slice ua c.us.length uc] 26)) (Obj.cells #[.slice none 0 0, .slice none 0 0] 26) (heap_alloc_new w (Obj.cells #[.slice ra c.room.length rc, .slice ua c.us.length uc] 26))))
  have Z0 := Lib.hid (heap_skip ((w.alloc (Obj.cells #[.slice ra c.room.length rc, .slice ua c.us.length uc] 26)).alloc (Obj.cells #[.slice none 0 0, .slice none 0 0] 26)) (.cells #[] 3) (heap_push (n := w.heap.size + 1) (w.alloc (Obj.cells #[.slice ra c.room.length rc, .slice ua c.us.length uc] 26)) (Obj.cells #[.slice none 0 0, .slice none 0 0] 26) (by simp)))
  have O0 := Lib.hid (show OwnInts (((w.alloc (Obj.cells #[.slice ra c.room.length rc, .slice ua c.us.length uc] 26)).alloc (Obj.cells #[.slice none 0 0, .slice none 0 0] 26)).alloc (.cells #[] 3)) w.heap.size (.slice (some ⟨w.heap.size + 1 + 1, 0, none⟩) 0 0) [] from by
    have := OwnInts.lit0 ((w.alloc (Obj.cells #[.slice ra c.room.length rc, .slice ua c.us.length uc] 26)).alloc (Obj.cells #[.slice none 0 0, .slice none 0 0] 26)) w.heap.size (by simp; omega)
    simpa using this)
  go_enter Try.func52, Try.ntmps52
  go_wp2_with (at_builtin; refine app_ints rfl _ _ rfl w.heap.size _ [] rfl O0.out (by simp; omega) _ _ _ c.room rfl (Hr.out.ext E0.out) (by have := HL.out; unfold lim; simp; omega) ?_; intro v1 w1 hown hkt hbl; have E1 := Lib.hid (E0.out.below hbl); have A1 := Lib.hid ((hkt.2 _ _ _ _ A0.out (by decide)).trans A0.out); have Z1 := Lib.hid ((hkt.2 _ _ _ _ Z0.out (by decide)).trans Z0.out); rw [List.nil_append] at hown; obtain ⟨va, vc, hv1, hi1⟩ := (hown.capd (by have := HL.out; unfold lim; omega)).open; subst hv1; have I1 := Lib.hid hi1; clear hown hkt hbl hi1)
  clear O0 E0 A0 Z0 Hr
  have hw1 : w.heap.size + 1 < w1.heap.size := lt_of_heap Z1.out
  have N1 := Lib.hid ((NestU.lit0 w1 w.heap.size E1.out.le).ext ((Ext.refl _).alloc (Obj.cells #[.slice va c.room.length vc, .slice (some ⟨w1.heap.size, 0, none⟩) 0 0] 26)))
  have CP1 := Lib.hid (show Cp w ((w1.alloc (.cells #[] 31)).alloc (Obj.cells #[.slice va c.room.length vc, .slice (some ⟨w1.heap.size, 0, none⟩) 0 0] 26)) (w1.heap.size + 1) (Obj.cells #[.slice ra c.room.length rc, .slice ua c.us.length uc] 26) (.slice va c.room.length vc) (.slice (some ⟨w1.heap.size, 0, none⟩) 0 0) c.room from
    ⟨(E1.out.alloc _).alloc _, heap_skip _ _ (heap_skip _ _ A1.out), heap_skip _ _ (heap_skip _ _ Z1.out), heap_push _ _ (by simp), I1.out.ext (((Ext.refl w1).alloc _).alloc _), by omega⟩)
  obtain ⟨X, hX⟩ : ∃ X, X = w1.heap.size + 1 := ⟨_, rfl⟩
  rw [← hX] at CP1
  rw [← hX]
  clear E1 A1 Z1 I1 hw1
  generalize hW : (w1.alloc (.cells #[] 31)).alloc (Obj.cells #[.slice va c.room.length vc, .slice (some ⟨w1.heap.size, 0, none⟩) 0 0] 26) = W at *
  clear hW
  go_loopw [4] (fun i wr => ∃ (k : Nat) (sa : Option Addr) (sc : Nat), k ≤ c.us.length ∧ i = .int .i64 k ∧ NestU wr w.heap.size (.slice sa k sc) (c.us.take k) ∧ Cp w wr X (Obj.cells #[.slice ra c.room.length rc, .slice ua c.us.length uc] 26) (.slice va c.room.length vc) (.slice sa k sc) c.room) (fun i _ => c.us.length - (intOf i).toNat)
  case atStart => exact ⟨0, _, _, by omega, rfl, N1.out, CP1.out⟩
  case round =>
    clear N1 CP1 hX
    obtain ⟨k, sa, sc, hk, rfl, hnest, hcp⟩ := hrel
    have HN := Lib.hid hnest
    have HC := Lib.hid hcp
    have hXs : X < wr.heap.size := lt_of_heap hcp.out
    have hXl : w.heap.size + 1 < X := hcp.lo
    have x0 := cell_of_heap hcp.box 0
    have x1 := cell_of_heap hcp.box 1
    clear hnest hcp
    by_cases hlt : k < c.us.length
    · obtain ⟨b, off, nd, rfl, c0, c1, ht⟩ := Hu.out.at hlt
      have HB := Lib.hid (World.block_lt_of_cell? w _ c0)
      have c0' := HC.out.ext.cell c0
      have c1' := HC.out.ext.cell c1
      obtain ⟨ta, tc, rfl, ht'⟩ := (ht.ext HC.out.ext).open
      have Tk := Lib.hid ht'
      have Hn := Lib.hid (HNN.out _ (List.getElem_mem hlt))
      have HW := Lib.hid HC.out.ext.le
      have i0 : (0 : Int) ≤ (k : Int) := by omega
      have i1 : (k : Int) < (c.us.length : Int) := by omega
      have KS := Lib.hid (show ∀ w', Ext wr w' → w'.heap[w.heap.size]? = some (Obj.cells #[.slice ra c.room.length rc, .slice (some ⟨b, off, none⟩) c.us.length uc] 26) ∧ w'.heap[X]? = some (Obj.cells #[.slice va c.room.length vc, .slice sa k sc] 26) ∧ w'.cell? ⟨b, off + k * 2, none⟩ = some (.bool c.us[k].op) ∧ w'.cell? ⟨b, off + k * 2 + 1, none⟩ = some (.slice ta c.us[k].ts.length tc) from
        fun w' h => ⟨(h.block (lt_of_heap HC.out.box)).trans HC.out.box, (h.block hXs).trans HC.out.out, h.cell c0', h.cell c1'⟩)
      have hk5 := Lib.hid (show ∀ (w4 w5 : World), Ext wr w4 → KT 31 w4 w5 → Below w.heap.size w4 w5 → Cp w w5 X (Obj.cells #[.slice ra c.room.length rc, .slice (some ⟨b, off, none⟩) c.us.length uc] 26) (.slice va c.room.length vc) (.slice sa k sc) c.room ∧ w5.heap[w.heap.size]? = some (Obj.cells #[.slice ra c.room.length rc, .slice (some ⟨b, off, none⟩) c.us.length uc] 26) ∧ w5.heap[X]? = some (Obj.cells #[.slice va c.room.length vc, .slice sa k sc] 26) ∧ w5.cell? ⟨b, off + k * 2, none⟩ = some (.bool c.us[k].op) ∧ w5.cell? ⟨b, off + k * 2 + 1, none⟩ = some (.slice ta c.us[k].ts.length tc) from
        fun w4 w5 h hkt hbl => by
          obtain ⟨s1, s2, s3, s4⟩ := KS.out w4 h
          have q1 := (hkt.2 _ _ _ _ s1 (by decide)).trans s1
          have q2 := (hkt.2 _ _ _ _ s2 (by decide)).trans s2
          have r4 := (h.block (lt_of_heap HC.out.res)).trans HC.out.res
          exact ⟨⟨(HC.out.ext.trans h).below hbl, q1, (hkt.2 _ _ _ _ r4 (by decide)).trans r4, q2, (HC.out.room.ext h).kt hkt (by decide), HC.out.lo⟩, q1, q2, (Below.cell (p := ⟨b, off + k * 2, none⟩) hbl HB.out).trans s3, (Below.cell (p := ⟨b, off + k * 2 + 1, none⟩) hbl HB.out).trans s4⟩)
      clear c0 c1 ht ht' c0' c1'
      go_wp2_with fail
      refine regionZ (S := fun w' => w'.heap[w.heap.size]? = some (Obj.cells #[.slice ra c.room.length rc, .slice (some ⟨b, off, none⟩) c.us.length uc] 26) ∧ w'.heap[X]? = some (Obj.cells #[.slice va c.room.length vc, .slice sa k sc] 26) ∧ w'.cell? ⟨b, off + k * 2, none⟩ = some (.bool c.us[k].op) ∧ w'.cell? ⟨b, off + k * 2 + 1, none⟩ = some (.slice ta c.us[k].ts.length tc)) 19 (by kernel_rfl) (KS.out _ (Ext.refl wr).drew) (fun hHeld => ?_)
      refine pureZ (i := 0) (d := some 18) (v := ?_) rfl rfl (by decide) (by kernel_rfl) (by kernel_rfl) (by kernel_rfl) (fun _ _ _ h => h) (by rfl) ?_ (by assumption) ?_
      rotate_left
      · intro w; (try go_simp); (try with_reducible rfl)
      try simp only [Act.put]
      try simp only [List.setIfInBounds_toArray]
      try simp only [List.set_cons_succ]
      try simp only [List.set_cons_zero]
      refine readZ [17] (i := 1) (d := some 19) (v := ?_) rfl rfl (by decide) (by kernel_rfl) (by kernel_rfl) (by kernel_rfl) (by kernel_rfl) (fun _ _ _ h => h) (by rfl) ?_ (by assumption) ?_
      rotate_left
      · intro w hSw; (try dsimp only at hSw); (try have l0 := cell_of_heap hSw.2.1 0; have l1 := cell_of_heap hSw.2.1 1; go_simp); (try with_reducible rfl)
      try simp only [Act.put]
      try simp only [List.setIfInBounds_toArray]
      try simp only [List.set_cons_succ]
      try simp only [List.set_cons_zero]
      refine pureZ (i := 2) (d := some 20) (v := ?_) rfl rfl (by decide) (by kernel_rfl) (by kernel_rfl) (by kernel_rfl) (fun _ _ _ h => h) (by rfl) ?_ (by assumption) ?_
      rotate_left
      · intro w; (try go_simp); (try with_reducible rfl)
      try simp only [Act.put]
      try simp only [List.setIfInBounds_toArray]
      try simp only [List.set_cons_succ]
      try simp only [List.set_cons_zero]
      refine readZ [17, 16, 15, 7, 6, 5] (i := 3) (d := some 21) (v := ?_) rfl rfl (by decide) (by kernel_rfl) (by kernel_rfl) (by kernel_rfl) (by kernel_rfl) (fun _ _ _ h => h) (by rfl) ?_ (by assumption) ?_
      rotate_left
      · intro w hSw; (try dsimp only at hSw); (try have l0 := cell_of_heap hSw.1 0; have l1 := cell_of_heap hSw.1 1; go_simp); (try with_reducible rfl)
      try simp only [Act.put]
      try simp only [List.setIfInBounds_toArray]
      try simp only [List.set_cons_succ]
      try simp only [List.set_cons_zero]
      refine pureZ (i := 4) (d := some 22) (v := ?_) rfl rfl (by decide) (by kernel_rfl) (by kernel_rfl) (by kernel_rfl) (fun _ _ _ h => h) (by rfl) ?_ (by assumption) ?_
      rotate_left
      · intro w; (try go_simp); (try with_reducible rfl)
      try simp only [Act.put]
      try simp only [List.setIfInBounds_toArray]
      try simp only [List.set_cons_succ]
      try simp only [List.set_cons_zero]
      refine pureZ (i := 5) (d := some 23) (v := ?_) rfl rfl (by decide) (by kernel_rfl) (by kernel_rfl) (by kernel_rfl) (fun _ _ _ h => h) (by rfl) ?_ (by assumption) ?_
      rotate_left
      · intro w; (try go_simp); (try with_reducible rfl)
      try simp only [Act.put]
      try simp only [List.setIfInBounds_toArray]
      try simp only [List.set_cons_succ]
      try simp only [List.set_cons_zero]
      refine pureZ (i := 6) (d := some 24) (v := ?_) rfl rfl (by decide) (by kernel_rfl) (by kernel_rfl) (by kernel_rfl) (fun _ _ _ h => h) (by rfl) ?_ (by assumption) ?_
      rotate_left
      · intro w; (try go_simp); (try with_reducible rfl)
      try simp only [Act.put]
      try simp only [List.setIfInBounds_toArray]
      try simp only [List.set_cons_succ]
      try simp only [List.set_cons_zero]
      refine readZ [17, 16, 15] (i := 7) (d := some 25) (v := ?_) rfl rfl (by decide) (by kernel_rfl) (by kernel_rfl) (by kernel_rfl) (by kernel_rfl) (fun _ _ _ h => h) (by rfl) ?_ (by assumption) ?_
      rotate_left
      · intro w hSw; (try dsimp only at hSw); (try have l0 := hSw.2.2.1; go_simp); (try with_reducible rfl)
      try simp only [Act.put]
      try simp only [List.setIfInBounds_toArray]
      try simp only [List.set_cons_succ]
      try simp only [List.set_cons_zero]
      refine pureZ (i := 8) (d := some 26) (v := ?_) rfl rfl (by decide) (by kernel_rfl) (by kernel_rfl) (by kernel_rfl) (fun _ _ _ h => h) (by rfl) ?_ (by assumption) ?_
      rotate_left
      · intro w; (try go_simp); (try with_reducible rfl)
      try simp only [Act.put]
      try simp only [List.setIfInBounds_toArray]
      try simp only [List.set_cons_succ]
      try simp only [List.set_cons_zero]
      refine readZ [17, 16, 15, 14, 13, 12, 11] (i := 9) (d := some 27) (v := ?_) rfl rfl (by decide) (by kernel_rfl) (by kernel_rfl) (by kernel_rfl) (by kernel_rfl) (fun _ _ _ h => h) (by rfl) ?_ (by assumption) ?_
      rotate_left
      · intro w hSw; (try dsimp only at hSw); (try have l0 := cell_of_heap hSw.1 0; have l1 := cell_of_heap hSw.1 1; go_simp); (try with_reducible rfl)
      try simp only [Act.put]
      try simp only [List.setIfInBounds_toArray]
      try simp only [List.set_cons_succ]
      try simp only [List.set_cons_zero]
      refine pureZ (i := 10) (d := some 28) (v := ?_) rfl rfl (by decide) (by kernel_rfl) (by kernel_rfl) (by kernel_rfl) (fun _ _ _ h => h) (by rfl) ?_ (by assumption) ?_
      rotate_left
      · intro w; (try go_simp); (try with_reducible rfl)
      try simp only [Act.put]
      try simp only [List.setIfInBounds_toArray]
      try simp only [List.set_cons_succ]
      try simp only [List.set_cons_zero]
      refine pureZ (i := 11) (d := some 29) (v := ?_) rfl rfl (by decide) (by kernel_rfl) (by kernel_rfl) (by kernel_rfl) (fun _ _ _ h => h) (by rfl) ?_ (by assumption) ?_
      rotate_left
      · intro w; (try go_simp); (try with_reducible rfl)
      try simp only [Act.put]
      try simp only [List.setIfInBounds_toArray]
      try simp only [List.set_cons_succ]
      try simp only [List.set_cons_zero]
      refine pureZ (i := 12) (d := some 30) (v := ?_) rfl rfl (by decide) (by kernel_rfl) (by kernel_rfl) (by kernel_rfl) (fun _ _ _ h => h) (by rfl) ?_ (by assumption) ?_
      rotate_left
      · intro w; (try go_simp); (try with_reducible rfl)
      try simp only [Act.put]
      try simp only [List.setIfInBounds_toArray]
      try simp only [List.set_cons_succ]
      try simp only [List.set_cons_zero]
      refine readZ [17, 16, 15, 14] (i := 13) (d := some 31) (v := ?_) rfl rfl (by decide) (by kernel_rfl) (by kernel_rfl) (by kernel_rfl) (by kernel_rfl) (fun _ _ _ h => h) (by rfl) ?_ (by assumption) ?_
      rotate_left
      · intro w hSw; (try dsimp only at hSw); (try have l0 := hSw.2.2.2; go_simp); (try with_reducible rfl)
      try simp only [Act.put]
      try simp only [List.setIfInBounds_toArray]
      try simp only [List.set_cons_succ]
      try simp only [List.set_cons_zero]
      refine oneZ (i := 14) (by kernel_rfl) rfl (by rfl) (fun K hK => ?_)
      go_simp
      refine (l2Copy_any _ _ wr.drew (Tk.out.ext (Ext.refl wr).drew) Hn.out).mono ?_
      rintro e w2 ⟨r2, rfl, hE2, ho2⟩
      obtain ⟨oa, oc, hv2⟩ := ho2.form
      subst hv2
      have X2 := Lib.hid ((Ext.refl wr).drew.trans hE2)
      have O2 := Lib.hid ho2
      clear hE2 ho2
      try dsimp only
      refine hK.out _ _ (KS.out _ X2.out) (fun hHeld => ?_)
      clear hK K
      try simp only [Act.put]
      try simp only [List.setIfInBounds_toArray]
      try simp only [List.set_cons_succ]
      try simp only [List.set_cons_zero]
      refine pureZ (i := 15) (d := some 33) (v := ?_) rfl rfl (by decide) (by kernel_rfl) (by kernel_rfl) (by kernel_rfl) (fun _ _ _ h => h) (by rfl) ?_ (by assumption) ?_
      rotate_left
      · intro w; (try go_simp); (try with_reducible rfl)
      try simp only [Act.put]
      try simp only [List.setIfInBounds_toArray]
      try simp only [List.set_cons_succ]
      try simp only [List.set_cons_zero]
      refine oneZ (i := 16) (by kernel_rfl) rfl (by rfl) (fun K hK => ?_)
      go_simp
      try dsimp only
      refine hK.out _ _ (KS.out _ (X2.out.alloc _)) (fun hHeld => ?_)
      clear hK K
      try simp only [Act.put]
      try simp only [List.setIfInBounds_toArray]
      try simp only [List.set_cons_succ]
      try simp only [List.set_cons_zero]
      refine oneZ (i := 17) (by kernel_rfl) rfl (by rfl) (fun K hK => ?_)
      refine wp_app_nestU _ _ rfl w.heap.size _ (c.us.take k) (by rfl) HN.out (X2.out.alloc _) HW.out _ _ c.us[k].op (.slice oa c.us[k].ts.length oc) c.us[k].ts (by rfl) (Row.lit w2 #[.bool c.us[k].op, .slice oa c.us[k].ts.length oc] _) ((O2.out.ext ((Ext.refl w2).alloc _)).base (by have := X2.out.le; exact Nat.le_refl _)) (by unfold lim; simp; omega) ?_
      intro v5 w5 hnest hkt hbl
      have N5 := Lib.hid (show NestU w5 w.heap.size v5 (c.us.take (k + 1)) from by rw [List.take_succ_eq_append_getElem hlt]; exact hnest)
      obtain ⟨na, nc, hv5⟩ := N5.out.form
      rw [List.length_take, Nat.min_eq_left (by omega : k + 1 ≤ c.us.length)] at hv5
      subst hv5
      have H5 := Lib.hid (hk5.out _ w5 (X2.out.alloc _) hkt hbl)
      clear hnest hkt hbl
      try dsimp only
      refine hK.out _ _ (H5.out.2) (fun hHeld => ?_)
      clear hK K
      try simp only [Act.put]
      try simp only [List.setIfInBounds_toArray]
      try simp only [List.set_cons_succ]
      try simp only [List.set_cons_zero]
      refine pureZ (i := 18) (d := some 36) (v := ?_) rfl rfl (by decide) (by kernel_rfl) (by kernel_rfl) (by kernel_rfl) (fun _ _ _ h => h) (by rfl) ?_ (by assumption) ?_
      rotate_left
      · intro w; (try go_simp); (try with_reducible rfl)
      try simp only [Act.put]
      try simp only [List.setIfInBounds_toArray]
      try simp only [List.set_cons_succ]
      try simp only [List.set_cons_zero]
      have f1 := frozen_of_heap H5.out.2.2.1 1
      have l1 := cell_of_heap H5.out.2.2.1 1
      refine lastZ (by kernel_rfl) rfl (by rfl) (fun K hK => ?_)
      go_simp
      try dsimp only
      refine hK.out _ _ ?_
      clear hK K
      try simp only [Act.put]
      try simp only [List.setIfInBounds_toArray]
      try simp only [List.set_cons_succ]
      try simp only [List.set_cons_zero]
      refine doneZ (by kernel_rfl) ?_
      have P6 := cbox_put1 H5.out.2.2.1 (.slice na (k + 1) nc)
      have N6 := Lib.hid (N5.out.kt P6.1 (by decide) (by decide) (by decide))
      have C6 := Lib.hid (show Cp w (w5.setCell ⟨X, 1, none⟩ (.slice na (k + 1) nc)) X (Obj.cells #[.slice ra c.room.length rc, .slice (some ⟨b, off, none⟩) c.us.length uc] 26) (.slice va c.room.length vc) (.slice na (k + 1) nc) c.room from
        ⟨H5.out.1.ext.setCell (p := ⟨X, 1, none⟩) (show w.heap.size ≤ X by omega) _, (P6.2.2 _ (by omega)).trans H5.out.1.box, (P6.2.2 _ (by omega)).trans H5.out.1.res, P6.2.1, H5.out.1.room.kt P6.1 (by decide), H5.out.1.lo⟩)
      clear P6 H5 N5 KS hk5 f1 l1
      go_wp2_with fail
      go_roundw
      case rel => exact ⟨k + 1, na, nc, by omega, by go_num, N6.out, C6.out⟩
      case measure => simp [intOf]; omega
    · have e : k = c.us.length := by omega
      subst e
      have HN2 := Lib.hid (show NestU wr w.heap.size (.slice sa c.us.length sc) c.us from by have := HN.out; rwa [List.take_length] at this)
      have y0 := cell_of_heap HC.out.out 0
      have y1 := cell_of_heap HC.out.out 1
      have z0 := cell_of_heap HC.out.res 0
      have z1 := cell_of_heap HC.out.res 1
      have g0 := frozen_of_heap HC.out.res 0
      have g1 := frozen_of_heap HC.out.res 1
      have P6 := cbox_put HC.out.res (.slice va c.room.length vc) (.slice sa c.us.length sc)
      have F := Lib.hid (show Ext w ((wr.setCell ⟨w.heap.size + 1, 0, none⟩ (.slice va c.room.length vc)).setCell ⟨w.heap.size + 1, 1, none⟩ (.slice sa c.us.length sc)) ∧ OwnCl ((wr.setCell ⟨w.heap.size + 1, 0, none⟩ (.slice va c.room.length vc)).setCell ⟨w.heap.size + 1, 1, none⟩ (.slice sa c.us.length sc)) w.heap.size (.agg #[.slice va c.room.length vc, .slice sa c.us.length sc]) c from
        ⟨(HC.out.ext.setCell (p := ⟨w.heap.size + 1, 0, none⟩) (show w.heap.size ≤ w.heap.size + 1 by omega) _).setCell (p := ⟨w.heap.size + 1, 1, none⟩) (show w.heap.size ≤ w.heap.size + 1 by omega) _, _, _, rfl, HC.out.room.kt P6.1 (by decide), HN2.out.kt P6.1 (by decide) (by decide) (by decide)⟩)
      clear P6 HN HN2 HC
      go_wp2_with fail
      refine bodyPost_ret (v := .agg #[.slice va c.room.length vc, .slice sa c.us.length sc]) ?_ rfl ⟨_, rfl, F.out.1, F.out.2⟩
      simp [results, Try.results52, go_sem, z0, z1]

end Go.Proofs.Ytfidamjepjgknaa
end

/- The reference's new cluster (printed by gen_cx.py). No condition. -/
section
namespace Go.Proofs.Ytfidamjepjgknaa
set_option maxRecDepth 100000
open Go.RowKit

/-- What a loop keeps: the result's box R, the new cluster's box X. -/
structure Cq (w wr : World) (R X : Nat) (vr su : Value) (room : List Int) : Prop where
  ext : Ext w wr
  res : wr.heap[R]? = some (Obj.cells #[.slice none 0 0, .slice none 0 0] 26)
  out : wr.heap[X]? = some (Obj.cells #[vr, su] 26)
  room : IntsC wr vr room
  lo : w.heap.size ≤ R
  hi : R < X

def NewPost (w : World) (e : Ending) (w' : World) : Prop := ∃ v' c b, e = .returned (.tuple #[v', .bool b]) ∧ Ext w w' ∧ OwnCl w' w.heap.size v' c ∧ Dc c
theorem new_post {w w' : World} {v' : Value} {c : C} {b : Bool} (h : Ext w w' ∧ OwnCl w' w.heap.size v' c ∧ Dc c) : NewPost w (.returned (.tuple #[v', .bool b])) w' := ⟨v', c, b, rfl, h⟩
def OpPost (w : World) (e : Ending) (w' : World) : Prop := ∃ v' c q, e = .returned (.tuple #[v', .int .i64 q]) ∧ Ext w w' ∧ OwnCl w' w.heap.size v' c ∧ Dc c
theorem op_post {w w' : World} {v' : Value} {c : C} {q : Int} (h : Ext w w' ∧ OwnCl w' w.heap.size v' c ∧ Dc c) : OpPost w (.returned (.tuple #[v', .int .i64 q])) w' := ⟨v', c, q, rfl, h⟩

set_option maxHeartbeats 4000000 in
theorem ClusterNew_own (v : Value) (room : List Int) (n : Int) (w : World) (hr : Ints w v room) (hl : room.length ≤ 1000) :
    Calls Try.prog 30 #[v, .int .i64 n] w (NewPost w) := by
  obtain ⟨ra, rc, rfl, hr⟩ := hr.open
  have E0 := Lib.hid ((Ext.refl w).alloc (Obj.cells #[.slice none 0 0, .slice none 0 0] 26))
  have Z0 := Lib.hid (heap_alloc_new w (Obj.cells #[.slice none 0 0, .slice none 0 0] 26))
  have Hr := Lib.hid (hr.ext E0.out)
  have HL := Lib.hid hl
  clear hr hl
  go_enter Try.func30, Try.ntmps30
  go_wp2_with fail
  generalize w.alloc (Obj.cells #[.slice none 0 0, .slice none 0 0] 26) = W0 at *
  have z0 := cell_of_heap Z0.out 0
  have z1 := cell_of_heap Z0.out 1
  have g0 := frozen_of_heap Z0.out 0
  have g1 := frozen_of_heap Z0.out 1
  have ZF := Lib.hid (show Ext w ((W0.setCell ⟨w.heap.size, 0, none⟩ (.slice none 0 0)).setCell ⟨w.heap.size, 1, none⟩ (.slice none 0 0)) from (E0.out.setCell (p := ⟨w.heap.size, 0, none⟩) (Nat.le_refl _) _).setCell (p := ⟨w.heap.size, 1, none⟩) (Nat.le_refl _) _)
  have cc := l2Room_any _ room W0 Hr.out
  cases hb : roomB room with
  | false =>
    rw [hb] at cc
    refine cc.mono ?_
    clear cc hb
    rintro e w1 ⟨rfl, hw⟩
    subst hw
    go_wp2_with fail
    refine bodyPost_ret (v := .tuple #[.agg #[.slice none 0 0, .slice none 0 0], .bool false]) ?_ rfl (new_post ⟨ZF.out, OwnCl.zero _ _, Dc.zero⟩)
    simp [results, Try.results30, go_sem, z0, z1]

  | true =>
    have R3 := Lib.hid (roomB_iff.1 hb).1.1
    rw [hb] at cc
    refine cc.mono ?_
    clear cc hb
    rintro e w1 ⟨rfl, hw⟩
    subst hw
    go_wp2_with fail
    have cc := l6In_any n 1 10 W0
    cases hin : inB n 1 10 with
    | false =>
      rw [hin] at cc
      refine cc.mono ?_
      clear cc hin
      rintro e w1 ⟨rfl, hw⟩
      subst hw
      go_wp2_with fail
      refine bodyPost_ret (v := .tuple #[.agg #[.slice none 0 0, .slice none 0 0], .bool false]) ?_ rfl (new_post ⟨ZF.out, OwnCl.zero _ _, Dc.zero⟩)
      simp [results, Try.results30, go_sem, z0, z1]

    | true =>
      have hn := inB_iff.1 hin
      rw [hin] at cc
      refine cc.mono ?_
      clear cc hin
      rintro e w1 ⟨rfl, hw⟩
      subst hw
      have hn1 : 1 ≤ n := hn.1
      have hn2 : n ≤ 10 := hn.2
      obtain ⟨m, hm⟩ : ∃ m : Nat, n = (m : Int) := ⟨n.toNat, by omega⟩
      have W0s : w.heap.size < W0.heap.size := lt_of_heap Z0.out
      have O0 := Lib.hid (OwnInts.lit0 W0 w.heap.size (Nat.le_of_lt W0s))
      clear hn z0 z1 g0 g1 ZF
      go_wp2_with (at_builtin; refine app_ints rfl _ _ rfl w.heap.size _ [] rfl O0.out (by simp <;> omega) _ _ _ room rfl (Hr.out.ext ((Ext.refl W0).alloc _)) (by have := HL.out; unfold lim; simp; omega) ?_; intro v1 w1 hown hkt hbl; have E1 := Lib.hid ((E0.out.alloc (.cells #[] 3)).below hbl); have Z1 := Lib.hid ((hkt.2 _ _ _ _ (heap_skip _ (.cells #[] 3) Z0.out) (by decide)).trans (heap_skip _ (.cells #[] 3) Z0.out)); rw [List.nil_append] at hown; obtain ⟨va, vc, hv1, hi1⟩ := (hown.capd (by have := HL.out; unfold lim; omega)).open; subst hv1; have I1 := Lib.hid hi1; clear hown hkt hbl hi1)
      clear O0 Hr E0 Z0 W0s
      have hw1 : w.heap.size < w1.heap.size := lt_of_heap Z1.out
      have N1 := Lib.hid ((NestU.lit0 w1 w.heap.size E1.out.le).ext ((Ext.refl _).alloc (Obj.cells #[.slice va room.length vc, .slice (some ⟨w1.heap.size, 0, none⟩) 0 0] 26)))
      have CP1 := Lib.hid (show Cq w ((w1.alloc (.cells #[] 31)).alloc (Obj.cells #[.slice va room.length vc, .slice (some ⟨w1.heap.size, 0, none⟩) 0 0] 26)) w.heap.size (w1.heap.size + 1) (.slice va room.length vc) (.slice (some ⟨w1.heap.size, 0, none⟩) 0 0) room from
        ⟨(E1.out.alloc _).alloc _, heap_skip _ _ (heap_skip _ _ Z1.out), heap_push _ _ (by simp), I1.out.ext (((Ext.refl w1).alloc _).alloc _), Nat.le_refl _, by omega⟩)
      obtain ⟨X, hX⟩ : ∃ X, X = w1.heap.size + 1 := ⟨_, rfl⟩
      rw [← hX] at CP1
      rw [← hX]
      clear E1 Z1 I1 hw1
      generalize hW : (w1.alloc (.cells #[] 31)).alloc (Obj.cells #[.slice va room.length vc, .slice (some ⟨w1.heap.size, 0, none⟩) 0 0] 26) = W at *
      clear hW
      go_loopw [7] (fun i wr => ∃ (k : Nat) (sa : Option Addr) (sc : Nat), k ≤ m ∧ i = .int .i64 k ∧ NestU wr w.heap.size (.slice sa k sc) (List.replicate k ⟨false, []⟩) ∧ Cq w wr w.heap.size X (.slice va room.length vc) (.slice sa k sc) room) (fun i _ => m - (intOf i).toNat)
      case atStart => exact ⟨0, _, _, by omega, rfl, N1.out, CP1.out⟩
      case round =>
        clear N1 CP1 hX
        obtain ⟨k, sa, sc, hk, rfl, hnest, hcp⟩ := hrel
        have HN := Lib.hid hnest
        have HC := Lib.hid hcp
        have hXs : X < wr.heap.size := lt_of_heap hcp.out
        have hXl : w.heap.size < X := hcp.hi
        have x0 := cell_of_heap hcp.out 0
        have x1 := cell_of_heap hcp.out 1
        have HW := Lib.hid hcp.ext.le
        clear hnest hcp
        by_cases hlt : k < m
        · have b1 : (k : Int) < n := by omega
          have q1 : ∀ w4 : World, Hid (∀ w5, Ext wr w4 → KT 31 w4 w5 → Below w.heap.size w4 w5 → Cq w w5 w.heap.size X (.slice va room.length vc) (.slice sa k sc) room) := fun w4 => Lib.hid fun w5 h hkt hbl => by
            have s2 := (h.block hXs).trans HC.out.out
            have r4 := (h.block (lt_of_heap HC.out.res)).trans HC.out.res
            exact ⟨(HC.out.ext.trans h).below hbl, (hkt.2 _ _ _ _ r4 (by decide)).trans r4, (hkt.2 _ _ _ _ s2 (by decide)).trans s2, (HC.out.room.ext h).kt hkt (by decide), HC.out.lo, HC.out.hi⟩
          go_wp2_with (at_builtin; refine app_nestU rfl _ _ rfl w.heap.size _ (List.replicate k ⟨false, []⟩) rfl HN.out (((Ext.refl wr).alloc (.cells #[] 37)).alloc (.cells #[.bool false, .slice (some ⟨wr.heap.size, 0, none⟩) 0 0] 31)) HW.out _ _ false (.slice (some ⟨wr.heap.size, 0, none⟩) 0 0) [] rfl ?hrow ((OwnTasks.lit0 wr wr.heap.size (Nat.le_refl _)).alloc _) (by unfold lim; simp; omega) ?_; (case hrow => (have hrw := Row.lit (wr.alloc (.cells #[] 37)) #[.bool false, .slice (some ⟨wr.heap.size, 0, none⟩) 0 0] 31; simpa using hrw)); intro v5 w5 hnest hkt hbl; have C5 := Lib.hid ((q1 _).out w5 (((Ext.refl wr).alloc (.cells #[] 37)).alloc (.cells #[.bool false, .slice (some ⟨wr.heap.size, 0, none⟩) 0 0] 31)) hkt hbl); have N5 := Lib.hid (show NestU w5 w.heap.size v5 (List.replicate (k + 1) ⟨false, []⟩) from by rw [List.replicate_succ']; exact hnest); have l1 := cell_of_heap C5.out.out 1; have f1 := frozen_of_heap C5.out.out 1; obtain ⟨na, nc, hv5⟩ := N5.out.form; rw [List.length_replicate] at hv5; subst hv5; clear hnest hkt hbl)
          have P6 := cbox_put1 C5.out.out (.slice na (k + 1) nc)
          have N6 := Lib.hid (N5.out.kt P6.1 (by decide) (by decide) (by decide))
          have C6 := Lib.hid (show Cq w (w5.setCell ⟨X, 1, none⟩ (.slice na (k + 1) nc)) w.heap.size X (.slice va room.length vc) (.slice na (k + 1) nc) room from
            ⟨C5.out.ext.setCell (p := ⟨X, 1, none⟩) (show w.heap.size ≤ X by omega) _, (P6.2.2 _ (by omega)).trans C5.out.res, P6.2.1, C5.out.room.kt P6.1 (by decide), C5.out.lo, C5.out.hi⟩)
          clear P6 C5 N5 HN HC
          go_roundw
          case rel => exact ⟨k + 1, na, nc, by omega, by go_num, N6.out, C6.out⟩
          case measure => simp [intOf]; omega
        · have e : k = m := by omega
          subst e
          have b1 : ¬ ((k : Int) < n) := by omega
          have z0 := cell_of_heap HC.out.res 0
          have z1 := cell_of_heap HC.out.res 1
          have g0 := frozen_of_heap HC.out.res 0
          have g1 := frozen_of_heap HC.out.res 1
          have P6 := cbox_put HC.out.res (.slice va room.length vc) (.slice sa k sc)
          have F := Lib.hid (show Ext w ((wr.setCell ⟨w.heap.size, 0, none⟩ (.slice va room.length vc)).setCell ⟨w.heap.size, 1, none⟩ (.slice sa k sc)) ∧ OwnCl ((wr.setCell ⟨w.heap.size, 0, none⟩ (.slice va room.length vc)).setCell ⟨w.heap.size, 1, none⟩ (.slice sa k sc)) w.heap.size (.agg #[.slice va room.length vc, .slice sa k sc]) ⟨room, List.replicate k ⟨false, []⟩⟩ ∧ Dc ⟨room, List.replicate k ⟨false, []⟩⟩ from
            ⟨(HC.out.ext.setCell (p := ⟨w.heap.size, 0, none⟩) (Nat.le_refl _) _).setCell (p := ⟨w.heap.size, 1, none⟩) (Nat.le_refl _) _, ⟨_, _, rfl, HC.out.room.kt P6.1 (by decide), HN.out.kt P6.1 (by decide) (by decide) (by decide)⟩,
             ⟨.inr R3.out, by have := R3.out; simp; omega, by simp; omega, fun u hu => by rw [List.eq_of_mem_replicate hu]; exact fun t ht => (by cases ht), by simp [binsC]⟩⟩)
          clear P6 HN HC
          go_wp2_with fail
          refine bodyPost_ret (v := .tuple #[.agg #[.slice va room.length vc, .slice sa k sc], .bool true]) ?_ rfl (new_post F.out)
          simp [results, Try.results30, go_sem, z0, z1]

end Go.Proofs.Ytfidamjepjgknaa
end

/- The reference's search of a node of a cluster that has room (printed by gen_cy.py). No condition. -/
section
namespace Go.Proofs.Ytfidamjepjgknaa
set_option maxRecDepth 100000
open Go.RowKit

/-- A node's place, or -1. -/
def AtPost (n : Nat) (w : World) (e : Ending) (w' : World) : Prop := ∃ k : Int, e = .returned (.int .i64 k) ∧ -1 ≤ k ∧ k < n ∧ Ext w w'
theorem at_post {n : Nat} {w w' : World} {k : Int} (h : -1 ≤ k) (h' : k < n) (hE : Ext w w') : AtPost n w (.returned (.int .i64 k)) w' := ⟨k, rfl, h, h', hE⟩

set_option maxHeartbeats 4000000 in
theorem l21At_any (v nx : Value) (c : C) (x : T) (q : Bool) (w : World) (h : Clu w v c) (hn : Ints w nx x.need) (r3 : c.room.length = 3) (gb : ∀ u ∈ c.us, Good u.ts) (gx : Good1 x) :
    Calls Try.prog 68 #[v, .agg #[.int .i64 x.id, nx], .bool q] w (AtPost c.us.length w) := by
  obtain ⟨ra, rc, ua, uc, rfl, hr, hu⟩ := h.open
  obtain ⟨na, nc, rfl, hn⟩ := hn.open
  have hul : c.us.length ≤ 4194304 := hu.1
  have R3 := Lib.hid r3
  have GB := Lib.hid gb
  have GX := Lib.hid gx
  have E0 := Lib.hid (((Ext.refl w).alloc (Obj.cells #[.slice ra c.room.length rc, .slice ua c.us.length uc] 26)).alloc (Obj.cells #[.int .i64 x.id, .slice na x.need.length nc] 37))
  have A0 := Lib.hid (heap_skip (w.alloc (Obj.cells #[.slice ra c.room.length rc, .slice ua c.us.length uc] 26)) (Obj.cells #[.int .i64 x.id, .slice na x.need.length nc] 37) (heap_alloc_new w (Obj.cells #[.slice ra c.room.length rc, .slice ua c.us.length uc] 26)))
  have T0 := Lib.hid (heap_push (n := w.heap.size + 1) (w.alloc (Obj.cells #[.slice ra c.room.length rc, .slice ua c.us.length uc] 26)) (Obj.cells #[.int .i64 x.id, .slice na x.need.length nc] 37) (by simp))
  have Hr := Lib.hid (hr.ext E0.out)
  have Hu := Lib.hid (hu.ext E0.out)
  have Hx := Lib.hid (hn.ext E0.out)
  clear h hr hu hn r3 gb gx
  go_enter Try.func68, Try.ntmps68
  go_wp2_with fail
  generalize hW : (w.alloc (Obj.cells #[.slice ra c.room.length rc, .slice ua c.us.length uc] 26)).alloc (Obj.cells #[.int .i64 x.id, .slice na x.need.length nc] 37) = W at *
  clear hW
  go_loopw [7] (fun i wr => ∃ k : Nat, k ≤ c.us.length ∧ i = .int .i64 k ∧ Ext W wr) (fun i _ => c.us.length - (intOf i).toNat)
  case atStart => exact ⟨0, by omega, rfl, Ext.refl _⟩
  case round =>
    obtain ⟨k, hk, rfl, hE⟩ := hrel
    have ra1 := (hE.block (lt_of_heap A0.out)).trans A0.out
    have x0 := cell_of_heap ra1 0
    have x1 := cell_of_heap ra1 1
    clear ra1
    by_cases hlt : k < c.us.length
    · obtain ⟨b, off, nd, rfl, c0, c1, ht⟩ := Hu.out.at hlt
      have c0' := hE.cell c0
      have c1' := hE.cell c1
      obtain ⟨ta, tc, rfl, ht'⟩ := (ht.ext hE).open
      have Tk := Lib.hid ht'
      have i0 : (0 : Int) ≤ (k : Int) := by omega
      have i1 : (k : Int) < (c.us.length : Int) := by omega
      have KS := Lib.hid (show ∀ w', Ext wr w' → w'.heap[w.heap.size]? = some (Obj.cells #[.slice ra c.room.length rc, .slice (some ⟨b, off, none⟩) c.us.length uc] 26) ∧ w'.heap[w.heap.size + 1]? = some (Obj.cells #[.int .i64 x.id, .slice na x.need.length nc] 37) ∧ w'.cell? ⟨b, off + k * 2, none⟩ = some (.bool c.us[k].op) ∧ w'.cell? ⟨b, off + k * 2 + 1, none⟩ = some (.slice ta c.us[k].ts.length tc) from
        fun w' h => ⟨((hE.trans h).block (lt_of_heap A0.out)).trans A0.out, ((hE.trans h).block (lt_of_heap T0.out)).trans T0.out, h.cell c0', h.cell c1'⟩)
      clear c0 c1 ht ht' c0' c1'
      cases hq : (c.us[k].op == q) with
      | false =>
        go_wp2_with fail
        refine wp_region_held_drew (S := fun w' => w'.heap[w.heap.size]? = some (Obj.cells #[.slice ra c.room.length rc, .slice (some ⟨b, off, none⟩) c.us.length uc] 26) ∧ w'.heap[w.heap.size + 1]? = some (Obj.cells #[.int .i64 x.id, .slice na x.need.length nc] 37) ∧ w'.cell? ⟨b, off + k * 2, none⟩ = some (.bool c.us[k].op) ∧ w'.cell? ⟨b, off + k * 2 + 1, none⟩ = some (.slice ta c.us[k].ts.length tc)) (by kernel_rfl) (KS.out _ (Ext.refl wr).drew) (fun hHeld => ?_)
        refine takeH (i := 0) (d := some 15) (v := ?_) rfl rfl (by kernel_rfl) (by kernel_rfl) (by kernel_rfl) (fun _ _ _ h => h) (by rfl) ?_ (by assumption) ?_
        rotate_left
        · intro w hSw; (try dsimp only at hSw); (try go_simp); (try with_reducible rfl)
        try simp only [Act.put, List.setIfInBounds_toArray, List.set_cons_zero, List.set_cons_succ]
        refine takeH (i := 1) (d := some 16) (v := ?_) rfl rfl (by kernel_rfl) (by kernel_rfl) (by kernel_rfl) (fun _ _ _ h => h) (by rfl) ?_ (by assumption) ?_
        rotate_left
        · intro w hSw; (try dsimp only at hSw); (try have l0 := cell_of_heap hSw.1 0; have l1 := cell_of_heap hSw.1 1; go_simp); (try with_reducible rfl)
        try simp only [Act.put, List.setIfInBounds_toArray, List.set_cons_zero, List.set_cons_succ]
        refine takeH (i := 2) (d := some 17) (v := ?_) rfl rfl (by kernel_rfl) (by kernel_rfl) (by kernel_rfl) (fun _ _ _ h => h) (by rfl) ?_ (by assumption) ?_
        rotate_left
        · intro w hSw; (try dsimp only at hSw); (try go_simp); (try with_reducible rfl)
        try simp only [Act.put, List.setIfInBounds_toArray, List.set_cons_zero, List.set_cons_succ]
        refine takeH (i := 3) (d := some 18) (v := ?_) rfl rfl (by kernel_rfl) (by kernel_rfl) (by kernel_rfl) (fun _ _ _ h => h) (by rfl) ?_ (by assumption) ?_
        rotate_left
        · intro w hSw; (try dsimp only at hSw); (try go_simp); (try with_reducible rfl)
        try simp only [Act.put, List.setIfInBounds_toArray, List.set_cons_zero, List.set_cons_succ]
        refine takeH (i := 4) (d := some 19) (v := ?_) rfl rfl (by kernel_rfl) (by kernel_rfl) (by kernel_rfl) (fun _ _ _ h => h) (by rfl) ?_ (by assumption) ?_
        rotate_left
        · intro w hSw; (try dsimp only at hSw); (try go_simp); (try with_reducible rfl)
        try simp only [Act.put, List.setIfInBounds_toArray, List.set_cons_zero, List.set_cons_succ]
        refine takeH (i := 5) (d := some 20) (v := ?_) rfl rfl (by kernel_rfl) (by kernel_rfl) (by kernel_rfl) (fun _ _ _ h => h) (by rfl) ?_ (by assumption) ?_
        rotate_left
        · intro w hSw; (try dsimp only at hSw); (try have l0 := hSw.2.2.1; go_simp); (try with_reducible rfl)
        try simp only [Act.put, List.setIfInBounds_toArray, List.set_cons_zero, List.set_cons_succ]
        refine takeH (i := 6) (d := some 21) (v := ?_) rfl rfl (by kernel_rfl) (by kernel_rfl) (by kernel_rfl) (fun _ _ _ h => h) (by rfl) ?_ (by assumption) ?_
        rotate_left
        · intro w hSw; (try dsimp only at hSw); (try go_simp); (try with_reducible rfl)
        try simp only [Act.put, List.setIfInBounds_toArray, List.set_cons_zero, List.set_cons_succ]
        refine takeH (i := 7) (d := some 22) (v := ?_) rfl rfl (by kernel_rfl) (by kernel_rfl) (by kernel_rfl) (fun _ _ _ h => h) (by rfl) ?_ (by assumption) ?_
        rotate_left
        · intro w hSw; (try dsimp only at hSw); (try go_simp); (try with_reducible rfl)
        try simp only [Act.put, List.setIfInBounds_toArray, List.set_cons_zero, List.set_cons_succ]
        refine takeH (i := 8) (d := some 23) (v := ?_) rfl rfl (by kernel_rfl) (by kernel_rfl) (by kernel_rfl) (fun _ _ _ h => h) (by rfl) ?_ (by assumption) ?_
        rotate_left
        · intro w hSw; (try dsimp only at hSw); (try go_simp); (try with_reducible rfl)
        try simp only [Act.put, List.setIfInBounds_toArray, List.set_cons_zero, List.set_cons_succ]
        refine skipH (i := 9) (d := some 24) rfl rfl (by kernel_rfl) (by kernel_rfl) (by kernel_rfl) (fun _ _ _ h => h) (by rfl) (by assumption) ?_
        try simp only [Act.put, List.setIfInBounds_toArray, List.set_cons_zero, List.set_cons_succ]
        refine skipH (i := 10) (d := some 25) rfl rfl (by kernel_rfl) (by kernel_rfl) (by kernel_rfl) (fun _ _ _ h => h) (by rfl) (by assumption) ?_
        try simp only [Act.put, List.setIfInBounds_toArray, List.set_cons_zero, List.set_cons_succ]
        refine skipH (i := 11) (d := some 26) rfl rfl (by kernel_rfl) (by kernel_rfl) (by kernel_rfl) (fun _ _ _ h => h) (by rfl) (by assumption) ?_
        try simp only [Act.put, List.setIfInBounds_toArray, List.set_cons_zero, List.set_cons_succ]
        refine skipH (i := 12) (d := some 27) rfl rfl (by kernel_rfl) (by kernel_rfl) (by kernel_rfl) (fun _ _ _ h => h) (by rfl) (by assumption) ?_
        try simp only [Act.put, List.setIfInBounds_toArray, List.set_cons_zero, List.set_cons_succ]
        refine skipH (i := 13) (d := some 28) rfl rfl (by kernel_rfl) (by kernel_rfl) (by kernel_rfl) (fun _ _ _ h => h) (by rfl) (by assumption) ?_
        try simp only [Act.put, List.setIfInBounds_toArray, List.set_cons_zero, List.set_cons_succ]
        refine skipH (i := 14) (d := some 29) rfl rfl (by kernel_rfl) (by kernel_rfl) (by kernel_rfl) (fun _ _ _ h => h) (by rfl) (by assumption) ?_
        try simp only [Act.put, List.setIfInBounds_toArray, List.set_cons_zero, List.set_cons_succ]
        refine skipH (i := 15) (d := some 30) rfl rfl (by kernel_rfl) (by kernel_rfl) (by kernel_rfl) (fun _ _ _ h => h) (by rfl) (by assumption) ?_
        try simp only [Act.put, List.setIfInBounds_toArray, List.set_cons_zero, List.set_cons_succ]
        refine skipH (i := 16) (d := some 31) rfl rfl (by kernel_rfl) (by kernel_rfl) (by kernel_rfl) (fun _ _ _ h => h) (by rfl) (by assumption) ?_
        try simp only [Act.put, List.setIfInBounds_toArray, List.set_cons_zero, List.set_cons_succ]
        refine skipH (i := 17) (d := some 32) rfl rfl (by kernel_rfl) (by kernel_rfl) (by kernel_rfl) (fun _ _ _ h => h) (by rfl) (by assumption) ?_
        try simp only [Act.put, List.setIfInBounds_toArray, List.set_cons_zero, List.set_cons_succ]
        refine skipH (i := 18) (d := some 33) rfl rfl (by kernel_rfl) (by kernel_rfl) (by kernel_rfl) (fun _ _ _ h => h) (by rfl) (by assumption) ?_
        try simp only [Act.put, List.setIfInBounds_toArray, List.set_cons_zero, List.set_cons_succ]
        refine takeH (i := 19) (d := some 34) (v := ?_) rfl rfl (by kernel_rfl) (by kernel_rfl) (by kernel_rfl) (fun _ _ _ h => h) (by rfl) ?_ (by assumption) ?_
        rotate_left
        · intro w hSw; (try dsimp only at hSw); (try go_simp); (try with_reducible rfl)
        try simp only [Act.put, List.setIfInBounds_toArray, List.set_cons_zero, List.set_cons_succ]
        refine wpAnyH_done (by kernel_rfl) ?_ _
        go_wp2_with fail
        go_roundw
        case rel => exact ⟨k + 1, by omega, by go_num, hE.drew⟩
        case measure => simp [intOf]; omega
      | true =>
        cases hf : fits11 c.room c.us[k].ts x with
        | false =>
          go_wp2_with fail
          refine wp_region_held_drew (S := fun w' => w'.heap[w.heap.size]? = some (Obj.cells #[.slice ra c.room.length rc, .slice (some ⟨b, off, none⟩) c.us.length uc] 26) ∧ w'.heap[w.heap.size + 1]? = some (Obj.cells #[.int .i64 x.id, .slice na x.need.length nc] 37) ∧ w'.cell? ⟨b, off + k * 2, none⟩ = some (.bool c.us[k].op) ∧ w'.cell? ⟨b, off + k * 2 + 1, none⟩ = some (.slice ta c.us[k].ts.length tc)) (by kernel_rfl) (KS.out _ (Ext.refl wr).drew) (fun hHeld => ?_)
          refine takeH (i := 0) (d := some 15) (v := ?_) rfl rfl (by kernel_rfl) (by kernel_rfl) (by kernel_rfl) (fun _ _ _ h => h) (by rfl) ?_ (by assumption) ?_
          rotate_left
          · intro w hSw; (try dsimp only at hSw); (try go_simp); (try with_reducible rfl)
          try simp only [Act.put, List.setIfInBounds_toArray, List.set_cons_zero, List.set_cons_succ]
          refine takeH (i := 1) (d := some 16) (v := ?_) rfl rfl (by kernel_rfl) (by kernel_rfl) (by kernel_rfl) (fun _ _ _ h => h) (by rfl) ?_ (by assumption) ?_
          rotate_left
          · intro w hSw; (try dsimp only at hSw); (try have l0 := cell_of_heap hSw.1 0; have l1 := cell_of_heap hSw.1 1; go_simp); (try with_reducible rfl)
          try simp only [Act.put, List.setIfInBounds_toArray, List.set_cons_zero, List.set_cons_succ]
          refine takeH (i := 2) (d := some 17) (v := ?_) rfl rfl (by kernel_rfl) (by kernel_rfl) (by kernel_rfl) (fun _ _ _ h => h) (by rfl) ?_ (by assumption) ?_
          rotate_left
          · intro w hSw; (try dsimp only at hSw); (try go_simp); (try with_reducible rfl)
          try simp only [Act.put, List.setIfInBounds_toArray, List.set_cons_zero, List.set_cons_succ]
          refine takeH (i := 3) (d := some 18) (v := ?_) rfl rfl (by kernel_rfl) (by kernel_rfl) (by kernel_rfl) (fun _ _ _ h => h) (by rfl) ?_ (by assumption) ?_
          rotate_left
          · intro w hSw; (try dsimp only at hSw); (try go_simp); (try with_reducible rfl)
          try simp only [Act.put, List.setIfInBounds_toArray, List.set_cons_zero, List.set_cons_succ]
          refine takeH (i := 4) (d := some 19) (v := ?_) rfl rfl (by kernel_rfl) (by kernel_rfl) (by kernel_rfl) (fun _ _ _ h => h) (by rfl) ?_ (by assumption) ?_
          rotate_left
          · intro w hSw; (try dsimp only at hSw); (try go_simp); (try with_reducible rfl)
          try simp only [Act.put, List.setIfInBounds_toArray, List.set_cons_zero, List.set_cons_succ]
          refine takeH (i := 5) (d := some 20) (v := ?_) rfl rfl (by kernel_rfl) (by kernel_rfl) (by kernel_rfl) (fun _ _ _ h => h) (by rfl) ?_ (by assumption) ?_
          rotate_left
          · intro w hSw; (try dsimp only at hSw); (try have l0 := hSw.2.2.1; go_simp); (try with_reducible rfl)
          try simp only [Act.put, List.setIfInBounds_toArray, List.set_cons_zero, List.set_cons_succ]
          refine takeH (i := 6) (d := some 21) (v := ?_) rfl rfl (by kernel_rfl) (by kernel_rfl) (by kernel_rfl) (fun _ _ _ h => h) (by rfl) ?_ (by assumption) ?_
          rotate_left
          · intro w hSw; (try dsimp only at hSw); (try go_simp); (try with_reducible rfl)
          try simp only [Act.put, List.setIfInBounds_toArray, List.set_cons_zero, List.set_cons_succ]
          refine takeH (i := 7) (d := some 22) (v := ?_) rfl rfl (by kernel_rfl) (by kernel_rfl) (by kernel_rfl) (fun _ _ _ h => h) (by rfl) ?_ (by assumption) ?_
          rotate_left
          · intro w hSw; (try dsimp only at hSw); (try go_simp); (try with_reducible rfl)
          try simp only [Act.put, List.setIfInBounds_toArray, List.set_cons_zero, List.set_cons_succ]
          refine takeH (i := 8) (d := some 23) (v := ?_) rfl rfl (by kernel_rfl) (by kernel_rfl) (by kernel_rfl) (fun _ _ _ h => h) (by rfl) ?_ (by assumption) ?_
          rotate_left
          · intro w hSw; (try dsimp only at hSw); (try go_simp); (try with_reducible rfl)
          try simp only [Act.put, List.setIfInBounds_toArray, List.set_cons_zero, List.set_cons_succ]
          refine takeH (i := 9) (d := some 24) (v := ?_) rfl rfl (by kernel_rfl) (by kernel_rfl) (by kernel_rfl) (fun _ _ _ h => h) (by rfl) ?_ (by assumption) ?_
          rotate_left
          · intro w hSw; (try dsimp only at hSw); (try go_simp); (try with_reducible rfl)
          try simp only [Act.put, List.setIfInBounds_toArray, List.set_cons_zero, List.set_cons_succ]
          refine takeH (i := 10) (d := some 25) (v := ?_) rfl rfl (by kernel_rfl) (by kernel_rfl) (by kernel_rfl) (fun _ _ _ h => h) (by rfl) ?_ (by assumption) ?_
          rotate_left
          · intro w hSw; (try dsimp only at hSw); (try have l0 := cell_of_heap hSw.1 0; have l1 := cell_of_heap hSw.1 1; go_simp); (try with_reducible rfl)
          try simp only [Act.put, List.setIfInBounds_toArray, List.set_cons_zero, List.set_cons_succ]
          refine takeH (i := 11) (d := some 26) (v := ?_) rfl rfl (by kernel_rfl) (by kernel_rfl) (by kernel_rfl) (fun _ _ _ h => h) (by rfl) ?_ (by assumption) ?_
          rotate_left
          · intro w hSw; (try dsimp only at hSw); (try go_simp); (try with_reducible rfl)
          try simp only [Act.put, List.setIfInBounds_toArray, List.set_cons_zero, List.set_cons_succ]
          refine takeH (i := 12) (d := some 27) (v := ?_) rfl rfl (by kernel_rfl) (by kernel_rfl) (by kernel_rfl) (fun _ _ _ h => h) (by rfl) ?_ (by assumption) ?_
          rotate_left
          · intro w hSw; (try dsimp only at hSw); (try have l0 := cell_of_heap hSw.1 0; have l1 := cell_of_heap hSw.1 1; go_simp); (try with_reducible rfl)
          try simp only [Act.put, List.setIfInBounds_toArray, List.set_cons_zero, List.set_cons_succ]
          refine takeH (i := 13) (d := some 28) (v := ?_) rfl rfl (by kernel_rfl) (by kernel_rfl) (by kernel_rfl) (fun _ _ _ h => h) (by rfl) ?_ (by assumption) ?_
          rotate_left
          · intro w hSw; (try dsimp only at hSw); (try go_simp); (try with_reducible rfl)
          try simp only [Act.put, List.setIfInBounds_toArray, List.set_cons_zero, List.set_cons_succ]
          refine takeH (i := 14) (d := some 29) (v := ?_) rfl rfl (by kernel_rfl) (by kernel_rfl) (by kernel_rfl) (fun _ _ _ h => h) (by rfl) ?_ (by assumption) ?_
          rotate_left
          · intro w hSw; (try dsimp only at hSw); (try go_simp); (try with_reducible rfl)
          try simp only [Act.put, List.setIfInBounds_toArray, List.set_cons_zero, List.set_cons_succ]
          refine takeH (i := 15) (d := some 30) (v := ?_) rfl rfl (by kernel_rfl) (by kernel_rfl) (by kernel_rfl) (fun _ _ _ h => h) (by rfl) ?_ (by assumption) ?_
          rotate_left
          · intro w hSw; (try dsimp only at hSw); (try go_simp); (try with_reducible rfl)
          try simp only [Act.put, List.setIfInBounds_toArray, List.set_cons_zero, List.set_cons_succ]
          refine takeH (i := 16) (d := some 31) (v := ?_) rfl rfl (by kernel_rfl) (by kernel_rfl) (by kernel_rfl) (fun _ _ _ h => h) (by rfl) ?_ (by assumption) ?_
          rotate_left
          · intro w hSw; (try dsimp only at hSw); (try have l0 := hSw.2.2.2; go_simp); (try with_reducible rfl)
          try simp only [Act.put, List.setIfInBounds_toArray, List.set_cons_zero, List.set_cons_succ]
          refine takeH (i := 17) (d := some 32) (v := ?_) rfl rfl (by kernel_rfl) (by kernel_rfl) (by kernel_rfl) (fun _ _ _ h => h) (by rfl) ?_ (by assumption) ?_
          rotate_left
          · intro w hSw; (try dsimp only at hSw); (try have l0 := cell_of_heap hSw.2.1 0; have l1 := cell_of_heap hSw.2.1 1; go_simp); (try with_reducible rfl)
          try simp only [Act.put, List.setIfInBounds_toArray, List.set_cons_zero, List.set_cons_succ]
          refine oneH (i := 18) (by kernel_rfl) rfl (by rfl) (fun K hK => ?_)
          go_simp
          have cc := l11Fits_any _ _ _ c.room c.us[k].ts x wr.drew (Hr.out.ext hE.drew) (Tk.out.ext (Ext.refl wr).drew) (Hx.out.ext hE.drew) R3.out (GB.out _ (List.getElem_mem hlt)) GX.out; rw [hf] at cc; refine cc.mono ?_; clear cc; rintro e w2 ⟨rfl, hE2⟩; have X2 := Lib.hid ((Ext.refl wr).drew.trans hE2); have Y2 := Lib.hid (hE.drew.trans hE2); clear hE2
          try dsimp only
          refine hK.out _ _ (KS.out _ X2.out) (fun hHeld => ?_)
          clear hK K
          try simp only [Act.put, List.setIfInBounds_toArray, List.set_cons_zero, List.set_cons_succ]
          refine takeH (i := 19) (d := some 34) (v := ?_) rfl rfl (by kernel_rfl) (by kernel_rfl) (by kernel_rfl) (fun _ _ _ h => h) (by rfl) ?_ (by assumption) ?_
          rotate_left
          · intro w hSw; (try dsimp only at hSw); (try go_simp); (try with_reducible rfl)
          try simp only [Act.put, List.setIfInBounds_toArray, List.set_cons_zero, List.set_cons_succ]
          refine wpAnyH_done (by kernel_rfl) ?_ _
          go_wp2_with fail
          go_roundw
          case rel => exact ⟨k + 1, by omega, by go_num, Y2.out⟩
          case measure => simp [intOf]; omega
        | true =>
          go_wp2_with fail
          refine wp_region_held_drew (S := fun w' => w'.heap[w.heap.size]? = some (Obj.cells #[.slice ra c.room.length rc, .slice (some ⟨b, off, none⟩) c.us.length uc] 26) ∧ w'.heap[w.heap.size + 1]? = some (Obj.cells #[.int .i64 x.id, .slice na x.need.length nc] 37) ∧ w'.cell? ⟨b, off + k * 2, none⟩ = some (.bool c.us[k].op) ∧ w'.cell? ⟨b, off + k * 2 + 1, none⟩ = some (.slice ta c.us[k].ts.length tc)) (by kernel_rfl) (KS.out _ (Ext.refl wr).drew) (fun hHeld => ?_)
          refine takeH (i := 0) (d := some 15) (v := ?_) rfl rfl (by kernel_rfl) (by kernel_rfl) (by kernel_rfl) (fun _ _ _ h => h) (by rfl) ?_ (by assumption) ?_
          rotate_left
          · intro w hSw; (try dsimp only at hSw); (try go_simp); (try with_reducible rfl)
          try simp only [Act.put, List.setIfInBounds_toArray, List.set_cons_zero, List.set_cons_succ]
          refine takeH (i := 1) (d := some 16) (v := ?_) rfl rfl (by kernel_rfl) (by kernel_rfl) (by kernel_rfl) (fun _ _ _ h => h) (by rfl) ?_ (by assumption) ?_
          rotate_left
          · intro w hSw; (try dsimp only at hSw); (try have l0 := cell_of_heap hSw.1 0; have l1 := cell_of_heap hSw.1 1; go_simp); (try with_reducible rfl)
          try simp only [Act.put, List.setIfInBounds_toArray, List.set_cons_zero, List.set_cons_succ]
          refine takeH (i := 2) (d := some 17) (v := ?_) rfl rfl (by kernel_rfl) (by kernel_rfl) (by kernel_rfl) (fun _ _ _ h => h) (by rfl) ?_ (by assumption) ?_
          rotate_left
          · intro w hSw; (try dsimp only at hSw); (try go_simp); (try with_reducible rfl)
          try simp only [Act.put, List.setIfInBounds_toArray, List.set_cons_zero, List.set_cons_succ]
          refine takeH (i := 3) (d := some 18) (v := ?_) rfl rfl (by kernel_rfl) (by kernel_rfl) (by kernel_rfl) (fun _ _ _ h => h) (by rfl) ?_ (by assumption) ?_
          rotate_left
          · intro w hSw; (try dsimp only at hSw); (try go_simp); (try with_reducible rfl)
          try simp only [Act.put, List.setIfInBounds_toArray, List.set_cons_zero, List.set_cons_succ]
          refine takeH (i := 4) (d := some 19) (v := ?_) rfl rfl (by kernel_rfl) (by kernel_rfl) (by kernel_rfl) (fun _ _ _ h => h) (by rfl) ?_ (by assumption) ?_
          rotate_left
          · intro w hSw; (try dsimp only at hSw); (try go_simp); (try with_reducible rfl)
          try simp only [Act.put, List.setIfInBounds_toArray, List.set_cons_zero, List.set_cons_succ]
          refine takeH (i := 5) (d := some 20) (v := ?_) rfl rfl (by kernel_rfl) (by kernel_rfl) (by kernel_rfl) (fun _ _ _ h => h) (by rfl) ?_ (by assumption) ?_
          rotate_left
          · intro w hSw; (try dsimp only at hSw); (try have l0 := hSw.2.2.1; go_simp); (try with_reducible rfl)
          try simp only [Act.put, List.setIfInBounds_toArray, List.set_cons_zero, List.set_cons_succ]
          refine takeH (i := 6) (d := some 21) (v := ?_) rfl rfl (by kernel_rfl) (by kernel_rfl) (by kernel_rfl) (fun _ _ _ h => h) (by rfl) ?_ (by assumption) ?_
          rotate_left
          · intro w hSw; (try dsimp only at hSw); (try go_simp); (try with_reducible rfl)
          try simp only [Act.put, List.setIfInBounds_toArray, List.set_cons_zero, List.set_cons_succ]
          refine takeH (i := 7) (d := some 22) (v := ?_) rfl rfl (by kernel_rfl) (by kernel_rfl) (by kernel_rfl) (fun _ _ _ h => h) (by rfl) ?_ (by assumption) ?_
          rotate_left
          · intro w hSw; (try dsimp only at hSw); (try go_simp); (try with_reducible rfl)
          try simp only [Act.put, List.setIfInBounds_toArray, List.set_cons_zero, List.set_cons_succ]
          refine takeH (i := 8) (d := some 23) (v := ?_) rfl rfl (by kernel_rfl) (by kernel_rfl) (by kernel_rfl) (fun _ _ _ h => h) (by rfl) ?_ (by assumption) ?_
          rotate_left
          · intro w hSw; (try dsimp only at hSw); (try go_simp); (try with_reducible rfl)
          try simp only [Act.put, List.setIfInBounds_toArray, List.set_cons_zero, List.set_cons_succ]
          refine takeH (i := 9) (d := some 24) (v := ?_) rfl rfl (by kernel_rfl) (by kernel_rfl) (by kernel_rfl) (fun _ _ _ h => h) (by rfl) ?_ (by assumption) ?_
          rotate_left
          · intro w hSw; (try dsimp only at hSw); (try go_simp); (try with_reducible rfl)
          try simp only [Act.put, List.setIfInBounds_toArray, List.set_cons_zero, List.set_cons_succ]
          refine takeH (i := 10) (d := some 25) (v := ?_) rfl rfl (by kernel_rfl) (by kernel_rfl) (by kernel_rfl) (fun _ _ _ h => h) (by rfl) ?_ (by assumption) ?_
          rotate_left
          · intro w hSw; (try dsimp only at hSw); (try have l0 := cell_of_heap hSw.1 0; have l1 := cell_of_heap hSw.1 1; go_simp); (try with_reducible rfl)
          try simp only [Act.put, List.setIfInBounds_toArray, List.set_cons_zero, List.set_cons_succ]
          refine takeH (i := 11) (d := some 26) (v := ?_) rfl rfl (by kernel_rfl) (by kernel_rfl) (by kernel_rfl) (fun _ _ _ h => h) (by rfl) ?_ (by assumption) ?_
          rotate_left
          · intro w hSw; (try dsimp only at hSw); (try go_simp); (try with_reducible rfl)
          try simp only [Act.put, List.setIfInBounds_toArray, List.set_cons_zero, List.set_cons_succ]
          refine takeH (i := 12) (d := some 27) (v := ?_) rfl rfl (by kernel_rfl) (by kernel_rfl) (by kernel_rfl) (fun _ _ _ h => h) (by rfl) ?_ (by assumption) ?_
          rotate_left
          · intro w hSw; (try dsimp only at hSw); (try have l0 := cell_of_heap hSw.1 0; have l1 := cell_of_heap hSw.1 1; go_simp); (try with_reducible rfl)
          try simp only [Act.put, List.setIfInBounds_toArray, List.set_cons_zero, List.set_cons_succ]
          refine takeH (i := 13) (d := some 28) (v := ?_) rfl rfl (by kernel_rfl) (by kernel_rfl) (by kernel_rfl) (fun _ _ _ h => h) (by rfl) ?_ (by assumption) ?_
          rotate_left
          · intro w hSw; (try dsimp only at hSw); (try go_simp); (try with_reducible rfl)
          try simp only [Act.put, List.setIfInBounds_toArray, List.set_cons_zero, List.set_cons_succ]
          refine takeH (i := 14) (d := some 29) (v := ?_) rfl rfl (by kernel_rfl) (by kernel_rfl) (by kernel_rfl) (fun _ _ _ h => h) (by rfl) ?_ (by assumption) ?_
          rotate_left
          · intro w hSw; (try dsimp only at hSw); (try go_simp); (try with_reducible rfl)
          try simp only [Act.put, List.setIfInBounds_toArray, List.set_cons_zero, List.set_cons_succ]
          refine takeH (i := 15) (d := some 30) (v := ?_) rfl rfl (by kernel_rfl) (by kernel_rfl) (by kernel_rfl) (fun _ _ _ h => h) (by rfl) ?_ (by assumption) ?_
          rotate_left
          · intro w hSw; (try dsimp only at hSw); (try go_simp); (try with_reducible rfl)
          try simp only [Act.put, List.setIfInBounds_toArray, List.set_cons_zero, List.set_cons_succ]
          refine takeH (i := 16) (d := some 31) (v := ?_) rfl rfl (by kernel_rfl) (by kernel_rfl) (by kernel_rfl) (fun _ _ _ h => h) (by rfl) ?_ (by assumption) ?_
          rotate_left
          · intro w hSw; (try dsimp only at hSw); (try have l0 := hSw.2.2.2; go_simp); (try with_reducible rfl)
          try simp only [Act.put, List.setIfInBounds_toArray, List.set_cons_zero, List.set_cons_succ]
          refine takeH (i := 17) (d := some 32) (v := ?_) rfl rfl (by kernel_rfl) (by kernel_rfl) (by kernel_rfl) (fun _ _ _ h => h) (by rfl) ?_ (by assumption) ?_
          rotate_left
          · intro w hSw; (try dsimp only at hSw); (try have l0 := cell_of_heap hSw.2.1 0; have l1 := cell_of_heap hSw.2.1 1; go_simp); (try with_reducible rfl)
          try simp only [Act.put, List.setIfInBounds_toArray, List.set_cons_zero, List.set_cons_succ]
          refine oneH (i := 18) (by kernel_rfl) rfl (by rfl) (fun K hK => ?_)
          go_simp
          have cc := l11Fits_any _ _ _ c.room c.us[k].ts x wr.drew (Hr.out.ext hE.drew) (Tk.out.ext (Ext.refl wr).drew) (Hx.out.ext hE.drew) R3.out (GB.out _ (List.getElem_mem hlt)) GX.out; rw [hf] at cc; refine cc.mono ?_; clear cc; rintro e w2 ⟨rfl, hE2⟩; have X2 := Lib.hid ((Ext.refl wr).drew.trans hE2); have Y2 := Lib.hid (hE.drew.trans hE2); clear hE2
          try dsimp only
          refine hK.out _ _ (KS.out _ X2.out) (fun hHeld => ?_)
          clear hK K
          try simp only [Act.put, List.setIfInBounds_toArray, List.set_cons_zero, List.set_cons_succ]
          refine takeH (i := 19) (d := some 34) (v := ?_) rfl rfl (by kernel_rfl) (by kernel_rfl) (by kernel_rfl) (fun _ _ _ h => h) (by rfl) ?_ (by assumption) ?_
          rotate_left
          · intro w hSw; (try dsimp only at hSw); (try go_simp); (try with_reducible rfl)
          try simp only [Act.put, List.setIfInBounds_toArray, List.set_cons_zero, List.set_cons_succ]
          refine wpAnyH_done (by kernel_rfl) ?_ _
          go_wp2_with fail
          go_ret
          exact at_post (by omega) (by omega) (E0.out.trans Y2.out)
    · have e : k = c.us.length := by omega
      subst e
      have b1 : ¬ ((c.us.length : Int) < (c.us.length : Int)) := by omega
      have F := Lib.hid (E0.out.trans hE)
      clear hE
      go_wp2
      go_ret
      exact at_post (by omega) (by omega) F.out

end Go.Proofs.Ytfidamjepjgknaa
end

/- The reference's arrival of a task in a copy of a cluster (printed by gen_cr.py). No condition. -/
section
namespace Go.Proofs.Ytfidamjepjgknaa
set_option maxRecDepth 100000
open Go.RowKit

theorem Dc.set {c : C} (d : Dc c) {j : Nat} (hj : j < c.us.length) {u : Un} (hu : ∀ t ∈ u.ts, t.need.length ≤ 3) (hf : ((binsC c.us).set j u.ts).flatten.length ≤ 20) : Dc ⟨c.room, c.us.set j u⟩ := by
  refine ⟨.inr ?_, d.room3, by simpa using d.us, fun y hy => ?_, ?_⟩
  · rcases d.room with h | h
    · rw [h] at hj; cases hj
    · exact h
  · rcases List.mem_or_eq_of_mem_set hy with h | rfl
    · exact d.need y h
    · exact hu
  · show (binsC (c.us.set j u)).flatten.length ≤ 20
    unfold binsC
    rw [List.map_set]
    exact hf
theorem binsC_at {c : C} {j : Nat} (hj : j < c.us.length) : j < (binsC c.us).length := by rw [binsC_len]; exact hj
theorem Dc.push {c : C} (d : Dc c) {j : Nat} (hj : j < c.us.length) {q : Bool} {x : T} (hx : x.need.length ≤ 3) (hf : (binsC c.us).flatten.length ≤ 19) : Dc ⟨c.room, c.us.set j ⟨q, c.us[j].ts ++ [x]⟩⟩ := by
  refine d.set hj (fun t ht => ?_) ?_
  · rcases List.mem_append.1 ht with h | h
    · exact d.need _ (List.getElem_mem hj) t h
    · simp at h; subst h; exact hx
  · have h1 := (set_flat (binsC_at hj) x).length_eq
    rw [binsC_get hj] at h1
    rw [h1, List.length_append]
    simp only [List.length_singleton]
    omega
/-- What an arrival leaves. -/
def ArrPost (B : Nat) (w : World) (e : Ending) (w' : World) : Prop := ∃ v' c q, e = .returned (.tuple #[v', .int .i64 q]) ∧ Below B w w' ∧ OwnCl w' B v' c ∧ Dc c
theorem arr_post {B : Nat} {w w' : World} {v' : Value} {c : C} {q : Int} (h : Below B w w' ∧ OwnCl w' B v' c ∧ Dc c) : ArrPost B w (.returned (.tuple #[v', .int .i64 q])) w' := ⟨v', c, q, rfl, h⟩

set_option maxHeartbeats 8000000 in
theorem l21Arrive_own (v nx : Value) (c : C) (x : T) (q : Bool) (B : Nat) (w : World) (h : OwnCl w B v c) (hB : B ≤ w.heap.size) (hn : Ints w nx x.need) (dc : Dc c) (r3 : c.room.length = 3) (gb : ∀ u ∈ c.us, Good u.ts) (gx : Good1 x) (n3 : x.need.length ≤ 3) (fl : (binsC c.us).flatten.length ≤ 19) :
    Calls Try.prog 54 #[v, .agg #[.int .i64 x.id, nx], .bool q] w (ArrPost B w) := by
  obtain ⟨ra, rc, ua, uc, rfl, hr, hu⟩ := h.open
  obtain ⟨na, nc, rfl, hn⟩ := hn.open
  have R3 := Lib.hid r3
  have GB := Lib.hid gb
  have GX := Lib.hid gx
  have N3 := Lib.hid n3
  have FL := Lib.hid fl
  have DC := Lib.hid dc
  have BL0 := Lib.hid hB
  have E0 := Lib.hid ((((Ext.refl w).alloc (Obj.cells #[.slice ra c.room.length rc, .slice ua c.us.length uc] 26)).alloc (Obj.cells #[.int .i64 x.id, .slice na x.need.length nc] 37)).alloc (Obj.cells #[.slice none 0 0, .slice none 0 0] 26))
  have A0 := Lib.hid (heap_skip ((w.alloc (Obj.cells #[.slice ra c.room.length rc, .slice ua c.us.length uc] 26)).alloc (Obj.cells #[.int .i64 x.id, .slice na x.need.length nc] 37)) (Obj.cells #[.slice none 0 0, .slice none 0 0] 26) (heap_skip (w.alloc (Obj.cells #[.slice ra c.room.length rc, .slice ua c.us.length uc] 26)) (Obj.cells #[.int .i64 x.id, .slice na x.need.length nc] 37) (heap_alloc_new w (Obj.cells #[.slice ra c.room.length rc, .slice ua c.us.length uc] 26))))
  have T0 := Lib.hid (heap_skip ((w.alloc (Obj.cells #[.slice ra c.room.length rc, .slice ua c.us.length uc] 26)).alloc (Obj.cells #[.int .i64 x.id, .slice na x.need.length nc] 37)) (Obj.cells #[.slice none 0 0, .slice none 0 0] 26) (heap_push (n := w.heap.size + 1) (w.alloc (Obj.cells #[.slice ra c.room.length rc, .slice ua c.us.length uc] 26)) (Obj.cells #[.int .i64 x.id, .slice na x.need.length nc] 37) (by simp)))
  have Z0 := Lib.hid (heap_push (n := w.heap.size + 1 + 1) ((w.alloc (Obj.cells #[.slice ra c.room.length rc, .slice ua c.us.length uc] 26)).alloc (Obj.cells #[.int .i64 x.id, .slice na x.need.length nc] 37)) (Obj.cells #[.slice none 0 0, .slice none 0 0] 26) (by simp))
  have H0 := Lib.hid (h.ext E0.out)
  have HR := Lib.hid (hr.ext E0.out)
  have HU := Lib.hid hu
  have HX := Lib.hid (hn.ext E0.out)
  have HW := Lib.hid (hn.ext (Ext.refl w))
  clear h hr hu hn r3 gb gx n3 fl dc hB HW
  go_enter Try.func54, Try.ntmps54
  go_wp2_with fail
  generalize hW : ((w.alloc (Obj.cells #[.slice ra c.room.length rc, .slice ua c.us.length uc] 26)).alloc (Obj.cells #[.int .i64 x.id, .slice na x.need.length nc] 37)).alloc (Obj.cells #[.slice none 0 0, .slice none 0 0] 26) = W at *
  clear hW
  refine (l21At_any _ _ c x true W (H0.out.clu DC.out) HX.out R3.out GB.out GX.out).mono ?_
  rintro e w1 ⟨k1, rfl, k1l, k1u, hE1⟩
  have X1 := Lib.hid hE1
  have b0 := cell_of_heap ((X1.out.block (lt_of_heap A0.out)).trans A0.out) 0
  have b1 := cell_of_heap ((X1.out.block (lt_of_heap A0.out)).trans A0.out) 1
  have c0 := cell_of_heap ((X1.out.block (lt_of_heap T0.out)).trans T0.out) 0
  have c1 := cell_of_heap ((X1.out.block (lt_of_heap T0.out)).trans T0.out) 1
  clear hE1
  by_cases hk1 : k1 < 0
  · cases q with
    | false =>
      have z0 := cell_of_heap ((X1.out.block (lt_of_heap Z0.out)).trans Z0.out) 0
      have z1 := cell_of_heap ((X1.out.block (lt_of_heap Z0.out)).trans Z0.out) 1
      have g0 := frozen_of_heap ((X1.out.block (lt_of_heap Z0.out)).trans Z0.out) 0
      have g1 := frozen_of_heap ((X1.out.block (lt_of_heap Z0.out)).trans Z0.out) 1
      have a0 := cell_of_heap ((X1.out.block (lt_of_heap A0.out)).trans A0.out) 0
      have a1 := cell_of_heap ((X1.out.block (lt_of_heap A0.out)).trans A0.out) 1
      have P := cbox_put ((X1.out.block (lt_of_heap Z0.out)).trans Z0.out) (.slice ra c.room.length rc) (.slice ua c.us.length uc)
      have FF := Lib.hid (arr_post (q := 3) ⟨(Below.mono (E0.out.trans X1.out) BL0.out).setCell (p := ⟨w.heap.size + 1 + 1, 0, none⟩) (show B ≤ w.heap.size + 1 + 1 by have := BL0.out; omega) (.slice ra c.room.length rc) |>.setCell (p := ⟨w.heap.size + 1 + 1, 1, none⟩) (show B ≤ w.heap.size + 1 + 1 by have := BL0.out; omega) (.slice ua c.us.length uc), (H0.out.ext X1.out).kt P.1 (by decide) (by decide) (by decide), DC.out⟩)
      clear P
      go_wp2_with fail
      refine bodyPost_ret (v := .tuple #[.agg #[.slice ra c.room.length rc, .slice ua c.us.length uc], .int .i64 3]) ?_ rfl FF.out
      simp [results, Try.results54, go_sem, z0, z1]
    | true =>
      go_wp2_with fail
      refine (l21At_any _ _ c x false w1 ((H0.out.ext X1.out).clu DC.out) (HX.out.ext X1.out) R3.out GB.out GX.out).mono ?_
      rintro e w2 ⟨k2, rfl, k2l, k2u, hE2⟩
      have X2 := Lib.hid (X1.out.trans hE2)
      clear hE2 X1 b0 b1 c0 c1
      by_cases hk2 : k2 < 0
      · clear hk1
        have z0 := cell_of_heap ((X2.out.block (lt_of_heap Z0.out)).trans Z0.out) 0
        have z1 := cell_of_heap ((X2.out.block (lt_of_heap Z0.out)).trans Z0.out) 1
        have g0 := frozen_of_heap ((X2.out.block (lt_of_heap Z0.out)).trans Z0.out) 0
        have g1 := frozen_of_heap ((X2.out.block (lt_of_heap Z0.out)).trans Z0.out) 1
        have a0 := cell_of_heap ((X2.out.block (lt_of_heap A0.out)).trans A0.out) 0
        have a1 := cell_of_heap ((X2.out.block (lt_of_heap A0.out)).trans A0.out) 1
        have P := cbox_put ((X2.out.block (lt_of_heap Z0.out)).trans Z0.out) (.slice ra c.room.length rc) (.slice ua c.us.length uc)
        have FF := Lib.hid (arr_post (q := 3) ⟨(Below.mono (E0.out.trans X2.out) BL0.out).setCell (p := ⟨w.heap.size + 1 + 1, 0, none⟩) (show B ≤ w.heap.size + 1 + 1 by have := BL0.out; omega) (.slice ra c.room.length rc) |>.setCell (p := ⟨w.heap.size + 1 + 1, 1, none⟩) (show B ≤ w.heap.size + 1 + 1 by have := BL0.out; omega) (.slice ua c.us.length uc), (H0.out.ext X2.out).kt P.1 (by decide) (by decide) (by decide), DC.out⟩)
        clear P
        go_wp2_with fail
        refine bodyPost_ret (v := .tuple #[.agg #[.slice ra c.room.length rc, .slice ua c.us.length uc], .int .i64 3]) ?_ rfl FF.out
        simp [results, Try.results54, go_sem, z0, z1]
      · clear hk1
        have a0 := cell_of_heap ((X2.out.block (lt_of_heap A0.out)).trans A0.out) 0
        have a1 := cell_of_heap ((X2.out.block (lt_of_heap A0.out)).trans A0.out) 1
        obtain ⟨j, hjk⟩ : ∃ j : Nat, k2 = (j : Int) := ⟨k2.toNat, by omega⟩
        subst hjk
        have hj : j < c.us.length := by omega
        have jn : ¬ ((j : Int) < 0) := by omega
        clear hk2
        go_wp2_with fail
        refine (l21Bins_any _ c _ ((H0.out.ext X2.out).clu DC.out)).mono ?_
        rintro e w3 ⟨r3', rfl, hE3, ho3⟩
        have X3 := Lib.hid (X2.out.trans hE3)
        have B3 := Lib.hid (ho3.done (by have := DC.out.us; rw [binsC_len]; unfold lim; omega))
        clear hE3 ho3
        go_wp2_with fail
        refine (l2All_any _ _ _ B3.out (by have := DC.out.fl; omega)).mono ?_
        rintro e w4 ⟨r4, rfl, hE4, ho4⟩
        obtain ⟨fl, hfl⟩ : ∃ fl, (binsC c.us).flatten = fl := ⟨_, rfl⟩
        rw [hfl] at ho4
        obtain ⟨oa, oc, hv4⟩ := ho4.form
        subst hv4
        have X4 := Lib.hid (X3.out.trans hE4)
        clear hE4 ho4 X3 B3 a0 a1 hfl
        by_cases h14 : fl.length = 14
        · have hb : ((fl.length : Int) == 14) = true := by simp [h14]
          clear h14
          have z0 := cell_of_heap ((X4.out.block (lt_of_heap Z0.out)).trans Z0.out) 0
          have z1 := cell_of_heap ((X4.out.block (lt_of_heap Z0.out)).trans Z0.out) 1
          have g0 := frozen_of_heap ((X4.out.block (lt_of_heap Z0.out)).trans Z0.out) 0
          have g1 := frozen_of_heap ((X4.out.block (lt_of_heap Z0.out)).trans Z0.out) 1
          have a0 := cell_of_heap ((X4.out.block (lt_of_heap A0.out)).trans A0.out) 0
          have a1 := cell_of_heap ((X4.out.block (lt_of_heap A0.out)).trans A0.out) 1
          have P := cbox_put ((X4.out.block (lt_of_heap Z0.out)).trans Z0.out) (.slice ra c.room.length rc) (.slice ua c.us.length uc)
          have FF := Lib.hid (arr_post (q := 3) ⟨(Below.mono (E0.out.trans X4.out) BL0.out).setCell (p := ⟨w.heap.size + 1 + 1, 0, none⟩) (show B ≤ w.heap.size + 1 + 1 by have := BL0.out; omega) (.slice ra c.room.length rc) |>.setCell (p := ⟨w.heap.size + 1 + 1, 1, none⟩) (show B ≤ w.heap.size + 1 + 1 by have := BL0.out; omega) (.slice ua c.us.length uc), (H0.out.ext X4.out).kt P.1 (by decide) (by decide) (by decide), DC.out⟩)
          clear P
          go_wp2_with fail
          refine bodyPost_ret (v := .tuple #[.agg #[.slice ra c.room.length rc, .slice ua c.us.length uc], .int .i64 3]) ?_ rfl FF.out
          simp [results, Try.results54, go_sem, z0, z1]
        · have hb : ((fl.length : Int) == 14) = false := by simp; omega
          clear h14
          have a0 := cell_of_heap ((X4.out.block (lt_of_heap A0.out)).trans A0.out) 0
          have a1 := cell_of_heap ((X4.out.block (lt_of_heap A0.out)).trans A0.out) 1
          obtain ⟨b, nd, hua, -, hBb, hbw, co, cn, hot, -, -⟩ := HU.out.at hj
          subst hua
          obtain ⟨ta, tc, rfl⟩ := hot.form
          have HG := Lib.hid (fun g hg => ownBlock_lt hot g hg)
          obtain ⟨_, _, e1, -, -, -, co4, cn4, hot4, fo4, fn4⟩ := (HU.out.ext (E0.out.trans X4.out)).at hj
          simp only [Option.some.injEq, Addr.mk.injEq, and_true] at e1
          subst e1
          rw [(E0.out.trans X4.out).cell cn] at cn4
          simp only [Option.some.injEq] at cn4
          subst cn4
          have P5 := Lib.hid ((HU.out.ext (E0.out.trans X4.out)).putOp hj true)
          have i0 : (0 : Int) ≤ (j : Int) := by omega
          have i1 : (j : Int) < (c.us.length : Int) := by omega
          have BB := Lib.hid hBb
          have TL := Lib.hid (show c.us[j].ts.length ≤ 20 from by have := ts_le (List.getElem_mem hj); have := DC.out.fl; omega)
          have W4 := Lib.hid (E0.out.trans X4.out).le
          have HBW := Lib.hid hbw
          have CU4 := Lib.hid ((E0.out.trans X4.out).cell cn)
          have HT4 := Lib.hid hot4
          clear hot hot4 cn co hBb hbw
          go_wp2_with fail
          have KT5 := Lib.hid P5.out.2.1
          have A5 := Lib.hid ((KT5.out.2 _ _ _ _ ((X4.out.block (lt_of_heap A0.out)).trans A0.out) (by decide)).trans ((X4.out.block (lt_of_heap A0.out)).trans A0.out))
          have T5 := Lib.hid ((KT5.out.2 _ _ _ _ ((X4.out.block (lt_of_heap T0.out)).trans T0.out) (by decide)).trans ((X4.out.block (lt_of_heap T0.out)).trans T0.out))
          have Z5 := Lib.hid ((KT5.out.2 _ _ _ _ ((X4.out.block (lt_of_heap Z0.out)).trans Z0.out) (by decide)).trans ((X4.out.block (lt_of_heap Z0.out)).trans Z0.out))
          have CU := Lib.hid ((World.cell?_setCell_other w4 ⟨b, j * 2, none⟩ ⟨b, j * 2 + 1, none⟩ (.bool true) (by simp)).trans CU4.out)
          have N5 := Lib.hid P5.out.1
          have HX5 := Lib.hid ((HX.out.ext X4.out).kt KT5.out (by decide))
          have HR5 := Lib.hid ((HR.out.ext X4.out).kt KT5.out (by decide))
          have HT5 := Lib.hid (HT4.out.kt KT5.out (by decide) (by decide))
          have D5 := Lib.hid (show Below B w (w4.setCell ⟨b, j * 2, none⟩ (.bool true)) from Below.trans (Below.mono (E0.out.trans X4.out) BL0.out) P5.out.2.2)
          have BL := Lib.hid (show B ≤ (w4.setCell ⟨b, j * 2, none⟩ (.bool true)).heap.size from Nat.le_trans (Nat.le_trans BL0.out W4.out) P5.out.2.2.size)
          have WS := Lib.hid (show w.heap.size ≤ (w4.setCell ⟨b, j * 2, none⟩ (.bool true)).heap.size from Nat.le_trans W4.out P5.out.2.2.size)
          clear KT5 P5 CU4 HT4 co4 fo4 fn4 a0 a1 H0 HU
          generalize w4.setCell ⟨b, j * 2, none⟩ (.bool true) = w5 at *
          have KS := Lib.hid (show ∀ w', Ext w5 w' → w'.heap[w.heap.size]? = some (Obj.cells #[.slice ra c.room.length rc, .slice (some ⟨b, 0, none⟩) c.us.length uc] 26) ∧ w'.heap[w.heap.size + 1]? = some (Obj.cells #[.int .i64 x.id, .slice na x.need.length nc] 37) ∧ w'.cell? ⟨b, j * 2 + 1, none⟩ = some (.slice ta c.us[j].ts.length tc) from
            fun w' h => ⟨(h.block (lt_of_heap A5.out)).trans A5.out, (h.block (lt_of_heap T5.out)).trans T5.out, h.cell CU.out⟩)
          have hs8 := Lib.hid (show ∀ (w7 w8 : World), Ext w5 w7 → w7.grownBy w8 (Value.slice ta c.us[j].ts.length tc).ownBlock → w8.cell? ⟨b, j * 2 + 1, none⟩ = some (.slice ta c.us[j].ts.length tc) → w8.heap[w.heap.size]? = some (Obj.cells #[.slice ra c.room.length rc, .slice (some ⟨b, 0, none⟩) c.us.length uc] 26) ∧ w8.heap[w.heap.size + 1]? = some (Obj.cells #[.int .i64 x.id, .slice na x.need.length nc] 37) ∧ w8.cell? ⟨b, j * 2 + 1, none⟩ = some (.slice ta c.us[j].ts.length tc) from
            fun w7 w8 h hg hc => by
              obtain ⟨s1, s2, s3⟩ := KS.out w7 h
              exact ⟨(hg.block _ (lt_of_heap s1) (fun e => by have := HG.out _ e.symm; omega)).trans s1, (hg.block _ (lt_of_heap s2) (fun e => by have := HG.out _ e.symm; omega)).trans s2, hc⟩)
          refine regionZ (S := fun w' => w'.heap[w.heap.size]? = some (Obj.cells #[.slice ra c.room.length rc, .slice (some ⟨b, 0, none⟩) c.us.length uc] 26) ∧ w'.heap[w.heap.size + 1]? = some (Obj.cells #[.int .i64 x.id, .slice na x.need.length nc] 37) ∧ w'.cell? ⟨b, j * 2 + 1, none⟩ = some (.slice ta c.us[j].ts.length tc)) 20 (by kernel_rfl) (KS.out _ (Ext.refl w5).drew) (fun hHeld => ?_)
          refine pureZ (i := 0) (d := some 35) (v := ?_) rfl rfl (by decide) (by kernel_rfl) (by kernel_rfl) (by kernel_rfl) (fun _ _ _ h => h) (by rfl) ?_ (by assumption) ?_
          rotate_left
          · intro w; (try go_simp); (try with_reducible rfl)
          try simp only [Act.put]
          try simp only [List.setIfInBounds_toArray]
          try simp only [List.set_cons_succ]
          try simp only [List.set_cons_zero]
          refine readZ [] (i := 1) (d := some 36) (v := ?_) rfl rfl (by decide) (by kernel_rfl) (by kernel_rfl) (by kernel_rfl) (by kernel_rfl) (fun _ _ _ h => h) (by rfl) ?_ (by assumption) ?_
          rotate_left
          · intro w hSw; (try dsimp only at hSw); (try have l0 := cell_of_heap hSw.1 0; have l1 := cell_of_heap hSw.1 1; go_simp); (try with_reducible rfl)
          try simp only [Act.put]
          try simp only [List.setIfInBounds_toArray]
          try simp only [List.set_cons_succ]
          try simp only [List.set_cons_zero]
          refine pureZ (i := 2) (d := some 37) (v := ?_) rfl rfl (by decide) (by kernel_rfl) (by kernel_rfl) (by kernel_rfl) (fun _ _ _ h => h) (by rfl) ?_ (by assumption) ?_
          rotate_left
          · intro w; (try go_simp); (try with_reducible rfl)
          try simp only [Act.put]
          try simp only [List.setIfInBounds_toArray]
          try simp only [List.set_cons_succ]
          try simp only [List.set_cons_zero]
          refine pureZ (i := 3) (d := some 38) (v := ?_) rfl rfl (by decide) (by kernel_rfl) (by kernel_rfl) (by kernel_rfl) (fun _ _ _ h => h) (by rfl) ?_ (by assumption) ?_
          rotate_left
          · intro w; (try go_simp); (try with_reducible rfl)
          try simp only [Act.put]
          try simp only [List.setIfInBounds_toArray]
          try simp only [List.set_cons_succ]
          try simp only [List.set_cons_zero]
          refine readZ [] (i := 4) (d := some 39) (v := ?_) rfl rfl (by decide) (by kernel_rfl) (by kernel_rfl) (by kernel_rfl) (by kernel_rfl) (fun _ _ _ h => h) (by rfl) ?_ (by assumption) ?_
          rotate_left
          · intro w hSw; (try dsimp only at hSw); (try have l0 := cell_of_heap hSw.1 0; have l1 := cell_of_heap hSw.1 1; go_simp); (try with_reducible rfl)
          try simp only [Act.put]
          try simp only [List.setIfInBounds_toArray]
          try simp only [List.set_cons_succ]
          try simp only [List.set_cons_zero]
          refine pureZ (i := 5) (d := some 40) (v := ?_) rfl rfl (by decide) (by kernel_rfl) (by kernel_rfl) (by kernel_rfl) (fun _ _ _ h => h) (by rfl) ?_ (by assumption) ?_
          rotate_left
          · intro w; (try go_simp); (try with_reducible rfl)
          try simp only [Act.put]
          try simp only [List.setIfInBounds_toArray]
          try simp only [List.set_cons_succ]
          try simp only [List.set_cons_zero]
          refine pureZ (i := 6) (d := some 41) (v := ?_) rfl rfl (by decide) (by kernel_rfl) (by kernel_rfl) (by kernel_rfl) (fun _ _ _ h => h) (by rfl) ?_ (by assumption) ?_
          rotate_left
          · intro w; (try go_simp); (try with_reducible rfl)
          try simp only [Act.put]
          try simp only [List.setIfInBounds_toArray]
          try simp only [List.set_cons_succ]
          try simp only [List.set_cons_zero]
          refine pureZ (i := 7) (d := some 42) (v := ?_) rfl rfl (by decide) (by kernel_rfl) (by kernel_rfl) (by kernel_rfl) (fun _ _ _ h => h) (by rfl) ?_ (by assumption) ?_
          rotate_left
          · intro w; (try go_simp); (try with_reducible rfl)
          try simp only [Act.put]
          try simp only [List.setIfInBounds_toArray]
          try simp only [List.set_cons_succ]
          try simp only [List.set_cons_zero]
          refine readZ [] (i := 8) (d := some 43) (v := ?_) rfl rfl (by decide) (by kernel_rfl) (by kernel_rfl) (by kernel_rfl) (by kernel_rfl) (fun _ _ _ h => h) (by rfl) ?_ (by assumption) ?_
          rotate_left
          · intro w hSw; (try dsimp only at hSw); (try have l0 := hSw.2.2; go_simp); (try with_reducible rfl)
          try simp only [Act.put]
          try simp only [List.setIfInBounds_toArray]
          try simp only [List.set_cons_succ]
          try simp only [List.set_cons_zero]
          refine pureZ (i := 9) (d := some 44) (v := ?_) rfl rfl (by decide) (by kernel_rfl) (by kernel_rfl) (by kernel_rfl) (fun _ _ _ h => h) (by rfl) ?_ (by assumption) ?_
          rotate_left
          · intro w; (try go_simp); (try with_reducible rfl)
          try simp only [Act.put]
          try simp only [List.setIfInBounds_toArray]
          try simp only [List.set_cons_succ]
          try simp only [List.set_cons_zero]
          refine readZ [] (i := 10) (d := some 45) (v := ?_) rfl rfl (by decide) (by kernel_rfl) (by kernel_rfl) (by kernel_rfl) (by kernel_rfl) (fun _ _ _ h => h) (by rfl) ?_ (by assumption) ?_
          rotate_left
          · intro w hSw; (try dsimp only at hSw); (try have l0 := cell_of_heap hSw.2.1 0; have l1 := cell_of_heap hSw.2.1 1; go_simp); (try with_reducible rfl)
          try simp only [Act.put]
          try simp only [List.setIfInBounds_toArray]
          try simp only [List.set_cons_succ]
          try simp only [List.set_cons_zero]
          refine pureZ (i := 12) (d := some 47) (v := ?_) rfl rfl (by decide) (by kernel_rfl) (by kernel_rfl) (by kernel_rfl) (fun _ _ _ h => h) (by rfl) ?_ (by assumption) ?_
          rotate_left
          · intro w; (try go_simp); (try with_reducible rfl)
          try simp only [Act.put]
          try simp only [List.setIfInBounds_toArray]
          try simp only [List.set_cons_succ]
          try simp only [List.set_cons_zero]
          refine readZ [] (i := 13) (d := some 48) (v := ?_) rfl rfl (by decide) (by kernel_rfl) (by kernel_rfl) (by kernel_rfl) (by kernel_rfl) (fun _ _ _ h => h) (by rfl) ?_ (by assumption) ?_
          rotate_left
          · intro w hSw; (try dsimp only at hSw); (try have l0 := cell_of_heap hSw.2.1 0; have l1 := cell_of_heap hSw.2.1 1; go_simp); (try with_reducible rfl)
          try simp only [Act.put]
          try simp only [List.setIfInBounds_toArray]
          try simp only [List.set_cons_succ]
          try simp only [List.set_cons_zero]
          refine oneZ (i := 11) (by kernel_rfl) rfl (by rfl) (fun K hK => ?_)
          go_simp
          try dsimp only
          refine hK.out _ _ (KS.out _ ((Ext.refl w5).drew.alloc _)) (fun hHeld => ?_)
          clear hK K
          try simp only [Act.put]
          try simp only [List.setIfInBounds_toArray]
          try simp only [List.set_cons_succ]
          try simp only [List.set_cons_zero]
          refine oneZ (i := 14) (by kernel_rfl) rfl (by rfl) (fun K hK => ?_)
          refine wp_app_ints _ _ rfl w5.heap.size _ [] (by rfl) (OwnInts.lit0 w5.drew w5.heap.size (Nat.le_refl _)) (by simp) _ _ _ x.need (by rfl) (HX5.out.ext ((Ext.refl w5).drew.alloc _)) (by have := N3.out; unfold lim; simp; omega) ?_
          intro v6 w6 hown hkt hbl
          have X6 := Lib.hid (((Ext.refl w5).drew.alloc (.cells #[] 3)).below hbl)
          rw [List.nil_append] at hown
          obtain ⟨pa, pc, hv6, hi6⟩ := (hown.done (by have := N3.out; unfold lim; omega)).open
          subst hv6
          have I6 := Lib.hid hi6
          clear hown hkt hbl hi6
          try dsimp only
          refine hK.out _ _ (KS.out _ X6.out) (fun hHeld => ?_)
          clear hK K
          try simp only [Act.put]
          try simp only [List.setIfInBounds_toArray]
          try simp only [List.set_cons_succ]
          try simp only [List.set_cons_zero]
          refine pureZ (i := 15) (d := some 50) (v := ?_) rfl rfl (by decide) (by kernel_rfl) (by kernel_rfl) (by kernel_rfl) (fun _ _ _ h => h) (by rfl) ?_ (by assumption) ?_
          rotate_left
          · intro w; (try go_simp); (try with_reducible rfl)
          try simp only [Act.put]
          try simp only [List.setIfInBounds_toArray]
          try simp only [List.set_cons_succ]
          try simp only [List.set_cons_zero]
          refine oneZ (i := 16) (by kernel_rfl) rfl (by rfl) (fun K hK => ?_)
          go_simp
          try dsimp only
          refine hK.out _ _ (KS.out _ (X6.out.alloc _)) (fun hHeld => ?_)
          clear hK K
          try simp only [Act.put]
          try simp only [List.setIfInBounds_toArray]
          try simp only [List.set_cons_succ]
          try simp only [List.set_cons_zero]
          refine oneZ (i := 17) (by kernel_rfl) rfl (by rfl) (fun K hK => ?_)
          refine wp_app2_tasks _ _ rfl B _ c.us[j].ts (by rfl) (HT5.out.ext (X6.out.alloc _)) (Nat.le_trans BL.out (X6.out.alloc _).le) _ _ _ [x] (by rfl) (Tasks.lit1 I6.out 1) (by have := TL.out; unfold lim; simp; omega) ?_
          intro v8 w8 hown hg hb8
          obtain ⟨sa8, sn8, sc8, hv8⟩ : ∃ a n c, v8 = .slice a n c := let ⟨a, c, h⟩ := hown.form; ⟨a, _, c, h⟩
          subst hv8
          have P8 := Lib.hid (NestU.putTs (N5.out.ext (X6.out.alloc _)) (k := j) (by simpa using hj) ((X6.out.alloc _).cell CU.out) (Nat.le_trans BL.out (X6.out.alloc _).le) hown hg (fun g hg' => by rcases hb8 with e | e; exact .inl (e ▸ hg'); exact .inr (by rw [e] at hg'; simp only [Option.some.injEq] at hg'; omega)))
          have S8 := Lib.hid (hs8.out _ w8 (X6.out.alloc _) hg P8.out.2.2.2.2.2.1)
          clear hown hg hb8
          try dsimp only
          refine hK.out _ _ (S8.out) (fun hHeld => ?_)
          clear hK K
          try simp only [Act.put]
          try simp only [List.setIfInBounds_toArray]
          try simp only [List.set_cons_succ]
          try simp only [List.set_cons_zero]
          refine pureZ (i := 18) (d := some 53) (v := ?_) rfl rfl (by decide) (by kernel_rfl) (by kernel_rfl) (by kernel_rfl) (fun _ _ _ h => h) (by rfl) ?_ (by assumption) ?_
          rotate_left
          · intro w; (try go_simp); (try with_reducible rfl)
          try simp only [Act.put]
          try simp only [List.setIfInBounds_toArray]
          try simp only [List.set_cons_succ]
          try simp only [List.set_cons_zero]
          refine pureZ (i := 19) (d := some 54) (v := ?_) rfl rfl (by decide) (by kernel_rfl) (by kernel_rfl) (by kernel_rfl) (fun _ _ _ h => h) (by rfl) ?_ (by assumption) ?_
          rotate_left
          · intro w; (try go_simp); (try with_reducible rfl)
          try simp only [Act.put]
          try simp only [List.setIfInBounds_toArray]
          try simp only [List.set_cons_succ]
          try simp only [List.set_cons_zero]
          have f1 := P8.out.2.2.2.2.2.2
          have l1 := P8.out.2.2.2.2.2.1
          refine lastZ (by kernel_rfl) rfl (by rfl) (fun K hK => ?_)
          go_simp
          try dsimp only
          refine hK.out _ _ ?_
          clear hK K
          try simp only [Act.put]
          try simp only [List.setIfInBounds_toArray]
          try simp only [List.set_cons_succ]
          try simp only [List.set_cons_zero]
          refine doneZ (by kernel_rfl) ?_
          have KT9 := P8.out.2.2.1
          have y0 := cell_of_heap ((KT9.2 _ _ _ _ S8.out.1 (by decide)).trans S8.out.1) 0
          have y1 := cell_of_heap ((KT9.2 _ _ _ _ S8.out.1 (by decide)).trans S8.out.1) 1
          have zz7 := ((X6.out.alloc (Obj.cells #[.int .i64 x.id, .slice pa x.need.length pc] 37)).block (lt_of_heap Z5.out)).trans Z5.out
          have zz8 := (P8.out.2.1.2 _ _ _ _ zz7 (by decide)).trans zz7
          have zz9 := (KT9.2 _ _ _ _ zz8 (by decide)).trans zz8
          have z0 := cell_of_heap zz9 0
          have z1 := cell_of_heap zz9 1
          have g0 := frozen_of_heap zz9 0
          have g1 := frozen_of_heap zz9 1
          have P := cbox_put zz9 (.slice ra c.room.length rc) (.slice (some ⟨b, 0, none⟩) c.us.length uc)
          have D9 := Below.trans (Below.trans D5.out (Below.mono (X6.out.alloc (Obj.cells #[.int .i64 x.id, .slice pa x.need.length pc] 37)) BL.out)) (Below.trans P8.out.2.2.2.2.1 P8.out.2.2.2.1)
          have N9 := P8.out.1
          have dj : j < (c.us.set j ⟨true, c.us[j].ts⟩).length := by simpa using hj
          have ej : (c.us.set j ⟨true, c.us[j].ts⟩)[j]'dj = ⟨true, c.us[j].ts⟩ := List.getElem_set_self _
          rw [ej, List.set_set] at N9
          have FF := Lib.hid (arr_post (q := 0) (c := ⟨c.room, c.us.set j ⟨true, c.us[j].ts ++ [x]⟩⟩) ⟨(D9.setCell (p := ⟨w.heap.size + 1 + 1, 0, none⟩) (show B ≤ w.heap.size + 1 + 1 by have := BL0.out; omega) (.slice ra c.room.length rc)).setCell (p := ⟨w.heap.size + 1 + 1, 1, none⟩) (show B ≤ w.heap.size + 1 + 1 by have := BL0.out; omega) (.slice (some ⟨b, 0, none⟩) c.us.length uc),
            ⟨_, _, rfl, ((((HR5.out.ext (X6.out.alloc _)).kt P8.out.2.1 (by decide)).kt KT9 (by decide)).kt P.1 (by decide)), N9.kt P.1 (by decide) (by decide) (by decide)⟩, DC.out.push hj N3.out FL.out⟩)
          clear P D9 N9 zz7 zz8 zz9 KT9 P8 S8 dj ej f1 l1
          go_wp2_with fail
          refine bodyPost_ret (v := .tuple #[.agg #[.slice ra c.room.length rc, .slice (some ⟨b, 0, none⟩) c.us.length uc], .int .i64 0]) ?_ rfl FF.out
          simp [results, Try.results54, go_sem, z0, z1]
  · clear b0 b1 c0 c1
    have a0 := cell_of_heap ((X1.out.block (lt_of_heap A0.out)).trans A0.out) 0
    have a1 := cell_of_heap ((X1.out.block (lt_of_heap A0.out)).trans A0.out) 1
    obtain ⟨j, hjk⟩ : ∃ j : Nat, k1 = (j : Int) := ⟨k1.toNat, by omega⟩
    subst hjk
    have hj : j < c.us.length := by omega
    have jn : ¬ ((j : Int) < 0) := by omega
    clear hk1
    go_wp2_with fail
    refine (l21Bins_any _ c _ ((H0.out.ext X1.out).clu DC.out)).mono ?_
    rintro e w3 ⟨r3', rfl, hE3, ho3⟩
    have X3 := Lib.hid (X1.out.trans hE3)
    have B3 := Lib.hid (ho3.done (by have := DC.out.us; rw [binsC_len]; unfold lim; omega))
    clear hE3 ho3
    go_wp2_with fail
    refine (l2All_any _ _ _ B3.out (by have := DC.out.fl; omega)).mono ?_
    rintro e w4 ⟨r4, rfl, hE4, ho4⟩
    obtain ⟨fl, hfl⟩ : ∃ fl, (binsC c.us).flatten = fl := ⟨_, rfl⟩
    rw [hfl] at ho4
    obtain ⟨oa, oc, hv4⟩ := ho4.form
    subst hv4
    have X4 := Lib.hid (X3.out.trans hE4)
    clear hE4 ho4 X3 B3 a0 a1 hfl
    by_cases h14 : fl.length = 14
    · have hb : ((fl.length : Int) == 14) = true := by simp [h14]
      clear h14
      have z0 := cell_of_heap ((X4.out.block (lt_of_heap Z0.out)).trans Z0.out) 0
      have z1 := cell_of_heap ((X4.out.block (lt_of_heap Z0.out)).trans Z0.out) 1
      have g0 := frozen_of_heap ((X4.out.block (lt_of_heap Z0.out)).trans Z0.out) 0
      have g1 := frozen_of_heap ((X4.out.block (lt_of_heap Z0.out)).trans Z0.out) 1
      have a0 := cell_of_heap ((X4.out.block (lt_of_heap A0.out)).trans A0.out) 0
      have a1 := cell_of_heap ((X4.out.block (lt_of_heap A0.out)).trans A0.out) 1
      have P := cbox_put ((X4.out.block (lt_of_heap Z0.out)).trans Z0.out) (.slice ra c.room.length rc) (.slice ua c.us.length uc)
      have FF := Lib.hid (arr_post (q := 3) ⟨(Below.mono (E0.out.trans X4.out) BL0.out).setCell (p := ⟨w.heap.size + 1 + 1, 0, none⟩) (show B ≤ w.heap.size + 1 + 1 by have := BL0.out; omega) (.slice ra c.room.length rc) |>.setCell (p := ⟨w.heap.size + 1 + 1, 1, none⟩) (show B ≤ w.heap.size + 1 + 1 by have := BL0.out; omega) (.slice ua c.us.length uc), (H0.out.ext X4.out).kt P.1 (by decide) (by decide) (by decide), DC.out⟩)
      clear P
      go_wp2_with fail
      refine bodyPost_ret (v := .tuple #[.agg #[.slice ra c.room.length rc, .slice ua c.us.length uc], .int .i64 3]) ?_ rfl FF.out
      simp [results, Try.results54, go_sem, z0, z1]
    · have hb : ((fl.length : Int) == 14) = false := by simp; omega
      clear h14
      have a0 := cell_of_heap ((X4.out.block (lt_of_heap A0.out)).trans A0.out) 0
      have a1 := cell_of_heap ((X4.out.block (lt_of_heap A0.out)).trans A0.out) 1
      obtain ⟨b, nd, hua, -, hBb, hbw, co, cn, hot, -, -⟩ := HU.out.at hj
      subst hua
      obtain ⟨ta, tc, rfl⟩ := hot.form
      have HG := Lib.hid (fun g hg => ownBlock_lt hot g hg)
      obtain ⟨_, _, e1, -, -, -, co4, cn4, hot4, fo4, fn4⟩ := (HU.out.ext (E0.out.trans X4.out)).at hj
      simp only [Option.some.injEq, Addr.mk.injEq, and_true] at e1
      subst e1
      rw [(E0.out.trans X4.out).cell cn] at cn4
      simp only [Option.some.injEq] at cn4
      subst cn4
      have P5 := Lib.hid ((HU.out.ext (E0.out.trans X4.out)).putOp hj true)
      have i0 : (0 : Int) ≤ (j : Int) := by omega
      have i1 : (j : Int) < (c.us.length : Int) := by omega
      have BB := Lib.hid hBb
      have TL := Lib.hid (show c.us[j].ts.length ≤ 20 from by have := ts_le (List.getElem_mem hj); have := DC.out.fl; omega)
      have W4 := Lib.hid (E0.out.trans X4.out).le
      have HBW := Lib.hid hbw
      have CU4 := Lib.hid ((E0.out.trans X4.out).cell cn)
      have HT4 := Lib.hid hot4
      clear hot hot4 cn co hBb hbw
      go_wp2_with fail
      have KT5 := Lib.hid P5.out.2.1
      have A5 := Lib.hid ((KT5.out.2 _ _ _ _ ((X4.out.block (lt_of_heap A0.out)).trans A0.out) (by decide)).trans ((X4.out.block (lt_of_heap A0.out)).trans A0.out))
      have T5 := Lib.hid ((KT5.out.2 _ _ _ _ ((X4.out.block (lt_of_heap T0.out)).trans T0.out) (by decide)).trans ((X4.out.block (lt_of_heap T0.out)).trans T0.out))
      have Z5 := Lib.hid ((KT5.out.2 _ _ _ _ ((X4.out.block (lt_of_heap Z0.out)).trans Z0.out) (by decide)).trans ((X4.out.block (lt_of_heap Z0.out)).trans Z0.out))
      have CU := Lib.hid ((World.cell?_setCell_other w4 ⟨b, j * 2, none⟩ ⟨b, j * 2 + 1, none⟩ (.bool true) (by simp)).trans CU4.out)
      have N5 := Lib.hid P5.out.1
      have HX5 := Lib.hid ((HX.out.ext X4.out).kt KT5.out (by decide))
      have HR5 := Lib.hid ((HR.out.ext X4.out).kt KT5.out (by decide))
      have HT5 := Lib.hid (HT4.out.kt KT5.out (by decide) (by decide))
      have D5 := Lib.hid (show Below B w (w4.setCell ⟨b, j * 2, none⟩ (.bool true)) from Below.trans (Below.mono (E0.out.trans X4.out) BL0.out) P5.out.2.2)
      have BL := Lib.hid (show B ≤ (w4.setCell ⟨b, j * 2, none⟩ (.bool true)).heap.size from Nat.le_trans (Nat.le_trans BL0.out W4.out) P5.out.2.2.size)
      have WS := Lib.hid (show w.heap.size ≤ (w4.setCell ⟨b, j * 2, none⟩ (.bool true)).heap.size from Nat.le_trans W4.out P5.out.2.2.size)
      clear KT5 P5 CU4 HT4 co4 fo4 fn4 a0 a1 H0 HU
      generalize w4.setCell ⟨b, j * 2, none⟩ (.bool true) = w5 at *
      have KS := Lib.hid (show ∀ w', Ext w5 w' → w'.heap[w.heap.size]? = some (Obj.cells #[.slice ra c.room.length rc, .slice (some ⟨b, 0, none⟩) c.us.length uc] 26) ∧ w'.heap[w.heap.size + 1]? = some (Obj.cells #[.int .i64 x.id, .slice na x.need.length nc] 37) ∧ w'.cell? ⟨b, j * 2 + 1, none⟩ = some (.slice ta c.us[j].ts.length tc) from
        fun w' h => ⟨(h.block (lt_of_heap A5.out)).trans A5.out, (h.block (lt_of_heap T5.out)).trans T5.out, h.cell CU.out⟩)
      have hs8 := Lib.hid (show ∀ (w7 w8 : World), Ext w5 w7 → w7.grownBy w8 (Value.slice ta c.us[j].ts.length tc).ownBlock → w8.cell? ⟨b, j * 2 + 1, none⟩ = some (.slice ta c.us[j].ts.length tc) → w8.heap[w.heap.size]? = some (Obj.cells #[.slice ra c.room.length rc, .slice (some ⟨b, 0, none⟩) c.us.length uc] 26) ∧ w8.heap[w.heap.size + 1]? = some (Obj.cells #[.int .i64 x.id, .slice na x.need.length nc] 37) ∧ w8.cell? ⟨b, j * 2 + 1, none⟩ = some (.slice ta c.us[j].ts.length tc) from
        fun w7 w8 h hg hc => by
          obtain ⟨s1, s2, s3⟩ := KS.out w7 h
          exact ⟨(hg.block _ (lt_of_heap s1) (fun e => by have := HG.out _ e.symm; omega)).trans s1, (hg.block _ (lt_of_heap s2) (fun e => by have := HG.out _ e.symm; omega)).trans s2, hc⟩)
      refine regionZ (S := fun w' => w'.heap[w.heap.size]? = some (Obj.cells #[.slice ra c.room.length rc, .slice (some ⟨b, 0, none⟩) c.us.length uc] 26) ∧ w'.heap[w.heap.size + 1]? = some (Obj.cells #[.int .i64 x.id, .slice na x.need.length nc] 37) ∧ w'.cell? ⟨b, j * 2 + 1, none⟩ = some (.slice ta c.us[j].ts.length tc)) 20 (by kernel_rfl) (KS.out _ (Ext.refl w5).drew) (fun hHeld => ?_)
      refine pureZ (i := 0) (d := some 35) (v := ?_) rfl rfl (by decide) (by kernel_rfl) (by kernel_rfl) (by kernel_rfl) (fun _ _ _ h => h) (by rfl) ?_ (by assumption) ?_
      rotate_left
      · intro w; (try go_simp); (try with_reducible rfl)
      try simp only [Act.put]
      try simp only [List.setIfInBounds_toArray]
      try simp only [List.set_cons_succ]
      try simp only [List.set_cons_zero]
      refine readZ [] (i := 1) (d := some 36) (v := ?_) rfl rfl (by decide) (by kernel_rfl) (by kernel_rfl) (by kernel_rfl) (by kernel_rfl) (fun _ _ _ h => h) (by rfl) ?_ (by assumption) ?_
      rotate_left
      · intro w hSw; (try dsimp only at hSw); (try have l0 := cell_of_heap hSw.1 0; have l1 := cell_of_heap hSw.1 1; go_simp); (try with_reducible rfl)
      try simp only [Act.put]
      try simp only [List.setIfInBounds_toArray]
      try simp only [List.set_cons_succ]
      try simp only [List.set_cons_zero]
      refine pureZ (i := 2) (d := some 37) (v := ?_) rfl rfl (by decide) (by kernel_rfl) (by kernel_rfl) (by kernel_rfl) (fun _ _ _ h => h) (by rfl) ?_ (by assumption) ?_
      rotate_left
      · intro w; (try go_simp); (try with_reducible rfl)
      try simp only [Act.put]
      try simp only [List.setIfInBounds_toArray]
      try simp only [List.set_cons_succ]
      try simp only [List.set_cons_zero]
      refine pureZ (i := 3) (d := some 38) (v := ?_) rfl rfl (by decide) (by kernel_rfl) (by kernel_rfl) (by kernel_rfl) (fun _ _ _ h => h) (by rfl) ?_ (by assumption) ?_
      rotate_left
      · intro w; (try go_simp); (try with_reducible rfl)
      try simp only [Act.put]
      try simp only [List.setIfInBounds_toArray]
      try simp only [List.set_cons_succ]
      try simp only [List.set_cons_zero]
      refine readZ [] (i := 4) (d := some 39) (v := ?_) rfl rfl (by decide) (by kernel_rfl) (by kernel_rfl) (by kernel_rfl) (by kernel_rfl) (fun _ _ _ h => h) (by rfl) ?_ (by assumption) ?_
      rotate_left
      · intro w hSw; (try dsimp only at hSw); (try have l0 := cell_of_heap hSw.1 0; have l1 := cell_of_heap hSw.1 1; go_simp); (try with_reducible rfl)
      try simp only [Act.put]
      try simp only [List.setIfInBounds_toArray]
      try simp only [List.set_cons_succ]
      try simp only [List.set_cons_zero]
      refine pureZ (i := 5) (d := some 40) (v := ?_) rfl rfl (by decide) (by kernel_rfl) (by kernel_rfl) (by kernel_rfl) (fun _ _ _ h => h) (by rfl) ?_ (by assumption) ?_
      rotate_left
      · intro w; (try go_simp); (try with_reducible rfl)
      try simp only [Act.put]
      try simp only [List.setIfInBounds_toArray]
      try simp only [List.set_cons_succ]
      try simp only [List.set_cons_zero]
      refine pureZ (i := 6) (d := some 41) (v := ?_) rfl rfl (by decide) (by kernel_rfl) (by kernel_rfl) (by kernel_rfl) (fun _ _ _ h => h) (by rfl) ?_ (by assumption) ?_
      rotate_left
      · intro w; (try go_simp); (try with_reducible rfl)
      try simp only [Act.put]
      try simp only [List.setIfInBounds_toArray]
      try simp only [List.set_cons_succ]
      try simp only [List.set_cons_zero]
      refine pureZ (i := 7) (d := some 42) (v := ?_) rfl rfl (by decide) (by kernel_rfl) (by kernel_rfl) (by kernel_rfl) (fun _ _ _ h => h) (by rfl) ?_ (by assumption) ?_
      rotate_left
      · intro w; (try go_simp); (try with_reducible rfl)
      try simp only [Act.put]
      try simp only [List.setIfInBounds_toArray]
      try simp only [List.set_cons_succ]
      try simp only [List.set_cons_zero]
      refine readZ [] (i := 8) (d := some 43) (v := ?_) rfl rfl (by decide) (by kernel_rfl) (by kernel_rfl) (by kernel_rfl) (by kernel_rfl) (fun _ _ _ h => h) (by rfl) ?_ (by assumption) ?_
      rotate_left
      · intro w hSw; (try dsimp only at hSw); (try have l0 := hSw.2.2; go_simp); (try with_reducible rfl)
      try simp only [Act.put]
      try simp only [List.setIfInBounds_toArray]
      try simp only [List.set_cons_succ]
      try simp only [List.set_cons_zero]
      refine pureZ (i := 9) (d := some 44) (v := ?_) rfl rfl (by decide) (by kernel_rfl) (by kernel_rfl) (by kernel_rfl) (fun _ _ _ h => h) (by rfl) ?_ (by assumption) ?_
      rotate_left
      · intro w; (try go_simp); (try with_reducible rfl)
      try simp only [Act.put]
      try simp only [List.setIfInBounds_toArray]
      try simp only [List.set_cons_succ]
      try simp only [List.set_cons_zero]
      refine readZ [] (i := 10) (d := some 45) (v := ?_) rfl rfl (by decide) (by kernel_rfl) (by kernel_rfl) (by kernel_rfl) (by kernel_rfl) (fun _ _ _ h => h) (by rfl) ?_ (by assumption) ?_
      rotate_left
      · intro w hSw; (try dsimp only at hSw); (try have l0 := cell_of_heap hSw.2.1 0; have l1 := cell_of_heap hSw.2.1 1; go_simp); (try with_reducible rfl)
      try simp only [Act.put]
      try simp only [List.setIfInBounds_toArray]
      try simp only [List.set_cons_succ]
      try simp only [List.set_cons_zero]
      refine pureZ (i := 12) (d := some 47) (v := ?_) rfl rfl (by decide) (by kernel_rfl) (by kernel_rfl) (by kernel_rfl) (fun _ _ _ h => h) (by rfl) ?_ (by assumption) ?_
      rotate_left
      · intro w; (try go_simp); (try with_reducible rfl)
      try simp only [Act.put]
      try simp only [List.setIfInBounds_toArray]
      try simp only [List.set_cons_succ]
      try simp only [List.set_cons_zero]
      refine readZ [] (i := 13) (d := some 48) (v := ?_) rfl rfl (by decide) (by kernel_rfl) (by kernel_rfl) (by kernel_rfl) (by kernel_rfl) (fun _ _ _ h => h) (by rfl) ?_ (by assumption) ?_
      rotate_left
      · intro w hSw; (try dsimp only at hSw); (try have l0 := cell_of_heap hSw.2.1 0; have l1 := cell_of_heap hSw.2.1 1; go_simp); (try with_reducible rfl)
      try simp only [Act.put]
      try simp only [List.setIfInBounds_toArray]
      try simp only [List.set_cons_succ]
      try simp only [List.set_cons_zero]
      refine oneZ (i := 11) (by kernel_rfl) rfl (by rfl) (fun K hK => ?_)
      go_simp
      try dsimp only
      refine hK.out _ _ (KS.out _ ((Ext.refl w5).drew.alloc _)) (fun hHeld => ?_)
      clear hK K
      try simp only [Act.put]
      try simp only [List.setIfInBounds_toArray]
      try simp only [List.set_cons_succ]
      try simp only [List.set_cons_zero]
      refine oneZ (i := 14) (by kernel_rfl) rfl (by rfl) (fun K hK => ?_)
      refine wp_app_ints _ _ rfl w5.heap.size _ [] (by rfl) (OwnInts.lit0 w5.drew w5.heap.size (Nat.le_refl _)) (by simp) _ _ _ x.need (by rfl) (HX5.out.ext ((Ext.refl w5).drew.alloc _)) (by have := N3.out; unfold lim; simp; omega) ?_
      intro v6 w6 hown hkt hbl
      have X6 := Lib.hid (((Ext.refl w5).drew.alloc (.cells #[] 3)).below hbl)
      rw [List.nil_append] at hown
      obtain ⟨pa, pc, hv6, hi6⟩ := (hown.done (by have := N3.out; unfold lim; omega)).open
      subst hv6
      have I6 := Lib.hid hi6
      clear hown hkt hbl hi6
      try dsimp only
      refine hK.out _ _ (KS.out _ X6.out) (fun hHeld => ?_)
      clear hK K
      try simp only [Act.put]
      try simp only [List.setIfInBounds_toArray]
      try simp only [List.set_cons_succ]
      try simp only [List.set_cons_zero]
      refine pureZ (i := 15) (d := some 50) (v := ?_) rfl rfl (by decide) (by kernel_rfl) (by kernel_rfl) (by kernel_rfl) (fun _ _ _ h => h) (by rfl) ?_ (by assumption) ?_
      rotate_left
      · intro w; (try go_simp); (try with_reducible rfl)
      try simp only [Act.put]
      try simp only [List.setIfInBounds_toArray]
      try simp only [List.set_cons_succ]
      try simp only [List.set_cons_zero]
      refine oneZ (i := 16) (by kernel_rfl) rfl (by rfl) (fun K hK => ?_)
      go_simp
      try dsimp only
      refine hK.out _ _ (KS.out _ (X6.out.alloc _)) (fun hHeld => ?_)
      clear hK K
      try simp only [Act.put]
      try simp only [List.setIfInBounds_toArray]
      try simp only [List.set_cons_succ]
      try simp only [List.set_cons_zero]
      refine oneZ (i := 17) (by kernel_rfl) rfl (by rfl) (fun K hK => ?_)
      refine wp_app2_tasks _ _ rfl B _ c.us[j].ts (by rfl) (HT5.out.ext (X6.out.alloc _)) (Nat.le_trans BL.out (X6.out.alloc _).le) _ _ _ [x] (by rfl) (Tasks.lit1 I6.out 1) (by have := TL.out; unfold lim; simp; omega) ?_
      intro v8 w8 hown hg hb8
      obtain ⟨sa8, sn8, sc8, hv8⟩ : ∃ a n c, v8 = .slice a n c := let ⟨a, c, h⟩ := hown.form; ⟨a, _, c, h⟩
      subst hv8
      have P8 := Lib.hid (NestU.putTs (N5.out.ext (X6.out.alloc _)) (k := j) (by simpa using hj) ((X6.out.alloc _).cell CU.out) (Nat.le_trans BL.out (X6.out.alloc _).le) hown hg (fun g hg' => by rcases hb8 with e | e; exact .inl (e ▸ hg'); exact .inr (by rw [e] at hg'; simp only [Option.some.injEq] at hg'; omega)))
      have S8 := Lib.hid (hs8.out _ w8 (X6.out.alloc _) hg P8.out.2.2.2.2.2.1)
      clear hown hg hb8
      try dsimp only
      refine hK.out _ _ (S8.out) (fun hHeld => ?_)
      clear hK K
      try simp only [Act.put]
      try simp only [List.setIfInBounds_toArray]
      try simp only [List.set_cons_succ]
      try simp only [List.set_cons_zero]
      refine pureZ (i := 18) (d := some 53) (v := ?_) rfl rfl (by decide) (by kernel_rfl) (by kernel_rfl) (by kernel_rfl) (fun _ _ _ h => h) (by rfl) ?_ (by assumption) ?_
      rotate_left
      · intro w; (try go_simp); (try with_reducible rfl)
      try simp only [Act.put]
      try simp only [List.setIfInBounds_toArray]
      try simp only [List.set_cons_succ]
      try simp only [List.set_cons_zero]
      refine pureZ (i := 19) (d := some 54) (v := ?_) rfl rfl (by decide) (by kernel_rfl) (by kernel_rfl) (by kernel_rfl) (fun _ _ _ h => h) (by rfl) ?_ (by assumption) ?_
      rotate_left
      · intro w; (try go_simp); (try with_reducible rfl)
      try simp only [Act.put]
      try simp only [List.setIfInBounds_toArray]
      try simp only [List.set_cons_succ]
      try simp only [List.set_cons_zero]
      have f1 := P8.out.2.2.2.2.2.2
      have l1 := P8.out.2.2.2.2.2.1
      refine lastZ (by kernel_rfl) rfl (by rfl) (fun K hK => ?_)
      go_simp
      try dsimp only
      refine hK.out _ _ ?_
      clear hK K
      try simp only [Act.put]
      try simp only [List.setIfInBounds_toArray]
      try simp only [List.set_cons_succ]
      try simp only [List.set_cons_zero]
      refine doneZ (by kernel_rfl) ?_
      have KT9 := P8.out.2.2.1
      have y0 := cell_of_heap ((KT9.2 _ _ _ _ S8.out.1 (by decide)).trans S8.out.1) 0
      have y1 := cell_of_heap ((KT9.2 _ _ _ _ S8.out.1 (by decide)).trans S8.out.1) 1
      have zz7 := ((X6.out.alloc (Obj.cells #[.int .i64 x.id, .slice pa x.need.length pc] 37)).block (lt_of_heap Z5.out)).trans Z5.out
      have zz8 := (P8.out.2.1.2 _ _ _ _ zz7 (by decide)).trans zz7
      have zz9 := (KT9.2 _ _ _ _ zz8 (by decide)).trans zz8
      have z0 := cell_of_heap zz9 0
      have z1 := cell_of_heap zz9 1
      have g0 := frozen_of_heap zz9 0
      have g1 := frozen_of_heap zz9 1
      have P := cbox_put zz9 (.slice ra c.room.length rc) (.slice (some ⟨b, 0, none⟩) c.us.length uc)
      have D9 := Below.trans (Below.trans D5.out (Below.mono (X6.out.alloc (Obj.cells #[.int .i64 x.id, .slice pa x.need.length pc] 37)) BL.out)) (Below.trans P8.out.2.2.2.2.1 P8.out.2.2.2.1)
      have N9 := P8.out.1
      have dj : j < (c.us.set j ⟨true, c.us[j].ts⟩).length := by simpa using hj
      have ej : (c.us.set j ⟨true, c.us[j].ts⟩)[j]'dj = ⟨true, c.us[j].ts⟩ := List.getElem_set_self _
      rw [ej, List.set_set] at N9
      have FF := Lib.hid (arr_post (q := 0) (c := ⟨c.room, c.us.set j ⟨true, c.us[j].ts ++ [x]⟩⟩) ⟨(D9.setCell (p := ⟨w.heap.size + 1 + 1, 0, none⟩) (show B ≤ w.heap.size + 1 + 1 by have := BL0.out; omega) (.slice ra c.room.length rc)).setCell (p := ⟨w.heap.size + 1 + 1, 1, none⟩) (show B ≤ w.heap.size + 1 + 1 by have := BL0.out; omega) (.slice (some ⟨b, 0, none⟩) c.us.length uc),
        ⟨_, _, rfl, ((((HR5.out.ext (X6.out.alloc _)).kt P8.out.2.1 (by decide)).kt KT9 (by decide)).kt P.1 (by decide)), N9.kt P.1 (by decide) (by decide) (by decide)⟩, DC.out.push hj N3.out FL.out⟩)
      clear P D9 N9 zz7 zz8 zz9 KT9 P8 S8 dj ej f1 l1
      go_wp2_with fail
      refine bodyPost_ret (v := .tuple #[.agg #[.slice ra c.room.length rc, .slice (some ⟨b, 0, none⟩) c.us.length uc], .int .i64 0]) ?_ rfl FF.out
      simp [results, Try.results54, go_sem, z0, z1]

end Go.Proofs.Ytfidamjepjgknaa
end

/- The reference's requests of a cluster: arrival, departure, opening (printed by gen_cq.py). No condition. -/
section
namespace Go.Proofs.Ytfidamjepjgknaa
set_option maxRecDepth 100000
open Go.RowKit

theorem clu_ok {c : C} (h : clusterB c = true) : BinsOk c.room (binsC c.us) ∧ 1 ≤ c.us.length := by
  unfold clusterB at h
  rw [Bool.and_eq_true, Bool.and_eq_true] at h
  have h1 := inB_iff.1 h.2.1
  exact ⟨binsB_iff.1 h.2.2, by omega⟩
theorem good_us {c : C} (h : BinsOk c.room (binsC c.us)) : ∀ u ∈ c.us, Good u.ts := fun u hu t ht => h.1.good t (List.mem_flatten.2 ⟨u.ts, List.mem_map.2 ⟨u, hu, rfl⟩, ht⟩)
theorem flat_set_le : ∀ {bs : List (List T)} {j : Nat} (hj : j < bs.length) {v : List T}, v.length ≤ bs[j].length → (bs.set j v).flatten.length ≤ bs.flatten.length
  | [], j, hj, v, h => by cases hj
  | b :: r, 0, hj, v, h => by
    rw [List.set_cons_zero, List.flatten_cons, List.flatten_cons, List.length_append, List.length_append]
    simp only [List.getElem_cons_zero] at h
    omega
  | b :: r, j + 1, hj, v, h => by
    rw [List.set_cons_succ, List.flatten_cons, List.flatten_cons, List.length_append, List.length_append]
    have := flat_set_le (bs := r) (j := j) (by simpa using hj) (v := v) (by simpa using h)
    omega
theorem Dc.openAt {c : C} (d : Dc c) {j : Nat} (hj : j < c.us.length) (q : Bool) : Dc ⟨c.room, c.us.set j ⟨q, c.us[j].ts⟩⟩ :=
  d.set hj (show ∀ t ∈ c.us[j].ts, t.need.length ≤ 3 from d.need _ (List.getElem_mem hj)) (Nat.le_trans (flat_set_le (binsC_at hj) (by rw [binsC_get hj]; exact Nat.le_refl _)) d.fl)
theorem Dc.drop {c : C} (d : Dc c) {j : Nat} (hj : j < c.us.length) (p : T → Bool) : Dc ⟨c.room, c.us.set j ⟨c.us[j].op, c.us[j].ts.filter p⟩⟩ :=
  d.set hj (fun t ht => d.need _ (List.getElem_mem hj) t (List.mem_filter.1 ht).1) (Nat.le_trans (flat_set_le (binsC_at hj) (by rw [binsC_get hj]; exact List.length_filter_le _ _)) d.fl)
theorem sTasksValid_x (v u : Value) (room : List Int) (ts : List T) (w : World) (hr : Ints w v room) (h : Tasks w u ts) :
    Calls Try.prog 42 #[v, u] w fun e w' => e = .returned (.bool (tasksB room ts)) ∧ Ext w w' :=
  (sTasksValid_any v u room ts w hr h).mono fun _ _ ⟨e, n, hw⟩ => ⟨e, hw ▸ (Ext.refl _).drewN n⟩
theorem where0_lt {bs : List (List T)} {id : Int} {j : Nat} (h : where0 bs id = some j) : j < bs.length := (List.findIdx?_eq_some_iff_getElem.1 h).1

end Go.Proofs.Ytfidamjepjgknaa
end

/- The reference's departure of a task from a cluster (printed by gen_cq.py). No condition. -/
section
namespace Go.Proofs.Ytfidamjepjgknaa
set_option maxRecDepth 100000
open Go.RowKit

set_option maxHeartbeats 8000000 in
theorem sClusterDepart_own (v : Value) (c : C) (id : Int) (w : World) (h : Clu w v c) (dc : Dc c) :
    Calls Try.prog 33 #[v, .int .i64 id] w (OpPost w) := by
  have h0 := h
  obtain ⟨ra, rc, ua, uc, rfl, hr, hu⟩ := h.open
  have DC := Lib.hid dc
  have E0 := Lib.hid (((Ext.refl w).alloc (Obj.cells #[.slice ra c.room.length rc, .slice ua c.us.length uc] 26)).alloc (Obj.cells #[.slice none 0 0, .slice none 0 0] 26))
  have A0 := Lib.hid (heap_skip (w.alloc (Obj.cells #[.slice ra c.room.length rc, .slice ua c.us.length uc] 26)) (Obj.cells #[.slice none 0 0, .slice none 0 0] 26) (heap_alloc_new w (Obj.cells #[.slice ra c.room.length rc, .slice ua c.us.length uc] 26)))
  have Z0 := Lib.hid (heap_push (n := w.heap.size + 1) (w.alloc (Obj.cells #[.slice ra c.room.length rc, .slice ua c.us.length uc] 26)) (Obj.cells #[.slice none 0 0, .slice none 0 0] 26) (by simp))
  have H0 := Lib.hid (h0.ext E0.out)
  have HR := Lib.hid (hr.ext E0.out)
  have HWZ := Lib.hid dc.weigh
  clear h h0 hr hu dc
  go_enter Try.func33, Try.ntmps33
  go_wp2_with fail
  generalize hW : (w.alloc (Obj.cells #[.slice ra c.room.length rc, .slice ua c.us.length uc] 26)).alloc (Obj.cells #[.slice none 0 0, .slice none 0 0] 26) = W at *
  clear hW
  have cc := sClusterValid_any _ c W H0.out (by have := HWZ.out; omega)
  cases hv : clusterB c with
  | false =>
    rw [hv] at cc
    refine cc.mono ?_
    clear cc hv
    rintro e w1 ⟨rfl, hE1⟩
    have X1 := Lib.hid hE1
    clear hE1
    have z0 := cell_of_heap ((X1.out.block (lt_of_heap Z0.out)).trans Z0.out) 0
    have z1 := cell_of_heap ((X1.out.block (lt_of_heap Z0.out)).trans Z0.out) 1
    have g0 := frozen_of_heap ((X1.out.block (lt_of_heap Z0.out)).trans Z0.out) 0
    have g1 := frozen_of_heap ((X1.out.block (lt_of_heap Z0.out)).trans Z0.out) 1
    have P := cbox_put ((X1.out.block (lt_of_heap Z0.out)).trans Z0.out) (.slice none 0 0) (.slice none 0 0)
    have FF := Lib.hid (op_post (q := 1) (c := ⟨[], []⟩) ⟨((E0.out.trans X1.out).setCell (p := ⟨w.heap.size + 1, 0, none⟩) (show w.heap.size ≤ w.heap.size + 1 by omega) (.slice none 0 0)).setCell (p := ⟨w.heap.size + 1, 1, none⟩) (show w.heap.size ≤ w.heap.size + 1 by omega) (.slice none 0 0), (OwnCl.zero _ w.heap.size).kt P.1 (by decide) (by decide) (by decide), Dc.zero⟩)
    clear P
    go_wp2_with fail
    refine bodyPost_ret (v := .tuple #[.agg #[(.slice none 0 0), (.slice none 0 0)], .int .i64 (1)]) ?_ rfl FF.out
    simp [results, Try.results33, go_sem, z0, z1]
  | true =>
    have VB := Lib.hid (clu_ok hv)
    rw [hv] at cc
    refine cc.mono ?_
    clear cc hv
    rintro e w1 ⟨rfl, hE1⟩
    have X1 := Lib.hid hE1
    have a0 := cell_of_heap ((X1.out.block (lt_of_heap A0.out)).trans A0.out) 0
    have a1 := cell_of_heap ((X1.out.block (lt_of_heap A0.out)).trans A0.out) 1
    clear hE1
    go_wp2_with fail
    refine (l21Copy_own _ c w1 (H0.out.ext X1.out) (by have := DC.out.us; omega) (by have := DC.out.room3; omega) (fun u hu t ht => by have := DC.out.need u hu t ht; omega)).mono ?_
    rintro e w2 ⟨v2, rfl, hE2, hc2⟩
    obtain ⟨pa, pc, sa, sc, hv2, hp2, hs2⟩ := hc2.open
    subst hv2
    have E3 := hE2.alloc (Obj.cells #[.slice pa c.room.length pc, .slice sa c.us.length sc] 26)
    have X3 := Lib.hid (X1.out.trans E3)
    have C3 := Lib.hid (hc2.ext ((Ext.refl w2).alloc (Obj.cells #[.slice pa c.room.length pc, .slice sa c.us.length sc] 26)))
    have O3 := Lib.hid (heap_alloc_new w2 (Obj.cells #[.slice pa c.room.length pc, .slice sa c.us.length sc] 26))
    have A3 := Lib.hid ((X3.out.block (lt_of_heap A0.out)).trans A0.out)
    have Z3 := Lib.hid ((X3.out.block (lt_of_heap Z0.out)).trans Z0.out)
    have WZ : w.heap.size + 1 < w1.heap.size := Nat.lt_of_lt_of_le (lt_of_heap Z0.out) X1.out.le
    have WO : w1.heap.size ≤ w2.heap.size := hE2.le
    have a0 := cell_of_heap A3.out 0
    have a1 := cell_of_heap A3.out 1
    clear hE2 hc2 hp2 hs2 E3
    go_wp2_with fail
    generalize hW3 : w2.alloc (Obj.cells #[.slice pa c.room.length pc, .slice sa c.us.length sc] 26) = W3 at *
    have HSZ := Lib.hid (show W3.heap.size = w2.heap.size + 1 by rw [← hW3]; simp)
    clear hW3
    clear a0 a1
    refine (l21Bins_any _ c W3 (H0.out.ext X3.out)).mono ?_
    rintro e w4 ⟨r4, rfl, hE4, ho4⟩
    have X4 := Lib.hid (X3.out.trans hE4)
    have Y4 := Lib.hid hE4
    have B4 := Lib.hid (ho4.done (by have := DC.out.us; rw [binsC_len]; unfold lim; omega))
    clear hE4 ho4
    go_wp2_with fail
    have cc := l2Where_any _ _ id _ B4.out
    cases hw0 : where0 (binsC c.us) id with
    | none =>
      rw [show nodeI (where0 (binsC c.us) id) = -1 by rw [hw0]; rfl] at cc
      refine cc.mono ?_
      clear cc hw0
      rintro e w5 ⟨rfl, hE5⟩
      have X5 := Lib.hid (X4.out.trans hE5)
      have Y5 := Lib.hid (Y4.out.trans hE5)
      clear hE5
      have z0 := cell_of_heap ((X5.out.block (lt_of_heap Z0.out)).trans Z0.out) 0
      have z1 := cell_of_heap ((X5.out.block (lt_of_heap Z0.out)).trans Z0.out) 1
      have g0 := frozen_of_heap ((X5.out.block (lt_of_heap Z0.out)).trans Z0.out) 0
      have g1 := frozen_of_heap ((X5.out.block (lt_of_heap Z0.out)).trans Z0.out) 1
      have y0 := cell_of_heap ((Y5.out.block (lt_of_heap O3.out)).trans O3.out) 0
      have y1 := cell_of_heap ((Y5.out.block (lt_of_heap O3.out)).trans O3.out) 1
      have P := cbox_put ((X5.out.block (lt_of_heap Z0.out)).trans Z0.out) (.slice pa c.room.length pc) (.slice sa c.us.length sc)
      have FF := Lib.hid (op_post (q := 4) (c := c) ⟨((E0.out.trans X5.out).setCell (p := ⟨w.heap.size + 1, 0, none⟩) (show w.heap.size ≤ w.heap.size + 1 by omega) (.slice pa c.room.length pc)).setCell (p := ⟨w.heap.size + 1, 1, none⟩) (show w.heap.size ≤ w.heap.size + 1 by omega) (.slice sa c.us.length sc), ((C3.out.ext Y5.out).base (by omega)).kt P.1 (by decide) (by decide) (by decide), DC.out⟩)
      clear P
      go_wp2_with fail
      refine bodyPost_ret (v := .tuple #[.agg #[(.slice pa c.room.length pc), (.slice sa c.us.length sc)], .int .i64 (4)]) ?_ rfl FF.out
      simp [results, Try.results33, go_sem, z0, z1]
    | some j =>
      have hlt : j < c.us.length := by have := where0_lt hw0; rwa [binsC_len] at this
      rw [show nodeI (where0 (binsC c.us) id) = (j : Int) by rw [hw0]; rfl] at cc
      refine cc.mono ?_
      clear cc hw0
      rintro e w5 ⟨rfl, hE5⟩
      have X5 := Lib.hid (X4.out.trans hE5)
      have Y5 := Lib.hid (Y4.out.trans hE5)
      have O5 := Lib.hid ((Y5.out.block (lt_of_heap O3.out)).trans O3.out)
      have jn : ¬ ((j : Int) < 0) := by omega
      have i0 : (0 : Int) ≤ (j : Int) := by omega
      have i1 : (j : Int) < (c.us.length : Int) := by omega
      obtain ⟨_, _, _, _, hav3, hr3, hu3⟩ := (C3.out.ext Y5.out).open
      cases hav3
      obtain ⟨bb, nn, hsa, -, hBb, hbw, co, cn, hot, fo, fn⟩ := hu3.at hlt
      subst hsa
      obtain ⟨ta, tc, rfl⟩ := hot.form
      have y0 := cell_of_heap O5.out 0
      have y1 := cell_of_heap O5.out 1
      have HR5 := Lib.hid hr3
      have HU5 := Lib.hid hu3
      have CN := Lib.hid cn
      have TL := Lib.hid (show c.us[j].ts.length ≤ 20 from by have := ts_le (List.getElem_mem hlt); have := DC.out.fl; omega)
      have TK := Lib.hid (hot.done (by have := TL.out; unfold lim; omega))
      have HBb := Lib.hid hBb
      have W5 := Lib.hid (show w1.heap.size ≤ w5.heap.size by have := Y5.out.le; have := lt_of_heap O3.out; omega)
      clear hE5 hr3 hu3 hot co fo fn hBb hbw
      go_wp2_with fail
      have ZT := Lib.hid ((Ext.refl w5).alloc (Obj.cells #[.slice ta c.us[j].ts.length tc] 29))
      refine (l15Take_own _ id [c.us[j].ts] _ (Bins.lit1 TK.out 1) (by simp) (fun y hy => by simp at hy; subst hy; have := TL.out; omega)).mono ?_
      rintro e w6 ⟨ra6, rc6, na6, nc6, x6, -, rfl, hE6, hout, hnx⟩
      have M6 := Lib.hid ((ZT.out.trans hE6).alloc (Obj.cells #[.int .i64 x6.id, .slice na6 x6.need.length nc6] 37))
      obtain ⟨xs6, ho6, hl6, hb6⟩ := hout
      obtain ⟨rg, hra, -, -, hrl, hrc, -⟩ := ownsRow_at ho6 (by simp [restL])
      subst hra
      obtain ⟨nd6, hn6, hot6, -⟩ := hb6 0 (by simp [restL])
      obtain ⟨fa, fc, hf6⟩ := hot6.form
      obtain ⟨fn, hfn⟩ : ∃ fn, ((restL [c.us[j].ts] id)[0]'(by simp [restL])).length = fn := ⟨_, rfl⟩
      rw [hfn] at hf6
      subst hf6
      have CR := Lib.hid (show w6.cell? ⟨rg, 0, none⟩ = some (.slice fa fn fc) from (hrc 0 (by rw [hl6]; simp [restL])).trans hn6)
      have OT := Lib.hid (show OwnTasks w6 (w5.heap.size + 1) (.slice fa fn fc) (c.us[j].ts.filter fun t => !(t.id == id)) from (hot6.base (by simp <;> omega)))
      clear hE6 hnx ho6 hl6 hb6 hrl hrc hn6 hot6 y0 y1 hfn
      go_wp2_with fail
      generalize hW7 : w6.alloc (Obj.cells #[.int .i64 x6.id, .slice na6 x6.need.length nc6] 37) = W7 at *
      have E67 := Lib.hid (show Ext w6 W7 from hW7 ▸ (Ext.refl w6).alloc _)
      clear hW7
      have CR7 := Lib.hid (E67.out.cell CR.out)
      have OT7 := Lib.hid (OT.out.ext E67.out)
      have O7 := Lib.hid ((M6.out.block (lt_of_heap O5.out)).trans O5.out)
      have P7 := Lib.hid (HU5.out.putTs hlt CN.out W5.out (OT7.out.base (by have := W5.out; omega)) (⟨M6.out.os, M6.out.tape, M6.out.output, M6.out.size, fun k hk _ => M6.out.block hk⟩) (fun g hg => .inr (by
        obtain ⟨ys, q1, -⟩ := OT7.out
        have := (q1.lt g hg).1
        omega)))
      refine regionZ (S := fun w' => w'.heap[w2.heap.size]? = some (Obj.cells #[.slice pa c.room.length pc, .slice (some ⟨bb, 0, none⟩) c.us.length sc] 26) ∧ w'.cell? ⟨rg, 0, none⟩ = some (.slice fa fn fc)) 8 (by kernel_rfl) (⟨O7.out, CR7.out⟩) (fun hHeld => ?_)
      refine pureZ (i := 0) (d := some 35) (v := ?_) rfl rfl (by decide) (by kernel_rfl) (by kernel_rfl) (by kernel_rfl) (fun _ _ _ h => h) (by rfl) ?_ (by assumption) ?_
      rotate_left
      · intro w; (try go_simp); (try with_reducible rfl)
      try simp only [Act.put]
      try simp only [List.setIfInBounds_toArray]
      try simp only [List.set_cons_succ]
      try simp only [List.set_cons_zero]
      refine readZ [] (i := 1) (d := some 36) (v := ?_) rfl rfl (by decide) (by kernel_rfl) (by kernel_rfl) (by kernel_rfl) (by kernel_rfl) (fun _ _ _ h => h) (by rfl) ?_ (by assumption) ?_
      rotate_left
      · intro w hSw; (try dsimp only at hSw); (try have l0 := cell_of_heap hSw.1 0; have l1 := cell_of_heap hSw.1 1; go_simp); (try with_reducible rfl)
      try simp only [Act.put]
      try simp only [List.setIfInBounds_toArray]
      try simp only [List.set_cons_succ]
      try simp only [List.set_cons_zero]
      refine pureZ (i := 2) (d := some 37) (v := ?_) rfl rfl (by decide) (by kernel_rfl) (by kernel_rfl) (by kernel_rfl) (fun _ _ _ h => h) (by rfl) ?_ (by assumption) ?_
      rotate_left
      · intro w; (try go_simp); (try with_reducible rfl)
      try simp only [Act.put]
      try simp only [List.setIfInBounds_toArray]
      try simp only [List.set_cons_succ]
      try simp only [List.set_cons_zero]
      refine pureZ (i := 3) (d := some 38) (v := ?_) rfl rfl (by decide) (by kernel_rfl) (by kernel_rfl) (by kernel_rfl) (fun _ _ _ h => h) (by rfl) ?_ (by assumption) ?_
      rotate_left
      · intro w; (try go_simp); (try with_reducible rfl)
      try simp only [Act.put]
      try simp only [List.setIfInBounds_toArray]
      try simp only [List.set_cons_succ]
      try simp only [List.set_cons_zero]
      refine pureZ (i := 4) (d := some 39) (v := ?_) rfl rfl (by decide) (by kernel_rfl) (by kernel_rfl) (by kernel_rfl) (fun _ _ _ h => h) (by rfl) ?_ (by assumption) ?_
      rotate_left
      · intro w; (try go_simp); (try with_reducible rfl)
      try simp only [Act.put]
      try simp only [List.setIfInBounds_toArray]
      try simp only [List.set_cons_succ]
      try simp only [List.set_cons_zero]
      refine readZ [] (i := 5) (d := some 40) (v := ?_) rfl rfl (by decide) (by kernel_rfl) (by kernel_rfl) (by kernel_rfl) (by kernel_rfl) (fun _ _ _ h => h) (by rfl) ?_ (by assumption) ?_
      rotate_left
      · intro w hSw; (try dsimp only at hSw); (try have l0 := hSw.2; go_simp); (try with_reducible rfl)
      try simp only [Act.put]
      try simp only [List.setIfInBounds_toArray]
      try simp only [List.set_cons_succ]
      try simp only [List.set_cons_zero]
      refine pureZ (i := 6) (d := some 41) (v := ?_) rfl rfl (by decide) (by kernel_rfl) (by kernel_rfl) (by kernel_rfl) (fun _ _ _ h => h) (by rfl) ?_ (by assumption) ?_
      rotate_left
      · intro w; (try go_simp); (try with_reducible rfl)
      try simp only [Act.put]
      try simp only [List.setIfInBounds_toArray]
      try simp only [List.set_cons_succ]
      try simp only [List.set_cons_zero]
      refine pureZ (i := 7) (d := some 42) (v := ?_) rfl rfl (by decide) (by kernel_rfl) (by kernel_rfl) (by kernel_rfl) (fun _ _ _ h => h) (by rfl) ?_ (by assumption) ?_
      rotate_left
      · intro w; (try go_simp); (try with_reducible rfl)
      try simp only [Act.put]
      try simp only [List.setIfInBounds_toArray]
      try simp only [List.set_cons_succ]
      try simp only [List.set_cons_zero]
      have f1 := P7.out.2.2.2.2.2.2
      have l1 := P7.out.2.2.2.2.2.1
      refine lastZ (by kernel_rfl) rfl (by rfl) (fun K hK => ?_)
      go_simp
      try dsimp only
      refine hK.out _ _ ?_
      clear hK K
      try simp only [Act.put]
      try simp only [List.setIfInBounds_toArray]
      try simp only [List.set_cons_succ]
      try simp only [List.set_cons_zero]
      refine doneZ (by kernel_rfl) ?_
      have KT9 := P7.out.2.2.1
      have zz9 := (KT9.2 _ _ _ _ ((M6.out.block (lt_of_heap ((X5.out.block (lt_of_heap Z0.out)).trans Z0.out))).trans ((X5.out.block (lt_of_heap Z0.out)).trans Z0.out)) (by decide)).trans ((M6.out.block (lt_of_heap ((X5.out.block (lt_of_heap Z0.out)).trans Z0.out))).trans ((X5.out.block (lt_of_heap Z0.out)).trans Z0.out))
      have oo9 := (KT9.2 _ _ _ _ O7.out (by decide)).trans O7.out
      have o0 := cell_of_heap oo9 0
      have o1 := cell_of_heap oo9 1
      have z0 := cell_of_heap zz9 0
      have z1 := cell_of_heap zz9 1
      have g0 := frozen_of_heap zz9 0
      have g1 := frozen_of_heap zz9 1
      have P := cbox_put zz9 (.slice pa c.room.length pc) (.slice (some ⟨bb, 0, none⟩) c.us.length sc)
      have D9 := (((E0.out.trans X5.out).trans M6.out).drew).setCell (p := ⟨bb, j * 2 + 1, none⟩) (show w.heap.size ≤ bb by have := HBb.out; omega) (.slice fa fn fc)
      have FF := Lib.hid (op_post (q := 0) (c := ⟨c.room, c.us.set j ⟨c.us[j].op, c.us[j].ts.filter fun t => !(t.id == id)⟩⟩) ⟨(D9.setCell (p := ⟨w.heap.size + 1, 0, none⟩) (show w.heap.size ≤ w.heap.size + 1 by omega) (.slice pa c.room.length pc)).setCell (p := ⟨w.heap.size + 1, 1, none⟩) (show w.heap.size ≤ w.heap.size + 1 by omega) (.slice (some ⟨bb, 0, none⟩) c.us.length sc),
        ⟨_, _, rfl, (((HR5.out.ext M6.out).kt KT9 (by decide)).kt P.1 (by decide)), (P7.out.1.kt P.1 (by decide) (by decide) (by decide)).base (by omega)⟩, DC.out.drop hlt _⟩)
      clear P D9 zz9 oo9 KT9 P7
      go_wp2_with fail
      refine bodyPost_ret (v := .tuple #[.agg #[.slice pa c.room.length pc, .slice (some ⟨bb, 0, none⟩) c.us.length sc], .int .i64 0]) ?_ rfl FF.out
      simp [results, Try.results33, go_sem, z0, z1]

end Go.Proofs.Ytfidamjepjgknaa
end

/- The reference's opening of a node of a cluster (printed by gen_cq.py). No condition. -/
section
namespace Go.Proofs.Ytfidamjepjgknaa
set_option maxRecDepth 100000
open Go.RowKit

set_option maxHeartbeats 8000000 in
theorem sClusterOpen_own (v : Value) (c : C) (n : Int) (q : Bool) (w : World) (h : Clu w v c) (dc : Dc c) :
    Calls Try.prog 34 #[v, .int .i64 n, .bool q] w (OpPost w) := by
  have h0 := h
  obtain ⟨ra, rc, ua, uc, rfl, hr, hu⟩ := h.open
  have DC := Lib.hid dc
  have E0 := Lib.hid (((Ext.refl w).alloc (Obj.cells #[.slice ra c.room.length rc, .slice ua c.us.length uc] 26)).alloc (Obj.cells #[.slice none 0 0, .slice none 0 0] 26))
  have A0 := Lib.hid (heap_skip (w.alloc (Obj.cells #[.slice ra c.room.length rc, .slice ua c.us.length uc] 26)) (Obj.cells #[.slice none 0 0, .slice none 0 0] 26) (heap_alloc_new w (Obj.cells #[.slice ra c.room.length rc, .slice ua c.us.length uc] 26)))
  have Z0 := Lib.hid (heap_push (n := w.heap.size + 1) (w.alloc (Obj.cells #[.slice ra c.room.length rc, .slice ua c.us.length uc] 26)) (Obj.cells #[.slice none 0 0, .slice none 0 0] 26) (by simp))
  have H0 := Lib.hid (h0.ext E0.out)
  have HR := Lib.hid (hr.ext E0.out)
  have HWZ := Lib.hid dc.weigh
  have hus : c.us.length ≤ 10 := dc.us
  clear h h0 hr hu dc
  go_enter Try.func34, Try.ntmps34
  go_wp2_with fail
  generalize hW : (w.alloc (Obj.cells #[.slice ra c.room.length rc, .slice ua c.us.length uc] 26)).alloc (Obj.cells #[.slice none 0 0, .slice none 0 0] 26) = W at *
  clear hW
  have cc := sClusterValid_any _ c W H0.out (by have := HWZ.out; omega)
  cases hv : clusterB c with
  | false =>
    rw [hv] at cc
    refine cc.mono ?_
    clear cc hv
    rintro e w1 ⟨rfl, hE1⟩
    have X1 := Lib.hid hE1
    clear hE1
    have z0 := cell_of_heap ((X1.out.block (lt_of_heap Z0.out)).trans Z0.out) 0
    have z1 := cell_of_heap ((X1.out.block (lt_of_heap Z0.out)).trans Z0.out) 1
    have g0 := frozen_of_heap ((X1.out.block (lt_of_heap Z0.out)).trans Z0.out) 0
    have g1 := frozen_of_heap ((X1.out.block (lt_of_heap Z0.out)).trans Z0.out) 1
    have P := cbox_put ((X1.out.block (lt_of_heap Z0.out)).trans Z0.out) (.slice none 0 0) (.slice none 0 0)
    have FF := Lib.hid (op_post (q := 1) (c := ⟨[], []⟩) ⟨((E0.out.trans X1.out).setCell (p := ⟨w.heap.size + 1, 0, none⟩) (show w.heap.size ≤ w.heap.size + 1 by omega) (.slice none 0 0)).setCell (p := ⟨w.heap.size + 1, 1, none⟩) (show w.heap.size ≤ w.heap.size + 1 by omega) (.slice none 0 0), (OwnCl.zero _ w.heap.size).kt P.1 (by decide) (by decide) (by decide), Dc.zero⟩)
    clear P
    go_wp2_with fail
    refine bodyPost_ret (v := .tuple #[.agg #[(.slice none 0 0), (.slice none 0 0)], .int .i64 (1)]) ?_ rfl FF.out
    simp [results, Try.results34, go_sem, z0, z1]
  | true =>
    have VB := Lib.hid (clu_ok hv)
    rw [hv] at cc
    refine cc.mono ?_
    clear cc hv
    rintro e w1 ⟨rfl, hE1⟩
    have X1 := Lib.hid hE1
    have a0 := cell_of_heap ((X1.out.block (lt_of_heap A0.out)).trans A0.out) 0
    have a1 := cell_of_heap ((X1.out.block (lt_of_heap A0.out)).trans A0.out) 1
    clear hE1
    go_wp2_with fail
    refine (l21Copy_own _ c w1 (H0.out.ext X1.out) (by have := DC.out.us; omega) (by have := DC.out.room3; omega) (fun u hu t ht => by have := DC.out.need u hu t ht; omega)).mono ?_
    rintro e w2 ⟨v2, rfl, hE2, hc2⟩
    obtain ⟨pa, pc, sa, sc, hv2, hp2, hs2⟩ := hc2.open
    subst hv2
    have E3 := hE2.alloc (Obj.cells #[.slice pa c.room.length pc, .slice sa c.us.length sc] 26)
    have X3 := Lib.hid (X1.out.trans E3)
    have C3 := Lib.hid (hc2.ext ((Ext.refl w2).alloc (Obj.cells #[.slice pa c.room.length pc, .slice sa c.us.length sc] 26)))
    have O3 := Lib.hid (heap_alloc_new w2 (Obj.cells #[.slice pa c.room.length pc, .slice sa c.us.length sc] 26))
    have A3 := Lib.hid ((X3.out.block (lt_of_heap A0.out)).trans A0.out)
    have Z3 := Lib.hid ((X3.out.block (lt_of_heap Z0.out)).trans Z0.out)
    have WZ : w.heap.size + 1 < w1.heap.size := Nat.lt_of_lt_of_le (lt_of_heap Z0.out) X1.out.le
    have WO : w1.heap.size ≤ w2.heap.size := hE2.le
    have a0 := cell_of_heap A3.out 0
    have a1 := cell_of_heap A3.out 1
    clear hE2 hc2 hp2 hs2 E3
    go_wp2_with fail
    generalize hW3 : w2.alloc (Obj.cells #[.slice pa c.room.length pc, .slice sa c.us.length sc] 26) = W3 at *
    have HSZ := Lib.hid (show W3.heap.size = w2.heap.size + 1 by rw [← hW3]; simp)
    clear hW3
    clear a0 a1
    have cc := l6In_any n 0 ((c.us.length : Int) - 1) W3
    cases hin : inB n 0 ((c.us.length : Int) - 1) with
    | false =>
      rw [hin] at cc
      refine cc.mono ?_
      clear cc hin
      rintro e w4 ⟨rfl, hw⟩
      subst hw
      have z0 := cell_of_heap (Z3.out) 0
      have z1 := cell_of_heap (Z3.out) 1
      have g0 := frozen_of_heap (Z3.out) 0
      have g1 := frozen_of_heap (Z3.out) 1
      have y0 := cell_of_heap (O3.out) 0
      have y1 := cell_of_heap (O3.out) 1
      have P := cbox_put (Z3.out) (.slice pa c.room.length pc) (.slice sa c.us.length sc)
      have FF := Lib.hid (op_post (q := 4) (c := c) ⟨((E0.out.trans X3.out).setCell (p := ⟨w.heap.size + 1, 0, none⟩) (show w.heap.size ≤ w.heap.size + 1 by omega) (.slice pa c.room.length pc)).setCell (p := ⟨w.heap.size + 1, 1, none⟩) (show w.heap.size ≤ w.heap.size + 1 by omega) (.slice sa c.us.length sc), (C3.out.base (by omega)).kt P.1 (by decide) (by decide) (by decide), DC.out⟩)
      clear P
      go_wp2_with fail
      refine bodyPost_ret (v := .tuple #[.agg #[(.slice pa c.room.length pc), (.slice sa c.us.length sc)], .int .i64 (4)]) ?_ rfl FF.out
      simp [results, Try.results34, go_sem, z0, z1]
    | true =>
      have hin' := inB_iff.1 hin
      rw [hin] at cc
      refine cc.mono ?_
      clear cc hin
      rintro e w4 ⟨rfl, hw⟩
      subst hw
      obtain ⟨j, hj⟩ : ∃ j : Nat, n = (j : Int) := ⟨n.toNat, by omega⟩
      subst hj
      have hlt : j < c.us.length := by omega
      have i0 : (0 : Int) ≤ (j : Int) := by omega
      have i1 : (j : Int) < (c.us.length : Int) := by omega
      clear hin'
      obtain ⟨_, _, _, _, hav, -, hau⟩ := H0.out.open
      cases hav
      obtain ⟨b, off, nd, rfl, c0, c1, ht⟩ := hau.at hlt
      obtain ⟨ta, tc, rfl, -⟩ := ht.open
      have c0' := X3.out.cell c0
      have c1' := X3.out.cell c1
      have a0 := cell_of_heap A3.out 0
      have a1 := cell_of_heap A3.out 1
      have HTL := Lib.hid (show c.us[j].ts.length ≤ 20 from by have := ts_le (List.getElem_mem hlt); have := DC.out.fl; omega)
      clear c0 c1 ht hau
      cases hq : (c.us[j].op == q) with
      | true =>
        have z0 := cell_of_heap (Z3.out) 0
        have z1 := cell_of_heap (Z3.out) 1
        have g0 := frozen_of_heap (Z3.out) 0
        have g1 := frozen_of_heap (Z3.out) 1
        have y0 := cell_of_heap (O3.out) 0
        have y1 := cell_of_heap (O3.out) 1
        have P := cbox_put (Z3.out) (.slice pa c.room.length pc) (.slice sa c.us.length sc)
        have FF := Lib.hid (op_post (q := 2) (c := c) ⟨((E0.out.trans X3.out).setCell (p := ⟨w.heap.size + 1, 0, none⟩) (show w.heap.size ≤ w.heap.size + 1 by omega) (.slice pa c.room.length pc)).setCell (p := ⟨w.heap.size + 1, 1, none⟩) (show w.heap.size ≤ w.heap.size + 1 by omega) (.slice sa c.us.length sc), (C3.out.base (by omega)).kt P.1 (by decide) (by decide) (by decide), DC.out⟩)
        clear P
        go_wp2_with fail
        refine bodyPost_ret (v := .tuple #[.agg #[(.slice pa c.room.length pc), (.slice sa c.us.length sc)], .int .i64 (2)]) ?_ rfl FF.out
        simp [results, Try.results34, go_sem, z0, z1]
      | false =>
        by_cases hz : 0 < c.us[j].ts.length
        · have hz' : (0 : Int) < (c.us[j].ts.length : Int) := by omega
          clear hz
          have z0 := cell_of_heap (Z3.out) 0
          have z1 := cell_of_heap (Z3.out) 1
          have g0 := frozen_of_heap (Z3.out) 0
          have g1 := frozen_of_heap (Z3.out) 1
          have y0 := cell_of_heap (O3.out) 0
          have y1 := cell_of_heap (O3.out) 1
          have P := cbox_put (Z3.out) (.slice pa c.room.length pc) (.slice sa c.us.length sc)
          have FF := Lib.hid (op_post (q := 5) (c := c) ⟨((E0.out.trans X3.out).setCell (p := ⟨w.heap.size + 1, 0, none⟩) (show w.heap.size ≤ w.heap.size + 1 by omega) (.slice pa c.room.length pc)).setCell (p := ⟨w.heap.size + 1, 1, none⟩) (show w.heap.size ≤ w.heap.size + 1 by omega) (.slice sa c.us.length sc), (C3.out.base (by omega)).kt P.1 (by decide) (by decide) (by decide), DC.out⟩)
          clear P
          go_wp2_with fail
          refine bodyPost_ret (v := .tuple #[.agg #[(.slice pa c.room.length pc), (.slice sa c.us.length sc)], .int .i64 (5)]) ?_ rfl FF.out
          simp [results, Try.results34, go_sem, z0, z1]
        · have hz' : ¬ ((0 : Int) < (c.us[j].ts.length : Int)) := by omega
          have hz2 : c.us[j].ts.length = 0 := by omega
          clear hz
          obtain ⟨_, _, _, _, hav3, hr3, hu3⟩ := C3.out.open
          cases hav3
          obtain ⟨bb, nn, hsa, -, hBb, hbw, co, cn, -, fo, fn⟩ := hu3.at hlt
          subst hsa
          have y0 := cell_of_heap O3.out 0
          have y1 := cell_of_heap O3.out 1
          have P5 := Lib.hid (hu3.putOp hlt q)
          have KT5 := P5.out.2.1
          have O5 := (KT5.2 _ _ _ _ O3.out (by decide)).trans O3.out
          have Z5 := (KT5.2 _ _ _ _ Z3.out (by decide)).trans Z3.out
          have o0 := cell_of_heap O5 0
          have o1 := cell_of_heap O5 1
          have z0 := cell_of_heap Z5 0
          have z1 := cell_of_heap Z5 1
          have g0 := frozen_of_heap Z5 0
          have g1 := frozen_of_heap Z5 1
          have P := cbox_put Z5 (.slice pa c.room.length pc) (.slice (some ⟨bb, 0, none⟩) c.us.length sc)
          have E5 : Ext w (W3.setCell ⟨bb, j * 2, none⟩ (.bool q)) := (E0.out.trans X3.out).setCell (p := ⟨bb, j * 2, none⟩) (show w.heap.size ≤ bb by omega) _
          have FF := Lib.hid (op_post (q := 0) (c := ⟨c.room, c.us.set j ⟨q, c.us[j].ts⟩⟩) ⟨(E5.setCell (p := ⟨w.heap.size + 1, 0, none⟩) (show w.heap.size ≤ w.heap.size + 1 by omega) (.slice pa c.room.length pc)).setCell (p := ⟨w.heap.size + 1, 1, none⟩) (show w.heap.size ≤ w.heap.size + 1 by omega) (.slice (some ⟨bb, 0, none⟩) c.us.length sc),
            ⟨_, _, rfl, ((hr3.kt KT5 (by decide)).kt P.1 (by decide)), (P5.out.1.kt P.1 (by decide) (by decide) (by decide)).base (by omega)⟩, DC.out.openAt hlt q⟩)
          clear P E5 P5 KT5 O5 Z5
          go_wp2_with fail
          refine bodyPost_ret (v := .tuple #[.agg #[.slice pa c.room.length pc, .slice (some ⟨bb, 0, none⟩) c.us.length sc], .int .i64 0]) ?_ rfl FF.out
          simp [results, Try.results34, go_sem, z0, z1]

end Go.Proofs.Ytfidamjepjgknaa
end

/- The reference's arrival of a task in a cluster (printed by gen_cq.py). No condition. -/
section
namespace Go.Proofs.Ytfidamjepjgknaa
set_option maxRecDepth 100000
open Go.RowKit

set_option maxHeartbeats 8000000 in
theorem sClusterArrive_own (v nx : Value) (c : C) (x : T) (q : Bool) (w : World) (h : Clu w v c) (hn : Ints w nx x.need) (dc : Dc c) (n3 : x.need.length ≤ 3) :
    Calls Try.prog 35 #[v, .agg #[.int .i64 x.id, nx], .bool q] w (OpPost w) := by
  have h0 := h
  obtain ⟨ra, rc, ua, uc, rfl, hr, hu⟩ := h.open
  obtain ⟨na, nc, rfl, hn⟩ := hn.open
  have DC := Lib.hid dc
  have E0 := Lib.hid ((((Ext.refl w).alloc (Obj.cells #[.slice ra c.room.length rc, .slice ua c.us.length uc] 26)).alloc (Obj.cells #[.int .i64 x.id, .slice na x.need.length nc] 37)).alloc (Obj.cells #[.slice none 0 0, .slice none 0 0] 26))
  have A0 := Lib.hid (heap_skip ((w.alloc (Obj.cells #[.slice ra c.room.length rc, .slice ua c.us.length uc] 26)).alloc (Obj.cells #[.int .i64 x.id, .slice na x.need.length nc] 37)) (Obj.cells #[.slice none 0 0, .slice none 0 0] 26) (heap_skip (w.alloc (Obj.cells #[.slice ra c.room.length rc, .slice ua c.us.length uc] 26)) (Obj.cells #[.int .i64 x.id, .slice na x.need.length nc] 37) (heap_alloc_new w (Obj.cells #[.slice ra c.room.length rc, .slice ua c.us.length uc] 26))))
  have T0 := Lib.hid (heap_skip ((w.alloc (Obj.cells #[.slice ra c.room.length rc, .slice ua c.us.length uc] 26)).alloc (Obj.cells #[.int .i64 x.id, .slice na x.need.length nc] 37)) (Obj.cells #[.slice none 0 0, .slice none 0 0] 26) (heap_push (n := w.heap.size + 1) (w.alloc (Obj.cells #[.slice ra c.room.length rc, .slice ua c.us.length uc] 26)) (Obj.cells #[.int .i64 x.id, .slice na x.need.length nc] 37) (by simp)))
  have Z0 := Lib.hid (heap_push (n := w.heap.size + 1 + 1) ((w.alloc (Obj.cells #[.slice ra c.room.length rc, .slice ua c.us.length uc] 26)).alloc (Obj.cells #[.int .i64 x.id, .slice na x.need.length nc] 37)) (Obj.cells #[.slice none 0 0, .slice none 0 0] 26) (by simp))
  have H0 := Lib.hid (h0.ext E0.out)
  have HR := Lib.hid (hr.ext E0.out)
  have HWZ := Lib.hid dc.weigh
  have HX := Lib.hid (hn.ext E0.out)
  have N3 := Lib.hid n3
  clear n3 hn
  clear h h0 hr hu dc
  go_enter Try.func35, Try.ntmps35
  go_wp2_with fail
  generalize hW : ((w.alloc (Obj.cells #[.slice ra c.room.length rc, .slice ua c.us.length uc] 26)).alloc (Obj.cells #[.int .i64 x.id, .slice na x.need.length nc] 37)).alloc (Obj.cells #[.slice none 0 0, .slice none 0 0] 26) = W at *
  clear hW
  have cc := sClusterValid_any _ c W H0.out (by have := HWZ.out; omega)
  cases hv : clusterB c with
  | false =>
    rw [hv] at cc
    refine cc.mono ?_
    clear cc hv
    rintro e w1 ⟨rfl, hE1⟩
    have X1 := Lib.hid hE1
    clear hE1
    have z0 := cell_of_heap ((X1.out.block (lt_of_heap Z0.out)).trans Z0.out) 0
    have z1 := cell_of_heap ((X1.out.block (lt_of_heap Z0.out)).trans Z0.out) 1
    have g0 := frozen_of_heap ((X1.out.block (lt_of_heap Z0.out)).trans Z0.out) 0
    have g1 := frozen_of_heap ((X1.out.block (lt_of_heap Z0.out)).trans Z0.out) 1
    have P := cbox_put ((X1.out.block (lt_of_heap Z0.out)).trans Z0.out) (.slice none 0 0) (.slice none 0 0)
    have FF := Lib.hid (op_post (q := 1) (c := ⟨[], []⟩) ⟨((E0.out.trans X1.out).setCell (p := ⟨w.heap.size + 1 + 1, 0, none⟩) (show w.heap.size ≤ w.heap.size + 1 + 1 by omega) (.slice none 0 0)).setCell (p := ⟨w.heap.size + 1 + 1, 1, none⟩) (show w.heap.size ≤ w.heap.size + 1 + 1 by omega) (.slice none 0 0), (OwnCl.zero _ w.heap.size).kt P.1 (by decide) (by decide) (by decide), Dc.zero⟩)
    clear P
    go_wp2_with fail
    refine bodyPost_ret (v := .tuple #[.agg #[(.slice none 0 0), (.slice none 0 0)], .int .i64 (1)]) ?_ rfl FF.out
    simp [results, Try.results35, go_sem, z0, z1]
  | true =>
    have VB := Lib.hid (clu_ok hv)
    rw [hv] at cc
    refine cc.mono ?_
    clear cc hv
    rintro e w1 ⟨rfl, hE1⟩
    have X1 := Lib.hid hE1
    have a0 := cell_of_heap ((X1.out.block (lt_of_heap A0.out)).trans A0.out) 0
    have a1 := cell_of_heap ((X1.out.block (lt_of_heap A0.out)).trans A0.out) 1
    clear hE1
    go_wp2_with fail
    refine (l21Copy_own _ c w1 (H0.out.ext X1.out) (by have := DC.out.us; omega) (by have := DC.out.room3; omega) (fun u hu t ht => by have := DC.out.need u hu t ht; omega)).mono ?_
    rintro e w2 ⟨v2, rfl, hE2, hc2⟩
    obtain ⟨pa, pc, sa, sc, hv2, hp2, hs2⟩ := hc2.open
    subst hv2
    have E3 := hE2.alloc (Obj.cells #[.slice pa c.room.length pc, .slice sa c.us.length sc] 26)
    have X3 := Lib.hid (X1.out.trans E3)
    have C3 := Lib.hid (hc2.ext ((Ext.refl w2).alloc (Obj.cells #[.slice pa c.room.length pc, .slice sa c.us.length sc] 26)))
    have O3 := Lib.hid (heap_alloc_new w2 (Obj.cells #[.slice pa c.room.length pc, .slice sa c.us.length sc] 26))
    have A3 := Lib.hid ((X3.out.block (lt_of_heap A0.out)).trans A0.out)
    have Z3 := Lib.hid ((X3.out.block (lt_of_heap Z0.out)).trans Z0.out)
    have WZ : w.heap.size + 1 + 1 < w1.heap.size := Nat.lt_of_lt_of_le (lt_of_heap Z0.out) X1.out.le
    have WO : w1.heap.size ≤ w2.heap.size := hE2.le
    have T3 := Lib.hid ((X3.out.block (lt_of_heap T0.out)).trans T0.out)
    have t0 := cell_of_heap T3.out 0
    have t1 := cell_of_heap T3.out 1
    have a0 := cell_of_heap A3.out 0
    have a1 := cell_of_heap A3.out 1
    clear hE2 hc2 hp2 hs2 E3
    go_wp2_with fail
    generalize hW3 : w2.alloc (Obj.cells #[.slice pa c.room.length pc, .slice sa c.us.length sc] 26) = W3 at *
    have HSZ := Lib.hid (show W3.heap.size = w2.heap.size + 1 by rw [← hW3]; simp)
    clear hW3
    clear a0 a1
    have cc := sTasksValid_x _ _ c.room [x] (W3.alloc (Obj.cells #[.int .i64 x.id, .slice na x.need.length nc] 37)) (HR.out.ext (X3.out.alloc _)) (Tasks.lit1' (HX.out.ext X3.out) 1 (w2.heap.size + 1) HSZ.out.symm)
    have X4 := Lib.hid (X3.out.alloc (Obj.cells #[.int .i64 x.id, .slice na x.need.length nc] 37))
    cases ht : tasksB c.room [x] with
    | false =>
      rw [ht] at cc
      refine cc.mono ?_
      clear cc ht
      rintro e w4 ⟨rfl, hE4⟩
      have X5 := Lib.hid (X4.out.trans hE4)
      have Y5 := Lib.hid (((Ext.refl W3).alloc (Obj.cells #[.int .i64 x.id, .slice na x.need.length nc] 37)).trans hE4)
      clear hE4 t0 t1
      have z0 := cell_of_heap ((X5.out.block (lt_of_heap Z0.out)).trans Z0.out) 0
      have z1 := cell_of_heap ((X5.out.block (lt_of_heap Z0.out)).trans Z0.out) 1
      have g0 := frozen_of_heap ((X5.out.block (lt_of_heap Z0.out)).trans Z0.out) 0
      have g1 := frozen_of_heap ((X5.out.block (lt_of_heap Z0.out)).trans Z0.out) 1
      have y0 := cell_of_heap ((Y5.out.block (lt_of_heap O3.out)).trans O3.out) 0
      have y1 := cell_of_heap ((Y5.out.block (lt_of_heap O3.out)).trans O3.out) 1
      have P := cbox_put ((X5.out.block (lt_of_heap Z0.out)).trans Z0.out) (.slice pa c.room.length pc) (.slice sa c.us.length sc)
      have FF := Lib.hid (op_post (q := 1) (c := c) ⟨((E0.out.trans X5.out).setCell (p := ⟨w.heap.size + 1 + 1, 0, none⟩) (show w.heap.size ≤ w.heap.size + 1 + 1 by omega) (.slice pa c.room.length pc)).setCell (p := ⟨w.heap.size + 1 + 1, 1, none⟩) (show w.heap.size ≤ w.heap.size + 1 + 1 by omega) (.slice sa c.us.length sc), ((C3.out.ext Y5.out).base (by omega)).kt P.1 (by decide) (by decide) (by decide), DC.out⟩)
      clear P
      go_wp2_with fail
      refine bodyPost_ret (v := .tuple #[.agg #[(.slice pa c.room.length pc), (.slice sa c.us.length sc)], .int .i64 (1)]) ?_ rfl FF.out
      simp [results, Try.results35, go_sem, z0, z1]
    | true =>
      have TX := Lib.hid (tasksB_iff.1 ht)
      rw [ht] at cc
      refine cc.mono ?_
      clear cc ht X4 t0 t1
      rintro e w4 ⟨rfl, hE4⟩
      have X4 := Lib.hid ((X3.out.alloc (Obj.cells #[.int .i64 x.id, .slice na x.need.length nc] 37)).trans hE4)
      have Y4 := Lib.hid (((Ext.refl W3).alloc (Obj.cells #[.int .i64 x.id, .slice na x.need.length nc] 37)).trans hE4)
      have A4 := Lib.hid ((X4.out.block (lt_of_heap A0.out)).trans A0.out)
      have T4 := Lib.hid ((X4.out.block (lt_of_heap T0.out)).trans T0.out)
      clear hE4
      go_wp2_with fail
      cases hw0 : where0 (binsC c.us) x.id with
      | some j =>
        have hwh : nodeI (where0 (binsC c.us) x.id) = (j : Int) := by rw [hw0]; rfl
        have j0 : (0 : Int) ≤ (j : Int) := by omega
        clear hw0
        refine wp_region_held_drew (S := fun w' => w'.heap[w.heap.size]? = some (Obj.cells #[.slice ra c.room.length rc, .slice ua c.us.length uc] 26) ∧ w'.heap[w.heap.size + 1]? = some (Obj.cells #[.int .i64 x.id, .slice na x.need.length nc] 37)) (by kernel_rfl) (⟨A4.out, T4.out⟩) (fun hHeld => ?_)
        refine takeH (i := 0) (d := some 22) (v := ?_) rfl rfl (by kernel_rfl) (by kernel_rfl) (by kernel_rfl) (fun _ _ _ h => h) (by rfl) ?_ (by assumption) ?_
        rotate_left
        · intro w hSw; (try dsimp only at hSw); (try have l0 := cell_of_heap hSw.1 0; have l1 := cell_of_heap hSw.1 1; go_simp); (try with_reducible rfl)
        try simp only [Act.put, List.setIfInBounds_toArray, List.set_cons_zero, List.set_cons_succ]
        refine takeH (i := 2) (d := some 24) (v := ?_) rfl rfl (by kernel_rfl) (by kernel_rfl) (by kernel_rfl) (fun _ _ _ h => h) (by rfl) ?_ (by assumption) ?_
        rotate_left
        · intro w hSw; (try dsimp only at hSw); (try go_simp); (try with_reducible rfl)
        try simp only [Act.put, List.setIfInBounds_toArray, List.set_cons_zero, List.set_cons_succ]
        refine takeH (i := 3) (d := some 25) (v := ?_) rfl rfl (by kernel_rfl) (by kernel_rfl) (by kernel_rfl) (fun _ _ _ h => h) (by rfl) ?_ (by assumption) ?_
        rotate_left
        · intro w hSw; (try dsimp only at hSw); (try have l0 := cell_of_heap hSw.2 0; have l1 := cell_of_heap hSw.2 1; go_simp); (try with_reducible rfl)
        try simp only [Act.put, List.setIfInBounds_toArray, List.set_cons_zero, List.set_cons_succ]
        refine oneH (i := 1) (by kernel_rfl) rfl (by rfl) (fun K hK => ?_)
        go_simp
        refine (l21Bins_any _ c w4.drew (H0.out.ext (X4.out.trans (Ext.refl w4).drew))).mono ?_; rintro e w5 ⟨r5, rfl, hE5, ho5⟩; have X5 := Lib.hid ((X4.out.trans (Ext.refl w4).drew).trans hE5); have Y5 := Lib.hid ((Ext.refl w4).drew.trans hE5); have B5 := Lib.hid (ho5.done (by have := DC.out.us; rw [binsC_len]; unfold lim; omega)); clear hE5 ho5
        try dsimp only
        refine hK.out _ _ (⟨(Y5.out.block (lt_of_heap A4.out)).trans A4.out, (Y5.out.block (lt_of_heap T4.out)).trans T4.out⟩) (fun hHeld => ?_)
        clear hK K
        try simp only [Act.put, List.setIfInBounds_toArray, List.set_cons_zero, List.set_cons_succ]
        refine oneH (i := 4) (by kernel_rfl) rfl (by rfl) (fun K hK => ?_)
        go_simp
        have cc := l2Where_any _ _ x.id _ B5.out; rw [hwh] at cc; refine cc.mono ?_; clear cc; rintro e w6 ⟨rfl, hE6⟩; have X6 := Lib.hid (X5.out.trans hE6); have Y6 := Lib.hid (Y5.out.trans hE6); clear hE6
        try dsimp only
        refine hK.out _ _ (⟨(Y6.out.block (lt_of_heap A4.out)).trans A4.out, (Y6.out.block (lt_of_heap T4.out)).trans T4.out⟩) (fun hHeld => ?_)
        clear hK K
        try simp only [Act.put, List.setIfInBounds_toArray, List.set_cons_zero, List.set_cons_succ]
        refine takeH (i := 5) (d := some 27) (v := ?_) rfl rfl (by kernel_rfl) (by kernel_rfl) (by kernel_rfl) (fun _ _ _ h => h) (by rfl) ?_ (by assumption) ?_
        rotate_left
        · intro w hSw; (try dsimp only at hSw); (try go_simp); (try with_reducible rfl)
        try simp only [Act.put, List.setIfInBounds_toArray, List.set_cons_zero, List.set_cons_succ]
        refine wpAnyH_done (by kernel_rfl) ?_ _
        have z0 := cell_of_heap ((X6.out.block (lt_of_heap Z0.out)).trans Z0.out) 0
        have z1 := cell_of_heap ((X6.out.block (lt_of_heap Z0.out)).trans Z0.out) 1
        have g0 := frozen_of_heap ((X6.out.block (lt_of_heap Z0.out)).trans Z0.out) 0
        have g1 := frozen_of_heap ((X6.out.block (lt_of_heap Z0.out)).trans Z0.out) 1
        have y0 := cell_of_heap (((Y4.out.trans Y6.out).block (lt_of_heap O3.out)).trans O3.out) 0
        have y1 := cell_of_heap (((Y4.out.trans Y6.out).block (lt_of_heap O3.out)).trans O3.out) 1
        have P := cbox_put ((X6.out.block (lt_of_heap Z0.out)).trans Z0.out) (.slice pa c.room.length pc) (.slice sa c.us.length sc)
        have FF := Lib.hid (op_post (q := 2) (c := c) ⟨((E0.out.trans X6.out).setCell (p := ⟨w.heap.size + 1 + 1, 0, none⟩) (show w.heap.size ≤ w.heap.size + 1 + 1 by omega) (.slice pa c.room.length pc)).setCell (p := ⟨w.heap.size + 1 + 1, 1, none⟩) (show w.heap.size ≤ w.heap.size + 1 + 1 by omega) (.slice sa c.us.length sc), ((C3.out.ext (Y4.out.trans Y6.out)).base (by omega)).kt P.1 (by decide) (by decide) (by decide), DC.out⟩)
        clear P
        go_wp2_with fail
        refine bodyPost_ret (v := .tuple #[.agg #[(.slice pa c.room.length pc), (.slice sa c.us.length sc)], .int .i64 (2)]) ?_ rfl FF.out
        simp [results, Try.results35, go_sem, z0, z1]
      | none =>
        have hwh : nodeI (where0 (binsC c.us) x.id) = -1 := by rw [hw0]; rfl
        clear hw0
        refine wp_region_held_drew (S := fun w' => w'.heap[w.heap.size]? = some (Obj.cells #[.slice ra c.room.length rc, .slice ua c.us.length uc] 26) ∧ w'.heap[w.heap.size + 1]? = some (Obj.cells #[.int .i64 x.id, .slice na x.need.length nc] 37)) (by kernel_rfl) (⟨A4.out, T4.out⟩) (fun hHeld => ?_)
        refine takeH (i := 0) (d := some 22) (v := ?_) rfl rfl (by kernel_rfl) (by kernel_rfl) (by kernel_rfl) (fun _ _ _ h => h) (by rfl) ?_ (by assumption) ?_
        rotate_left
        · intro w hSw; (try dsimp only at hSw); (try have l0 := cell_of_heap hSw.1 0; have l1 := cell_of_heap hSw.1 1; go_simp); (try with_reducible rfl)
        try simp only [Act.put, List.setIfInBounds_toArray, List.set_cons_zero, List.set_cons_succ]
        refine takeH (i := 2) (d := some 24) (v := ?_) rfl rfl (by kernel_rfl) (by kernel_rfl) (by kernel_rfl) (fun _ _ _ h => h) (by rfl) ?_ (by assumption) ?_
        rotate_left
        · intro w hSw; (try dsimp only at hSw); (try go_simp); (try with_reducible rfl)
        try simp only [Act.put, List.setIfInBounds_toArray, List.set_cons_zero, List.set_cons_succ]
        refine takeH (i := 3) (d := some 25) (v := ?_) rfl rfl (by kernel_rfl) (by kernel_rfl) (by kernel_rfl) (fun _ _ _ h => h) (by rfl) ?_ (by assumption) ?_
        rotate_left
        · intro w hSw; (try dsimp only at hSw); (try have l0 := cell_of_heap hSw.2 0; have l1 := cell_of_heap hSw.2 1; go_simp); (try with_reducible rfl)
        try simp only [Act.put, List.setIfInBounds_toArray, List.set_cons_zero, List.set_cons_succ]
        refine oneH (i := 1) (by kernel_rfl) rfl (by rfl) (fun K hK => ?_)
        go_simp
        refine (l21Bins_any _ c w4.drew (H0.out.ext (X4.out.trans (Ext.refl w4).drew))).mono ?_; rintro e w5 ⟨r5, rfl, hE5, ho5⟩; have X5 := Lib.hid ((X4.out.trans (Ext.refl w4).drew).trans hE5); have Y5 := Lib.hid ((Ext.refl w4).drew.trans hE5); have B5 := Lib.hid (ho5.done (by have := DC.out.us; rw [binsC_len]; unfold lim; omega)); clear hE5 ho5
        try dsimp only
        refine hK.out _ _ (⟨(Y5.out.block (lt_of_heap A4.out)).trans A4.out, (Y5.out.block (lt_of_heap T4.out)).trans T4.out⟩) (fun hHeld => ?_)
        clear hK K
        try simp only [Act.put, List.setIfInBounds_toArray, List.set_cons_zero, List.set_cons_succ]
        refine oneH (i := 4) (by kernel_rfl) rfl (by rfl) (fun K hK => ?_)
        go_simp
        have cc := l2Where_any _ _ x.id _ B5.out; rw [hwh] at cc; refine cc.mono ?_; clear cc; rintro e w6 ⟨rfl, hE6⟩; have X6 := Lib.hid (X5.out.trans hE6); have Y6 := Lib.hid (Y5.out.trans hE6); clear hE6
        try dsimp only
        refine hK.out _ _ (⟨(Y6.out.block (lt_of_heap A4.out)).trans A4.out, (Y6.out.block (lt_of_heap T4.out)).trans T4.out⟩) (fun hHeld => ?_)
        clear hK K
        try simp only [Act.put, List.setIfInBounds_toArray, List.set_cons_zero, List.set_cons_succ]
        refine takeH (i := 5) (d := some 27) (v := ?_) rfl rfl (by kernel_rfl) (by kernel_rfl) (by kernel_rfl) (fun _ _ _ h => h) (by rfl) ?_ (by assumption) ?_
        rotate_left
        · intro w hSw; (try dsimp only at hSw); (try go_simp); (try with_reducible rfl)
        try simp only [Act.put, List.setIfInBounds_toArray, List.set_cons_zero, List.set_cons_succ]
        refine wpAnyH_done (by kernel_rfl) ?_ _
        have O6 := Lib.hid (((Y4.out.trans Y6.out).block (lt_of_heap O3.out)).trans O3.out)
        have T6 := Lib.hid ((X6.out.block (lt_of_heap T0.out)).trans T0.out)
        have C6 := Lib.hid (C3.out.ext (Y4.out.trans Y6.out))
        have W6 := Lib.hid (show w1.heap.size ≤ w6.heap.size by have := (Y4.out.trans Y6.out).le; have := lt_of_heap O3.out; omega)
        have y0 := cell_of_heap O6.out 0
        have y1 := cell_of_heap O6.out 1
        have t0 := cell_of_heap T6.out 0
        have t1 := cell_of_heap T6.out 1
        go_wp2_with fail
        refine (l21Arrive_own _ _ c x q w1.heap.size w6 C6.out W6.out (HX.out.ext X6.out) DC.out VB.out.1.1.1.1.1 (good_us VB.out.1) (TX.out.good x (by simp)) N3.out (by have := VB.out.1.1.2.1; omega)).mono ?_
        rintro e w7 ⟨v7, c7, q7, rfl, hb7, hc7, d7⟩
        obtain ⟨fa, fc, ga, gc, hv7, -, -⟩ := hc7.open
        subst hv7
        have B7 := Lib.hid hb7
        have C7 := Lib.hid hc7
        have D7 := Lib.hid d7
        have Z7 := Lib.hid ((hb7.block _ WZ).trans ((X6.out.block (lt_of_heap Z0.out)).trans Z0.out))
        have E7 := Lib.hid (show Ext w w7 from Below.trans (E0.out.trans X6.out) (Below.mono hb7 (by omega)))
        clear hb7 hc7 d7 y0 y1 t0 t1
        have z0 := cell_of_heap (Z7.out) 0
        have z1 := cell_of_heap (Z7.out) 1
        have g0 := frozen_of_heap (Z7.out) 0
        have g1 := frozen_of_heap (Z7.out) 1
        have P := cbox_put (Z7.out) (.slice fa c7.room.length fc) (.slice ga c7.us.length gc)
        have FF := Lib.hid (op_post (q := q7) (c := c7) ⟨((E7.out).setCell (p := ⟨w.heap.size + 1 + 1, 0, none⟩) (show w.heap.size ≤ w.heap.size + 1 + 1 by omega) (.slice fa c7.room.length fc)).setCell (p := ⟨w.heap.size + 1 + 1, 1, none⟩) (show w.heap.size ≤ w.heap.size + 1 + 1 by omega) (.slice ga c7.us.length gc), (C7.out.base (by omega)).kt P.1 (by decide) (by decide) (by decide), D7.out⟩)
        clear P
        go_wp2_with fail
        refine bodyPost_ret (v := .tuple #[.agg #[(.slice fa c7.room.length fc), (.slice ga c7.us.length gc)], .int .i64 (q7)]) ?_ rfl FF.out
        simp [results, Try.results35, go_sem, z0, z1]

end Go.Proofs.Ytfidamjepjgknaa
end

/- The reference's drawn cluster (printed by gen_cz.py). No condition. -/
section
namespace Go.Proofs.Ytfidamjepjgknaa
set_option maxRecDepth 100000
open Go.RowKit

/-- What a drawn cluster is like at the end. -/
structure Dl (c : C) : Prop where
  room3 : c.room.length ≤ 3
  us : c.us.length ≤ 10
  need : ∀ u ∈ c.us, ∀ t ∈ u.ts, t.need.length ≤ 3
  fl : (binsC c.us).flatten.length ≤ 21
theorem Dc.dl {c : C} (d : Dc c) : Dl c := ⟨d.room3, d.us, d.need, by have := d.fl; omega⟩
theorem Dl.weigh {c : C} (h : Dl c) : weighC c ≤ 1000 := by
  have h1 := weigh_le4 (bs := binsC c.us) fun b hb t ht => by
    obtain ⟨u, hu, rfl⟩ := List.mem_map.1 hb
    exact h.need u hu t ht
  have h2 := h.room3
  have h3 := h.us
  have h4 := h.fl
  unfold weighC weighU
  omega
theorem OwnCl.clul {w : World} {B : Nat} {v : Value} {c : C} (h : OwnCl w B v c) (d : Dl c) : Clu w v c := by
  obtain ⟨r, u, hv, h1, h2⟩ := h
  refine ⟨r, u, hv, h1.1, h2.units (by have := d.us; unfold lim; omega) fun u hu => ?_⟩
  have := ts_le hu
  have := d.fl
  unfold lim; omega
theorem Dl.openAt {c : C} (d : Dl c) {j : Nat} (hj : j < c.us.length) (q : Bool) : Dl ⟨c.room, c.us.set j ⟨q, c.us[j].ts⟩⟩ := by
  refine ⟨d.room3, by simpa using d.us, fun y hy => ?_, ?_⟩
  · rcases List.mem_or_eq_of_mem_set hy with h | rfl
    · exact d.need y h
    · exact d.need c.us[j] (List.getElem_mem hj)
  · show (binsC (c.us.set j ⟨q, c.us[j].ts⟩)).flatten.length ≤ 21
    unfold binsC
    rw [List.map_set]
    exact Nat.le_trans (flat_set_le (binsC_at hj) (by rw [binsC_get hj]; exact Nat.le_refl _)) d.fl
theorem Dc.pushl {c : C} (d : Dc c) {j : Nat} (hj : j < c.us.length) {q : Bool} {x : T} (hx : x.need.length ≤ 3) : Dl ⟨c.room, c.us.set j ⟨q, c.us[j].ts ++ [x]⟩⟩ := by
  refine ⟨d.room3, by simpa using d.us, fun y hy t ht => ?_, ?_⟩
  · rcases List.mem_or_eq_of_mem_set hy with h | rfl
    · exact d.need y h t ht
    · rcases List.mem_append.1 ht with h | h
      · exact d.need _ (List.getElem_mem hj) t h
      · simp at h; subst h; exact hx
  · show (binsC (c.us.set j ⟨q, c.us[j].ts ++ [x]⟩)).flatten.length ≤ 21
    have h1 := (set_flat (binsC_at hj) x).length_eq
    rw [binsC_get hj] at h1
    unfold binsC at h1 ⊢
    rw [List.map_set]
    have := d.fl
    unfold binsC at this
    rw [h1, List.length_append]
    simp only [List.length_singleton]
    omega
theorem Dc.cutl {c : C} (d : Dc c) : Dl ⟨c.room.drop 1, c.us⟩ := ⟨by have := d.room3; simp; omega, d.us, d.need, Nat.le_succ_of_le d.fl⟩
theorem IntsC.cut {w : World} {b off n m : Nat} {xs : List Int} (h : IntsC w (.slice (some ⟨b, off, none⟩) n m) xs) (h3 : xs.length = 3) : IntsC w (.slice (some ⟨b, off + 1, none⟩) 2 (m - 1)) (xs.drop 1) := by
  obtain ⟨⟨hl, a', c', hv, hr⟩, a2, c2, hv2, hc⟩ := h
  cases hv
  simp only [Value.slice.injEq] at hv2
  obtain ⟨_, _, rfl⟩ := hv2
  have hl2 : (xs.drop 1).length = 2 := by simp; omega
  refine ⟨⟨by rw [hl2]; unfold lim; omega, _, _, by rw [hl2], ?_⟩, _, _, by rw [hl2], by rw [hl2]; omega⟩
  have := hr.sub (l := 1) (n := 2) (by simp; omega) (by omega)
  rw [← List.map_drop, List.take_of_length_le (by simp; omega)] at this
  exact this
theorem NestU.rowOf {w : World} {B b n c : Nat} {us : List Un} (h : NestU w B (.slice (some ⟨b, 0, none⟩) n c) us) : ∃ cs fz, w.heap[b]? = some (Obj.cells cs 31 fz) := by
  obtain ⟨xs, ho1, -, -⟩ := h
  obtain ⟨_, h⟩ := ho1
  rcases h with ⟨h, _⟩ | ⟨g', cap, cur, hv, _, hg, _⟩
  · cases h
  · simp only [Value.slice.injEq, Option.some.injEq, Addr.mk.injEq, and_true] at hv
    obtain ⟨rfl, _⟩ := hv
    exact ⟨cur, _, hg⟩

/-- What the drawing keeps: the result's box, the cluster's box Z. -/
structure Cz (w wr : World) (B : Nat) (r : Value) (Q Z : Nat) (vr vu : Value) (c : C) : Prop where
  dr : Dr B r Q w wr
  res : wr.heap[w.heap.size]? = some (Obj.cells #[.slice none 0 0, .slice none 0 0] 26)
  out : wr.heap[Z]? = some (Obj.cells #[vr, vu] 26)
  own : OwnCl wr w.heap.size (.agg #[vr, vu]) c
  lo : w.heap.size < Z
theorem Cz.drd {w wr w' : World} {B Q Q' Z : Nat} {r vr vu : Value} {c : C} (h : Cz w wr B r Q Z vr vu c) (d : Dr B r Q' wr w') : Cz w w' B r Q' Z vr vu c :=
  ⟨h.dr.trans d, d.heap h.res (by decide), d.heap h.out (by decide), h.own.kt d.kt (by decide) (by decide) (by decide), h.lo⟩
theorem Cz.ext {w wr w' : World} {B Q Z : Nat} {r vr vu : Value} {c : C} (h : Cz w wr B r Q Z vr vu c) (k : Ext wr w') : Cz w w' B r Q Z vr vu c :=
  ⟨h.dr.ext k, (k.block (lt_of_heap h.res)).trans h.res, (k.block (lt_of_heap h.out)).trans h.out, h.own.ext k, h.lo⟩
theorem Cz.mono {w wr : World} {B Q Q' Z : Nat} {r vr vu : Value} {c : C} (h : Cz w wr B r Q Z vr vu c) (k : Q ≤ Q') : Cz w wr B r Q' Z vr vu c := ⟨h.dr.mono k, h.res, h.out, h.own, h.lo⟩
theorem Cz.put {w wb w' : World} {B Q Z : Nat} {r vr vu vr' vu' : Value} {c c' : C} (h : Cz w wb B r Q Z vr vu c) (k : Ext wb w') (o : OwnCl w' wb.heap.size (.agg #[vr', vu']) c') :
    Cz w ((w'.setCell ⟨Z, 0, none⟩ vr').setCell ⟨Z, 1, none⟩ vu') B r Q Z vr' vu' c' := by
  have h1 := h.ext k
  have q := cbox_put h1.out vr' vu'
  have hlo := h.lo
  have bl : Below w.heap.size w' ((w'.setCell ⟨Z, 0, none⟩ vr').setCell ⟨Z, 1, none⟩ vu') := (Below.setCell (p := ⟨Z, 0, none⟩) (Below.refl _ _) (Nat.le_of_lt hlo) _).setCell (p := ⟨Z, 1, none⟩) (Nat.le_of_lt hlo) _
  exact ⟨h1.dr.own bl q.1 (by decide), (q.2.2.1 _ (by omega)).trans h1.res, q.2.1, (o.base h.dr.size).kt q.1 (by decide) (by decide) (by decide), h.lo⟩
def CzPost (B : Nat) (r : Value) (P : Nat) (w : World) (e : Ending) (w' : World) : Prop := ∃ ra rc ua uc c, e = .returned (.agg #[.slice ra c.room.length rc, .slice ua c.us.length uc]) ∧ Clu w' (.agg #[.slice ra c.room.length rc, .slice ua c.us.length uc]) c ∧ c.us.length ≤ uc ∧ Dl c ∧ Dr B r (P + 400) w w'
theorem NestU.cap {w : World} {B n m : Nat} {a : Option Addr} {us : List Un} (h : NestU w B (.slice a n m) us) : us.length ≤ m := by
  obtain ⟨xs, ⟨_, h1⟩, -⟩ := h
  rcases h1 with ⟨h, hn⟩ | ⟨g', cap, cur, hv, _, _, hc, _⟩
  · omega
  · simp only [Value.slice.injEq] at hv
    obtain ⟨_, _, rfl⟩ := hv
    exact hc
theorem cz_end {w wr : World} {B P Q Z : Nat} {r vr vu : Value} {c : C} (h : Cz w wr B r Q Z vr vu c) (d : Dl c) (hQ : Q ≤ P + 400) :
    CzPost B r P w (.returned (.agg #[vr, vu])) ((wr.setCell ⟨w.heap.size, 0, none⟩ vr).setCell ⟨w.heap.size, 1, none⟩ vu) := by
  have q := cbox_put h.res vr vu
  have bl : Below w.heap.size wr ((wr.setCell ⟨w.heap.size, 0, none⟩ vr).setCell ⟨w.heap.size, 1, none⟩ vu) := (Below.setCell (p := ⟨w.heap.size, 0, none⟩) (Below.refl _ _) (Nat.le_refl _) _).setCell (p := ⟨w.heap.size, 1, none⟩) (Nat.le_refl _) _
  have h2 := (h.dr.own bl q.1 (by decide)).mono hQ
  have h3 := (h.own.kt q.1 (by decide) (by decide) (by decide))
  obtain ⟨ra, rc, ua, uc, hv, _, hu⟩ := h3.open
  have h4 := h3.clul d
  rw [hv] at h4 ⊢
  exact ⟨ra, rc, ua, uc, c, rfl, h4, hu.cap, d, h2⟩

set_option maxHeartbeats 16000000 in
theorem l92Cluster_any (r : Value) (B P : Nat) (w : World) (h : Rdr w B r P) (hP : P ≤ 50000) :
    Calls Try.prog 16 #[r] w (CzPost B r P w) := by
  have S0 := Lib.hid (Dr.start h)
  clear h
  go_enter Try.func16, Try.ntmps16
  go_wp2_with fail
  have D0 := Lib.hid (S0.out.ext ((Ext.refl w).alloc (Obj.cells #[.slice none 0 0, .slice none 0 0] 26)))
  have R0 := Lib.hid (heap_alloc_new w (Obj.cells #[.slice none 0 0, .slice none 0 0] 26))
  generalize w.alloc (Obj.cells #[.slice none 0 0, .slice none 0 0] 26) = W0 at *
  clear S0
  refine (l91Room_any _ B _ _ D0.out.rd (by omega)).mono ?_
  rintro e w1 ⟨vr, room, rfl, hr, hnr, d1⟩
  have R1 := Lib.hid (d1.heap R0.out (by decide))
  have D1 := Lib.hid (D0.out.trans d1)
  have I1 := Lib.hid hr
  have NR := Lib.hid hnr
  clear hr hnr d1 D0 R0
  go_wp2_with fail
  refine (pick_any _ B _ 7 _ D1.out.rd (by omega) (by omega) (by omega)).mono ?_
  rintro e w2 ⟨k2, rfl, b2, d2⟩
  have R2 := Lib.hid (d2.heap R1.out (by decide))
  have D2 := Lib.hid (D1.out.trans d2)
  have I2 := Lib.hid (I1.out.kt d2.kt (by decide))
  clear d2 D1 R1 I1
  go_wp2_with fail
  refine (ClusterNew_own _ room _ w2 I2.out (by have := NR.out.1; omega)).mono ?_
  rintro e w3 ⟨v3, c3, b3, rfl, hE3, hc3, dc3⟩
  obtain ⟨pa, pc, sa, sc, hv3, -, -⟩ := hc3.open
  subst hv3
  have C3 := Lib.hid hc3
  have X3 := Lib.hid (hE3.alloc (Obj.cells #[.slice pa c3.room.length pc, .slice sa c3.us.length sc] 26))
  have O3 := Lib.hid (heap_alloc_new w3 (Obj.cells #[.slice pa c3.room.length pc, .slice sa c3.us.length sc] 26))
  have DC3 := Lib.hid dc3
  have E3 := Lib.hid hE3
  clear hE3 hc3 dc3 I2 NR
  go_wp2_with fail
  have H4 := Lib.hid (show Cz w (w3.alloc (Obj.cells #[.slice pa c3.room.length pc, .slice sa c3.us.length sc] 26)) B r (P + 6 + 1) w3.heap.size (.slice pa c3.room.length pc) (.slice sa c3.us.length sc) c3 from
    ⟨D2.out.ext X3.out, (X3.out.block (lt_of_heap R2.out)).trans R2.out, O3.out, (C3.out.ext ((Ext.refl w3).alloc _)).base D2.out.size, Nat.lt_of_lt_of_le (lt_of_heap R2.out) E3.out.le⟩)
  clear X3 O3 C3 E3 D2 R2
  obtain ⟨Z, hZ⟩ : ∃ Z, Z = w3.heap.size := ⟨_, rfl⟩
  rw [← hZ] at H4
  rw [← hZ]
  clear hZ
  generalize w3.alloc (Obj.cells #[.slice pa c3.room.length pc, .slice sa c3.us.length sc] 26) = w4 at *
  refine (pick_any _ B _ 16 _ H4.out.dr.rd (by omega) (by omega) (by omega)).mono ?_
  rintro e w5 ⟨n, rfl, bn, d5⟩
  have H5 := Lib.hid ((H4.out.drd d5).mono (show P + 6 + 1 + 1 ≤ P + 8 by omega))
  clear d5 H4
  go_wp2_with fail
  go_loopw [6] (fun i wr => ∃ (k : Nat) (vr vu : Value) (c : C), k ≤ n ∧ i = .int .i64 k ∧ Cz w wr B r (P + 8 + 10 * k) Z vr vu c ∧ Dc c) (fun i _ => n - (intOf i).toNat)
  case atStart => exact ⟨0, _, _, c3, by omega, rfl, H5.out, DC3.out⟩
  case round =>
    clear H5 DC3
    obtain ⟨k, vr, vu, c, hk, rfl, hcz, hdc⟩ := hrel
    obtain ⟨ra, rc, ua, uc, hv, hr, hu⟩ := hcz.own.open
    simp only [Value.agg.injEq, Array.mk.injEq, List.cons.injEq, and_true] at hv
    obtain ⟨rfl, rfl⟩ := hv
    have HC := Lib.hid hcz
    have DC := Lib.hid hdc
    have HUC := Lib.hid hu
    have HRC := Lib.hid hr
    clear hcz hdc hr hu
    by_cases hlt : k < n
    · clear HUC HRC
      go_wp2_with fail
      refine (pick_any _ B _ 6 _ HC.out.dr.rd (by omega) (by omega) (by omega)).mono ?_; rintro e w1a ⟨k1, rfl, bk1, dk1⟩; have H1 := Lib.hid (HC.out.drd dk1); clear dk1
      clear HC
      have HD := Lib.hid (H1.out.ext (Ext.refl w1a).drew)
      by_cases h0 : k1 = 0
      · subst h0
        go_wp2_with fail
        refine regionZ (S := fun w' => w'.heap[Z]? = some (Obj.cells #[(.slice ra c.room.length rc), (.slice ua c.us.length uc)] 26)) 8 (by kernel_rfl) (HD.out.out) (fun hHeld => ?_)
        refine readZ [] (i := 0) (d := some 42) (v := ?_) rfl rfl (by decide) (by kernel_rfl) (by kernel_rfl) (by kernel_rfl) (by kernel_rfl) (fun _ _ _ h => h) (by rfl) ?_ (by assumption) ?_
        rotate_left
        · intro w hSw; (try dsimp only at hSw); (try have l0 := cell_of_heap hSw 0; have l1 := cell_of_heap hSw 1; go_simp); (try with_reducible rfl)
        try simp only [Act.put]
        try simp only [List.setIfInBounds_toArray]
        try simp only [List.set_cons_succ]
        try simp only [List.set_cons_zero]
        refine pureZ (i := 1) (d := some 43) (v := ?_) rfl rfl (by decide) (by kernel_rfl) (by kernel_rfl) (by kernel_rfl) (fun _ _ _ h => h) (by rfl) ?_ (by assumption) ?_
        rotate_left
        · intro w; (try go_simp); (try with_reducible rfl)
        try simp only [Act.put]
        try simp only [List.setIfInBounds_toArray]
        try simp only [List.set_cons_succ]
        try simp only [List.set_cons_zero]
        refine oneZ (i := 2) (by kernel_rfl) rfl (by rfl) (fun K hK => ?_)
        go_simp
        refine (pick_any _ B _ 12 _ HD.out.dr.rd (by omega) (by omega) (by omega)).mono ?_; rintro e w6 ⟨k6, rfl, bk6, dk6⟩; have H6 := Lib.hid (HD.out.drd dk6); clear dk6
        try dsimp only
        refine hK.out _ _ (H6.out.out) (fun hHeld => ?_)
        clear hK K
        try simp only [Act.put]
        try simp only [List.setIfInBounds_toArray]
        try simp only [List.set_cons_succ]
        try simp only [List.set_cons_zero]
        refine pureZ (i := 3) (d := some 45) (v := ?_) rfl rfl (by decide) (by kernel_rfl) (by kernel_rfl) (by kernel_rfl) (fun _ _ _ h => h) (by rfl) ?_ (by assumption) ?_
        rotate_left
        · intro w; (try go_simp); (try with_reducible rfl)
        try simp only [Act.put]
        try simp only [List.setIfInBounds_toArray]
        try simp only [List.set_cons_succ]
        try simp only [List.set_cons_zero]
        refine oneZ (i := 4) (by kernel_rfl) rfl (by rfl) (fun K hK => ?_)
        go_simp
        refine (sClusterDepart_own _ c _ _ (H6.out.own.clu DC.out) DC.out).mono ?_; rintro e w9 ⟨v9, c9, q9, rfl, hE9, hc9, d9⟩; obtain ⟨fa, fc, ga, gc, hv9, -, -⟩ := hc9.open; subst hv9; have H9 := Lib.hid (H6.out.put hE9 hc9); have X9 := Lib.hid ((H6.out.ext hE9).out); have D9 := Lib.hid d9; clear hE9 hc9 d9
        try dsimp only
        refine hK.out _ _ (X9.out) (fun hHeld => ?_)
        clear hK K
        try simp only [Act.put]
        try simp only [List.setIfInBounds_toArray]
        try simp only [List.set_cons_succ]
        try simp only [List.set_cons_zero]
        refine pureZ (i := 5) (d := some 41) (v := ?_) rfl rfl (by decide) (by kernel_rfl) (by kernel_rfl) (by kernel_rfl) (fun _ _ _ h => h) (by rfl) ?_ (by assumption) ?_
        rotate_left
        · intro w; (try go_simp); (try with_reducible rfl)
        try simp only [Act.put]
        try simp only [List.setIfInBounds_toArray]
        try simp only [List.set_cons_succ]
        try simp only [List.set_cons_zero]
        refine pureZ (i := 6) (d := some 47) (v := ?_) rfl rfl (by decide) (by kernel_rfl) (by kernel_rfl) (by kernel_rfl) (fun _ _ _ h => h) (by rfl) ?_ (by assumption) ?_
        rotate_left
        · intro w; (try go_simp); (try with_reducible rfl)
        try simp only [Act.put]
        try simp only [List.setIfInBounds_toArray]
        try simp only [List.set_cons_succ]
        try simp only [List.set_cons_zero]
        refine pureZ (i := 7) (d := some 48) (v := ?_) rfl rfl (by decide) (by kernel_rfl) (by kernel_rfl) (by kernel_rfl) (fun _ _ _ h => h) (by rfl) ?_ (by assumption) ?_
        rotate_left
        · intro w; (try go_simp); (try with_reducible rfl)
        try simp only [Act.put]
        try simp only [List.setIfInBounds_toArray]
        try simp only [List.set_cons_succ]
        try simp only [List.set_cons_zero]
        have x0 := cell_of_heap X9.out 0
        have x1 := cell_of_heap X9.out 1
        have f0 := frozen_of_heap X9.out 0
        have f1 := frozen_of_heap X9.out 1
        refine lastZ (by kernel_rfl) rfl (by rfl) (fun K hK => ?_)
        go_simp
        try dsimp only
        refine hK.out _ _ ?_
        clear hK K
        try simp only [Act.put]
        try simp only [List.setIfInBounds_toArray]
        try simp only [List.set_cons_succ]
        try simp only [List.set_cons_zero]
        refine doneZ (by kernel_rfl) ?_
        clear HD H6 X9
        go_wp2_with fail
        go_roundw
        case rel => exact ⟨k + 1, _, _, c9, by omega, by go_num, H9.out.mono (by omega), D9.out⟩
        case measure => simp [intOf]; omega
      · have h0' : (((k1 : Nat) : Int) == 0) = false := by simp; omega
        by_cases h1 : k1 = 1
        · subst h1
          clear h0 h0'
          go_wp2_with fail
          refine regionZ (S := fun w' => w'.heap[Z]? = some (Obj.cells #[(.slice ra c.room.length rc), (.slice ua c.us.length uc)] 26)) 10 (by kernel_rfl) (HD.out.out) (fun hHeld => ?_)
          refine readZ [] (i := 0) (d := some 52) (v := ?_) rfl rfl (by decide) (by kernel_rfl) (by kernel_rfl) (by kernel_rfl) (by kernel_rfl) (fun _ _ _ h => h) (by rfl) ?_ (by assumption) ?_
          rotate_left
          · intro w hSw; (try dsimp only at hSw); (try have l0 := cell_of_heap hSw 0; have l1 := cell_of_heap hSw 1; go_simp); (try with_reducible rfl)
          try simp only [Act.put]
          try simp only [List.setIfInBounds_toArray]
          try simp only [List.set_cons_succ]
          try simp only [List.set_cons_zero]
          refine pureZ (i := 1) (d := some 53) (v := ?_) rfl rfl (by decide) (by kernel_rfl) (by kernel_rfl) (by kernel_rfl) (fun _ _ _ h => h) (by rfl) ?_ (by assumption) ?_
          rotate_left
          · intro w; (try go_simp); (try with_reducible rfl)
          try simp only [Act.put]
          try simp only [List.setIfInBounds_toArray]
          try simp only [List.set_cons_succ]
          try simp only [List.set_cons_zero]
          refine pureZ (i := 3) (d := some 55) (v := ?_) rfl rfl (by decide) (by kernel_rfl) (by kernel_rfl) (by kernel_rfl) (fun _ _ _ h => h) (by rfl) ?_ (by assumption) ?_
          rotate_left
          · intro w; (try go_simp); (try with_reducible rfl)
          try simp only [Act.put]
          try simp only [List.setIfInBounds_toArray]
          try simp only [List.set_cons_succ]
          try simp only [List.set_cons_zero]
          refine oneZ (i := 2) (by kernel_rfl) rfl (by rfl) (fun K hK => ?_)
          go_simp
          refine (pick_any _ B _ 7 _ HD.out.dr.rd (by omega) (by omega) (by omega)).mono ?_; rintro e w6 ⟨k6, rfl, bk6, dk6⟩; have H6 := Lib.hid (HD.out.drd dk6); clear dk6
          try dsimp only
          refine hK.out _ _ (H6.out.out) (fun hHeld => ?_)
          clear hK K
          try simp only [Act.put]
          try simp only [List.setIfInBounds_toArray]
          try simp only [List.set_cons_succ]
          try simp only [List.set_cons_zero]
          refine oneZ (i := 4) (by kernel_rfl) rfl (by rfl) (fun K hK => ?_)
          go_simp
          refine (pick_any _ B _ 3 _ H6.out.dr.rd (by omega) (by omega) (by omega)).mono ?_; rintro e w7 ⟨k7, rfl, bk7, dk7⟩; have H7 := Lib.hid (H6.out.drd dk7); clear dk7
          try dsimp only
          refine hK.out _ _ (H7.out.out) (fun hHeld => ?_)
          clear hK K
          try simp only [Act.put]
          try simp only [List.setIfInBounds_toArray]
          try simp only [List.set_cons_succ]
          try simp only [List.set_cons_zero]
          refine pureZ (i := 5) (d := some 57) (v := ?_) rfl rfl (by decide) (by kernel_rfl) (by kernel_rfl) (by kernel_rfl) (fun _ _ _ h => h) (by rfl) ?_ (by assumption) ?_
          rotate_left
          · intro w; (try go_simp); (try with_reducible rfl)
          try simp only [Act.put]
          try simp only [List.setIfInBounds_toArray]
          try simp only [List.set_cons_succ]
          try simp only [List.set_cons_zero]
          refine oneZ (i := 6) (by kernel_rfl) rfl (by rfl) (fun K hK => ?_)
          go_simp
          refine (sClusterOpen_own _ c _ _ _ (H7.out.own.clu DC.out) DC.out).mono ?_; rintro e w9 ⟨v9, c9, q9, rfl, hE9, hc9, d9⟩; obtain ⟨fa, fc, ga, gc, hv9, -, -⟩ := hc9.open; subst hv9; have H9 := Lib.hid (H7.out.put hE9 hc9); have X9 := Lib.hid ((H7.out.ext hE9).out); have D9 := Lib.hid d9; clear hE9 hc9 d9
          try dsimp only
          refine hK.out _ _ (X9.out) (fun hHeld => ?_)
          clear hK K
          try simp only [Act.put]
          try simp only [List.setIfInBounds_toArray]
          try simp only [List.set_cons_succ]
          try simp only [List.set_cons_zero]
          refine pureZ (i := 7) (d := some 51) (v := ?_) rfl rfl (by decide) (by kernel_rfl) (by kernel_rfl) (by kernel_rfl) (fun _ _ _ h => h) (by rfl) ?_ (by assumption) ?_
          rotate_left
          · intro w; (try go_simp); (try with_reducible rfl)
          try simp only [Act.put]
          try simp only [List.setIfInBounds_toArray]
          try simp only [List.set_cons_succ]
          try simp only [List.set_cons_zero]
          refine pureZ (i := 8) (d := some 59) (v := ?_) rfl rfl (by decide) (by kernel_rfl) (by kernel_rfl) (by kernel_rfl) (fun _ _ _ h => h) (by rfl) ?_ (by assumption) ?_
          rotate_left
          · intro w; (try go_simp); (try with_reducible rfl)
          try simp only [Act.put]
          try simp only [List.setIfInBounds_toArray]
          try simp only [List.set_cons_succ]
          try simp only [List.set_cons_zero]
          refine pureZ (i := 9) (d := some 60) (v := ?_) rfl rfl (by decide) (by kernel_rfl) (by kernel_rfl) (by kernel_rfl) (fun _ _ _ h => h) (by rfl) ?_ (by assumption) ?_
          rotate_left
          · intro w; (try go_simp); (try with_reducible rfl)
          try simp only [Act.put]
          try simp only [List.setIfInBounds_toArray]
          try simp only [List.set_cons_succ]
          try simp only [List.set_cons_zero]
          have x0 := cell_of_heap X9.out 0
          have x1 := cell_of_heap X9.out 1
          have f0 := frozen_of_heap X9.out 0
          have f1 := frozen_of_heap X9.out 1
          refine lastZ (by kernel_rfl) rfl (by rfl) (fun K hK => ?_)
          go_simp
          try dsimp only
          refine hK.out _ _ ?_
          clear hK K
          try simp only [Act.put]
          try simp only [List.setIfInBounds_toArray]
          try simp only [List.set_cons_succ]
          try simp only [List.set_cons_zero]
          refine doneZ (by kernel_rfl) ?_
          clear HD H6 H7 X9
          go_wp2_with fail
          go_roundw
          case rel => exact ⟨k + 1, _, _, c9, by omega, by go_num, H9.out.mono (by omega), D9.out⟩
          case measure => simp [intOf]; omega
        · have h1' : (((k1 : Nat) : Int) == 1) = false := by simp; omega
          clear h0 h1
          go_wp2_with fail
          refine regionZ (S := fun w' => w'.heap[Z]? = some (Obj.cells #[(.slice ra c.room.length rc), (.slice ua c.us.length uc)] 26)) 13 (by kernel_rfl) (HD.out.out) (fun hHeld => ?_)
          refine readZ [] (i := 0) (d := some 27) (v := ?_) rfl rfl (by decide) (by kernel_rfl) (by kernel_rfl) (by kernel_rfl) (by kernel_rfl) (fun _ _ _ h => h) (by rfl) ?_ (by assumption) ?_
          rotate_left
          · intro w hSw; (try dsimp only at hSw); (try have l0 := cell_of_heap hSw 0; have l1 := cell_of_heap hSw 1; go_simp); (try with_reducible rfl)
          try simp only [Act.put]
          try simp only [List.setIfInBounds_toArray]
          try simp only [List.set_cons_succ]
          try simp only [List.set_cons_zero]
          refine pureZ (i := 1) (d := some 28) (v := ?_) rfl rfl (by decide) (by kernel_rfl) (by kernel_rfl) (by kernel_rfl) (fun _ _ _ h => h) (by rfl) ?_ (by assumption) ?_
          rotate_left
          · intro w; (try go_simp); (try with_reducible rfl)
          try simp only [Act.put]
          try simp only [List.setIfInBounds_toArray]
          try simp only [List.set_cons_succ]
          try simp only [List.set_cons_zero]
          refine pureZ (i := 2) (d := some 29) (v := ?_) rfl rfl (by decide) (by kernel_rfl) (by kernel_rfl) (by kernel_rfl) (fun _ _ _ h => h) (by rfl) ?_ (by assumption) ?_
          rotate_left
          · intro w; (try go_simp); (try with_reducible rfl)
          try simp only [Act.put]
          try simp only [List.setIfInBounds_toArray]
          try simp only [List.set_cons_succ]
          try simp only [List.set_cons_zero]
          refine pureZ (i := 6) (d := some 33) (v := ?_) rfl rfl (by decide) (by kernel_rfl) (by kernel_rfl) (by kernel_rfl) (fun _ _ _ h => h) (by rfl) ?_ (by assumption) ?_
          rotate_left
          · intro w; (try go_simp); (try with_reducible rfl)
          try simp only [Act.put]
          try simp only [List.setIfInBounds_toArray]
          try simp only [List.set_cons_succ]
          try simp only [List.set_cons_zero]
          refine oneZ (i := 3) (by kernel_rfl) rfl (by rfl) (fun K hK => ?_)
          go_simp
          refine (pick_any _ B _ 14 _ HD.out.dr.rd (by omega) (by omega) (by omega)).mono ?_; rintro e w6 ⟨k6, rfl, bk6, dk6⟩; have H6 := Lib.hid (HD.out.drd dk6); clear dk6
          try dsimp only
          refine hK.out _ _ (H6.out.out) (fun hHeld => ?_)
          clear hK K
          try simp only [Act.put]
          try simp only [List.setIfInBounds_toArray]
          try simp only [List.set_cons_succ]
          try simp only [List.set_cons_zero]
          refine pureZ (i := 4) (d := some 31) (v := ?_) rfl rfl (by decide) (by kernel_rfl) (by kernel_rfl) (by kernel_rfl) (fun _ _ _ h => h) (by rfl) ?_ (by assumption) ?_
          rotate_left
          · intro w; (try go_simp); (try with_reducible rfl)
          try simp only [Act.put]
          try simp only [List.setIfInBounds_toArray]
          try simp only [List.set_cons_succ]
          try simp only [List.set_cons_zero]
          refine oneZ (i := 5) (by kernel_rfl) rfl (by rfl) (fun K hK => ?_)
          go_simp
          (generalize IntKind.i64.wrap (1 + (k6 : Int)) = id7); refine (l91Task_any _ B _ _ _ H6.out.dr.rd (by omega)).mono ?_; rintro e w7 ⟨n7, xs7, rfl, i7, n37, -, d7⟩; have H7 := Lib.hid (H6.out.drd d7); have I7 := Lib.hid i7; have N7 := Lib.hid n37; clear i7 n37 d7
          try dsimp only
          refine hK.out _ _ (H7.out.out) (fun hHeld => ?_)
          clear hK K
          try simp only [Act.put]
          try simp only [List.setIfInBounds_toArray]
          try simp only [List.set_cons_succ]
          try simp only [List.set_cons_zero]
          refine oneZ (i := 7) (by kernel_rfl) rfl (by rfl) (fun K hK => ?_)
          go_simp
          refine (pick_any _ B _ 3 _ H7.out.dr.rd (by omega) (by omega) (by omega)).mono ?_; rintro e w8 ⟨k8, rfl, bk8, dk8⟩; have H8 := Lib.hid (H7.out.drd dk8); have I8 := Lib.hid (I7.out.kt dk8.kt (by decide)); clear dk8
          try dsimp only
          refine hK.out _ _ (H8.out.out) (fun hHeld => ?_)
          clear hK K
          try simp only [Act.put]
          try simp only [List.setIfInBounds_toArray]
          try simp only [List.set_cons_succ]
          try simp only [List.set_cons_zero]
          refine pureZ (i := 8) (d := some 35) (v := ?_) rfl rfl (by decide) (by kernel_rfl) (by kernel_rfl) (by kernel_rfl) (fun _ _ _ h => h) (by rfl) ?_ (by assumption) ?_
          rotate_left
          · intro w; (try go_simp); (try with_reducible rfl)
          try simp only [Act.put]
          try simp only [List.setIfInBounds_toArray]
          try simp only [List.set_cons_succ]
          try simp only [List.set_cons_zero]
          refine oneZ (i := 9) (by kernel_rfl) rfl (by rfl) (fun K hK => ?_)
          go_simp
          refine (sClusterArrive_own _ _ c ⟨_, xs7⟩ _ _ (H8.out.own.clu DC.out) I8.out DC.out (show xs7.length ≤ 3 by have := N7.out.1; omega)).mono ?_; rintro e w9 ⟨v9, c9, q9, rfl, hE9, hc9, d9⟩; obtain ⟨fa, fc, ga, gc, hv9, -, -⟩ := hc9.open; subst hv9; have H9 := Lib.hid (H8.out.put hE9 hc9); have X9 := Lib.hid ((H8.out.ext hE9).out); have D9 := Lib.hid d9; clear hE9 hc9 d9
          try dsimp only
          refine hK.out _ _ (X9.out) (fun hHeld => ?_)
          clear hK K
          try simp only [Act.put]
          try simp only [List.setIfInBounds_toArray]
          try simp only [List.set_cons_succ]
          try simp only [List.set_cons_zero]
          refine pureZ (i := 10) (d := some 26) (v := ?_) rfl rfl (by decide) (by kernel_rfl) (by kernel_rfl) (by kernel_rfl) (fun _ _ _ h => h) (by rfl) ?_ (by assumption) ?_
          rotate_left
          · intro w; (try go_simp); (try with_reducible rfl)
          try simp only [Act.put]
          try simp only [List.setIfInBounds_toArray]
          try simp only [List.set_cons_succ]
          try simp only [List.set_cons_zero]
          refine pureZ (i := 11) (d := some 37) (v := ?_) rfl rfl (by decide) (by kernel_rfl) (by kernel_rfl) (by kernel_rfl) (fun _ _ _ h => h) (by rfl) ?_ (by assumption) ?_
          rotate_left
          · intro w; (try go_simp); (try with_reducible rfl)
          try simp only [Act.put]
          try simp only [List.setIfInBounds_toArray]
          try simp only [List.set_cons_succ]
          try simp only [List.set_cons_zero]
          refine pureZ (i := 12) (d := some 38) (v := ?_) rfl rfl (by decide) (by kernel_rfl) (by kernel_rfl) (by kernel_rfl) (fun _ _ _ h => h) (by rfl) ?_ (by assumption) ?_
          rotate_left
          · intro w; (try go_simp); (try with_reducible rfl)
          try simp only [Act.put]
          try simp only [List.setIfInBounds_toArray]
          try simp only [List.set_cons_succ]
          try simp only [List.set_cons_zero]
          have x0 := cell_of_heap X9.out 0
          have x1 := cell_of_heap X9.out 1
          have f0 := frozen_of_heap X9.out 0
          have f1 := frozen_of_heap X9.out 1
          refine lastZ (by kernel_rfl) rfl (by rfl) (fun K hK => ?_)
          go_simp
          try dsimp only
          refine hK.out _ _ ?_
          clear hK K
          try simp only [Act.put]
          try simp only [List.setIfInBounds_toArray]
          try simp only [List.set_cons_succ]
          try simp only [List.set_cons_zero]
          refine doneZ (by kernel_rfl) ?_
          clear HD H6 H7 H8 X9
          go_wp2_with fail
          go_roundw
          case rel => exact ⟨k + 1, _, _, c9, by omega, by go_num, H9.out.mono (by omega), D9.out⟩
          case measure => simp [intOf]; omega
    · have e : k = n := by omega
      subst e
      have HC0 := Lib.hid (HC.out.mono (show P + 8 + 10 * k ≤ P + 248 by omega))
      clear HC hlt
      have y0 := cell_of_heap HC0.out.out 0
      have y1 := cell_of_heap HC0.out.out 1
      by_cases hz : 0 < c.us.length
      · have hz' : (0 : Int) < (c.us.length : Int) := by omega
        have hus := DC.out.us
        go_wp2_with fail
        refine (pick_any _ B _ _ _ HC0.out.dr.rd (by omega) (by omega) (by omega)).mono ?_
        rintro e w6 ⟨j, rfl, bj, d6⟩
        have HC1 := Lib.hid (HC0.out.drd d6)
        clear d6 HC0 y0 y1
        go_wp2_with fail
        refine (pick_any _ B _ 40 _ HC1.out.dr.rd (by omega) (by omega) (by omega)).mono ?_
        rintro e w7 ⟨q, rfl, bq, d7⟩
        have HC2 := Lib.hid ((HC1.out.drd d7).mono (show P + 248 + 1 + 1 ≤ P + 250 by omega))
        clear d7 HC1 HUC HRC
        have hj : j < c.us.length := by omega
        have i0 : (0 : Int) ≤ (j : Int) := by omega
        have i1 : (j : Int) < (c.us.length : Int) := by omega
        obtain ⟨_, _, _, _, hav, hr, hu⟩ := HC2.out.own.open
        simp only [Value.agg.injEq, Array.mk.injEq, List.cons.injEq, and_true, Value.slice.injEq, true_and] at hav
        obtain ⟨⟨rfl, rfl⟩, rfl, rfl⟩ := hav
        obtain ⟨bb, nd, hsa, -, hBb, hbw, co, cn, hot, fo, fn⟩ := hu.at hj
        subst hsa
        by_cases q0 : q = 0
        · subst q0
          have HC5 := Lib.hid (HC2.out.ext (Ext.refl w7).drew)
          have CO := Lib.hid ((Ext.refl w7).drew.cell co)
          have FO := Lib.hid (show w7.drew.frozen? ⟨bb, j * 2, none⟩ = false from fo)
          have P5 := Lib.hid ((hu.ext (Ext.refl w7).drew).putOp hj (!c.us[j].op))
          have R5 := Lib.hid (hr.ext (Ext.refl w7).drew)
          clear co cn hot fo fn hr hu hBb hbw HC2
          go_wp2_with fail
          refine regionZ (S := fun w' => w'.heap[Z]? = some (Obj.cells #[(.slice ra c.room.length rc), (.slice (some ⟨bb, 0, none⟩) c.us.length uc)] 26) ∧ w'.cell? ⟨bb, j * 2, none⟩ = some (.bool c.us[j].op)) 12 (by kernel_rfl) (⟨HC5.out.out, CO.out⟩) (fun hHeld => ?_)
          refine pureZ (i := 0) (d := some 74) (v := ?_) rfl rfl (by decide) (by kernel_rfl) (by kernel_rfl) (by kernel_rfl) (fun _ _ _ h => h) (by rfl) ?_ (by assumption) ?_
          rotate_left
          · intro w; (try go_simp); (try with_reducible rfl)
          try simp only [Act.put]
          try simp only [List.setIfInBounds_toArray]
          try simp only [List.set_cons_succ]
          try simp only [List.set_cons_zero]
          refine readZ [] (i := 1) (d := some 75) (v := ?_) rfl rfl (by decide) (by kernel_rfl) (by kernel_rfl) (by kernel_rfl) (by kernel_rfl) (fun _ _ _ h => h) (by rfl) ?_ (by assumption) ?_
          rotate_left
          · intro w hSw; (try dsimp only at hSw); (try have l0 := cell_of_heap hSw.1 0; have l1 := cell_of_heap hSw.1 1; go_simp); (try with_reducible rfl)
          try simp only [Act.put]
          try simp only [List.setIfInBounds_toArray]
          try simp only [List.set_cons_succ]
          try simp only [List.set_cons_zero]
          refine pureZ (i := 2) (d := some 76) (v := ?_) rfl rfl (by decide) (by kernel_rfl) (by kernel_rfl) (by kernel_rfl) (fun _ _ _ h => h) (by rfl) ?_ (by assumption) ?_
          rotate_left
          · intro w; (try go_simp); (try with_reducible rfl)
          try simp only [Act.put]
          try simp only [List.setIfInBounds_toArray]
          try simp only [List.set_cons_succ]
          try simp only [List.set_cons_zero]
          refine pureZ (i := 3) (d := some 77) (v := ?_) rfl rfl (by decide) (by kernel_rfl) (by kernel_rfl) (by kernel_rfl) (fun _ _ _ h => h) (by rfl) ?_ (by assumption) ?_
          rotate_left
          · intro w; (try go_simp); (try with_reducible rfl)
          try simp only [Act.put]
          try simp only [List.setIfInBounds_toArray]
          try simp only [List.set_cons_succ]
          try simp only [List.set_cons_zero]
          refine readZ [] (i := 4) (d := some 78) (v := ?_) rfl rfl (by decide) (by kernel_rfl) (by kernel_rfl) (by kernel_rfl) (by kernel_rfl) (fun _ _ _ h => h) (by rfl) ?_ (by assumption) ?_
          rotate_left
          · intro w hSw; (try dsimp only at hSw); (try have l0 := cell_of_heap hSw.1 0; have l1 := cell_of_heap hSw.1 1; go_simp); (try with_reducible rfl)
          try simp only [Act.put]
          try simp only [List.setIfInBounds_toArray]
          try simp only [List.set_cons_succ]
          try simp only [List.set_cons_zero]
          refine pureZ (i := 5) (d := some 79) (v := ?_) rfl rfl (by decide) (by kernel_rfl) (by kernel_rfl) (by kernel_rfl) (fun _ _ _ h => h) (by rfl) ?_ (by assumption) ?_
          rotate_left
          · intro w; (try go_simp); (try with_reducible rfl)
          try simp only [Act.put]
          try simp only [List.setIfInBounds_toArray]
          try simp only [List.set_cons_succ]
          try simp only [List.set_cons_zero]
          refine pureZ (i := 6) (d := some 80) (v := ?_) rfl rfl (by decide) (by kernel_rfl) (by kernel_rfl) (by kernel_rfl) (fun _ _ _ h => h) (by rfl) ?_ (by assumption) ?_
          rotate_left
          · intro w; (try go_simp); (try with_reducible rfl)
          try simp only [Act.put]
          try simp only [List.setIfInBounds_toArray]
          try simp only [List.set_cons_succ]
          try simp only [List.set_cons_zero]
          refine pureZ (i := 7) (d := some 81) (v := ?_) rfl rfl (by decide) (by kernel_rfl) (by kernel_rfl) (by kernel_rfl) (fun _ _ _ h => h) (by rfl) ?_ (by assumption) ?_
          rotate_left
          · intro w; (try go_simp); (try with_reducible rfl)
          try simp only [Act.put]
          try simp only [List.setIfInBounds_toArray]
          try simp only [List.set_cons_succ]
          try simp only [List.set_cons_zero]
          refine readZ [] (i := 8) (d := some 82) (v := ?_) rfl rfl (by decide) (by kernel_rfl) (by kernel_rfl) (by kernel_rfl) (by kernel_rfl) (fun _ _ _ h => h) (by rfl) ?_ (by assumption) ?_
          rotate_left
          · intro w hSw; (try dsimp only at hSw); (try have l0 := hSw.2; go_simp); (try with_reducible rfl)
          try simp only [Act.put]
          try simp only [List.setIfInBounds_toArray]
          try simp only [List.set_cons_succ]
          try simp only [List.set_cons_zero]
          refine pureZ (i := 9) (d := some 83) (v := ?_) rfl rfl (by decide) (by kernel_rfl) (by kernel_rfl) (by kernel_rfl) (fun _ _ _ h => h) (by rfl) ?_ (by assumption) ?_
          rotate_left
          · intro w; (try go_simp); (try with_reducible rfl)
          try simp only [Act.put]
          try simp only [List.setIfInBounds_toArray]
          try simp only [List.set_cons_succ]
          try simp only [List.set_cons_zero]
          refine pureZ (i := 10) (d := some 84) (v := ?_) rfl rfl (by decide) (by kernel_rfl) (by kernel_rfl) (by kernel_rfl) (fun _ _ _ h => h) (by rfl) ?_ (by assumption) ?_
          rotate_left
          · intro w; (try go_simp); (try with_reducible rfl)
          try simp only [Act.put]
          try simp only [List.setIfInBounds_toArray]
          try simp only [List.set_cons_succ]
          try simp only [List.set_cons_zero]
          refine pureZ (i := 11) (d := some 85) (v := ?_) rfl rfl (by decide) (by kernel_rfl) (by kernel_rfl) (by kernel_rfl) (fun _ _ _ h => h) (by rfl) ?_ (by assumption) ?_
          rotate_left
          · intro w; (try go_simp); (try with_reducible rfl)
          try simp only [Act.put]
          try simp only [List.setIfInBounds_toArray]
          try simp only [List.set_cons_succ]
          try simp only [List.set_cons_zero]
          have l1 := CO.out
          have f1 := FO.out
          refine lastZ (by kernel_rfl) rfl (by rfl) (fun K hK => ?_)
          go_simp
          try dsimp only
          refine hK.out _ _ ?_
          clear hK K
          try simp only [Act.put]
          try simp only [List.setIfInBounds_toArray]
          try simp only [List.set_cons_succ]
          try simp only [List.set_cons_zero]
          refine doneZ (by kernel_rfl) ?_
          have H6 := Lib.hid (show Cz w (w7.drew.setCell ⟨bb, j * 2, none⟩ (.bool (!c.us[j].op))) B r (P + 250) Z (.slice ra c.room.length rc) (.slice (some ⟨bb, 0, none⟩) c.us.length uc) ⟨c.room, c.us.set j ⟨!c.us[j].op, c.us[j].ts⟩⟩ from
            ⟨HC5.out.dr.own P5.out.2.2 P5.out.2.1 (by decide), (P5.out.2.1.2 _ _ _ _ HC5.out.res (by decide)).trans HC5.out.res, (P5.out.2.1.2 _ _ _ _ HC5.out.out (by decide)).trans HC5.out.out, ⟨_, _, rfl, R5.out.kt P5.out.2.1 (by decide), P5.out.1⟩, HC5.out.lo⟩)
          clear HC5 CO FO P5 R5 hHeld l1 f1
          rw [show w7.drew.setCell ⟨bb, j * 2, none⟩ (.bool (!c.us[j].op)) = (w7.setCell ⟨bb, j * 2, none⟩ (.bool (!c.us[j].op))).drew by simp only [go_sem]] at H6
          generalize (w7.setCell ⟨bb, j * 2, none⟩ (.bool (!c.us[j].op))).drew = w9 at *
          have y0 := cell_of_heap H6.out.out 0
          have y1 := cell_of_heap H6.out.out 1
          have z0 := cell_of_heap H6.out.res 0
          have z1 := cell_of_heap H6.out.res 1
          have g0 := frozen_of_heap H6.out.res 0
          have g1 := frozen_of_heap H6.out.res 1
          have FF := Lib.hid (cz_end (P := P) H6.out (DC.out.dl.openAt hj _) (by omega))
          go_wp2_with fail
          refine bodyPost_ret (v := .agg #[(.slice ra c.room.length rc), (.slice (some ⟨bb, 0, none⟩) c.us.length uc)]) ?_ rfl FF.out
          simp [results, Try.results16, go_sem, z0, z1]
        · have q0' : (((q : Nat) : Int) == 0) = false := by simp; omega
          by_cases q1 : q = 1
          · subst q1
            obtain ⟨ta, tc, rfl⟩ := hot.form
            obtain ⟨cs, fz, hrow⟩ := hu.rowOf
            have TL := Lib.hid (show c.us[j].ts.length ≤ 20 from by have := ts_le (List.getElem_mem hj); have := DC.out.fl; omega)
            have HD := Lib.hid (HC2.out.ext (Ext.refl w7).drew)
            have HB := Lib.hid (((Ext.refl w7).drew.block (lt_of_heap hrow)).trans hrow)
            have CS := Lib.hid (show cs[j * 2 + 1]? = some (.slice ta c.us[j].ts.length tc) from (cell_of_heap hrow (j * 2 + 1)).symm.trans cn)
            have OT := Lib.hid (hot.ext (Ext.refl w7).drew)
            clear co cn hot fo fn hr hu hBb hbw HC2 hrow q0 q0'
            go_wp2_with fail
            refine regionZ (S := fun w' => w'.heap[Z]? = some (Obj.cells #[(.slice ra c.room.length rc), (.slice (some ⟨bb, 0, none⟩) c.us.length uc)] 26) ∧ w'.heap[bb]? = some (Obj.cells cs 31 fz)) 18 (by kernel_rfl) (⟨HD.out.out, HB.out⟩) (fun hHeld => ?_)
            refine pureZ (i := 0) (d := some 88) (v := ?_) rfl rfl (by decide) (by kernel_rfl) (by kernel_rfl) (by kernel_rfl) (fun _ _ _ h => h) (by rfl) ?_ (by assumption) ?_
            rotate_left
            · intro w; (try go_simp); (try with_reducible rfl)
            try simp only [Act.put]
            try simp only [List.setIfInBounds_toArray]
            try simp only [List.set_cons_succ]
            try simp only [List.set_cons_zero]
            refine readZ [] (i := 1) (d := some 89) (v := ?_) rfl rfl (by decide) (by kernel_rfl) (by kernel_rfl) (by kernel_rfl) (by kernel_rfl) (fun _ _ _ h => h) (by rfl) ?_ (by assumption) ?_
            rotate_left
            · intro w hSw; (try dsimp only at hSw); (try have l0 := cell_of_heap hSw.1 0; have l1 := cell_of_heap hSw.1 1; go_simp); (try with_reducible rfl)
            try simp only [Act.put]
            try simp only [List.setIfInBounds_toArray]
            try simp only [List.set_cons_succ]
            try simp only [List.set_cons_zero]
            refine pureZ (i := 2) (d := some 90) (v := ?_) rfl rfl (by decide) (by kernel_rfl) (by kernel_rfl) (by kernel_rfl) (fun _ _ _ h => h) (by rfl) ?_ (by assumption) ?_
            rotate_left
            · intro w; (try go_simp); (try with_reducible rfl)
            try simp only [Act.put]
            try simp only [List.setIfInBounds_toArray]
            try simp only [List.set_cons_succ]
            try simp only [List.set_cons_zero]
            refine pureZ (i := 3) (d := some 91) (v := ?_) rfl rfl (by decide) (by kernel_rfl) (by kernel_rfl) (by kernel_rfl) (fun _ _ _ h => h) (by rfl) ?_ (by assumption) ?_
            rotate_left
            · intro w; (try go_simp); (try with_reducible rfl)
            try simp only [Act.put]
            try simp only [List.setIfInBounds_toArray]
            try simp only [List.set_cons_succ]
            try simp only [List.set_cons_zero]
            refine readZ [] (i := 4) (d := some 92) (v := ?_) rfl rfl (by decide) (by kernel_rfl) (by kernel_rfl) (by kernel_rfl) (by kernel_rfl) (fun _ _ _ h => h) (by rfl) ?_ (by assumption) ?_
            rotate_left
            · intro w hSw; (try dsimp only at hSw); (try have l0 := cell_of_heap hSw.1 0; have l1 := cell_of_heap hSw.1 1; go_simp); (try with_reducible rfl)
            try simp only [Act.put]
            try simp only [List.setIfInBounds_toArray]
            try simp only [List.set_cons_succ]
            try simp only [List.set_cons_zero]
            refine pureZ (i := 5) (d := some 93) (v := ?_) rfl rfl (by decide) (by kernel_rfl) (by kernel_rfl) (by kernel_rfl) (fun _ _ _ h => h) (by rfl) ?_ (by assumption) ?_
            rotate_left
            · intro w; (try go_simp); (try with_reducible rfl)
            try simp only [Act.put]
            try simp only [List.setIfInBounds_toArray]
            try simp only [List.set_cons_succ]
            try simp only [List.set_cons_zero]
            refine pureZ (i := 6) (d := some 94) (v := ?_) rfl rfl (by decide) (by kernel_rfl) (by kernel_rfl) (by kernel_rfl) (fun _ _ _ h => h) (by rfl) ?_ (by assumption) ?_
            rotate_left
            · intro w; (try go_simp); (try with_reducible rfl)
            try simp only [Act.put]
            try simp only [List.setIfInBounds_toArray]
            try simp only [List.set_cons_succ]
            try simp only [List.set_cons_zero]
            refine pureZ (i := 7) (d := some 95) (v := ?_) rfl rfl (by decide) (by kernel_rfl) (by kernel_rfl) (by kernel_rfl) (fun _ _ _ h => h) (by rfl) ?_ (by assumption) ?_
            rotate_left
            · intro w; (try go_simp); (try with_reducible rfl)
            try simp only [Act.put]
            try simp only [List.setIfInBounds_toArray]
            try simp only [List.set_cons_succ]
            try simp only [List.set_cons_zero]
            refine readZ [] (i := 8) (d := some 96) (v := ?_) rfl rfl (by decide) (by kernel_rfl) (by kernel_rfl) (by kernel_rfl) (by kernel_rfl) (fun _ _ _ h => h) (by rfl) ?_ (by assumption) ?_
            rotate_left
            · intro w hSw; (try dsimp only at hSw); (try have l0 := (cell_of_heap hSw.2 (j * 2 + 1)).trans CS.out; go_simp); (try with_reducible rfl)
            try simp only [Act.put]
            try simp only [List.setIfInBounds_toArray]
            try simp only [List.set_cons_succ]
            try simp only [List.set_cons_zero]
            refine pureZ (i := 9) (d := some 97) (v := ?_) rfl rfl (by decide) (by kernel_rfl) (by kernel_rfl) (by kernel_rfl) (fun _ _ _ h => h) (by rfl) ?_ (by assumption) ?_
            rotate_left
            · intro w; (try go_simp); (try with_reducible rfl)
            try simp only [Act.put]
            try simp only [List.setIfInBounds_toArray]
            try simp only [List.set_cons_succ]
            try simp only [List.set_cons_zero]
            refine pureZ (i := 10) (d := some 98) (v := ?_) rfl rfl (by decide) (by kernel_rfl) (by kernel_rfl) (by kernel_rfl) (fun _ _ _ h => h) (by rfl) ?_ (by assumption) ?_
            rotate_left
            · intro w; (try go_simp); (try with_reducible rfl)
            try simp only [Act.put]
            try simp only [List.setIfInBounds_toArray]
            try simp only [List.set_cons_succ]
            try simp only [List.set_cons_zero]
            refine oneZ (i := 11) (by kernel_rfl) rfl (by rfl) (fun K hK => ?_)
            go_simp
            refine (pick_any _ B _ 14 _ HD.out.dr.rd (by omega) (by omega) (by omega)).mono ?_; rintro e w6 ⟨k6, rfl, bk6, dk6⟩; have H6 := Lib.hid (HD.out.drd dk6); have B6 := Lib.hid (dk6.heap HB.out (by decide)); have O6 := Lib.hid (OT.out.kt dk6.kt (by decide) (by decide)); clear dk6
            try dsimp only
            refine hK.out _ _ (⟨H6.out.out, B6.out⟩) (fun hHeld => ?_)
            clear hK K
            try simp only [Act.put]
            try simp only [List.setIfInBounds_toArray]
            try simp only [List.set_cons_succ]
            try simp only [List.set_cons_zero]
            refine pureZ (i := 12) (d := some 100) (v := ?_) rfl rfl (by decide) (by kernel_rfl) (by kernel_rfl) (by kernel_rfl) (fun _ _ _ h => h) (by rfl) ?_ (by assumption) ?_
            rotate_left
            · intro w; (try go_simp); (try with_reducible rfl)
            try simp only [Act.put]
            try simp only [List.setIfInBounds_toArray]
            try simp only [List.set_cons_succ]
            try simp only [List.set_cons_zero]
            refine oneZ (i := 13) (by kernel_rfl) rfl (by rfl) (fun K hK => ?_)
            go_simp
            (generalize IntKind.i64.wrap (1 + (k6 : Int)) = id7); refine (l91Task_any _ B _ _ _ H6.out.dr.rd (by omega)).mono ?_; rintro e w7 ⟨n7, xs7, rfl, i7, n37, -, d7⟩; have H7 := Lib.hid (H6.out.drd d7); have I7 := Lib.hid i7; have N7 := Lib.hid n37; have B7 := Lib.hid (d7.heap B6.out (by decide)); have O7 := Lib.hid (O6.out.kt d7.kt (by decide) (by decide)); clear i7 n37 d7
            try dsimp only
            refine hK.out _ _ (⟨H7.out.out, B7.out⟩) (fun hHeld => ?_)
            clear hK K
            try simp only [Act.put]
            try simp only [List.setIfInBounds_toArray]
            try simp only [List.set_cons_succ]
            try simp only [List.set_cons_zero]
            refine oneZ (i := 14) (by kernel_rfl) rfl (by rfl) (fun K hK => ?_)
            go_simp
            try dsimp only
            refine hK.out _ _ (⟨heap_skip _ _ H7.out.out, heap_skip _ _ B7.out⟩) (fun hHeld => ?_)
            clear hK K
            try simp only [Act.put]
            try simp only [List.setIfInBounds_toArray]
            try simp only [List.set_cons_succ]
            try simp only [List.set_cons_zero]
            refine oneZ (i := 15) (by kernel_rfl) rfl (by rfl) (fun K hK => ?_)
            have H8 := Lib.hid (H7.out.ext ((Ext.refl w7).alloc (Obj.cells #[.int .i64 id7, n7] 37)))
            have B8 := Lib.hid (heap_skip w7 (Obj.cells #[.int .i64 id7, n7] 37) B7.out)
            refine wp_app2_tasks _ _ rfl w.heap.size _ c.us[j].ts (by rfl) (O7.out.alloc _) H8.out.dr.size _ _ _ [⟨id7, xs7⟩] (by rfl) (Tasks.lit1 (t := ⟨id7, xs7⟩) I7.out 1) (by have := TL.out; unfold lim; simp; omega) ?_
            intro v8 w8 hown hg hb8
            obtain ⟨sa8, sn8, sc8, hv8⟩ : ∃ a n c, v8 = .slice a n c := let ⟨a, c, h⟩ := hown.form; ⟨a, _, c, h⟩
            subst hv8
            obtain ⟨_, _, _, _, hav, hr8, hu8⟩ := H8.out.own.open
            simp only [Value.agg.injEq, Array.mk.injEq, List.cons.injEq, and_true, Value.slice.injEq, true_and] at hav
            obtain ⟨⟨rfl, rfl⟩, rfl, rfl⟩ := hav
            have P8 := Lib.hid (NestU.putTs hu8 (k := j) hj ((cell_of_heap B8.out (j * 2 + 1)).trans CS.out) H8.out.dr.size hown hg (fun g hg' => by rcases hb8 with e | e; exact .inl (e ▸ hg'); exact .inr (by rw [e] at hg'; simp only [Option.some.injEq] at hg'; omega)))
            have R8 := Lib.hid hr8
            have K8 := Lib.hid P8.out.2.1
            have Z8 := Lib.hid ((K8.out.2 _ _ _ _ H8.out.out (by decide)).trans H8.out.out)
            have U8 := Lib.hid ((K8.out.2 _ _ _ _ B8.out (by decide)).trans B8.out)
            clear hown hg hb8 hr8 hu8
            try dsimp only
            refine hK.out _ _ (⟨Z8.out, U8.out⟩) (fun hHeld => ?_)
            clear hK K
            try simp only [Act.put]
            try simp only [List.setIfInBounds_toArray]
            try simp only [List.set_cons_succ]
            try simp only [List.set_cons_zero]
            refine pureZ (i := 16) (d := some 104) (v := ?_) rfl rfl (by decide) (by kernel_rfl) (by kernel_rfl) (by kernel_rfl) (fun _ _ _ h => h) (by rfl) ?_ (by assumption) ?_
            rotate_left
            · intro w; (try go_simp); (try with_reducible rfl)
            try simp only [Act.put]
            try simp only [List.setIfInBounds_toArray]
            try simp only [List.set_cons_succ]
            try simp only [List.set_cons_zero]
            refine pureZ (i := 17) (d := some 105) (v := ?_) rfl rfl (by decide) (by kernel_rfl) (by kernel_rfl) (by kernel_rfl) (fun _ _ _ h => h) (by rfl) ?_ (by assumption) ?_
            rotate_left
            · intro w; (try go_simp); (try with_reducible rfl)
            try simp only [Act.put]
            try simp only [List.setIfInBounds_toArray]
            try simp only [List.set_cons_succ]
            try simp only [List.set_cons_zero]
            have f1 := P8.out.2.2.2.2.2.2
            have l1 := P8.out.2.2.2.2.2.1
            refine lastZ (by kernel_rfl) rfl (by rfl) (fun K hK => ?_)
            go_simp
            try dsimp only
            refine hK.out _ _ ?_
            clear hK K
            try simp only [Act.put]
            try simp only [List.setIfInBounds_toArray]
            try simp only [List.set_cons_succ]
            try simp only [List.set_cons_zero]
            refine doneZ (by kernel_rfl) ?_
            have H9 := Lib.hid (show Cz w (w8.setCell ⟨bb, j * 2 + 1, none⟩ (.slice sa8 sn8 sc8)) B r (P + 258) Z (.slice ra c.room.length rc) (.slice (some ⟨bb, 0, none⟩) c.us.length uc) ⟨c.room, c.us.set j ⟨c.us[j].op, c.us[j].ts ++ [⟨id7, xs7⟩]⟩⟩ from
              ⟨(((H8.out.dr.own P8.out.2.2.2.2.1 K8.out (by decide)).own P8.out.2.2.2.1 P8.out.2.2.1 (by decide)).mono (by omega)), (P8.out.2.2.1.2 _ _ _ _ ((K8.out.2 _ _ _ _ H8.out.res (by decide)).trans H8.out.res) (by decide)).trans ((K8.out.2 _ _ _ _ H8.out.res (by decide)).trans H8.out.res), (P8.out.2.2.1.2 _ _ _ _ Z8.out (by decide)).trans Z8.out,
                ⟨_, _, rfl, (R8.out.kt K8.out (by decide)).kt P8.out.2.2.1 (by decide), P8.out.1⟩, H8.out.lo⟩)
            clear f1 l1 H6 H7 H8 B6 B7 B8 O6 O7 I7 P8 R8 K8 Z8 U8 HD HB CS OT
            have y0 := cell_of_heap H9.out.out 0
            have y1 := cell_of_heap H9.out.out 1
            have z0 := cell_of_heap H9.out.res 0
            have z1 := cell_of_heap H9.out.res 1
            have g0 := frozen_of_heap H9.out.res 0
            have g1 := frozen_of_heap H9.out.res 1
            have FF := Lib.hid (cz_end (P := P) H9.out (DC.out.pushl hj (show xs7.length ≤ 3 by have := N7.out.1; omega)) (by omega))
            go_wp2_with fail
            refine bodyPost_ret (v := .agg #[(.slice ra c.room.length rc), (.slice (some ⟨bb, 0, none⟩) c.us.length uc)]) ?_ rfl FF.out
            simp [results, Try.results16, go_sem, z0, z1]
          · have q1' : (((q : Nat) : Int) == 1) = false := by simp; omega
            clear co cn hot fo fn hu hBb hbw q0 q1
            by_cases q2 : q = 2
            · subst q2
              have h3 : c.room.length = 3 := by
                rcases DC.out.room with h | h
                · rw [h] at hz; cases hz
                · exact h
              obtain ⟨rb, ro, hra, -⟩ := hr.1.at (by omega)
              subst hra
              have HR3 := Lib.hid (hr.cut h3)
              have HRL : 3 ≤ rc := by
                obtain ⟨_, _, _, he, hle⟩ := hr
                simp only [Value.slice.injEq] at he
                omega
              have h3' := Lib.hid h3
              have HX := Lib.hid (show Cz w (w7.setCell ⟨Z, 0, none⟩ (.slice (some ⟨rb, ro + 1, none⟩) 2 (rc - 1))) B r (P + 250) Z (.slice (some ⟨rb, ro + 1, none⟩) 2 (rc - 1)) (.slice (some ⟨bb, 0, none⟩) c.us.length uc) ⟨c.room.drop 1, c.us⟩ from by
                have k1 := KT.put (p := ⟨Z, 0, none⟩) HC2.out.out (.slice (some ⟨rb, ro + 1, none⟩) 2 (rc - 1))
                have hb := heap_put (k := 0) HC2.out.out (.slice (some ⟨rb, ro + 1, none⟩) 2 (rc - 1))
                obtain ⟨_, _, _, _, hav, hr, hu⟩ := HC2.out.own.open
                simp only [Value.agg.injEq, Array.mk.injEq, List.cons.injEq, and_true, Value.slice.injEq, true_and] at hav
                obtain ⟨⟨rfl, rfl⟩, hua, rfl⟩ := hav
                subst hua
                exact ⟨HC2.out.dr.own (Below.setCell (p := ⟨Z, 0, none⟩) (Below.refl _ _) (Nat.le_of_lt HC2.out.lo) _) k1 (by decide), (Below.heap_setCell _ ⟨Z, 0, none⟩ _ _ (by have := HC2.out.lo; simp; omega)).trans HC2.out.res, by simpa using hb,
                  ⟨_, _, rfl, HR3.out.kt k1 (by decide), hu.kt k1 (by decide) (by decide) (by decide)⟩, HC2.out.lo⟩)
              have y0 := cell_of_heap HC2.out.out 0
              have y1 := cell_of_heap HC2.out.out 1
              have f0 := frozen_of_heap HC2.out.out 0
              have x0 := cell_of_heap HX.out.out 0
              have x1 := cell_of_heap HX.out.out 1
              have z0 := cell_of_heap HX.out.res 0
              have z1 := cell_of_heap HX.out.res 1
              have g0 := frozen_of_heap HX.out.res 0
              have g1 := frozen_of_heap HX.out.res 1
              have FF := Lib.hid (cz_end (P := P) HX.out DC.out.cutl (by omega))
              clear HX HR3 hr HC2
              go_wp2_with fail
              refine bodyPost_ret (v := .agg #[(.slice (some ⟨rb, ro + 1, none⟩) 2 (rc - 1)), (.slice (some ⟨bb, 0, none⟩) c.us.length uc)]) ?_ rfl FF.out
              simp [results, Try.results16, go_sem, z0, z1]
            · have q2' : (((q : Nat) : Int) == 2) = false := by simp; omega
              clear q2 hr
              have y0 := cell_of_heap HC2.out.out 0
              have y1 := cell_of_heap HC2.out.out 1
              have z0 := cell_of_heap HC2.out.res 0
              have z1 := cell_of_heap HC2.out.res 1
              have g0 := frozen_of_heap HC2.out.res 0
              have g1 := frozen_of_heap HC2.out.res 1
              have FF := Lib.hid (cz_end (P := P) HC2.out DC.out.dl (by omega))
              go_wp2_with fail
              refine bodyPost_ret (v := .agg #[(.slice ra c.room.length rc), (.slice (some ⟨bb, 0, none⟩) c.us.length uc)]) ?_ rfl FF.out
              simp [results, Try.results16, go_sem, z0, z1]
      · have hz' : ¬ ((0 : Int) < (c.us.length : Int)) := by omega
        clear y0 y1 HUC HRC
        have y0 := cell_of_heap HC0.out.out 0
        have y1 := cell_of_heap HC0.out.out 1
        have z0 := cell_of_heap HC0.out.res 0
        have z1 := cell_of_heap HC0.out.res 1
        have g0 := frozen_of_heap HC0.out.res 0
        have g1 := frozen_of_heap HC0.out.res 1
        have FF := Lib.hid (cz_end (P := P) HC0.out DC.out.dl (by omega))
        go_wp2_with fail
        refine bodyPost_ret (v := .agg #[(.slice ra c.room.length rc), (.slice ua c.us.length uc)]) ?_ rfl FF.out
        simp [results, Try.results16, go_sem, z0, z1]

end Go.Proofs.Ytfidamjepjgknaa
end

/- The draws of clusters, and of numbers of their tasks (printed by gen_drc.py). No condition. -/
section
namespace Go.Proofs.Ytfidamjepjgknaa
set_option maxRecDepth 100000
open Go.RowKit

theorem ArgCode.ext {w w' : World} {v : Value} {n : Nat} (h : ArgCode w v n) (k : Ext w w') : ArgCode w' v n := by
  obtain ⟨hn, a, c, hv, hc, hx⟩ := h
  exact ⟨hn, a, c, hv, hc, fun h0 => let ⟨b, off, ha, hk⟩ := hx h0; ⟨b, off, ha, fun j hj => let ⟨x, h1, h2⟩ := hk j hj; ⟨x, h1, k.cell h2⟩⟩⟩
theorem UnitCells.kt {w w' : World} {xs : List Value} {us : List Un} {e : TypeId} (h : UnitCells w xs us) (k : KT e w w') (n1 : 3 ≠ e) (n2 : 37 ≠ e) : UnitCells w' xs us :=
  ⟨h.1, fun j hj => ⟨(h.2 j hj).1, let ⟨n, hn, hi⟩ := (h.2 j hj).2; ⟨n, hn, hi.kt k n1 n2⟩⟩⟩
theorem Clu.kt {w w' : World} {v : Value} {c : C} {e : TypeId} (h : Clu w v c) (k : KT e w w') (n1 : 3 ≠ e) (n2 : 37 ≠ e) (n3 : 31 ≠ e) : Clu w' v c := by
  obtain ⟨r, u, hv, h1, hl, a, cap, xs, hu, hr, hc⟩ := h
  exact ⟨r, u, hv, h1.kt k n1, hl, a, cap, xs, hu, hr.kt k n3, hc.kt k n1 n2⟩
/-- A drawn cluster. -/
def DrawnC (w : World) (e : Ending) (w' : World) : Prop := ∃ ra rc ua uc c, e = .returned (.agg #[.slice ra c.room.length rc, .slice ua c.us.length uc]) ∧ Clu w' (.agg #[.slice ra c.room.length rc, .slice ua c.us.length uc]) c ∧ c.us.length ≤ uc ∧ Dl c ∧ Ext w w'
/-- A drawn cluster, and a number. -/
def DrawnI (w : World) (e : Ending) (w' : World) : Prop := ∃ ra rc ua uc c, ∃ k : Int, e = .returned (.tuple #[(.agg #[.slice ra c.room.length rc, .slice ua c.us.length uc]), .int .i64 k]) ∧ Clu w' (.agg #[.slice ra c.room.length rc, .slice ua c.us.length uc]) c ∧ c.us.length ≤ uc ∧ Dl c ∧ Ext w w'

set_option maxHeartbeats 1000000 in
theorem DrawClusterValid_any (v : Value) (n : Nat) (w : World) (h : ArgCode w v n) : Calls Try.prog 6 #[v] w (DrawnC w) := by
  have A0 := Lib.hid (h.ext ((Ext.refl w).alloc (Obj.cells #[.slice none 0 0, .slice none 0 0] 26)))
  have E0 := Lib.hid ((Ext.refl w).alloc (Obj.cells #[.slice none 0 0, .slice none 0 0] 26))
  have R0 := Lib.hid (heap_alloc_new w (Obj.cells #[.slice none 0 0, .slice none 0 0] 26))
  clear h
  go_enter Try.func6, Try.ntmps6
  go_wp2_with fail
  generalize w.alloc (Obj.cells #[.slice none 0 0, .slice none 0 0] 26) = W0 at *
  refine (l6Open_any _ _ _ A0.out).mono ?_
  rintro e w1 ⟨r, rfl, hE, hr⟩
  have E1 := Lib.hid hE
  have HR := Lib.hid hr
  clear hE hr A0
  go_wp2_with fail
  refine (l92Cluster_any _ _ _ _ HR.out (by omega)).mono ?_
  rintro e w2 ⟨ra, rc, ua, uc, c, rfl, hc, hu, hd, dr⟩
  have E2 := E1.out.below dr.bl
  have Z2 := (E2.block (lt_of_heap R0.out)).trans R0.out
  have z0 := cell_of_heap Z2 0
  have z1 := cell_of_heap Z2 1
  have g0 := frozen_of_heap Z2 0
  have g1 := frozen_of_heap Z2 1
  have q := cbox_put Z2 (.slice ra c.room.length rc) (.slice ua c.us.length uc)
  have FF := Lib.hid (show DrawnC w (.returned (.agg #[.slice ra c.room.length rc, .slice ua c.us.length uc])) _ from ⟨ra, rc, ua, uc, c, rfl, hc.kt q.1 (by decide) (by decide) (by decide), hu, hd, ((E0.out.trans E2).setCell (p := ⟨w.heap.size, 0, none⟩) (Nat.le_refl _) (.slice ra c.room.length rc)).setCell (p := ⟨w.heap.size, 1, none⟩) (Nat.le_refl _) (.slice ua c.us.length uc)⟩)
  clear q hc hu hd dr E2
  go_wp2_with fail
  refine bodyPost_ret (v := (.agg #[.slice ra c.room.length rc, .slice ua c.us.length uc])) ?_ rfl FF.out
  simp [results, Try.results6, go_sem, z0, z1]

set_option maxHeartbeats 1000000 in
theorem DrawClusterCounts_any (v : Value) (n : Nat) (w : World) (h : ArgCode w v n) : Calls Try.prog 12 #[v] w (DrawnC w) := by
  have A0 := Lib.hid (h.ext ((Ext.refl w).alloc (Obj.cells #[.slice none 0 0, .slice none 0 0] 26)))
  have E0 := Lib.hid ((Ext.refl w).alloc (Obj.cells #[.slice none 0 0, .slice none 0 0] 26))
  have R0 := Lib.hid (heap_alloc_new w (Obj.cells #[.slice none 0 0, .slice none 0 0] 26))
  clear h
  go_enter Try.func12, Try.ntmps12
  go_wp2_with fail
  generalize w.alloc (Obj.cells #[.slice none 0 0, .slice none 0 0] 26) = W0 at *
  refine (l6Open_any _ _ _ A0.out).mono ?_
  rintro e w1 ⟨r, rfl, hE, hr⟩
  have E1 := Lib.hid hE
  have HR := Lib.hid hr
  clear hE hr A0
  go_wp2_with fail
  refine (l92Cluster_any _ _ _ _ HR.out (by omega)).mono ?_
  rintro e w2 ⟨ra, rc, ua, uc, c, rfl, hc, hu, hd, dr⟩
  have E2 := E1.out.below dr.bl
  have Z2 := (E2.block (lt_of_heap R0.out)).trans R0.out
  have z0 := cell_of_heap Z2 0
  have z1 := cell_of_heap Z2 1
  have g0 := frozen_of_heap Z2 0
  have g1 := frozen_of_heap Z2 1
  have q := cbox_put Z2 (.slice ra c.room.length rc) (.slice ua c.us.length uc)
  have FF := Lib.hid (show DrawnC w (.returned (.agg #[.slice ra c.room.length rc, .slice ua c.us.length uc])) _ from ⟨ra, rc, ua, uc, c, rfl, hc.kt q.1 (by decide) (by decide) (by decide), hu, hd, ((E0.out.trans E2).setCell (p := ⟨w.heap.size, 0, none⟩) (Nat.le_refl _) (.slice ra c.room.length rc)).setCell (p := ⟨w.heap.size, 1, none⟩) (Nat.le_refl _) (.slice ua c.us.length uc)⟩)
  clear q hc hu hd dr E2
  go_wp2_with fail
  refine bodyPost_ret (v := (.agg #[.slice ra c.room.length rc, .slice ua c.us.length uc])) ?_ rfl FF.out
  simp [results, Try.results12, go_sem, z0, z1]

set_option maxHeartbeats 1000000 in
theorem l92Id_any (r v : Value) (B P : Nat) (c : C) (w : World) (h : Rdr w B r P) (hP : P ≤ 100000) (hc : Clu w v c) (d : Dl c) :
    Calls Try.prog 45 #[r, v] w fun e w' => ∃ k : Int, e = .returned (.int .i64 k) ∧ Dr B r (P + 2) w w' := by
  have D0 := Lib.hid (Dr.start h)
  have h0 := hc
  obtain ⟨ra, rc, ua, uc, rfl, -, -⟩ := hc.open
  have E0 := Lib.hid ((Ext.refl w).alloc (Obj.cells #[.slice ra c.room.length rc, .slice ua c.us.length uc] 26))
  have H0 := Lib.hid (h0.ext E0.out)
  have O0 := Lib.hid (heap_alloc_new w (Obj.cells #[.slice ra c.room.length rc, .slice ua c.us.length uc] 26))
  have HL := Lib.hid d
  have hus := d.us
  have hfl := d.fl
  clear h h0 hc d
  go_enter Try.func45, Try.ntmps45
  go_wp2_with fail
  generalize w.alloc (Obj.cells #[.slice ra c.room.length rc, .slice ua c.us.length uc] 26) = W0 at *
  refine (l21Bins_any _ c W0 H0.out).mono ?_
  rintro e w1 ⟨vb, rfl, hE, ho⟩
  have D1 := Lib.hid (D0.out.ext (E0.out.trans hE))
  have B1 := Lib.hid (ho.done (by rw [binsC_len]; unfold lim; omega))
  clear hE ho D0 E0 H0 O0
  go_wp2_with fail
  refine (l91Id_any _ _ B _ _ _ D1.out.rd hP B1.out (by omega)).mono ?_
  rintro e w2 ⟨k, rfl, d2⟩
  have D2 := Lib.hid (D1.out.trans d2)
  clear d2 D1
  go_wp2
  go_ret
  exact ⟨_, rfl, D2.out⟩

set_option maxHeartbeats 4000000 in
theorem DrawClusterDepart_any (v : Value) (n : Nat) (w : World) (h : ArgCode w v n) : Calls Try.prog 26 #[v] w (DrawnI w) := by
  have A0 := Lib.hid (h.ext ((Ext.refl w).alloc (Obj.cells #[.slice none 0 0, .slice none 0 0] 26)))
  have E0 := Lib.hid ((Ext.refl w).alloc (Obj.cells #[.slice none 0 0, .slice none 0 0] 26))
  have R0 := Lib.hid (heap_alloc_new w (Obj.cells #[.slice none 0 0, .slice none 0 0] 26))
  clear h
  go_enter Try.func26, Try.ntmps26
  go_wp2_with fail
  generalize w.alloc (Obj.cells #[.slice none 0 0, .slice none 0 0] 26) = W0 at *
  refine (l6Open_any _ _ _ A0.out).mono ?_
  rintro e w1 ⟨r, rfl, hE, hr⟩
  have E1 := Lib.hid hE
  have HR := Lib.hid hr
  clear hE hr A0
  go_wp2_with fail
  refine (l92Cluster_any _ _ _ _ HR.out (by omega)).mono ?_
  rintro e w2 ⟨ra, rc, ua, uc, c, rfl, hc, hu, hd, dr⟩
  have E2 := Lib.hid (E1.out.below dr.bl)
  have DL := Lib.hid hd
  have O3 := Lib.hid (heap_alloc_new w2 (Obj.cells #[.slice ra c.room.length rc, .slice ua c.us.length uc] 26))
  have C3 := Lib.hid (hc.ext ((Ext.refl w2).alloc (Obj.cells #[.slice ra c.room.length rc, .slice ua c.us.length uc] 26)))
  have R3 := Lib.hid (dr.rd.ext ((Ext.refl w2).alloc (Obj.cells #[.slice ra c.room.length rc, .slice ua c.us.length uc] 26)))
  have E3 := Lib.hid (E2.out.alloc (Obj.cells #[.slice ra c.room.length rc, .slice ua c.us.length uc] 26))
  have Z3 := Lib.hid ((E3.out.block (lt_of_heap R0.out)).trans R0.out)
  have SZ := Lib.hid (show w1.heap.size ≤ w2.heap.size from dr.size)
  clear hc hd dr E2
  go_wp2_with fail
  generalize w2.alloc (Obj.cells #[.slice ra c.room.length rc, .slice ua c.us.length uc] 26) = W3 at *
  refine wp_region_held_drew (S := fun w' => w'.heap[w2.heap.size]? = some (Obj.cells #[.slice ra c.room.length rc, .slice ua c.us.length uc] 26)) (by kernel_rfl) (((Ext.refl _).drew.block (lt_of_heap O3.out)).trans O3.out) (fun hHeld => ?_)
  refine takeH (i := 0) (d := some 10) (v := ?_) rfl rfl (by kernel_rfl) (by kernel_rfl) (by kernel_rfl) (fun _ _ _ h => h) (by rfl) ?_ (by assumption) ?_
  rotate_left
  · intro w hSw; (try dsimp only at hSw); (try have l0 := cell_of_heap hSw 0; have l1 := cell_of_heap hSw 1; go_simp); (try with_reducible rfl)
  try simp only [Act.put, List.setIfInBounds_toArray, List.set_cons_zero, List.set_cons_succ]
  refine takeH (i := 1) (d := some 11) (v := ?_) rfl rfl (by kernel_rfl) (by kernel_rfl) (by kernel_rfl) (fun _ _ _ h => h) (by rfl) ?_ (by assumption) ?_
  rotate_left
  · intro w hSw; (try dsimp only at hSw); (try go_simp); (try with_reducible rfl)
  try simp only [Act.put, List.setIfInBounds_toArray, List.set_cons_zero, List.set_cons_succ]
  refine takeH (i := 2) (d := some 12) (v := ?_) rfl rfl (by kernel_rfl) (by kernel_rfl) (by kernel_rfl) (fun _ _ _ h => h) (by rfl) ?_ (by assumption) ?_
  rotate_left
  · intro w hSw; (try dsimp only at hSw); (try have l0 := cell_of_heap hSw 0; have l1 := cell_of_heap hSw 1; go_simp); (try with_reducible rfl)
  try simp only [Act.put, List.setIfInBounds_toArray, List.set_cons_zero, List.set_cons_succ]
  refine oneH (i := 3) (by kernel_rfl) rfl (by rfl) (fun K hK => ?_)
  go_simp
  refine (l92Id_any _ _ _ _ c _ (R3.out.ext (Ext.refl W3).drew) (by omega) (C3.out.ext (Ext.refl W3).drew) DL.out).mono ?_; rintro e w4 ⟨k, rfl, d4⟩; have D4 := Lib.hid d4; have O4 := Lib.hid (d4.heap (((Ext.refl W3).drew.block (lt_of_heap O3.out)).trans O3.out) (by decide)); have C4 := Lib.hid ((C3.out.ext (Ext.refl W3).drew).kt d4.kt (by decide) (by decide) (by decide)); have Z4 := Lib.hid (d4.heap (((Ext.refl W3).drew.block (lt_of_heap Z3.out)).trans Z3.out) (by decide)); clear d4
  try dsimp only
  refine hK.out _ _ (O4.out) (fun hHeld => ?_)
  clear hK K
  try simp only [Act.put, List.setIfInBounds_toArray, List.set_cons_zero, List.set_cons_succ]
  have z0 := cell_of_heap Z4.out 0
  have z1 := cell_of_heap Z4.out 1
  have g0 := frozen_of_heap Z4.out 0
  have g1 := frozen_of_heap Z4.out 1
  have q := cbox_put Z4.out (.slice ra c.room.length rc) (.slice ua c.us.length uc)
  have O5 := Lib.hid ((q.2.2.1 _ (fun e => by have := lt_of_heap Z4.out; have := lt_of_heap R0.out; have := E1.out.le; have := SZ.out; omega)).trans O4.out)
  refine oneH (i := 4) (by kernel_rfl) rfl (by rfl) (fun K hK => ?_)
  go_simp
  try dsimp only
  refine hK.out _ _ (O5.out) (fun hHeld => ?_)
  clear hK K
  try simp only [Act.put, List.setIfInBounds_toArray, List.set_cons_zero, List.set_cons_succ]
  refine takeH (i := 5) (d := some 3) (v := ?_) rfl rfl (by kernel_rfl) (by kernel_rfl) (by kernel_rfl) (fun _ _ _ h => h) (by rfl) ?_ (by assumption) ?_
  rotate_left
  · intro w hSw; (try dsimp only at hSw); (try go_simp); (try with_reducible rfl)
  try simp only [Act.put, List.setIfInBounds_toArray, List.set_cons_zero, List.set_cons_succ]
  refine wpAnyH_done (by kernel_rfl) ?_ _
  have E4 := E3.out.drew.below D4.out.bl
  have FF := Lib.hid (show DrawnI w (.returned (.tuple #[(.agg #[.slice ra c.room.length rc, .slice ua c.us.length uc]), .int .i64 k])) _ from ⟨ra, rc, ua, uc, c, k, rfl, C4.out.kt q.1 (by decide) (by decide) (by decide), hu, DL.out, ((E0.out.trans E4).setCell (p := ⟨w.heap.size, 0, none⟩) (Nat.le_refl _) (.slice ra c.room.length rc)).setCell (p := ⟨w.heap.size, 1, none⟩) (Nat.le_refl _) (.slice ua c.us.length uc)⟩)
  clear q E4 D4 C4 O4 O5
  go_wp2_with fail
  refine bodyPost_ret (v := .tuple #[(.agg #[.slice ra c.room.length rc, .slice ua c.us.length uc]), .int .i64 k]) ?_ rfl FF.out
  simp [results, Try.results26, go_sem, z0, z1]

set_option maxHeartbeats 1000000 in
theorem DrawClusterWhere_any (v : Value) (n : Nat) (w : World) (h : ArgCode w v n) : Calls Try.prog 9 #[v] w (DrawnI w) := by
  have A0 := Lib.hid (h.ext ((Ext.refl w).alloc (Obj.cells #[.slice none 0 0, .slice none 0 0] 26)))
  have E0 := Lib.hid ((Ext.refl w).alloc (Obj.cells #[.slice none 0 0, .slice none 0 0] 26))
  have R0 := Lib.hid (heap_alloc_new w (Obj.cells #[.slice none 0 0, .slice none 0 0] 26))
  clear h
  go_enter Try.func9, Try.ntmps9
  go_wp2_with fail
  generalize w.alloc (Obj.cells #[.slice none 0 0, .slice none 0 0] 26) = W0 at *
  refine (DrawClusterDepart_any _ _ _ A0.out).mono ?_
  rintro e w1 ⟨ra, rc, ua, uc, c, k, rfl, hc, hu, hd, E2⟩
  have Z2 := (E2.block (lt_of_heap R0.out)).trans R0.out
  have z0 := cell_of_heap Z2 0
  have z1 := cell_of_heap Z2 1
  have g0 := frozen_of_heap Z2 0
  have g1 := frozen_of_heap Z2 1
  have q := cbox_put Z2 (.slice ra c.room.length rc) (.slice ua c.us.length uc)
  have FF := Lib.hid (show DrawnI w (.returned (.tuple #[(.agg #[.slice ra c.room.length rc, .slice ua c.us.length uc]), .int .i64 k])) _ from ⟨ra, rc, ua, uc, c, k, rfl, hc.kt q.1 (by decide) (by decide) (by decide), hu, hd, ((E0.out.trans E2).setCell (p := ⟨w.heap.size, 0, none⟩) (Nat.le_refl _) (.slice ra c.room.length rc)).setCell (p := ⟨w.heap.size, 1, none⟩) (Nat.le_refl _) (.slice ua c.us.length uc)⟩)
  clear q hc hu hd E2
  go_wp2_with fail
  refine bodyPost_ret (v := .tuple #[(.agg #[.slice ra c.room.length rc, .slice ua c.us.length uc]), .int .i64 k]) ?_ rfl FF.out
  simp [results, Try.results9, go_sem, z0, z1]

end Go.Proofs.Ytfidamjepjgknaa
end
