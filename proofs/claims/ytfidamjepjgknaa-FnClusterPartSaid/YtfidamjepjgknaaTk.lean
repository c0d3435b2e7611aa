/- The reference takes a task out of nodes, and moves it. No condition. -/
import Derived.Test.YtfidamjepjgknaaPl
import Derived.Test.YtfidamjepjgknaaS12
namespace Go.Proofs.Ytfidamjepjgknaa
set_option maxRecDepth 100000
open Go.RowKit

/-- Nodes whose rows lie from C on and before D. -/
def OutB (w : World) (B C D : Nat) (v : Value) (bs : List (List T)) : Prop :=
  ∃ xs, w.ownsRow B 29 1 v bs.length xs ∧ xs.length = bs.length ∧ ∀ k (h : k < bs.length), ∃ n, xs[k]? = some n ∧ OwnTasks w C n bs[k] ∧ ∀ g, n.ownBlock = some g → g < D
theorem OutB.keep {w w' : World} {B C D : Nat} {v : Value} {bs : List (List T)} (h : OutB w B C D v bs) (kt : KT 37 w w') (hb : ∀ g, C ≤ g → g < D → w'.heap[g]? = w.heap[g]?) : OutB w' B C D v bs := by
  obtain ⟨xs, h1, h2, h3⟩ := h
  refine ⟨xs, ownsRow_kt h1 kt (by decide), h2, fun k hk => ?_⟩
  obtain ⟨n, hn, ⟨ys, ho, hc⟩, hd⟩ := h3 k hk
  exact ⟨n, hn, ⟨ys, ownsRow_keep ho fun g hg _ => hb g (ho.lt g hg).1 (hd g hg), hc.kt kt (by decide)⟩, hd⟩
theorem OutB.ext {w w' : World} {B C D : Nat} {v : Value} {bs : List (List T)} (h : OutB w B C D v bs) (k : Ext w w') : OutB w' B C D v bs := by
  obtain ⟨xs, h1, h2, h3⟩ := h
  exact ⟨xs, ownsRow_ext h1 k, h2, fun j hj => let ⟨n, hn, ho, hd⟩ := h3 j hj; ⟨n, hn, ho.ext k, hd⟩⟩
theorem OutB.up {w : World} {B C D D' : Nat} {v : Value} {bs : List (List T)} (h : OutB w B C D v bs) (hd : D ≤ D') : OutB w B C D' v bs := by
  obtain ⟨xs, h1, h2, h3⟩ := h
  exact ⟨xs, h1, h2, fun j hj => let ⟨n, hn, ho, hx⟩ := h3 j hj; ⟨n, hn, ho, fun g hg => Nat.lt_of_lt_of_le (hx g hg) hd⟩⟩
theorem OutB.form {w : World} {B C D : Nat} {v : Value} {bs : List (List T)} (h : OutB w B C D v bs) : ∃ a c, v = .slice a bs.length c := by
  obtain ⟨xs, ⟨_, h1⟩, _⟩ := h
  rcases h1 with ⟨rfl, hn⟩ | ⟨g, cap, cur, rfl, _⟩
  · exact ⟨none, 0, by rw [hn]⟩
  · exact ⟨_, cap, rfl⟩
theorem OutB.done {w : World} {B C D : Nat} {v : Value} {bs : List (List T)} (h : OutB w B C D v bs) (hl : bs.length ≤ lim) (hb : ∀ b ∈ bs, b.length ≤ lim) : Bins w v bs := by
  obtain ⟨xs, h1, h2, h3⟩ := h
  exact Bins.of_own h1 ⟨h2, fun k hk => let ⟨n, a, b, _⟩ := h3 k hk; ⟨n, a, b.done (hb _ (List.getElem_mem hk))⟩⟩ hl
theorem OutB.nil {w : World} {B : Nat} (C D : Nat) {v : Value} (h : OwnBins w B v []) : OutB w B C D v [] := let ⟨xs, h, _⟩ := h; ⟨xs, h, by have := h.1; simpa using this, fun _ h => by simp at h⟩
theorem ownBlock_lt {w : World} {C : Nat} {n : Value} {ts : List T} (h : OwnTasks w C n ts) : ∀ g, n.ownBlock = some g → g < w.heap.size := fun g hg => by
  obtain ⟨ys, ho, _⟩ := h
  exact (ho.lt g hg).2
section
variable {w : World} {ops : Array Oper} {rest : List Oper} {o : Oper} {a : Act} {Q : Exit → Act → World → Prop}
theorem app_out (hgd : o.guard = none) (s x : Operand) (ho : o.op = .call { callee := .builtin .append, args := #[s, x], argTypes := #[46, 46] }) (B C D : Nat) (v : Value) (bs : List (List T)) (hs : a.eval s = v) (hout : OutB w B C D v bs) (hB : B ≤ w.heap.size) (hD : D ≤ w.heap.size)
    (src : Option Addr) (c : Nat) (n : Value) (ts : List T) (hx : a.eval x = .slice src 1 c) (hrow : Row w 29 src [n]) (hn : OwnTasks w C n ts) (hl : bs.length + 1 ≤ lim)
    (h : ∀ v' w', OutB w' B C w.heap.size v' (bs ++ [ts]) → KT 29 w w' → Below B w w' → wpList Try.prog ops Q rest (a.put o.dst v') w') : wpList Try.prog ops Q (o :: rest) a w := by
  obtain ⟨xs, hown, hxl, hnode⟩ := hout
  unfold lim at hl
  have hone : n.oneCell' = true := by
    obtain ⟨_, ⟨_, hn⟩, _⟩ := hn
    rcases hn with ⟨rfl, _⟩ | ⟨_, _, _, rfl, _⟩ <;> rfl
  refine wpList_plain hgd fun _ hK => wp_app elt_bin s x ho B v bs.length xs hs hown hB src 1 c [n] hx rfl _ hrow (by simpa using hone) (by omega) (by unfold maxLen; omega) (fun v' w' h1 h2 h3 => hK _ _ (h v' w' ?_ h2 h3))
  refine ⟨xs ++ [n], by simpa using h1, by simp [hxl], fun k hk => ?_⟩
  simp only [List.length_append, List.length_singleton] at hk
  by_cases hlt : k < bs.length
  · obtain ⟨m, hm, hom, hd⟩ := hnode k hlt
    refine ⟨m, by rw [List.getElem?_append_left (by omega), hm], ?_, fun g hg => Nat.lt_of_lt_of_le (hd g hg) hD⟩
    rw [List.getElem_append_left hlt]
    exact hom.kt h2 (by decide) (by decide)
  · have e : k = bs.length := by omega
    subst e
    refine ⟨n, by rw [← hxl, List.getElem?_append_right (Nat.le_refl _)]; simp, ?_, ownBlock_lt hn⟩
    rw [List.getElem_append_right (Nat.le_refl _)]
    simpa using hn.kt h2 (by decide) (by decide)
end
/-- A task's box is written. -/
theorem box_put {w : World} {y : Nat} {a b : Value} (hy : w.heap[y]? = some (.cells #[a, b] 37 (0, 0))) (u0 u1 : Value) :
    KT 37 w ((w.setCell ⟨y, 0, none⟩ u0).setCell ⟨y, 1, none⟩ u1) ∧ ((w.setCell ⟨y, 0, none⟩ u0).setCell ⟨y, 1, none⟩ u1).heap[y]? = some (.cells #[u0, u1] 37 (0, 0)) ∧ (∀ g, g ≠ y → ((w.setCell ⟨y, 0, none⟩ u0).setCell ⟨y, 1, none⟩ u1).heap[g]? = w.heap[g]?) ∧ ((w.setCell ⟨y, 0, none⟩ u0).setCell ⟨y, 1, none⟩ u1).heap.size = w.heap.size := by
  have h1 := heap_put (k := 0) hy u0
  have h2 := heap_put (k := 1) h1 u1
  refine ⟨⟨by simp, fun b cs t fz hb ht => ?_⟩, by simpa using h2, fun g hg => (Below.heap_setCell _ ⟨y, 1, none⟩ u1 g hg).trans (Below.heap_setCell _ ⟨y, 0, none⟩ u0 g hg), by simp⟩
  have e1 := (KT.put (p := ⟨y, 0, none⟩) hy u0).2 b cs t fz hb ht
  exact ((KT.put (p := ⟨y, 1, none⟩) h1 u1).2 b cs t fz (e1.trans hb) ht).trans e1
theorem rest_take {bs : List (List T)} {k : Nat} (h : k < bs.length) (id : Int) : restL (bs.take (k + 1)) id = restL (bs.take k) id ++ [bs[k].filter fun t => !(t.id == id)] := by
  unfold restL
  rw [List.take_succ_eq_append_getElem h, List.map_append]
  rfl
theorem rest_len (bs : List (List T)) (id : Int) : (restL bs id).length = bs.length := by simp [restL]
theorem found_flat {bs : List (List T)} {k : Nat} (h : k < bs.length) (id : Int) (d : T) : foundL id (bs.take (k + 1)).flatten d = foundL id bs[k] (foundL id (bs.take k).flatten d) := by
  rw [List.take_succ_eq_append_getElem h, List.flatten_append, foundL_app]; simp
theorem found_step {b : List T} {q : Nat} (h : q < b.length) (id : Int) (d : T) : foundL id (b.take (q + 1)) d = if b[q].id = id then b[q] else foundL id (b.take q) d := by
  rw [List.take_succ_eq_append_getElem h, foundL_app]; rfl
theorem filt_step {b : List T} {q : Nat} (h : q < b.length) (id : Int) : (b.take (q + 1)).filter (fun t => !(t.id == id)) = if b[q].id = id then (b.take q).filter (fun t => !(t.id == id)) else (b.take q).filter (fun t => !(t.id == id)) ++ [b[q]] := by
  rw [List.take_succ_eq_append_getElem h, List.filter_append]
  by_cases e : b[q].id = id <;> simp [e]

/-- What the loops keep: the box X of the task, the result's box R. -/
structure Tk (w wr : World) (R X : Nat) (u : T) : Prop where
  ext : Ext w wr
  box : ∃ na nc, wr.heap[X]? = some (.cells #[.int .i64 u.id, .slice na u.need.length nc] 37 (0, 0)) ∧ Ints wr (.slice na u.need.length nc) u.need
  res : wr.heap[R]? = some (.cells #[.int .i64 0, .slice none 0 0] 37 (0, 0))
theorem Tk.more {w wr w' : World} {R X : Nat} {u : T} (h : Tk w wr R X u) (k : Ext wr w') : Tk w w' R X u := by
  obtain ⟨h1, ⟨na, nc, h2, h3⟩, h4⟩ := h
  exact ⟨h1.trans k, ⟨na, nc, (k.block (lt_of_heap h2)).trans h2, h3.ext k⟩, (k.block (lt_of_heap h4)).trans h4⟩
theorem Tk.below {w wr w' : World} {R X D : Nat} {u : T} {e : TypeId} (h : Tk w wr R X u) (hk : KT e wr w') (ne : 3 ≠ e) (k : Below D wr w') (hR : R < D) (hX : X < D) (hw : w.heap.size ≤ D) : Tk w w' R X u := by
  obtain ⟨h1, ⟨na, nc, h2, h3⟩, h4⟩ := h
  exact ⟨Below.trans h1 (Below.mono k hw), ⟨na, nc, (k.block _ hX).trans h2, h3.kt hk ne⟩, (k.block _ hR).trans h4⟩
theorem Tk.put {w wr : World} {R X : Nat} {u t : T} {na : Option Addr} {nc : Nat} (h : Tk w wr R X u) (hn : Ints wr (.slice na t.need.length nc) t.need) (hX : w.heap.size ≤ X) (ne : R ≠ X) : Tk w ((wr.setCell ⟨X, 0, none⟩ (.int .i64 t.id)).setCell ⟨X, 1, none⟩ (.slice na t.need.length nc)) R X t := by
  obtain ⟨h1, ⟨na', nc', h2, h3⟩, h4⟩ := h
  obtain ⟨k1, k2, k3, k4⟩ := box_put h2 (.int .i64 t.id) (.slice na t.need.length nc)
  exact ⟨(h1.setCell (p := ⟨X, 0, none⟩) hX _).setCell (p := ⟨X, 1, none⟩) hX _, ⟨na, nc, k2, hn.kt k1 (by decide)⟩, (k3 R ne).trans h4⟩

set_option maxHeartbeats 8000000 in
theorem l15Take_own (u : Value) (id : Int) (bs : List (List T)) (w : World) (h : Bins w u bs) (hl : bs.length ≤ 1000) (hb : ∀ b ∈ bs, b.length ≤ 1000) :
    Calls Try.prog 53 #[u, .int .i64 id] w fun e w' => ∃ a c na nc x, x = foundL id bs.flatten ⟨0, []⟩ ∧ e = .returned (.tuple #[.slice a bs.length c, .agg #[.int .i64 x.id, .slice na x.need.length nc]]) ∧ Ext w w' ∧ OutB w' w.heap.size (w.heap.size + 3) w'.heap.size (.slice a bs.length c) (restL bs id) ∧ Ints w' (.slice na x.need.length nc) x.need := by
  obtain ⟨a, c, rfl, h⟩ := h.open
  have Hb := Lib.hid h
  have HBL := Lib.hid hb
  clear h hb
  go_enter Try.func53, Try.ntmps53
  go_wp2_with fail
  have TK0 := Lib.hid (show Tk w (((w.alloc (.cells #[.int .i64 0, .slice none 0 0] 37)).alloc (.cells #[] 29)).alloc (.cells #[.int .i64 0, .slice none 0 0] 37)) w.heap.size (w.heap.size + 1 + 1) ⟨0, []⟩ from
    ⟨(((Ext.refl w).alloc _).alloc _).alloc _, ⟨none, 0, heap_push _ _ (by simp), Ints.nil _⟩, heap_skip _ _ (heap_skip _ _ (heap_alloc_new w _))⟩)
  have OB0 := Lib.hid (show OutB (((w.alloc (.cells #[.int .i64 0, .slice none 0 0] 37)).alloc (.cells #[] 29)).alloc (.cells #[.int .i64 0, .slice none 0 0] 37)) w.heap.size (w.heap.size + 3) (((w.alloc (.cells #[.int .i64 0, .slice none 0 0] 37)).alloc (.cells #[] 29)).alloc (.cells #[.int .i64 0, .slice none 0 0] 37)).heap.size (.slice (some ⟨w.heap.size + 1, 0, none⟩) 0 0) [] from
    (OutB.nil _ _ (OwnBins.lit0' (w.alloc _) w.heap.size (by simp) (w.heap.size + 1) (by simp))).ext ((Ext.refl _).alloc _))
  generalize ((w.alloc (.cells #[.int .i64 0, .slice none 0 0] 37)).alloc (.cells #[] 29)).alloc (.cells #[.int .i64 0, .slice none 0 0] 37) = W0 at *
  go_loopw [6, 8] (fun s i wr => ∃ (k : Nat) (x : T) (sa : Option Addr) (sc : Nat), k ≤ bs.length ∧ i = .int .i64 k ∧ s = .slice sa k sc ∧ OutB wr w.heap.size (w.heap.size + 3) wr.heap.size (.slice sa k sc) (restL (bs.take k) id) ∧ Tk w wr w.heap.size (w.heap.size + 1 + 1) x ∧ x = foundL id (bs.take k).flatten ⟨0, []⟩) (fun _ i _ => bs.length - (intOf i).toNat)
  case atStart => exact ⟨0, ⟨0, []⟩, _, _, by omega, rfl, rfl, OB0.out, TK0.out, rfl⟩
  case round =>
    clear OB0 TK0
    obtain ⟨k, x, sa, sc, hk, rfl, rfl, ho, ht, hx⟩ := hrel
    have HT := Lib.hid ht
    have HO := Lib.hid ho
    have HX := Lib.hid hx
    have hXs : w.heap.size + 1 + 1 < wr.heap.size := by obtain ⟨_, _, h2, _⟩ := ht.box; exact lt_of_heap h2
    clear ho ht hx
    by_cases hlt : k < bs.length
    · have b0 : (0 : Int) ≤ (k : Int) := by omega
      have b1 : (k : Int) < (bs.length : Int) := by omega
      have HBK := Lib.hid (HBL.out _ (List.getElem_mem hlt))
      have HRT := Lib.hid (rest_take hlt id)
      have HFF := Lib.hid (found_flat hlt id ⟨0, []⟩)
      go_wp2_with fail
      have O1 := Lib.hid (OwnTasks.lit0 wr wr.heap.size (Nat.le_refl _))
      have E1 := Lib.hid ((Ext.refl wr).alloc (.cells #[] 37))
      generalize wr.alloc (.cells #[] 37) = W1 at *
      have hsz0 : wr.heap.size ≤ W1.heap.size := E1.out.le
      have O2s := Lib.hid (HO.out.ext E1.out)
      have T2s := Lib.hid (HT.out.more E1.out)
      clear HO HT E1
      generalize hD : wr.heap.size = D at *
      clear hD
      go_loopw [9, 10] (fun v j wi => ∃ (q : Nat) (y : T) (va : Option Addr) (m vc : Nat), q ≤ bs[k].length ∧ j = .int .i64 q ∧ v = .slice va m vc ∧ OwnTasks wi D (.slice va m vc) ((bs[k].take q).filter fun t => !(t.id == id)) ∧ OutB wi w.heap.size (w.heap.size + 3) D (.slice sa k sc) (restL (bs.take k) id) ∧ Tk w wi w.heap.size (w.heap.size + 1 + 1) y ∧ y = foundL id (bs[k].take q) x ∧ D ≤ wi.heap.size) (fun _ j _ => bs[k].length - (intOf j).toNat)
      case atStart => exact ⟨0, x, _, _, _, by omega, rfl, rfl, O1.out, O2s.out, T2s.out, rfl, hsz0⟩
      case round =>
        clear O1 O2s T2s
        obtain ⟨q, y, va, m, vc, hq, rfl, rfl, ho1, ho2, ht1, hy, hsz⟩ := hrel
        have HO1 := Lib.hid ho1
        have HO2 := Lib.hid ho2
        have HT1 := Lib.hid ht1
        have HY := Lib.hid hy
        obtain ⟨b, off, nd, he, c0, htk⟩ := (Hb.out.ext ht1.ext).at hlt
        subst he
        obtain ⟨ta, tc, rfl, htk⟩ := htk.open
        clear ho1 ho2 ht1 hy
        have hbk := HBK.out
        by_cases hlt2 : q < bs[k].length
        · obtain ⟨b2, off2, n2, hta, d0, d1, hn⟩ := htk.at hlt2
          subst hta
          obtain ⟨na, nc, rfl, hn⟩ := hn.open
          have HN := Lib.hid hn
          have q0 : (0 : Int) ≤ (q : Int) := by omega
          have q1 : (q : Int) < (bs[k].length : Int) := by omega
          have HFS := Lib.hid (found_step hlt2 id x)
          have HFT := Lib.hid (filt_step hlt2 id)
          clear hn htk
          by_cases e : bs[k][q].id = id
          · have be : (bs[k][q].id == id) = true := by simp [e]
            have HF1 := Lib.hid (show foundL id (bs[k].take (q + 1)) x = bs[k][q] from by rw [HFS.out, if_pos e])
            have HF2 := Lib.hid (show ((bs[k].take (q + 1)).filter fun t => !(t.id == id)) = (bs[k].take q).filter fun t => !(t.id == id) from by rw [HFT.out, if_pos e])
            obtain ⟨pa, pc, hbox, hbi⟩ := HT1.out.box
            have BP := Lib.hid (box_put hbox (.int .i64 bs[k][q].id) (.slice na bs[k][q].need.length nc))
            have TP := Lib.hid (HT1.out.put (t := bs[k][q]) HN.out (by omega) (by omega))
            have g0 := frozen_of_heap hbox 0
            have g1 := frozen_of_heap hbox 1
            have y0 := cell_of_heap hbox 0
            have y1 := cell_of_heap hbox 1
            have O2 := Lib.hid (HO2.out.keep BP.out.1 (fun g hg _ => BP.out.2.2.1 g (by omega)))
            have O1 := Lib.hid (show OwnTasks _ D (.slice va m vc) ((bs[k].take (q + 1)).filter fun t => !(t.id == id)) from by
              rw [HF2.out]
              obtain ⟨ys, k1, k2⟩ := HO1.out
              exact ⟨ys, ownsRow_keep k1 fun g hg _ => BP.out.2.2.1 g (by have := (k1.lt g hg).1; omega), k2.kt BP.out.1 (by decide)⟩)
            have SZ := Lib.hid (show D ≤ ((wr.setCell ⟨w.heap.size + 1 + 1, 0, none⟩ (.int .i64 bs[k][q].id)).setCell ⟨w.heap.size + 1 + 1, 1, none⟩ (.slice na bs[k][q].need.length nc)).heap.size from by rw [BP.out.2.2.2]; exact hsz)
            clear hbox hbi HFS HFT e HY HO1 HO2 HT1 HN BP
            go_wp2_with fail
            go_roundw
            case rel => exact ⟨q + 1, bs[k][q], _, _, _, by omega, by go_num, rfl, O1.out, O2.out, TP.out, HF1.out.symm, SZ.out⟩
            case measure => simp [intOf]; omega
          · have be : (bs[k][q].id == id) = false := by simp [e]
            have HF1 := Lib.hid (show foundL id (bs[k].take (q + 1)) x = foundL id (bs[k].take q) x from by rw [HFS.out, if_neg e])
            have HF2 := Lib.hid (show ((bs[k].take (q + 1)).filter fun t => !(t.id == id)) = ((bs[k].take q).filter fun t => !(t.id == id)) ++ [bs[k][q]] from by rw [HFT.out, if_neg e])
            have HFL := Lib.hid (show ((bs[k].take q).filter fun t => !(t.id == id)).length ≤ 1000 from Nat.le_trans (List.length_filter_le _ _) (by have := HBK.out; simp; omega))
            clear HFS HFT e
            go_wp2_with (at_builtin; refine app_tasks rfl _ _ rfl D _ _ rfl (HO1.out.alloc _) (by simp; omega) _ _ _ [bs[k][q]] rfl (Tasks.lit1 HN.out 1) (by have := HFL.out; unfold lim; simp only [List.length_singleton]; omega) ?_; intro v' w5 hown hkt hbl)
            obtain ⟨va', vc', rfl⟩ := hown.form
            have E5 := (Ext.refl wr).alloc (.cells #[.int .i64 bs[k][q].id, .slice na bs[k][q].need.length nc] 37)
            have O1 := Lib.hid (show OwnTasks w5 D _ ((bs[k].take (q + 1)).filter fun t => !(t.id == id)) from by rw [HF2.out]; exact hown)
            have O2 := Lib.hid ((HO2.out.ext E5).keep hkt (fun g _ hg => hbl.block g hg))
            have T2 := Lib.hid ((HT1.out.more E5).below hkt (by decide) hbl (by omega) hXs (by omega))
            have SZ := Lib.hid (Nat.le_trans hsz (Nat.le_trans E5.le hbl.size))
            have HY2 := Lib.hid (HY.out.trans HF1.out.symm)
            clear hown hkt hbl E5 HF1 HF2 HO1 HO2 HT1 HY HN
            go_wp2_with fail
            go_roundw
            case rel => exact ⟨q + 1, y, _, _, _, by omega, by go_num, rfl, O1.out, O2.out, T2.out, HY2.out, SZ.out⟩
            case measure => simp [intOf]; omega
        · have e : q = bs[k].length := by omega
          subst e
          have HV := Lib.hid (show OwnTasks wr D (.slice va m vc) (bs[k].filter fun t => !(t.id == id)) from by have := HO1.out; rw [List.take_length] at this; exact this)
          have HY2 := Lib.hid (show y = foundL id (bs.take (k + 1)).flatten ⟨0, []⟩ from by have := HY.out; rw [List.take_length] at this; rw [HFF.out, ← HX.out]; exact this)
          have HL := Lib.hid (show (restL (bs.take k) id).length = k from by rw [rest_len]; simp; omega)
          clear HO1 HY htk
          go_wp2_with (at_builtin; refine app_out rfl _ _ rfl w.heap.size (w.heap.size + 3) D _ _ rfl (HO2.out.ext ((Ext.refl wr).alloc _)) (by simp; omega) (by simp; omega) _ _ _ (bs[k].filter fun t => !(t.id == id)) rfl (Row.lit wr #[.slice va m vc] _) ((HV.out.ext ((Ext.refl wr).alloc _)).base (by omega)) (by rw [HL.out]; unfold lim; omega) ?_; intro v' w5 hout hkt hbl)
          have E5 := (Ext.refl wr).alloc (.cells #[.slice va m vc] 29)
          have O2 := Lib.hid (show OutB w5 w.heap.size (w.heap.size + 3) w5.heap.size v' (restL (bs.take (k + 1)) id) from by rw [HRT.out]; exact hout.up hbl.size)
          obtain ⟨oa, oc, hv'⟩ := O2.out.form
          rw [rest_len, List.length_take, Nat.min_eq_left (by omega : k + 1 ≤ bs.length)] at hv'
          subst hv'
          have T2 := Lib.hid (show Tk w w5 w.heap.size (w.heap.size + 1 + 1) y from by
            obtain ⟨t1, ⟨pa, pc, t2, t3⟩, t4⟩ := HT1.out.more E5
            exact ⟨Below.trans t1 hbl, ⟨pa, pc, (hkt.2 _ _ _ _ t2 (by decide)).trans t2, t3.kt hkt (by decide)⟩, (hkt.2 _ _ _ _ t4 (by decide)).trans t4⟩)
          clear hout hkt hbl E5 HO2 HT1 HV
          go_wp2_with fail
          go_roundw
          case rel => exact ⟨k + 1, y, oa, oc, by omega, by go_num, rfl, O2.out, T2.out, HY2.out⟩
          case measure => simp [intOf] <;> omega
    · have e : k = bs.length := by omega
      subst e
      rw [List.take_length] at HO HX
      obtain ⟨t1, ⟨pa, pc, t2, t3⟩, t4⟩ := HT.out
      have y0 := cell_of_heap t2 0
      have y1 := cell_of_heap t2 1
      have r0 := cell_of_heap t4 0
      have r1 := cell_of_heap t4 1
      have f0 := frozen_of_heap t4 0
      have f1 := frozen_of_heap t4 1
      have BP := box_put t4 (.int .i64 x.id) (.slice pa x.need.length pc)
      have F := Lib.hid (show Ext w ((wr.setCell ⟨w.heap.size, 0, none⟩ (.int .i64 x.id)).setCell ⟨w.heap.size, 1, none⟩ (.slice pa x.need.length pc)) ∧ OutB ((wr.setCell ⟨w.heap.size, 0, none⟩ (.int .i64 x.id)).setCell ⟨w.heap.size, 1, none⟩ (.slice pa x.need.length pc)) w.heap.size (w.heap.size + 3) ((wr.setCell ⟨w.heap.size, 0, none⟩ (.int .i64 x.id)).setCell ⟨w.heap.size, 1, none⟩ (.slice pa x.need.length pc)).heap.size (.slice sa bs.length sc) (restL bs id) ∧ Ints ((wr.setCell ⟨w.heap.size, 0, none⟩ (.int .i64 x.id)).setCell ⟨w.heap.size, 1, none⟩ (.slice pa x.need.length pc)) (.slice pa x.need.length pc) x.need from
        ⟨(t1.setCell (p := ⟨w.heap.size, 0, none⟩) (Nat.le_refl _) _).setCell (p := ⟨w.heap.size, 1, none⟩) (Nat.le_refl _) _, (HO.out.keep BP.1 (fun g hg _ => BP.2.2.1 g (by omega))).up (by rw [BP.2.2.2]; exact Nat.le_refl _), t3.kt BP.1 (by decide)⟩)
      clear t1 t2 t3 t4 BP HO HT
      go_wp2_with fail
      go_region
      go_wp2_with fail
      refine bodyPost_ret (v := .tuple #[.slice sa bs.length sc, .agg #[.int .i64 x.id, .slice pa x.need.length pc]]) ?_ rfl ⟨_, _, _, _, x, HX.out, rfl, F.out.1.drew, F.out.2.1.ext (Ext.refl _).drew, F.out.2.2.ext (Ext.refl _).drew⟩
      simp [results, Try.results53, go_sem, r0, r1]

theorem l15Take_any (u : Value) (id : Int) (bs : List (List T)) (w : World) (h : Bins w u bs) (hl : bs.length ≤ 1000) (hb : ∀ b ∈ bs, b.length ≤ 1000) :
    Calls Try.prog 53 #[u, .int .i64 id] w fun e w' => ∃ a c na nc x, x = foundL id bs.flatten ⟨0, []⟩ ∧ e = .returned (.tuple #[.slice a bs.length c, .agg #[.int .i64 x.id, .slice na x.need.length nc]]) ∧ Ext w w' ∧ Bins w' (.slice a bs.length c) (restL bs id) ∧ Ints w' (.slice na x.need.length nc) x.need :=
  (l15Take_own u id bs w h hl hb).mono fun e w' ⟨a, c, na, nc, x, h1, h2, h3, h4, h5⟩ => ⟨a, c, na, nc, x, h1, h2, h3, h4.done (by rw [rest_len]; unfold lim; omega) (fun b hx => by
    obtain ⟨b', hb', rfl⟩ := List.mem_map.1 hx
    have := hb b' hb'
    exact Nat.le_trans (List.length_filter_le _ _) (by unfold lim; omega)), h5⟩

end Go.Proofs.Ytfidamjepjgknaa
