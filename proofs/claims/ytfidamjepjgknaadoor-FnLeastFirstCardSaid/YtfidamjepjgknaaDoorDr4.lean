/- Drawn tasks. Drawn nodes. What the exported drawing functions give. No condition. -/
import Derived.Test.YtfidamjepjgknaaDoorDr1
import Derived.Test.YtfidamjepjgknaaDoorS8
import Derived.StillTailTactics
import Derived.Deep.RegionLaw
import Derived.Test.YtfidamjepjgknaaDoorCode
namespace Go.Proofs.YtfidamjepjgknaaDoor
section
set_option maxRecDepth 100000
open Go.RowKit

/-- None of the values leads to a block below 'B'. -/
def Far (B : Nat) (xs : List Value) : Prop := ∀ u ∈ xs, ∀ g, u.ownBlock = some g → B ≤ g
/-- Tasks that a call owns, whose needs it has made. -/
def OwnF (w : World) (B : Nat) (v : Value) (ts : List T) : Prop := ∃ xs, w.ownsRow B 31 2 v ts.length xs ∧ TaskCells w xs ts ∧ Far B xs
def SrcF (w : World) (B : Nat) (a : Option Addr) (us : List T) : Prop := ∃ ys, Row w 31 a ys ∧ TaskCells w ys us ∧ Far B ys
theorem OwnF.own {w : World} {B : Nat} {v : Value} {ts : List T} (h : OwnF w B v ts) : OwnTasks w B v ts := let ⟨xs, h1, h2, _⟩ := h; ⟨xs, h1, h2⟩
theorem OwnF.ext {w w' : World} {B : Nat} {v : Value} {ts : List T} (h : OwnF w B v ts) (k : Ext w w') : OwnF w' B v ts := let ⟨xs, h1, h2, h3⟩ := h; ⟨xs, ownsRow_ext h1 k, h2.ext k, h3⟩
theorem OwnF.kt {w w' : World} {B : Nat} {v : Value} {ts : List T} {e : TypeId} (h : OwnF w B v ts) (k : KT e w w') (n1 : 3 ≠ e) (n2 : 31 ≠ e) : OwnF w' B v ts := let ⟨xs, h1, h2, h3⟩ := h; ⟨xs, ownsRow_kt h1 k n2, h2.kt k n1, h3⟩
theorem OwnF.alloc {w : World} {B : Nat} {v : Value} {ts : List T} (h : OwnF w B v ts) (o : Obj) : OwnF (w.alloc o) B v ts := h.ext ((Ext.refl w).alloc o)
theorem OwnF.src {w : World} {B : Nat} {a : Option Addr} {n c : Nat} {ts : List T} (h : OwnF w B (.slice a n c) ts) : SrcF w B a ts := by
  obtain ⟨xs, h1, h2, h3⟩ := h
  obtain ⟨a', c', hv, hr⟩ := Row.of_own h1
  simp only [Value.slice.injEq] at hv
  obtain ⟨rfl, rfl, rfl⟩ := hv
  exact ⟨xs, hr, h2, h3⟩
theorem far_one {B : Nat} {id : Int} {n : Value} (hf : ∀ g, n.ownBlock = some g → B ≤ g) : Far B [.int .i64 id, n] := fun u hu g hg => by
  simp only [List.mem_cons, List.not_mem_nil, or_false] at hu
  rcases hu with rfl | rfl
  · simp [Value.ownBlock] at hg
  · exact hf g hg
theorem OwnF.lit0 (w : World) (B : Nat) (hB : B ≤ w.heap.size) : OwnF (w.alloc (.cells #[] 31)) B (.slice (some ⟨w.heap.size, 0, none⟩) 0 0) [] := ⟨[], World.ownsRow_lit w #[] 0 hB (by simp [maxLen]) rfl, TaskCells.nil _, fun u hu => by simp at hu⟩
theorem OwnF.lit1 {w : World} {B : Nat} {t : T} {n : Value} (hn : Ints w n t.need) (hf : ∀ g, n.ownBlock = some g → B ≤ g) (hB : B ≤ w.heap.size) : OwnF (w.alloc (.cells #[.int .i64 t.id, n] 31)) B (.slice (some ⟨w.heap.size, 0, none⟩) 1 1) [t] :=
  ⟨[.int .i64 t.id, n], World.ownsRow_lit w #[.int .i64 t.id, n] 1 hB (by simp [maxLen]) rfl, by simpa using (TaskCells.nil _).snoc (hn.ext ((Ext.refl w).alloc _)), far_one hf⟩
theorem SrcF.lit1 {w : World} {B : Nat} {t : T} {n : Value} (hn : Ints w n t.need) (hf : ∀ g, n.ownBlock = some g → B ≤ g) : SrcF (w.alloc (.cells #[.int .i64 t.id, n] 31)) B (some ⟨w.heap.size, 0, none⟩) [t] :=
  ⟨[.int .i64 t.id, n], Row.lit w #[.int .i64 t.id, n] _, by simpa using (TaskCells.nil _).snoc (hn.ext ((Ext.refl w).alloc _)), far_one hf⟩

section
variable {w : World} {ops : Array Oper} {rest : List Oper} {o : Oper} {a : Act} {Q : Exit → Act → World → Prop}
theorem app_far (hgd : o.guard = none) (s x : Operand) (ho : o.op = .call { callee := .builtin .append, args := #[s, x], argTypes := #[24, 24] }) (B : Nat) (v : Value) (ts : List T) (hs : a.eval s = v) (hown : OwnF w B v ts) (hB : B ≤ w.heap.size)
    (src : Option Addr) (c : Nat) (us : List T) (hx : a.eval x = .slice src us.length c) (hsrc : SrcF w B src us) (hl : ts.length + us.length ≤ lim)
    (h : ∀ v' w', OwnF w' B v' (ts ++ us) → KT 31 w w' → Below B w w' → wpList Tryd.prog ops Q rest (a.put o.dst v') w') : wpList Tryd.prog ops Q (o :: rest) a w := by
  obtain ⟨ys, hr, hc, hf⟩ := hsrc
  obtain ⟨xs, hown, hcx, hfx⟩ := hown
  unfold lim at hl
  refine wpList_plain hgd fun _ hK => wp_app elt_task s x ho B v ts.length _ hs hown hB src us.length c _ hx hc.1 _ hr hc.one (by omega) (by unfold maxLen; omega)
    (fun v' w' h1 h2 h3 => hK _ _ (h v' w' ⟨xs ++ ys, by simpa using h1, (hcx.app hc).kt h2 (by decide), fun u hu => (List.mem_append.1 hu).elim (hfx u) (hf u)⟩ h2 h3))
end

theorem OwnF.form {w : World} {B : Nat} {v : Value} {ts : List T} (h : OwnF w B v ts) : ∃ a c, v = .slice a ts.length c := by
  obtain ⟨xs, ⟨_, h1⟩, _⟩ := h
  rcases h1 with ⟨rfl, hn⟩ | ⟨g, cap, cur, rfl, _⟩
  · exact ⟨none, 0, by rw [hn]⟩
  · exact ⟨_, cap, rfl⟩
theorem OwnF.row {w : World} {B : Nat} {a : Option Addr} {n c : Nat} {ts : List T} (h : OwnF w B (.slice a n c) ts) (h0 : 0 < ts.length) :
    ∃ g, a = some ⟨g, 0, none⟩ ∧ n = ts.length ∧ B ≤ g ∧ ∀ k (hk : k < ts.length), w.frozen? ⟨g, k * 2, none⟩ = false ∧ w.cell? ⟨g, k * 2, none⟩ = some (.int .i64 ts[k].id) ∧ ∃ nd, w.cell? ⟨g, k * 2 + 1, none⟩ = some nd ∧ Ints w nd ts[k].need ∧ ∀ g, nd.ownBlock = some g → B ≤ g := by
  obtain ⟨xs, h1, ⟨hl, hc⟩, hf⟩ := h
  obtain ⟨g, rfl, rfl, hB, _, hcell, ho⟩ := ownsRow_at h1 h0
  refine ⟨g, rfl, rfl, hB, fun k hk => ?_⟩
  obtain ⟨c0, nd, c1, hn⟩ := hc k hk
  exact ⟨(ownsRow_put ho (k := k * 2) (by omega) (.bool true)).2.2.2, by rw [hcell _ (by omega), c0], nd, by rw [hcell _ (by omega), c1], hn, hf nd (List.mem_of_getElem? c1)⟩
theorem DnT.app {ts us : List T} (h : DnT ts) (k : DnT us) : DnT (ts ++ us) := fun t ht => (List.mem_append.1 ht).elim (h t) (k t)
theorem DnT.one {t : T} (h : Dn t.need) : DnT [t] := fun u hu => by simp at hu; subst hu; exact h

set_option maxHeartbeats 1000000 in
theorem l91Tasks_any (r : Value) (B P many : Nat) (w : World) (h : Rdr w B r P) (hP : P ≤ 100000) (hm : many ≤ 100) :
    Calls Tryd.prog 20 #[r, .int .i64 many] w fun e w' => ∃ v ts, e = .returned v ∧ OwnTasks w' w.heap.size v ts ∧ DnT ts ∧ ts.length ≤ many + 1 ∧ Dr B r (P + 9 * many + 4) w w' := by
  have S0 := Lib.hid (Dr.start h)
  clear h
  go_enter Tryd.func20, Tryd.ntmps20
  go_wp2_with fail
  have D0 := Lib.hid (S0.out.ext ((Ext.refl w).alloc (.cells #[] 31)))
  have O0 := Lib.hid (OwnF.lit0 w w.heap.size (Nat.le_refl _))
  generalize w.alloc (.cells #[] 31) = W0 at *
  clear S0
  refine (pick_any _ B _ 5 _ D0.out.rd (by omega) (by omega) (by omega)).mono ?_
  rintro e w1 ⟨k1, rfl, b1, d1⟩
  have O1 := Lib.hid (O0.out.kt d1.kt (by decide) (by decide))
  have D1 := Lib.hid (D0.out.trans d1)
  clear d1 D0 O0
  go_wp2_with fail
  go_loopw [5, 6, 7] (fun s x i wr => ∃ (k : Nat) (id : Int) (ts : List T), k ≤ many ∧ i = .int .i64 k ∧ x = .int .i64 id ∧ 0 ≤ id ∧ id ≤ 10 + 2 * k ∧ ts.length = k ∧ DnT ts ∧ OwnF wr w.heap.size s ts ∧ Dr B r (P + 1 + 9 * k) w wr) (fun _ _ i _ => many - (intOf i).toNat)
  case atStart => exact ⟨0, _, [], by omega, rfl, rfl, by omega, by omega, rfl, fun t ht => by simp at ht, O1.out, D1.out⟩
  case round =>
    clear O1 D1
    obtain ⟨k, id, ts, hk, rfl, rfl, hi0, hi1, rfl, hdn, ho, hd⟩ := hrel
    have HD := Lib.hid hd
    have HN := Lib.hid hdn
    have HO := Lib.hid ho
    obtain ⟨sa, sc, rfl⟩ := ho.form
    clear hd hdn ho
    by_cases hlt : ts.length < many
    · go_wp2_with fail
      refine (l91Task_any _ B _ id _ HD.out.rd (by omega)).mono ?_
      rintro e w2 ⟨n, xs, rfl, hn, hxs, hfar, d2⟩
      obtain ⟨an, cn, rfl, hn'⟩ := hn.open
      have NX := Lib.hid hxs
      have FR := Lib.hid (show ∀ g, (Value.slice an xs.length cn).ownBlock = some g → w.heap.size ≤ g from fun g hg => Nat.le_trans HD.out.size (hfar g hg))
      have I2 := Lib.hid (hn'.ext ((Ext.refl w2).alloc (.cells #[.int .i64 id, .slice an xs.length cn] 31)))
      have O2 := Lib.hid ((HO.out.kt d2.kt (by decide) (by decide)).ext ((Ext.refl w2).alloc (.cells #[.int .i64 id, .slice an xs.length cn] 31)))
      have D2 := Lib.hid ((HD.out.trans d2).ext ((Ext.refl w2).alloc (.cells #[.int .i64 id, .slice an xs.length cn] 31)))
      have X2 := Lib.hid (heap_alloc_new w2 (.cells #[.int .i64 id, .slice an xs.length cn] 31))
      clear hn hn' hxs hfar d2 HO HD
      go_wp2_with fail
      generalize w2.alloc (.cells #[.int .i64 id, .slice an xs.length cn] 31) = W2 at *
      refine (pick_any _ B _ 2 _ D2.out.rd (by omega) (by omega) (by omega)).mono ?_
      rintro e w3 ⟨k3, rfl, b3, d3⟩
      have I3 := Lib.hid (I2.out.kt d3.kt (by decide))
      have O3 := Lib.hid (O2.out.kt d3.kt (by decide) (by decide))
      have X3 := Lib.hid (d3.heap X2.out (by decide))
      have D3 := Lib.hid (D2.out.trans d3)
      clear d3 I2 O2 X2 D2
      go_wp2_with fail
      refine (pick_any _ B _ 3 _ D3.out.rd (by omega) (by omega) (by omega)).mono ?_
      rintro e w4 ⟨k4, rfl, b4, d4⟩
      have I4 := Lib.hid (I3.out.kt d4.kt (by decide))
      have O4 := Lib.hid (O3.out.kt d4.kt (by decide) (by decide))
      have X4 := Lib.hid (d4.heap X3.out (by decide))
      have D4 := Lib.hid (D3.out.trans d4)
      have x0 := cell_of_heap X4.out 0
      have x1 := cell_of_heap X4.out 1
      have le4 := D4.out.size
      clear d4 I3 O3 X3 D3
      have T4 : Hid (DnT [T.mk id xs]) := DnT.one NX.out
      have last : Hid (∀ (us : List T) (v : Value) (w5 : World), us.length = ts.length + 1 → DnT us → OwnF w5 w.heap.size v us → KT 31 (w4.alloc (.cells #[.int .i64 id, .slice an xs.length cn] 31)) w5 → Below w.heap.size (w4.alloc (.cells #[.int .i64 id, .slice an xs.length cn] 31)) w5 → Dr B r (P + 1 + 9 * (ts.length + 1)) w w5) := by
        intro us v w5 _ _ _ hkt hbl
        exact ((D4.out.ext ((Ext.refl w4).alloc (.cells #[.int .i64 id, .slice an xs.length cn] 31))).own hbl hkt (by decide)).mono (by omega)
      by_cases hfront : k4 = 0 ∧ 0 < ts.length
      · obtain ⟨rfl, hk0⟩ := hfront
        have hk0' : (0 : Int) < (ts.length : Int) := by omega
        have hk1 : ts.length ≤ 100 := by omega
        go_wp2_with (at_builtin; refine app_far rfl _ _ rfl w.heap.size _ [T.mk id xs] rfl (OwnF.lit1 (t := T.mk id xs) I4.out FR.out le4) (by simp; omega) _ _ ts rfl ((O4.out.alloc _).src) (by unfold lim; simp; omega) ?_; intro v' w5 hown5 hkt hbl)
        have L5 := Lib.hid (last.out ([T.mk id xs] ++ ts) v' w5 (by simp <;> omega) (T4.out.app HN.out) hown5 hkt hbl)
        have O5 := Lib.hid hown5
        clear hown5 hkt hbl
        go_roundw
        case rel => exact ⟨ts.length + 1, _, [T.mk id xs] ++ ts, by omega, by go_num, rfl, by omega, by omega, by simp <;> omega, T4.out.app HN.out, O5.out, L5.out⟩
        case measure => simp [intOf]; omega
      · have hk1 : ts.length ≤ 100 := by omega
        by_cases hz : k4 = 0
        · have hempty : ts.length = 0 := by omega
          subst hz
          have hb0 : (decide (0 < ts.length)) = false := by simp [hempty]
          clear hempty hfront
          go_wp2_with (at_builtin; refine app_far rfl _ _ rfl w.heap.size _ ts rfl (O4.out.alloc _) (by simp; omega) _ _ [T.mk id xs] rfl (SrcF.lit1 (t := T.mk id xs) I4.out FR.out) (by unfold lim; simp; omega) ?_; intro v' w5 hown5 hkt hbl)
          have L5 := Lib.hid (last.out (ts ++ [T.mk id xs]) v' w5 (by simp) (HN.out.app T4.out) hown5 hkt hbl)
          have O5 := Lib.hid hown5
          clear hown5 hkt hbl
          go_roundw
          case rel => exact ⟨ts.length + 1, _, ts ++ [T.mk id xs], by omega, by go_num, rfl, by omega, by omega, by simp, HN.out.app T4.out, O5.out, L5.out⟩
          case measure => simp [intOf]; omega
        · have hb0 : (((k4 : Nat) : Int) == 0) = false := by simp; omega
          go_wp2_with (at_builtin; refine app_far rfl _ _ rfl w.heap.size _ ts rfl (O4.out.alloc _) (by simp; omega) _ _ [T.mk id xs] rfl (SrcF.lit1 (t := T.mk id xs) I4.out FR.out) (by unfold lim; simp; omega) ?_; intro v' w5 hown5 hkt hbl)
          have L5 := Lib.hid (last.out (ts ++ [T.mk id xs]) v' w5 (by simp) (HN.out.app T4.out) hown5 hkt hbl)
          have O5 := Lib.hid hown5
          clear hown5 hkt hbl
          go_roundw
          case rel => exact ⟨ts.length + 1, _, ts ++ [T.mk id xs], by omega, by go_num, rfl, by omega, by omega, by simp, HN.out.app T4.out, O5.out, L5.out⟩
          case measure => simp [intOf]; omega
    · have hall : ts.length = many := by omega
      subst hall
      by_cases hpos : 0 < ts.length
      · have hp' : (0 : Int) < (ts.length : Int) := by omega
        go_wp2_with fail
        refine (pick_any _ B _ ts.length _ HD.out.rd (by omega) (by omega) (by omega)).mono ?_
        rintro e w2 ⟨k2, rfl, b2, d2⟩
        have O2 := Lib.hid (HO.out.kt d2.kt (by decide) (by decide))
        have D2 := Lib.hid (HD.out.trans d2)
        clear d2 HO HD
        go_wp2_with fail
        refine (pick_any _ B _ 40 _ D2.out.rd (by omega) (by omega) (by omega)).mono ?_
        rintro e w3 ⟨k3, rfl, b3, d3⟩
        have O3 := Lib.hid (O2.out.kt d3.kt (by decide) (by decide))
        have D3 := Lib.hid (D2.out.trans d3)
        have lt2 : k2 < ts.length := by omega
        have b20 : (0 : Int) ≤ (k2 : Int) := by omega
        clear d3 O2 D2
        have len2 : ts.length ≤ 100 := hm
        by_cases h30 : k3 = 0
        · subst h30
          have L4 := Lib.hid (Ints.lit w3 #[.int .i64 0, .int .i64 40, .int .i64 41] [0, 40, 41] 3 3 rfl rfl (by simp [lim]))
          have O4 := Lib.hid (O3.out.alloc (.cells #[.int .i64 0, .int .i64 40, .int .i64 41] 3))
          have D4 := Lib.hid (D3.out.ext ((Ext.refl w3).alloc (.cells #[.int .i64 0, .int .i64 40, .int .i64 41] 3)))
          go_wp2_with fail
          refine (pick_any _ B _ 3 _ D4.out.rd (by omega) (by omega) (by omega)).mono ?_
          rintro e w4 ⟨k4, rfl, b4, d4⟩
          have O5 := Lib.hid (O4.out.kt d4.kt (by decide) (by decide))
          have D5 := Lib.hid (D4.out.trans d4)
          obtain ⟨g2, o2, hg2, hc2⟩ := (L4.out.kt d4.kt (by decide)).at (by simp)
          simp only [Option.some.injEq, Addr.mk.injEq, and_true] at hg2
          obtain ⟨rfl, rfl⟩ := hg2
          have c4 := hc2 k4 (by simp; omega)
          simp only [Nat.zero_add] at c4
          generalize ([0, 40, 41] : List Int)[k4]'(by simp; omega) = z at c4
          obtain ⟨g, rfl, _, hBg, hrow⟩ := O5.out.row hpos
          obtain ⟨f0, c0, nd, c1, hnd, hfr⟩ := hrow k2 lt2
          obtain ⟨q1, q2, q3, _⟩ := O5.out.own.putId lt2 z
          have O6 := Lib.hid q1
          have D6 := Lib.hid (D5.out.own q3 q2 (by decide))
          have N6 := Lib.hid (HN.out.putId lt2 z)
          clear hc2 hrow hnd hfr q1 q2 q3 d4 L4 O4 D4
          go_wp2_with fail
          go_ret
          exact ⟨_, _, rfl, by simpa using O6.out, N6.out, by simp, D6.out.mono (by omega)⟩
        · by_cases h31 : k3 = 1
          · subst h31
            obtain ⟨g, rfl, _, hBg, hrow⟩ := O3.out.row hpos
            obtain ⟨f0, c0, nd, c1, hnd, hfr⟩ := hrow k2 lt2
            have n3 := (HN.out _ (List.getElem_mem lt2)).1
            obtain ⟨an, cn, rfl, hnd'⟩ := hnd.open
            obtain ⟨b, off, cs, rfl, hb, hcs, hf⟩ := hnd'.blk (by omega)
            have f1 := hf off
            have c2 := hcs 0 (by omega)
            obtain ⟨us, q1, q2, q3⟩ := O3.out.own.putNeed (k := off) HN.out hb (x := 20) (by omega) (by omega)
            have O6 := Lib.hid q1
            have N6 := Lib.hid q3
            have D6 := Lib.hid (show Dr B r (P + 9 * ts.length + 4) w (w3.setCell ⟨b, off, none⟩ (.int .i64 20)) from (D3.out.own (Below.setCell (p := ⟨b, off, none⟩) (Below.refl _ _) (hfr b rfl) (.int .i64 20)) (KT.put (p := ⟨b, off, none⟩) hb (.int .i64 20)) (by decide)).mono (by omega))
            rw [n3] at c1
            simp only [Nat.add_zero] at c2
            clear hrow hnd hnd' hcs hf q1 q3 hb hfr
            go_wp2_with fail
            go_ret
            exact ⟨_, us, rfl, O6.out, N6.out, by omega, D6.out⟩
          · by_cases h32 : k3 = 2
            · subst h32
              obtain ⟨g, rfl, _, hBg, hrow⟩ := O3.out.row hpos
              obtain ⟨f0, c0, nd, c1, hnd, hfr⟩ := hrow k2 lt2
              obtain ⟨an, cn, rfl, hnd'⟩ := hnd.open
              have H6 := Lib.hid hnd'
              have FR := Lib.hid hfr
              have le3 := D3.out.size
              clear hrow hnd hnd' hfr
              go_wp2_with (at_builtin; refine app_far rfl _ _ rfl w.heap.size _ ts rfl (O3.out.alloc _) (by simp; omega) _ _ [ts[k2]] rfl (SrcF.lit1 H6.out FR.out) (by unfold lim; simp; omega) ?_; intro v' w5 hown5 hkt hbl)
              have D5 := Lib.hid ((D3.out.ext ((Ext.refl w3).alloc _)).own hbl hkt (by decide))
              have O5 := Lib.hid hown5
              clear hown5 hkt hbl
              go_wp2_with fail
              go_ret
              exact ⟨_, _, rfl, O5.out.own, HN.out.app (DnT.one (HN.out _ (List.getElem_mem lt2))), by simp, D5.out.mono (by omega)⟩
            · have hb0 : (((k3 : Nat) : Int) == 0) = false := by simp; omega
              have hb1 : (((k3 : Nat) : Int) == 1) = false := by simp; omega
              have hb2 : (((k3 : Nat) : Int) == 2) = false := by simp; omega
              go_wp2_with fail
              go_ret
              exact ⟨_, _, rfl, O3.out.own, HN.out, by omega, D3.out.mono (by omega)⟩
      · have hb0 : (decide (0 < ts.length)) = false := decide_eq_false hpos
        clear hpos
        go_wp2_with fail
        go_ret
        exact ⟨_, _, rfl, HO.out.own, HN.out, by omega, HD.out.mono (by omega)⟩
end

section
set_option maxRecDepth 100000
open Go.RowKit

/-- The tasks of all nodes have three bounded numbers each. -/
def DnB (bs : List (List T)) : Prop := ∀ b ∈ bs, DnT b
theorem DnB.good {bs : List (List T)} (h : DnB bs) : GoodB bs := fun b hb => (h b hb).good
theorem DnB.push {bs : List (List T)} (h : DnB bs) {k : Nat} (hk : k < bs.length) {t : T} (ht : Dn t.need) : DnB (bs.set k (bs[k] ++ [t])) := fun b hb => by
  rcases List.mem_or_eq_of_mem_set hb with h1 | rfl
  · exact h b h1
  · exact (h _ (List.getElem_mem hk)).app (DnT.one ht)
theorem flat_push {bs : List (List T)} {k : Nat} (hk : k < bs.length) (t : T) : (bs.set k (bs[k] ++ [t])).flatten.length = bs.flatten.length + 1 := by
  induction bs generalizing k with
  | nil => simp at hk
  | cons b r ih =>
    cases k with
    | zero => simp; omega
    | succ k => simp at hk; simp [ih hk]; omega
theorem bin_len {bs : List (List T)} {b : List T} (h : b ∈ bs) : b.length ≤ bs.flatten.length := (sub_flat h).length_le
theorem Nest.bins {w : World} {B C : Nat} {v : Value} {bs : List (List T)} (h : Nest w B C v bs) (hl : bs.length ≤ 1000) (hf : bs.flatten.length ≤ 1000) : Bins w v bs :=
  h.done (by unfold lim; omega) fun b hb => by have := bin_len hb; unfold lim; omega

theorem Nest.base {w : World} {B C C' : Nat} {v : Value} {bs : List (List T)} (h : Nest w B C v bs) (hc : C' ≤ C) : Nest w B C' v bs := by
  obtain ⟨xs, h1, h2, h3, h4⟩ := h
  exact ⟨xs, h1, h2, fun k hk => let ⟨n, a, b⟩ := h3 k hk; ⟨n, a, b.base hc⟩, h4⟩
theorem Nest.none {w : World} {B C C' : Nat} {v : Value} (h : Nest w B C v []) : Nest w B C' v [] := by
  obtain ⟨xs, h1, h2, h3, h4⟩ := h
  exact ⟨xs, h1, h2, fun k hk => by simp at hk, h4⟩

end

section
set_option maxRecDepth 100000
open Go.RowKit

/-- A drawn room with nodes. -/
def DrawnBins (w : World) (vr vb : Value) (room : List Int) (bs : List (List T)) : Prop := Ints w vr room ∧ Bins w vb bs ∧ DnB bs ∧ bs.length ≤ 10 ∧ bs.flatten.length ≤ 20
theorem DrawnBins.ext {w w' : World} {vr vb : Value} {room : List Int} {bs : List (List T)} (h : DrawnBins w vr vb room bs) (k : Ext w w') : DrawnBins w' vr vb room bs := ⟨h.1.ext k, h.2.1.ext k, h.2.2⟩

end

end Go.Proofs.YtfidamjepjgknaaDoor
