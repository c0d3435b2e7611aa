/- The program: a task is put into a node; all tasks are put where a chooser tells. -/
import Derived.Test.YtjdhiabdcmindabDoorI13
import Derived.Test.YtjdhiabdcmindabDoorNestS
namespace Go.Proofs.YtjdhiabdcmindabDoor
set_option maxRecDepth 100000
open Go.RowKit

/-- What lies between two sizes of memory is as it was. -/
def New (s : Nat) (w w' : World) : Prop := ∀ x, s ≤ x → x < w.heap.size → w'.heap[x]? = w.heap[x]?
theorem New.cell {s : Nat} {w w' : World} (h : New s w w') {b o : Nat} {v : Value} (hb : s ≤ b) (hc : w.cell? ⟨b, o, none⟩ = some v) : w'.cell? ⟨b, o, none⟩ = some v := by
  have hlt : b < w.heap.size := World.block_lt_of_cell? w ⟨b, o, none⟩ hc
  rw [World.cell?_of_block (w := w) (a := ⟨b, o, none⟩) (h b hb hlt)]
  exact hc
theorem nodeI_neg {o : Option Nat} (h : o = none) : decide (nodeI o < 0) = true := by subst h; decide
theorem nodeI_pos {o : Option Nat} {k : Nat} (h : o = some k) : nodeI o = (k : Int) := by subst h; rfl

set_option maxHeartbeats 1000000 in
theorem placed_new (v n : Value) (bs : List (List T)) (x : T) (L : Nat) (w0 w : World) (h : NestS w0 L v bs) (hE : Ext w0 w) (hL : L ≤ w0.heap.size) (hn : Ints w n x.need) (h3 : x.need.length = 3) (hl : bs.length + 1 ≤ lim) :
    Calls Tryd.prog 51 #[v, .int .i64 (-1), .agg #[.int .i64 x.id, n]] w fun e w' => ∃ a c, e = .returned (.slice a (bs.length + 1) c) ∧ NestS w' L (.slice a (bs.length + 1) c) (bs ++ [[x]]) ∧ Below L w w' ∧ New w0.heap.size w w' := by
  obtain ⟨an, cn, rfl, hn⟩ := hn.open
  obtain ⟨va, vc, rfl⟩ := h.form
  have H3 := Lib.hid h3
  have H0 := Lib.hid h
  have HE := Lib.hid hE
  clear h3 h hE
  go_enter Tryd.func51, Tryd.ntmps51
  go_wp2_with fail
  have E1 := Lib.hid ((Ext.refl w).alloc (Obj.cells #[.int .i64 x.id, .slice an x.need.length cn] 30))
  refine (copyOf_any _ _ _ _ (hn.ext E1.out) H3.out).mono ?_
  rintro e w2 ⟨g, c, rfl, hE2, hs2⟩
  have F2 := Lib.hid (E1.out.trans hE2)
  have le2 : w0.heap.size ≤ w2.heap.size := Nat.le_trans HE.out.le F2.out.le
  have N2 := Lib.hid (hs2.base (Nat.le_trans HE.out.le E1.out.le))
  have EA := Lib.hid ((Ext.refl w2).alloc (Obj.cells #[.int .i64 x.id, .slice (some ⟨g, 0, none⟩) x.need.length c] 30))
  have P2 := Lib.hid (TasksP.lit1 (t := x) N2.out 1 (Nat.le_refl _) (Nat.le_refl _))
  have EB := Lib.hid ((Ext.refl (w2.alloc (Obj.cells #[.int .i64 x.id, .slice (some ⟨g, 0, none⟩) x.need.length c] 30))).alloc (Obj.cells #[.slice (some ⟨w2.heap.size, 0, none⟩) 1 1] 24))
  have RB := Row.lit (w2.alloc (Obj.cells #[.int .i64 x.id, .slice (some ⟨g, 0, none⟩) x.need.length c] 30)) #[.slice (some ⟨w2.heap.size, 0, none⟩) 1 1] 24
  rw [World.size_alloc] at RB
  have RB := Lib.hid RB
  have hF := Lib.hid (HE.out.trans (F2.out.trans (EA.out.trans EB.out)))
  clear hE2 hs2
  go_wp2_with (at_builtin; (refine app_nestS rfl _ _ rfl rfl H0.out hF.out hL _ _ _ [x] rfl RB.out ((P2.out.ext EB.out).weaken fun x hx hlt => ⟨hx.1, hlt⟩) hl ?_); intro v' w3 hN hB hW)
  obtain ⟨ra, rc, rfl⟩ := NestS.form hN
  have HN := Lib.hid hN
  have Hres := Lib.hid (show Below L w w3 ∧ New w0.heap.size w w3 from ⟨Below.trans (Below.mono ((F2.out.trans (EA.out.trans EB.out))) (Nat.le_trans hL HE.out.le)) hB, fun x hx1 hx2 => (hW x hx1 (Nat.lt_of_lt_of_le hx2 ((F2.out.trans (EA.out.trans EB.out)).le))).trans ((F2.out.trans (EA.out.trans EB.out)).block hx2)⟩)
  clear hN hB hW
  have e1 : (bs ++ [[x]]).length = bs.length + 1 := by simp
  rw [e1] at HN ⊢
  go_wp2
  go_ret
  exact ⟨_, _, rfl, HN.out, Hres.out.1, Hres.out.2⟩

set_option maxHeartbeats 2000000 in
theorem placed_old (v n : Value) (bs : List (List T)) (x : T) (L k : Nat) (w0 w : World) (h : NestS w0 L v bs) (hE : Ext w0 w) (hL : L ≤ w0.heap.size) (hn : Ints w n x.need) (h3 : x.need.length = 3) (hk : k < bs.length) (hl : bs[k].length + 1 ≤ lim) :
    Calls Tryd.prog 51 #[v, .int .i64 (k : Int), .agg #[.int .i64 x.id, n]] w fun e w' => ∃ a c, e = .returned (.slice a bs.length c) ∧ NestS w' L (.slice a bs.length c) (bs.set k (bs[k] ++ [x])) ∧ Below L w w' ∧ New w0.heap.size w w' := by
  obtain ⟨an, cn, rfl, hn⟩ := hn.open
  obtain ⟨va, vc, rfl⟩ := h.form
  obtain ⟨b, nd, xs, rfl, -, hLb, hb, cb, ho, ⟨na, nc, rfl⟩, fb⟩ := h.at hk
  have hbw : ∀ g, (Value.slice na bs[k].length nc).ownBlock = some g → g < w0.heap.size := fun g e => (ho.lt g e).2
  have Hbw := Lib.hid hbw
  have H3 := Lib.hid h3
  have H0 := Lib.hid h
  have HE := Lib.hid hE
  have HO := Lib.hid ho
  have hle := hE.le
  have hbs : b < w.heap.size := Nat.lt_of_lt_of_le hb hle
  have CB := Lib.hid (hE.cell cb)
  clear h3 h hE ho hbw cb fb
  have i0 : (0 : Int) ≤ (k : Int) := by omega
  have i1 : (k : Int) < (bs.length : Int) := by omega
  have hneg : ¬ ((k : Int) < 0) := by omega
  go_enter Tryd.func51, Tryd.ntmps51
  go_wp2_with fail
  have E1 := Lib.hid ((Ext.refl w).alloc (Obj.cells #[.int .i64 x.id, .slice an x.need.length cn] 30))
  have q0 : (w.alloc (Obj.cells #[.int .i64 x.id, .slice an x.need.length cn] 30)).cell? ⟨w.heap.size, 0, none⟩ = some (.int .i64 x.id) := by rw [box_cell]; rfl
  have q1 : (w.alloc (Obj.cells #[.int .i64 x.id, .slice an x.need.length cn] 30)).cell? ⟨w.heap.size, 1, none⟩ = some (.slice an x.need.length cn) := by rw [box_cell]; rfl
  have hsz : (w.alloc (Obj.cells #[.int .i64 x.id, .slice an x.need.length cn] 30)).heap.size = w.heap.size + 1 := by simp
  generalize w.alloc (Obj.cells #[.int .i64 x.id, .slice an x.need.length cn] 30) = W at *
  have KS := Lib.hid (show ∀ w', Ext W w' → w'.cell? ⟨w.heap.size, 0, none⟩ = some (.int .i64 x.id) ∧ w'.cell? ⟨w.heap.size, 1, none⟩ = some (.slice an x.need.length cn) from fun w' h => ⟨h.cell q0, h.cell q1⟩)
  have KB := Lib.hid (show ∀ w', Ext W w' → w'.cell? ⟨b, k, none⟩ = some (.slice na bs[k].length nc) from fun w' h => h.cell (E1.out.cell CB.out))
  have Hn := Lib.hid (hn.ext E1.out)
  have HW := Lib.hid (HE.out.trans E1.out)
  have hW0 : w0.heap.size ≤ W.heap.size := HW.out.le
  have cb0 := KB.out _ (Ext.refl W).drew
  clear hn q0 q1
  obtain ⟨r0, r1⟩ := KS.out _ (Ext.refl W).drew
  go_region_law
    ((first
      | (refine step_app_row (by rfl) _ _ (by rfl) _ bs[k].length xs (by rfl) (ownsRow_ext HO.out (HW.out.trans EA.out)) _ _ x.id _ (by rfl) (Row.lit _ _ _) rfl hl ?_; rintro v3 w3 happ hg hbk ⟨a3, c3, rfl⟩; have HQ := Lib.hid (NestS.push H0.out (HW.out.trans EA.out) hk cb2 (S2.out.ext ((Ext.refl w2).alloc (.cells #[.int .i64 x.id, .slice (some ⟨g, 0, none⟩) x.need.length c] 30))) happ hg hbk); have cb3 := HQ.out.2.2.1; have fb3 := HQ.out.2.2.2.1; clear happ hg hbk)
      | (go_simp; refine (copyOf_any _ _ _ _ (Hn.out.ext (Ext.refl W).drew) H3.out).mono ?_; rintro e w2 ⟨g, c, rfl, hE2, hs2⟩; (try dsimp only); have E2 := Lib.hid ((Ext.refl W).drew.trans hE2); have S2 := Lib.hid (hs2.base (show w0.heap.size ≤ _ from hW0)); have cb1 := KB.out _ E2.out; have EA := Lib.hid (E2.out.alloc (.cells #[.int .i64 x.id, .slice (some ⟨g, 0, none⟩) x.need.length c] 30)); have cb2 := KB.out _ EA.out; clear hE2 hs2)))
  all_goals
    have HR := Lib.hid (show NestS (w3.setCell ⟨b, k, none⟩ (.slice a3 (bs[k].length + 1) c3)) L (.slice (some ⟨b, 0, none⟩) bs.length vc) (bs.set k (bs[k] ++ [x])) ∧ Below L w (w3.setCell ⟨b, k, none⟩ (.slice a3 (bs[k].length + 1) c3)) ∧ New w0.heap.size w (w3.setCell ⟨b, k, none⟩ (.slice a3 (bs[k].length + 1) c3)) from
      ⟨HQ.out.1, Below.trans (Below.mono (E1.out.trans EA.out) (Nat.le_trans hL hle)) HQ.out.2.1, fun x hx1 hx2 => (HQ.out.2.2.2.2.2 x hx1 (Nat.lt_of_lt_of_le hx2 (E1.out.trans EA.out).le)).trans ((E1.out.trans EA.out).block hx2)⟩)
    clear cb0 cb1 cb2 cb3 fb3 r0 r1
    go_wp2
    go_ret
    exact ⟨_, _, rfl, HR.out.1, HR.out.2.1, HR.out.2.2⟩

/-- A task is put where it is told. -/
theorem placed_any (v n : Value) (bs : List (List T)) (o : Option Nat) (x : T) (L : Nat) (w0 w : World) (h : NestS w0 L v bs) (hE : Ext w0 w) (hL : L ≤ w0.heap.size) (hn : Ints w n x.need) (h3 : x.need.length = 3) (ho : ∀ k, o = some k → k < bs.length) (hl : bs.length + 1 ≤ lim) (hb : ∀ b ∈ bs, b.length + 1 ≤ lim) :
    Calls Tryd.prog 51 #[v, .int .i64 (nodeI o), .agg #[.int .i64 x.id, n]] w fun e w' => ∃ a c, e = .returned (.slice a (putL bs o x).length c) ∧ NestS w' L (.slice a (putL bs o x).length c) (putL bs o x) ∧ Below L w w' ∧ New w0.heap.size w w' := by
  cases o with
  | none =>
    have := placed_new v n bs x L w0 w h hE hL hn h3 hl
    rw [putL_none, show (bs ++ [[x]]).length = bs.length + 1 by simp]
    exact this
  | some k =>
    have hk := ho k rfl
    have := placed_old v n bs x L k w0 w h hE hL hn h3 hk (hb _ (List.getElem_mem hk))
    rw [putL_some hk, show (bs.set k (bs[k] ++ [x])).length = bs.length by simp]
    exact this

end Go.Proofs.YtjdhiabdcmindabDoor
