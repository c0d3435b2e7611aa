/- The program: the nodes with room, one after the other; the first of them. -/
import Derived.Test.YtjdhiabdcmindaaI9
import Derived.Deep.Slices
import Derived.RangeFuncNested
import Derived.RangeFuncBound
import Derived.RangeFuncCalls
import Derived.RangeFuncLeaves
import Derived.RangeFuncBox
import Derived.Shelf.Abstract
import Derived.Shelf.RegionOpen
import Derived.OwnWalkIn
import Derived.TacticsInMore
import Derived.LoopNIn
import Derived.LoopIn
namespace Go.Proofs.Ytjdhiabdcmindaa
set_option maxRecDepth 100000
open Go.RowKit Go.Shelf
attribute [local go_sem] Oper.semAt_some

/-- The nodes with room among the first k: their places and their slices. -/
def cameL (V : Nat → Value) (p : Nat → Bool) : Nat → List (Nat × Value)
  | 0 => []
  | k + 1 => if p k then cameL V p k ++ [(k, V k)] else cameL V p k
theorem cameL_len (V : Nat → Value) (p : Nat → Bool) (k : Nat) : (cameL V p k).length ≤ k := by
  induction k with
  | zero => simp [cameL]
  | succ k ih =>
    unfold cameL
    split
    · rw [List.length_append, List.length_singleton]; omega
    · omega
theorem Ext.grown {w w' : World} (h : Ext w w') : w.grownBy w' none := ⟨h.os, h.tape, h.output, h.le, fun _ hk _ => h.block hk⟩

/-- What the iterator reads: the nodes, the room and the task in their boxes. -/
structure RoomIt (w : World) (pb pr px : Nat) (a : Option Addr) (cap : Nat) (vr : Value) (nxa : Option Addr) (nxc : Nat) (room : List Int) (bs : List (List T)) (x : T) (V : Nat → Value) : Prop where
  cbins : w.cell? ⟨pb, 0, none⟩ = some (.slice a bs.length cap)
  croom : w.cell? ⟨pr, 0, none⟩ = some vr
  cid : w.cell? ⟨px, 0, none⟩ = some (.int .i64 x.id)
  cneed : w.cell? ⟨px, 1, none⟩ = some (.slice nxa x.need.length nxc)
  len : bs.length ≤ 4194304
  row : ∀ k (hk : k < bs.length), ∃ b off, a = some ⟨b, off, none⟩ ∧ w.cell? ⟨b, off + k, none⟩ = some (V k) ∧ Tasks w (V k) bs[k]
  rroom : Ints w vr room
  rneed : Ints w (.slice nxa x.need.length nxc) x.need
  three : room.length = 3
  good : GoodB bs
  good1 : Good1 x
theorem RoomIt.ext {w w' : World} {pb pr px : Nat} {a : Option Addr} {cap : Nat} {vr : Value} {nxa : Option Addr} {nxc : Nat} {room : List Int} {bs : List (List T)} {x : T} {V : Nat → Value} (h : RoomIt w pb pr px a cap vr nxa nxc room bs x V) (k : Ext w w') : RoomIt w' pb pr px a cap vr nxa nxc room bs x V :=
  ⟨k.cell h.cbins, k.cell h.croom, k.cell h.cid, k.cell h.cneed, h.len, fun j hj => let ⟨b, off, e, c, t⟩ := h.row j hj; ⟨b, off, e, k.cell c, t.ext k⟩, h.rroom.ext k, h.rneed.ext k, h.three, h.good, h.good1⟩
/-- The nodes with room before place k. -/
def cameR (room : List Int) (bs : List (List T)) (x : T) (V : Nat → Value) (k : Nat) : List (Nat × Value) := cameL V (fun k => fits11 room (bs.getD k []) x) k

set_option maxHeartbeats 4000000 in
theorem withRoomF_in (n : Nat) (hn : 1 ≤ n) (l pb pr px : Nat) (a : Option Addr) (cap : Nat) (vr : Value) (nxa : Option Addr) (nxc : Nat) (room : List Int) (bs : List (List T)) (x : T) (V : Nat → Value) (Kp : World → World → Prop) (I : World → Prop)
    (hI : ∀ w, I w → RoomIt w pb pr px a cap vr nxa nxc room bs x V) (hIE : ∀ w w', I w → Ext w w' → I w') (hK : ∀ w w', I w → Kp w w' → I w')
    (J Jx : List (Nat × Value) → World → Prop) (W : World) (hW : I W) (hJ : AbidesFrom W.heap.size J)
    (hY : ∀ pre y W, J pre W → pre.length < bs.length → YieldAt Fence.wide (n - 1) Try.prog l #[.int .i64 (y.1 : Int), y.2] W fun e W' =>
      (e = .returned (.bool true) ∧ J (pre ++ [y]) W' ∧ Kp W W') ∨ (e = .returned (.bool false) ∧ Jx (pre ++ [y]) W'))
    (h0 : J [] W) :
    CallsIn Fence.wide n Try.prog 56 #[.func (.yield l) #[] #[], .pointer (some ⟨pb, 0, none⟩), .pointer (some ⟨pr, 0, none⟩), .pointer (some ⟨px, 0, none⟩)] W fun e W' => (∃ v, e = .returned v) ∧
      ((∃ ys, ys = cameR room bs x V bs.length ∧ J ys W') ∨ (∃ pre, (∃ k, k < bs.length ∧ fits11 room (bs.getD k []) x = true ∧ pre = cameR room bs x V k ++ [(k, V k)]) ∧ Jx pre W')) := by
  have HK := Lib.hid hK
  have HI := Lib.hid hI
  have HIE := Lib.hid hIE
  have HJ := Lib.hid hJ
  have HY := Lib.hid hY
  have HW := Lib.hid hW
  have hb' := (hI W hW).cbins
  have hl := (hI W hW).len
  clear hK hI hIE hJ hY hW
  refine callsIn_of_wp Try.func56 rfl trivial ?_ rfl
  simp only [Try.ntmps56, List.size_toArray, List.length_cons, List.length_nil, Nat.reduceAdd, Nat.reduceSub, Array.replicate_succ, Array.replicate_zero, List.push_toArray, List.append_toArray, List.nil_append, List.cons_append]
  gi_wp2
  gi_loopw [9] (fun i wr => ∃ k : Nat, k ≤ bs.length ∧ i = .int .i64 k ∧ J (cameR room bs x V k) wr ∧ I wr)
    (fun i _ => bs.length - (intOf i).toNat)
  case atStart => exact ⟨0, by omega, rfl, h0, HW.out⟩
  case round =>
    obtain ⟨k, hk, rfl, hJs, hE⟩ := hrel
    have HJs := Lib.hid hJs
    have HQ := Lib.hid hE
    have HE := Lib.hid (HI.out wr hE)
    clear hJs hE
    by_cases hlt : k < bs.length
    · obtain ⟨b, off, rfl, c0', ht⟩ := HE.out.row k hlt
      have cr := HE.out.croom
      have cx0 := HE.out.cid
      have cx1 := HE.out.cneed
      have Ht := Lib.hid ht
      have hg : bs.getD k [] = bs[k] := by simp [List.getD_eq_getElem?_getD, List.getElem?_eq_getElem hlt]
      have Hg := Lib.hid hg
      have Hcl := Lib.hid (show (cameR room bs x V k).length ≤ k from cameL_len V (fun k => fits11 room (bs.getD k []) x) k)
      clear ht hg
      cases hf : fits11 room bs[k] x with
      | true =>
        have Hst : Hid (cameR room bs x V (k + 1) = cameR room bs x V k ++ [(k, V k)] ∧ fits11 room (bs.getD k []) x = true) := by
          refine ⟨?_, by rw [Hg.out]; exact hf⟩
          unfold cameR
          rw [cameL, if_pos (by rw [Hg.out]; exact hf)]
        gi_wp2
        refine ⟨trivial, ?_⟩
        have cc := (callsIn_wide (n := n - 1)).2 (hasRoom_any _ _ _ room bs[k] x wr HE.out.rroom Ht.out HE.out.rneed HE.out.three (HE.out.good _ (List.getElem_mem hlt)) HE.out.good1)
        rw [hf] at cc
        refine cc.mono ?_
        clear cc hf
        rintro e w1 ⟨rfl, hE1⟩
        have HJ1 := HJ.out _ _ _ none HJs.out hE1.grown (fun r e => by cases e)
        have HE1 := Lib.hid (HIE.out _ _ HQ.out hE1)
        obtain ⟨fn, tmps, assign, body, hy, hR⟩ := HY.out _ (k, V k) w1 HJ1 (by have := Hcl.out; omega)
        dsimp only at hy
        clear hE1 HJ1 c0' cr cx0 cx1
        gi_wp2
        refine hR.mono ?_
        rintro e W3 (⟨rfl, hJ3, hk3⟩ | ⟨rfl, hJx3⟩)
        · have HJ3 := Lib.hid hJ3
          have HE3 := Lib.hid (HK.out _ _ HE1.out hk3)
          clear hJ3 hk3
          gi_wp2
          go_roundw
          case rel => exact ⟨k + 1, by omega, by go_num, by rw [Hst.out.1]; exact HJ3.out, HE3.out⟩
          case measure => simp [intOf]; omega
        · have HJ3 := Lib.hid hJx3
          clear hJx3
          gi_wp2
          refine bodyPost_ret (results_none rfl _ _ _) rfl ?_
          exact ⟨⟨_, rfl⟩, .inr ⟨_, ⟨k, hlt, Hst.out.2, rfl⟩, HJ3.out⟩⟩
      | false =>
        have Hst : Hid (cameR room bs x V (k + 1) = cameR room bs x V k) := by
          show cameR room bs x V (k + 1) = _
          unfold cameR
          rw [cameL, if_neg (by rw [Hg.out, hf]; simp)]
        gi_wp2
        refine ⟨trivial, ?_⟩
        have cc := (callsIn_wide (n := n - 1)).2 (hasRoom_any _ _ _ room bs[k] x wr HE.out.rroom Ht.out HE.out.rneed HE.out.three (HE.out.good _ (List.getElem_mem hlt)) HE.out.good1)
        rw [hf] at cc
        refine cc.mono ?_
        clear cc hf
        rintro e w1 ⟨rfl, hE1⟩
        have HJ1 := Lib.hid (HJ.out _ _ _ none HJs.out hE1.grown (fun r e => by cases e))
        have HE1 := Lib.hid (HIE.out _ _ HQ.out hE1)
        clear hE1 c0' cr cx0 cx1
        gi_wp2
        refine ⟨fun _ h => (by cases h), ?_⟩
        gi_wp2
        go_roundw
        case rel => exact ⟨k + 1, by omega, by go_num, by rw [Hst.out]; exact HJ1.out, HE1.out⟩
        case measure => simp [intOf]; omega
    · obtain rfl : k = bs.length := by omega
      gi_wp2
      go_end0
      exact ⟨⟨_, rfl⟩, .inl ⟨_, rfl, HJs.out⟩⟩

theorem withRoom_stops (n : Nat) (hn : 1 ≤ n) (pb pr px : Nat) (a : Option Addr) (cap : Nat) (vr : Value) (nxa : Option Addr) (nxc : Nat) (room : List Int) (bs : List (List T)) (x : T) (V : Nat → Value) (Kp : World → World → Prop) (I : World → Prop)
    (hI : ∀ w, I w → RoomIt w pb pr px a cap vr nxa nxc room bs x V) (hIE : ∀ w w', I w → Ext w w' → I w') (hK : ∀ w w', I w → Kp w w' → I w') (w : World) (hw : I w) :
    SeqStopsK Fence.wide n Try.prog 56 #[.pointer (some ⟨pb, 0, none⟩), .pointer (some ⟨pr, 0, none⟩), .pointer (some ⟨px, 0, none⟩)] (fun y : Nat × Value => #[Value.int .i64 (y.1 : Int), y.2]) Kp (fun ys => ys = cameR room bs x V bs.length)
      (fun pre => ∃ k, k < bs.length ∧ fits11 room (bs.getD k []) x = true ∧ pre = cameR room bs x V k ++ [(k, V k)]) bs.length w := fun l J Jx W hW hJ _ hY h0 =>
  withRoomF_in n hn l pb pr px a cap vr nxa nxc room bs x V Kp I hI hIE hK J Jx W (hIE _ _ hw hW) hJ hY h0

set_option maxHeartbeats 1000000 in
theorem withRoom_any (v u n : Value) (room : List Int) (bs : List (List T)) (x : T) (w : World) (hr : Ints w v room) (h : Bins w u bs) (hn : Ints w n x.need) (r3 : room.length = 3) (gb : GoodB bs) (gx : Good1 x) :
    Calls Try.prog 33 #[v, u, .agg #[.int .i64 x.id, n]] w fun e w' => ∃ (pb pr px : Nat) (a : Option Addr) (cap : Nat) (nxa : Option Addr) (nxc : Nat) (V : Nat → Value), e = .returned (.func (.func 56) #[] #[.pointer (some ⟨pb, 0, none⟩), .pointer (some ⟨pr, 0, none⟩), .pointer (some ⟨px, 0, none⟩)]) ∧ Ext w w' ∧ RoomIt w' pb pr px a cap v nxa nxc room bs x V := by
  have hmf := makes_func
  obtain ⟨ra, rc, rfl, hr⟩ := hr.open
  obtain ⟨a, cap, rfl, h⟩ := h.open
  obtain ⟨na, nc, rfl, hn⟩ := hn.open
  have hV : ∀ k, k < bs.length → ∃ nd, ∃ hk : k < bs.length, (∃ b off, a = some ⟨b, off, none⟩ ∧ w.cell? ⟨b, off + k, none⟩ = some nd) ∧ Tasks w nd bs[k] := fun k hk => by
    obtain ⟨b, off, nd, ha, hc, ht⟩ := h.at hk
    exact ⟨nd, hk, ⟨b, off, ha, hc⟩, ht⟩
  obtain ⟨V, hV⟩ := @Go.Deep.choose_lt Value ⟨.bool true⟩ bs.length _ hV
  have E0 : Ext w (((w.alloc (.cells #[.slice ra room.length rc] 23)).alloc (.cells #[.slice a bs.length cap] 24)).alloc (.cells #[.int .i64 x.id, .slice na x.need.length nc] 56)) := (((Ext.refl w).alloc _).alloc _).alloc _
  have key := Lib.hid (show RoomIt (((w.alloc (.cells #[.slice ra room.length rc] 23)).alloc (.cells #[.slice a bs.length cap] 24)).alloc (.cells #[.int .i64 x.id, .slice na x.need.length nc] 56)) (w.heap.size + 1) w.heap.size (w.heap.size + 1 + 1) a cap (.slice ra room.length rc) na nc room bs x V from
    { cbins := by
        have := box_cell (w.alloc (.cells #[.slice ra room.length rc] 23)) #[.slice a bs.length cap] 24 0
        rw [World.size_alloc] at this
        exact ((Ext.refl _).alloc _).cell this
      croom := (((Ext.refl _).alloc _).alloc _).cell (box_cell w #[.slice ra room.length rc] 23 0)
      cid := by
        have := box_cell ((w.alloc (.cells #[.slice ra room.length rc] 23)).alloc (.cells #[.slice a bs.length cap] 24)) #[.int .i64 x.id, .slice na x.need.length nc] 56 0
        rw [World.size_alloc, World.size_alloc] at this
        exact this
      cneed := by
        have := box_cell ((w.alloc (.cells #[.slice ra room.length rc] 23)).alloc (.cells #[.slice a bs.length cap] 24)) #[.int .i64 x.id, .slice na x.need.length nc] 56 1
        rw [World.size_alloc, World.size_alloc] at this
        exact this
      len := h.1
      row := fun k hk => by obtain ⟨_, ⟨b, off, ha, hc⟩, ht⟩ := hV k hk; exact ⟨b, off, ha, E0.cell hc, ht.ext E0⟩
      rroom := hr.ext E0
      rneed := hn.ext E0
      three := r3
      good := gb
      good1 := gx })
  have E1 := Lib.hid E0
  clear hV hr h hn r3 gb gx E0
  go_enter Try.func33, Try.ntmps33
  go_wp2
  go_ret
  exact ⟨_, _, _, a, cap, na, nc, V, rfl, E1.out, key.out⟩

theorem cameR_none {room : List Int} {bs : List (List T)} {x : T} {V : Nat → Value} {k : Nat} (h : cameR room bs x V k = []) : ∀ j, j < k → fits11 room (bs.getD j []) x = false := by
  induction k with
  | zero => intro j hj; omega
  | succ k ih =>
    unfold cameR at h
    rw [cameL] at h
    split at h
    · simp at h
    · rename_i hk
      intro j hj
      by_cases e : j = k
      · subst e; simpa using hk
      · exact ih h j (by omega)

set_option maxHeartbeats 4000000 in
theorem firstOf_any (v u n : Value) (room : List Int) (bs : List (List T)) (x : T) (w : World) (hr : Ints w v room) (h : Bins w u bs) (hn : Ints w n x.need) (r3 : room.length = 3) (gb : GoodB bs) (gx : Good1 x) :
    Calls Try.prog 50 #[v, u, .agg #[.int .i64 x.id, n]] w fun e w' => e = .returned (.int .i64 (nodeI (at11 room bs x))) ∧ Ext w w' := by
  obtain ⟨na, nc, rfl, hn⟩ := hn.open
  have R3 := Lib.hid r3
  have GB := Lib.hid gb
  have GX := Lib.hid gx
  clear r3 gb gx
  refine (callsIn_wide (n := 5)).1 ?_
  refine callsIn_of_wp_marks Try.func50 rfl trivial ?_ rfl
  simp only [Try.ntmps50, List.size_toArray, List.length_cons, List.length_nil, Nat.reduceAdd, Nat.reduceSub, Array.replicate_succ, Array.replicate_zero, List.push_toArray, List.append_toArray, List.nil_append, List.cons_append]
  gi_wp2
  have hE0 : Ext w ((w.alloc (Obj.cells #[.int .i64 x.id, .slice na x.need.length nc] 56)).alloc (Obj.cells #[.int .i64 0] 3)) := ((Ext.refl w).alloc _).alloc _
  have bR := Boxed.new (w.alloc (Obj.cells #[.int .i64 x.id, .slice na x.need.length nc] 56)) 3 (.int .i64 0)
  rw [World.size_alloc] at bR
  refine ⟨trivial, ?_⟩
  refine ((callsIn_wide (n := 4)).2 (withRoom_any _ _ _ room bs x _ (hr.ext hE0) (h.ext hE0) (hn.ext hE0) R3.out GB.out GX.out)).mono ?_
  rintro e w1 ⟨pb, pr, px, a, cap, nxa, nxc, V, rfl, hE1, hIt⟩
  have bR1 : Boxed w1 (w.heap.size + 1) 3 (.int .i64 0) := (hE1.block bR.lt).trans bR
  have hE2 : Ext w w1 := hE0.trans hE1
  have HIt := Lib.hid hIt
  have hl := hIt.len
  clear bR hE0 hE1 hIt hr h hn R3 GB GX
  gi_wp2
  refine wpIn_rangeFunc_ownG rfl (by omega) (gf := 56) (lb := #[.pointer (some ⟨pb, 0, none⟩), .pointer (some ⟨pr, 0, none⟩), .pointer (some ⟨px, 0, none⟩)]) rfl trivial (enters_of Try.func56 (by kernel_rfl) rfl)
    (withRoom_stops 4 (by omega) pb pr px a cap v nxa nxc room bs x V (Below w1.heap.size) (fun W => Ext w1 W) (fun W hW => HIt.out.ext hW) (fun _ _ h k => h.trans k) (fun _ _ h k => Below.trans h k) w1 (Ext.refl w1)) belowK_t (belowK_b (Nat.le_refl _)) (Below.refl _ _) (fun _ => rfl)
    (fun pre W => (pre = [] ∧ W.cell? ⟨w.heap.size + 1, 0, none⟩ = some (.int .i64 0) ∧ W.frozen? ⟨w.heap.size + 1, 0, none⟩ = false) ∧ Below w.heap.size w W)
    (fun c pre W => (c = .ret ∧ ∃ last, pre = [last] ∧ W.cell? ⟨w.heap.size + 1, 0, none⟩ = some (.int .i64 (last.1 : Int))) ∧ Below w.heap.size w W)
    (OwnFrom.and (Own.from (fun s A B row hs hg hr => ⟨hs.1, cell_kept hs.2.1 hg hr, (frozen_kept hs.2.1 hg hr).trans hs.2.2⟩) _) (ownFrom_below (Nat.le_refl _) hE2.le))
    (fun c => OwnFrom.and (Own.from (fun s A B row hs hg hr => by obtain ⟨hc, last, e1, e4⟩ := hs; exact ⟨hc, last, e1, cell_kept e4 hg hr⟩) _) (ownFrom_below (Nat.le_refl _) hE2.le))
    ⟨⟨rfl, bR1.cell, bR1.frozen⟩, hE2⟩
    (fun y => { tmps := #[v, u, Value.agg #[Value.int IntKind.i64 x.id, Value.slice na x.need.length nc], undef, undef, Value.pointer (some ⟨w.heap.size, 0, none⟩), Value.pointer (some ⟨w.heap.size + 1, 0, none⟩), Value.int .i64 (y.1 : Int), v, u, Value.agg #[Value.int IntKind.i64 x.id, Value.slice na x.need.length nc], .func (.func 56) #[] #[.pointer (some ⟨pb, 0, none⟩), .pointer (some ⟨pr, 0, none⟩), .pointer (some ⟨px, 0, none⟩)], Value.int .i64 (y.1 : Int), y.2, undef], defers := [] }) ?assign ?body ?done ?stop
  case assign =>
    intro l y W K hK
    gi_wp2
    exact hK
  case body =>
    rintro l pre y W ⟨⟨rfl, hc, hf⟩, hB⟩ _
    gi_wp2
    exact ⟨(KeepsOthers.setCell _ _ _).from _, ⟨rfl, y, rfl, World.cell?_setCell_same' _ _ _ (by rw [hc]; rfl)⟩, hB.setCell (p := ⟨w.heap.size + 1, 0, none⟩) (by simp) _⟩
  case done =>
    rintro D ys W hD hys ⟨⟨rfl, hcr, hfr⟩, hB⟩ hK
    have hat : at11 room bs x = none := at11_none fun j hj => by
      have := cameR_none hys.symm j hj
      rwa [show bs.getD j [] = bs[j] by simp [List.getD_eq_getElem?_getD, List.getElem?_eq_getElem hj]] at this
    gi_wp2
    have hK' := (KeepsOthers.setCell W ⟨w.heap.size + 1, 0, none⟩ (.int .i64 (-1))).same D _ hK rfl
    refine ⟨by simp, .inl ⟨_, _, rfl, run_takeDeferred hK', ?_⟩⟩
    have hc5 := cell_kept (World.cell?_setCell_same' W ⟨w.heap.size + 1, 0, none⟩ (.int .i64 (-1)) (by rw [hcr]; rfl)) (grownBy_putObj' _ D (.deferred none)) (fun r e => by cases e; exact ⟨_, hK', rfl⟩)
    refine ⟨.int .i64 (-1), ?_, by first | rfl | (rw [hat]; rfl), (hB.setCell (p := ⟨w.heap.size + 1, 0, none⟩) (by simp) _).trans (belowK_b (w := w) (Nat.le_refl _) _ D _ _ (by have := hE2.le; omega) hK' rfl rfl)⟩
    simp [results, Try.f50, go_sem, hc5]
  case stop =>
    rintro D c pre W hD ⟨k, hk, hfit, rfl⟩ ⟨⟨rfl, last, e1, hcr⟩, hB⟩ hK
    obtain ⟨e2, e3⟩ : cameR room bs x V k = [] ∧ (k, V k) = last := by
      cases hc : cameR room bs x V k with
      | nil => rw [hc] at e1; simpa using e1
      | cons y r => rw [hc] at e1; simp at e1
    subst e3
    have hat : at11 room bs x = some k := at11_skip (fun j hj hjk => by
      have := cameR_none e2 j hjk
      rwa [show bs.getD j [] = bs[j] by simp [List.getD_eq_getElem?_getD, List.getElem?_eq_getElem hj]] at this) hk (by rwa [show bs.getD k [] = bs[k] by simp [List.getD_eq_getElem?_getD, List.getElem?_eq_getElem hk]] at hfit)
    gi_wp2
    refine ⟨by simp, .inl ⟨_, _, rfl, run_takeDeferred hK, ?_⟩⟩
    have hc5 := cell_kept hcr (grownBy_putObj' _ D (.deferred none)) (fun r e => by cases e; exact ⟨_, hK, rfl⟩)
    refine ⟨.int .i64 (k : Int), ?_, by first | rfl | (rw [hat]; rfl), hB.trans (belowK_b (w := w) (Nat.le_refl _) W D _ _ (by have := hE2.le; omega) hK rfl rfl)⟩
    simp [results, Try.f50, go_sem, hc5]


end Go.Proofs.Ytjdhiabdcmindaa
