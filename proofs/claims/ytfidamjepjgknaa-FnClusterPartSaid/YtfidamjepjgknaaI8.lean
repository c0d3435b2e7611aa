/- The program: where a task is, which nodes are empty. -/
import Derived.Test.YtfidamjepjgknaaI7
namespace Go.Proofs.Ytfidamjepjgknaa
set_option maxRecDepth 100000
open Go.RowKit

def isId (x : Int) (t : T) : Bool := t.id == x

set_option maxHeartbeats 400000 in
theorem hasIdF_any (id x : Int) (n : Value) (need : List Int) (p : Nat) (w : World) (hn : Ints w n need) (hp : w.cell? ⟨p, 0, none⟩ = some (.int .i64 x)) :
    Calls Try.prog 65 #[.agg #[.int .i64 id, n], .pointer (some ⟨p, 0, none⟩)] w fun e w' => e = .returned (.bool (id == x)) ∧ Ext w w' := by
  obtain ⟨a, c, rfl, -⟩ := hn.open
  have hp' := ((Ext.refl w).alloc (Obj.cells #[.int .i64 id, .slice a need.length c] 37)).cell hp
  go_enter Try.func65, Try.ntmps65
  go_wp2
  go_ret
  exact ⟨rfl, (Ext.refl w).alloc _⟩

theorem find_none {α : Type} {p : α → Bool} {l : List α} (h : ∀ j (hj : j < l.length), p l[j] = false) : l.findIdx? p = none := by
  rw [List.findIdx?_eq_none_iff]
  intro b hb
  obtain ⟨j, hj, rfl⟩ := List.getElem_of_mem hb
  exact h j hj
theorem find_some {α : Type} {p : α → Bool} {l : List α} {k : Nat} (h : ∀ j (hj : j < l.length), j < k → p l[j] = false) (hk : k < l.length) (hf : p l[k] = true) : l.findIdx? p = some k := by
  rw [List.findIdx?_eq_some_iff_getElem]
  exact ⟨hk, hf, fun j hj => by simp [h j (by omega) hj]⟩

set_option maxHeartbeats 600000 in
theorem indexFuncT_any (v : Value) (ts : List T) (x : Int) (p : Nat) (w : World) (h : Tasks w v ts) (hp : w.cell? ⟨p, 0, none⟩ = some (.int .i64 x)) :
    Calls Try.prog 64 #[v, .func (.func 65) #[] #[.pointer (some ⟨p, 0, none⟩)]] w fun e w' => e = .returned (.int .i64 (nodeI (ts.findIdx? (isId x)))) ∧ Ext w w' := by
  obtain ⟨a, cap, rfl, h⟩ := h.open
  have hl : ts.length ≤ 4194304 := h.1
  have Hp := Lib.hid hp
  clear hp
  go_enter Try.func64, Try.ntmps64
  go_wp2
  go_loopw [8] (fun i wr => ∃ k : Nat, k ≤ ts.length ∧ i = .int .i64 k ∧ Ext w wr ∧ ∀ j (hj : j < ts.length), j < k → isId x ts[j] = false) (fun i _ => ts.length - (intOf i).toNat)
  case atStart => exact ⟨0, by omega, rfl, Ext.refl _, fun _ _ h => by omega⟩
  case round =>
    obtain ⟨k, hk, rfl, hE, hg⟩ := hrel
    have Hg := Lib.hid hg
    clear hg
    by_cases hlt : k < ts.length
    · obtain ⟨b, off, nd, rfl, c0, c1, hn⟩ := h.at hlt
      have c0' := hE.cell c0
      have c1' := hE.cell c1
      obtain ⟨na, nc, rfl, hn'⟩ := (hn.ext hE).open
      have Hn := Lib.hid hn'
      have Hp2 := Lib.hid (hE.cell Hp.out)
      clear c0 c1 hn hn'
      cases hb : (ts[k].id == x) with
      | true =>
        have Hd := Lib.hid (find_some Hg.out hlt hb)
        go_wp2_with (go_at_call 65; have cc := hasIdF_any ts[k].id x _ _ p _ Hn.out Hp2.out; rw [hb] at cc; refine cc.mono ?_; clear cc; rintro e w1 ⟨rfl, hE1⟩)
        go_ret
        exact ⟨ret_int (by rw [Hd.out]; rfl), hE.trans hE1⟩
      | false =>
        have Hd : Hid (∀ j (hj : j < ts.length), j < k + 1 → isId x ts[j] = false) := by
          intro j hj hjk
          by_cases e : j = k
          · subst e; exact hb
          · exact Hg.out j hj (by omega)
        go_wp2_with (go_at_call 65; have cc := hasIdF_any ts[k].id x _ _ p _ Hn.out Hp2.out; rw [hb] at cc; refine cc.mono ?_; clear cc; rintro e w1 ⟨rfl, hE1⟩)
        have hE2 := hE.trans hE1
        clear hE hE1
        go_roundw
        case rel => exact ⟨k + 1, by omega, by go_num, hE2, Hd.out⟩
        case measure => simp [intOf]; omega
    · have e : k = ts.length := by omega
      subst e
      have Hd := Lib.hid (find_none (p := isId x) fun j hj => Hg.out j hj hj)
      go_wp2
      go_ret
      exact ⟨ret_int (by rw [Hd.out]; rfl), hE⟩

theorem nodeI_some {o : Option Nat} : decide (0 ≤ nodeI o) = o.isSome := by cases o <;> simp [nodeI] <;> omega
theorem any_find {α : Type} (p : α → Bool) (l : List α) : (l.findIdx? p).isSome = l.any p := by
  simp [List.findIdx?_isSome]

set_option maxHeartbeats 400000 in
theorem containsFuncT_any (v : Value) (ts : List T) (x : Int) (p : Nat) (w : World) (h : Tasks w v ts) (hp : w.cell? ⟨p, 0, none⟩ = some (.int .i64 x)) :
    Calls Try.prog 48 #[v, .func (.func 65) #[] #[.pointer (some ⟨p, 0, none⟩)]] w fun e w' => e = .returned (.bool (ts.any (isId x))) ∧ Ext w w' := by
  have Hd := Lib.hid (nodeI_some.trans (any_find (isId x) ts))
  generalize hz : nodeI (ts.findIdx? (isId x)) = z at *
  go_enter Try.func48, Try.ntmps48
  go_wp2_with fail
  have cc := indexFuncT_any _ _ x p _ h hp
  rw [hz] at cc
  clear hz
  refine cc.mono ?_
  clear cc
  rintro e w1 ⟨rfl, hE⟩
  go_wp2
  go_ret
  exact ⟨ret_bool Hd.out, hE⟩

theorem makes_func (fn : Fn) (first cap : Array Value) (w : World) : (Instr.makeFunc fn first cap).run Try.prog w = .ok (.func fn first cap) w := rfl

set_option maxHeartbeats 400000 in
theorem hasId_any (x : Int) (w : World) :
    Calls Try.prog 49 #[.int .i64 x] w fun e w' => e = .returned (.func (.func 65) #[] #[.pointer (some ⟨w.heap.size, 0, none⟩)]) ∧ w' = w.alloc (.cells #[.int .i64 x] 3) := by
  have hmf := makes_func
  go_enter Try.func49, Try.ntmps49
  go_wp2
  go_ret
  exact ⟨rfl, rfl⟩

set_option maxHeartbeats 400000 in
theorem whereF_any (v : Value) (ts : List T) (x : Int) (p : Nat) (w : World) (h : Tasks w v ts) (hp : w.cell? ⟨p, 0, none⟩ = some (.int .i64 x)) :
    Calls Try.prog 47 #[v, .pointer (some ⟨p, 0, none⟩)] w fun e w' => e = .returned (.bool (ts.any (isId x))) ∧ Ext w w' := by
  go_enter Try.func47, Try.ntmps47
  go_wp2_with fail
  refine (hasId_any _ _).mono ?_
  rintro e w1 ⟨rfl, rfl⟩
  have hE := (Ext.refl w).alloc (.cells #[.int .i64 x] 3)
  have hc : (w.alloc (.cells #[.int .i64 x] 3)).cell? ⟨w.heap.size, 0, none⟩ = some (.int .i64 x) := by rw [box_cell]; rfl
  have Ht := Lib.hid (h.ext hE)
  generalize w.alloc (.cells #[.int .i64 x] 3) = W at *
  go_wp2_with fail
  refine (containsFuncT_any _ _ x _ _ Ht.out hc).mono ?_
  rintro e w2 ⟨rfl, hE2⟩
  go_wp2
  go_ret
  exact ⟨rfl, hE.trans hE2⟩

set_option maxHeartbeats 600000 in
theorem indexFuncB_any (v : Value) (bs : List (List T)) (x : Int) (p : Nat) (w : World) (h : Bins w v bs) (hp : w.cell? ⟨p, 0, none⟩ = some (.int .i64 x)) :
    Calls Try.prog 46 #[v, .func (.func 47) #[] #[.pointer (some ⟨p, 0, none⟩)]] w fun e w' => e = .returned (.int .i64 (nodeI (where0 bs x))) ∧ Ext w w' := by
  obtain ⟨a, cap, rfl, h⟩ := h.open
  have hl : bs.length ≤ 4194304 := h.1
  have Hp := Lib.hid hp
  clear hp
  go_enter Try.func46, Try.ntmps46
  go_wp2
  go_loopw [8] (fun i wr => ∃ k : Nat, k ≤ bs.length ∧ i = .int .i64 k ∧ Ext w wr ∧ ∀ j (hj : j < bs.length), j < k → bs[j].any (isId x) = false) (fun i _ => bs.length - (intOf i).toNat)
  case atStart => exact ⟨0, by omega, rfl, Ext.refl _, fun _ _ h => by omega⟩
  case round =>
    obtain ⟨k, hk, rfl, hE, hg⟩ := hrel
    have Hg := Lib.hid hg
    clear hg
    by_cases hlt : k < bs.length
    · obtain ⟨b, off, nd, rfl, c0, ht⟩ := h.at hlt
      have c0' := hE.cell c0
      have Ht := Lib.hid (ht.ext hE)
      have Hp2 := Lib.hid (hE.cell Hp.out)
      clear c0 ht
      cases hb : bs[k].any (isId x) with
      | true =>
        have Hd : Hid (where0 bs x = some k) := find_some Hg.out hlt hb
        go_wp2_with fail
        have cc := whereF_any _ _ x p _ Ht.out Hp2.out
        rw [hb] at cc
        refine cc.mono ?_
        clear cc
        rintro e w1 ⟨rfl, hE1⟩
        go_wp2_with fail
        go_ret
        exact ⟨ret_int (by rw [Hd.out]; rfl), hE.trans hE1⟩
      | false =>
        have Hd : Hid (∀ j (hj : j < bs.length), j < k + 1 → bs[j].any (isId x) = false) := by
          intro j hj hjk
          by_cases e : j = k
          · subst e; exact hb
          · exact Hg.out j hj (by omega)
        go_wp2_with fail
        have cc := whereF_any _ _ x p _ Ht.out Hp2.out
        rw [hb] at cc
        refine cc.mono ?_
        clear cc
        rintro e w1 ⟨rfl, hE1⟩
        have hE2 := hE.trans hE1
        clear hE hE1
        go_wp2_with fail
        go_roundw
        case rel => exact ⟨k + 1, by omega, by go_num, hE2, Hd.out⟩
        case measure => simp [intOf]; omega
    · have e : k = bs.length := by omega
      subst e
      have Hd : Hid (where0 bs x = none) := find_none fun j hj => Hg.out j hj hj
      go_wp2
      go_ret
      exact ⟨ret_int (by rw [Hd.out]; rfl), hE⟩

set_option maxHeartbeats 400000 in
theorem whereOf_any (v : Value) (bs : List (List T)) (x : Int) (w : World) (h : Bins w v bs) :
    Calls Try.prog 27 #[v, .int .i64 x] w fun e w' => e = .returned (.int .i64 (nodeI (where0 bs x))) ∧ Ext w w' := by
  have hmf := makes_func
  go_enter Try.func27, Try.ntmps27
  go_wp2_with fail
  have hE := (Ext.refl w).alloc (.cells #[.int .i64 x] 3)
  have hc : (w.alloc (.cells #[.int .i64 x] 3)).cell? ⟨w.heap.size, 0, none⟩ = some (.int .i64 x) := by rw [box_cell]; rfl
  have Ht := Lib.hid (h.ext hE)
  generalize w.alloc (.cells #[.int .i64 x] 3) = W at *
  refine (indexFuncB_any _ _ x _ _ Ht.out hc).mono ?_
  rintro e w2 ⟨rfl, hE2⟩
  go_wp2
  go_ret
  exact ⟨rfl, hE.trans hE2⟩

/-- A slice of numbers that the call owns, not nil. -/
def NeedX (w : World) (B : Nat) (v : Value) (xs : List Int) : Prop := ∃ g, NeedS w B g v xs
theorem NeedX.ext {w w' : World} {B : Nat} {v : Value} {xs : List Int} (h : NeedX w B v xs) (k : Ext w w') : NeedX w' B v xs := let ⟨g, h⟩ := h; ⟨g, h.ext k⟩
theorem NeedX.own {w : World} {B : Nat} {v : Value} {xs : List Int} (h : NeedX w B v xs) : OwnInts w B v xs := let ⟨_, h⟩ := h; h.2
theorem NeedX.lit0 (w : World) (B : Nat) (hB : B ≤ w.heap.size) : NeedX (w.alloc (.cells #[] 3)) B (.slice (some ⟨w.heap.size, 0, none⟩) 0 0) [] := ⟨w.heap.size, ⟨0, rfl⟩, OwnInts.lit0 w B hB⟩
theorem emptyL_step {bs : List (List T)} {k : Nat} (h : k < bs.length) : emptyL (bs.take (k + 1)) = if bs[k].length = 0 then emptyL (bs.take k) ++ [(k : Int)] else emptyL (bs.take k) := by
  have e : ∀ m, m ≤ bs.length → emptyL (bs.take m) = ((List.range m).filter fun i => (bs.getD i []).isEmpty).map fun (i : Nat) => (i : Int) := by
    intro m hm
    unfold emptyL
    rw [List.length_take, Nat.min_eq_left hm]
    congr 1
    apply List.filter_congr
    intro i hi
    simp only [List.mem_range] at hi
    rw [List.getD_eq_getElem?_getD, List.getD_eq_getElem?_getD, List.getElem?_take, if_pos hi]
  rw [e _ (by omega), e _ (by omega), List.range_succ, List.filter_append, List.map_append]
  have hg : bs.getD k [] = bs[k] := by simp [List.getD_eq_getElem?_getD, List.getElem?_eq_getElem h]
  simp only [List.filter_cons, List.filter_nil, hg]
  by_cases h0 : bs[k].length = 0
  · rw [if_pos h0, if_pos (by simpa using List.eq_nil_of_length_eq_zero h0)]
    rfl
  · rw [if_neg h0, if_neg (by intro x; exact h0 (by simpa using x))]
    simp
theorem emptyL_len (bs : List (List T)) : (emptyL bs).length ≤ bs.length := by
  unfold emptyL
  rw [List.length_map]
  exact Nat.le_trans (List.length_filter_le _ _) (by simp)

theorem empties_lim (room : List Int) (bs : List (List T)) : (emptiesL room bs).length ≤ lim := by
  unfold emptiesL lim
  split
  · rename_i hb
    have h1 := (binsB_iff.1 hb).2.1
    have h2 := emptyL_len bs
    omega
  · simp

end Go.Proofs.Ytfidamjepjgknaa
