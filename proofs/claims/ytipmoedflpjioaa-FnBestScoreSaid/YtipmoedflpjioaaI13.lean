/- The program: the node with the greatest score. -/
import Derived.Test.YtipmoedflpjioaaI12
import Derived.Test.YtipmoedflpjioaaP2
namespace Go.Proofs.Ytipmoedflpjioaa
set_option maxRecDepth 100000
open Go.RowKit

/-- The greatest score among the first k nodes, or -1. -/
def scoreK (room : List Int) (bs : List (List T)) (x : T) (k : Nat) : Int := match bestK room bs x k with | none => -1 | some j => dotAt room bs x j
theorem dot_nonneg {room : List Int} {b : List T} {x : T} (hr : room.length = 3) (gx : Good1 x) (nx : ∀ m ∈ x.need, 0 ≤ m) (hl : (loadL b).length = 3) (h : fits11 room b x = true) : 0 ≤ dotI x.need (leftL room b) := by
  have hx := gx.1
  obtain ⟨id, need⟩ := x
  unfold fits11 at h
  unfold leftL dotI
  generalize loadL b = ld at *
  match need, hx, room, hr, ld, hl with
  | [a, b, c], _, [x, y, z], _, [p, q, r], _ =>
    have na := nx a (by simp)
    have nb := nx b (by simp)
    have nc := nx c (by simp)
    simp only [addL, List.zipWith_cons_cons, List.zipWith_nil_right, fitsB_three, decide_eq_true_eq] at h
    simp only [addL, List.zipWith_cons_cons, List.zipWith_nil_right, List.foldl_cons, List.foldl_nil]
    have p1 := Int.mul_nonneg na (show 0 ≤ x + -1 * p by omega)
    have p2 := Int.mul_nonneg nb (show 0 ≤ y + -1 * q by omega)
    have p3 := Int.mul_nonneg nc (show 0 ≤ z + -1 * r by omega)
    omega
theorem scoreK_yes {room : List Int} {bs : List (List T)} {x : T} {k : Nat} (hk : k < bs.length) (hlt : scoreK room bs x k < scoreI room bs[k] x) (h0 : -1 ≤ scoreK room bs x k) : bestK room bs x (k + 1) = some k ∧ scoreK room bs x (k + 1) = scoreI room bs[k] x := by
  have e := getD_at hk
  have hf : fits11 room bs[k] x = true := by
    cases hf : fits11 room bs[k] x with
    | true => rfl
    | false => simp [scoreI, hf] at hlt; omega
  have es : scoreI room bs[k] x = dotAt room bs x k := by unfold scoreI dotAt; rw [if_pos hf, e]
  have key : bestK room bs x (k + 1) = some k := by
    cases hb : bestK room bs x k with
    | none => exact bestK_new (by rw [e]; exact hf) hb
    | some j =>
      refine bestK_more (by rw [e]; exact hf) hb ?_
      rw [es] at hlt
      simpa [scoreK, hb] using hlt
  exact ⟨key, by rw [es]; simp [scoreK, key]⟩
theorem scoreK_no {room : List Int} {bs : List (List T)} {x : T} {k : Nat} (hk : k < bs.length) (hlt : ¬ scoreK room bs x k < scoreI room bs[k] x) (hd : fits11 room bs[k] x = true → 0 ≤ dotI x.need (leftL room bs[k])) : bestK room bs x (k + 1) = bestK room bs x k ∧ scoreK room bs x (k + 1) = scoreK room bs x k := by
  have e := getD_at hk
  have key : bestK room bs x (k + 1) = bestK room bs x k := by
    cases hf : fits11 room bs[k] x with
    | false => exact bestK_no (by rw [e]; exact hf)
    | true =>
      have es : scoreI room bs[k] x = dotAt room bs x k := by unfold scoreI dotAt; rw [if_pos hf, e]
      have h0 := hd hf
      cases hb : bestK room bs x k with
      | none =>
        exfalso
        refine hlt ?_
        rw [es]
        simp only [scoreK, hb, dotAt, e]
        omega
      | some j =>
        refine bestK_less hb fun x' => hlt ?_
        rw [es]
        simpa [scoreK, hb] using x'
  exact ⟨key, by simp [scoreK, key]⟩
theorem scoreK_ge {room : List Int} {bs : List (List T)} {x : T} (hd : ∀ b ∈ bs, fits11 room b x = true → 0 ≤ dotI x.need (leftL room b)) {k : Nat} (hk : k ≤ bs.length) : -1 ≤ scoreK room bs x k := by
  rcases bestK_spec room bs x k with ⟨h1, _⟩ | ⟨i, h1, h2, h3, _⟩
  · simp [scoreK, h1]
  · have hi : i < bs.length := by omega
    rw [getD_at hi] at h3
    have := hd _ (List.getElem_mem hi) h3
    simp only [scoreK, h1, dotAt, getD_at hi]
    omega

set_option maxHeartbeats 1000000 in
theorem bestOf_any (v u n : Value) (room : List Int) (bs : List (List T)) (x : T) (w : World) (hr : Ints w v room) (h : Bins w u bs) (hn : Ints w n x.need) (hR : RoomOk room) (gb : GoodB bs) (hl : ∀ b ∈ bs, b.length ≤ 50) (gx : Good1 x) (nx : ∀ m ∈ x.need, 0 ≤ m) :
    Calls Try.prog 75 #[v, u, .agg #[.int .i64 x.id, n]] w fun e w' => e = .returned (.int .i64 (nodeI (best12 room bs x))) ∧ Ext w w' := by
  obtain ⟨an, cn, rfl, hn⟩ := hn.open
  obtain ⟨ab, cb, rfl, h⟩ := h.open
  have hlen : bs.length ≤ 4194304 := h.1
  have HR := Lib.hid hR
  have GB := Lib.hid gb
  have HL := Lib.hid hl
  have GX := Lib.hid gx
  have HD := Lib.hid (show ∀ b ∈ bs, fits11 room b x = true → 0 ≤ dotI x.need (leftL room b) from fun b hb hf => dot_nonneg hR.1.1 gx nx (loadL_good b (gb b hb)).1 hf)
  clear hR gb hl gx nx
  go_enter Try.func75, Try.ntmps75
  go_wp2_with fail
  have hEx : Ext w _ := (Ext.refl w).alloc (Obj.cells #[.int .i64 x.id, .slice an x.need.length cn] 38)
  have cx : (w.alloc (Obj.cells #[.int .i64 x.id, .slice an x.need.length cn] 38)).cell? ⟨w.heap.size, 0, none⟩ = some (.int .i64 x.id) := by rw [box_cell]; rfl
  have cy : (w.alloc (Obj.cells #[.int .i64 x.id, .slice an x.need.length cn] 38)).cell? ⟨w.heap.size, 1, none⟩ = some (.slice an x.need.length cn) := by rw [box_cell]; rfl
  generalize w.alloc (Obj.cells #[.int .i64 x.id, .slice an x.need.length cn] 38) = W at *
  have KS := Lib.hid (show ∀ w', Ext W w' → w'.cell? ⟨w.heap.size, 0, none⟩ = some (.int .i64 x.id) ∧ w'.cell? ⟨w.heap.size, 1, none⟩ = some (.slice an x.need.length cn) from fun w' h => ⟨h.cell cx, h.cell cy⟩)
  have Hr := Lib.hid (hr.ext hEx)
  have Hn := Lib.hid (hn.ext hEx)
  have Ht := Lib.hid (h.ext hEx)
  clear hr hn h cx cy
  go_loopw [7, 8, 14] (fun a b i wr => ∃ k : Nat, k ≤ bs.length ∧ i = .int .i64 k ∧ a = .int .i64 (nodeI (bestK room bs x k)) ∧ b = .int .i64 (scoreK room bs x k) ∧ Ext W wr) (fun _ _ i _ => bs.length - (intOf i).toNat)
  case atStart => exact ⟨0, by omega, rfl, rfl, rfl, Ext.refl _⟩
  case round =>
    obtain ⟨k, hk, rfl, rfl, rfl, hE⟩ := hrel
    have HE := Lib.hid hE
    obtain ⟨c0, c1⟩ := KS.out _ hE
    clear hE
    by_cases hlt : k < bs.length
    · obtain ⟨b, off, nd, he, cb, ht⟩ := (Ht.out.ext HE.out).at hlt
      subst he
      obtain ⟨ta, tc, rfl, ht'⟩ := ht.open
      have Ht' := Lib.hid ht'
      have HY := Lib.hid (fun h => scoreK_yes (room := room) (x := x) hlt h (scoreK_ge HD.out hk))
      have HN := Lib.hid (fun h => scoreK_no (room := room) (x := x) hlt h (HD.out _ (List.getElem_mem hlt)))
      clear ht ht'
      go_wp2_with fail
      refine (scoreOf_any _ _ _ room bs[k] x _ (Hr.out.ext HE.out) Ht'.out (Hn.out.ext HE.out) HR.out (GB.out _ (List.getElem_mem hlt)) (HL.out _ (List.getElem_mem hlt)) GX.out).mono ?_
      rintro e w2 ⟨rfl, hE2⟩
      have E2 := Lib.hid (HE.out.trans hE2)
      clear hE2 c0 c1 cb
      go_wp2_with fail
      refine (scoreNumber_any room bs[k] x _).mono ?_
      rintro e w3 ⟨rfl, hE3⟩
      have E3 := Lib.hid (E2.out.trans hE3)
      clear hE3
      generalize scoreI room bs[k] x = n at *
      generalize hm : scoreK room bs x k = m at *
      have HM := Lib.hid hm
      clear hm
      by_cases hgt : m < n
      · have Hst := Lib.hid (HY.out hgt)
        go_wp2_with fail
        go_roundw
        case rel => exact ⟨k + 1, by omega, by go_num, by rw [Hst.out.1]; rfl, by rw [Hst.out.2], E3.out⟩
        case measure => simp [intOf]; omega
      · have Hst := Lib.hid (HN.out (by omega))
        go_wp2_with fail
        go_roundw
        case rel => exact ⟨k + 1, by omega, by go_num, by rw [Hst.out.1], by rw [Hst.out.2], E3.out⟩
        case measure => simp [intOf]; omega
    · have e : k = bs.length := by omega
      subst e
      have F := hEx.trans HE.out
      go_wp2
      go_ret
      exact ⟨rfl, F⟩

def bestAtI (room : List Int) (bs : List (List T)) (x : T) : Int := if ok11 room bs x = true then nodeI (best12 room bs x) else -1
theorem ok11_facts {room : List Int} {bs : List (List T)} {x : T} (h : ok11 room bs x = true) : BinsOk room bs ∧ TasksOk room (bs.flatten ++ [x]) ∧ (∀ b ∈ bs, b.length ≤ 50) ∧ Good1 x ∧ ∀ m ∈ x.need, 0 ≤ m := by
  unfold ok11 at h
  rw [Bool.and_eq_true] at h
  have h1 := binsB_iff.1 h.1
  have h2 := tasksB_iff.1 h.2
  refine ⟨h1, h2, fun b hb => ?_, h2.good x (by simp), h2.nonneg x (by simp)⟩
  have := (sub_flat hb).length_le
  have := h1.1.2.1
  omega

set_option maxHeartbeats 1000000 in
theorem BestAt_any (v u n : Value) (room : List Int) (bs : List (List T)) (x : T) (w : World) (hr : Ints w v room) (h : Bins w u bs) (hn : Ints w n x.need) (hf : bs.flatten.length ≤ 2097152) :
    Calls Try.prog 52 #[v, u, .agg #[.int .i64 x.id, n]] w fun e w' => e = .returned (.int .i64 (bestAtI room bs x)) ∧ Ext w w' := by
  obtain ⟨an, cn, rfl, hn⟩ := hn.open
  have E0 := Lib.hid ((Ext.refl w).alloc (Obj.cells #[.int .i64 x.id, .slice an x.need.length cn] 38))
  have C0 := Lib.hid (show (w.alloc (Obj.cells #[.int .i64 x.id, .slice an x.need.length cn] 38)).cell? ⟨w.heap.size, 0, none⟩ = some (.int .i64 x.id) by rw [box_cell]; rfl)
  have C1 := Lib.hid (show (w.alloc (Obj.cells #[.int .i64 x.id, .slice an x.need.length cn] 38)).cell? ⟨w.heap.size, 1, none⟩ = some (.slice an x.need.length cn) by rw [box_cell]; rfl)
  cases hb : ok11 room bs x with
  | false =>
    have Hd : Hid (bestAtI room bs x = -1) := by show bestAtI room bs x = -1; simp [bestAtI, hb]
    go_enter Try.func52, Try.ntmps52
    go_wp2_with fail
    have cc := canCome_any _ _ _ _ _ x _ (hr.ext E0.out) (h.ext E0.out) (hn.ext E0.out) hf
    rw [hb] at cc
    refine cc.mono ?_
    clear cc
    rintro e w2 ⟨rfl, hE2⟩
    go_wp2
    go_ret
    exact ⟨ret_int Hd.out.symm, E0.out.trans hE2⟩
  | true =>
    have Hd : Hid (bestAtI room bs x = nodeI (best12 room bs x)) := by show bestAtI room bs x = _; simp [bestAtI, hb]
    have HO := Lib.hid (ok11_facts hb)
    go_enter Try.func52, Try.ntmps52
    go_wp2_with fail
    have cc := canCome_any _ _ _ _ _ x _ (hr.ext E0.out) (h.ext E0.out) (hn.ext E0.out) hf
    rw [hb] at cc
    clear hb
    refine cc.mono ?_
    clear cc
    rintro e w2 ⟨rfl, hE2⟩
    have E2 := Lib.hid (E0.out.trans hE2)
    have c0 := hE2.cell C0.out
    have c1 := hE2.cell C1.out
    clear hE2
    go_wp2_with fail
    refine (bestOf_any _ _ _ room bs x _ (hr.ext E2.out) (h.ext E2.out) (hn.ext E2.out) HO.out.1.1.1 HO.out.1.goodB HO.out.2.2.1 HO.out.2.2.2.1 HO.out.2.2.2.2).mono ?_
    rintro e w3 ⟨rfl, hE3⟩
    go_wp2
    go_ret
    exact ⟨ret_int Hd.out.symm, E2.out.trans hE3⟩

end Go.Proofs.Ytipmoedflpjioaa
