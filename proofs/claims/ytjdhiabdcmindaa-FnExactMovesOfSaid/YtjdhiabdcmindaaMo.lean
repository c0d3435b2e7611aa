/- All possible moves, both sides and the plain laws (eight texts in one: a claim may hold sixty files). No condition. -/
import Derived.Test.YtjdhiabdcmindaaSmo
import Derived.Test.YtjdhiabdcmindaaI10
import Derived.Test.YtjdhiabdcmindaaDgp
namespace Go.Proofs.Ytjdhiabdcmindaa
set_option maxRecDepth 100000
open Go.RowKit

/-- The possible moves of a task to the first q nodes; of some tasks; of all. -/
def rowM (room : List Int) (bs : List (List T)) (id : Int) (q : Nat) : List Pr := ((List.range q).filter fun (t : Nat) => canB room bs id (t : Int)).map fun (t : Nat) => ⟨id, (t : Int)⟩
def allM (room : List Int) (bs : List (List T)) (ts : List T) : List Pr := ts.flatMap fun x => rowM room bs x.id bs.length
def movesOfL (room : List Int) (bs : List (List T)) : List Pr := if binsB room bs = true then allM room bs bs.flatten else []
theorem rowM_yes {room : List Int} {bs : List (List T)} {id : Int} {q : Nat} (h : canB room bs id (q : Int) = true) : rowM room bs id (q + 1) = rowM room bs id q ++ [⟨id, (q : Int)⟩] := by
  unfold rowM
  rw [List.range_succ, List.filter_append, List.map_append]
  simp [h]
theorem rowM_no {room : List Int} {bs : List (List T)} {id : Int} {q : Nat} (h : canB room bs id (q : Int) = false) : rowM room bs id (q + 1) = rowM room bs id q := by
  unfold rowM
  rw [List.range_succ, List.filter_append, List.map_append]
  simp [h]
theorem allM_step (room : List Int) (bs : List (List T)) {ts : List T} {k : Nat} (h : k < ts.length) : allM room bs (ts.take (k + 1)) = allM room bs (ts.take k) ++ rowM room bs ts[k].id bs.length := by
  unfold allM
  rw [List.take_succ_eq_append_getElem h, List.flatMap_append]
  simp

set_option maxHeartbeats 4000000 in
theorem sMovesOf_any (v u : Value) (room : List Int) (bs : List (List T)) (w : World) (hr : Ints w v room) (h : Bins w u bs) (hf : bs.flatten.length ≤ 2097152) :
    Calls Try.prog 18 #[v, u] w fun e w' => ∃ r, e = .returned r ∧ OwnTwos 28 w' 0 r (movesOfL room bs) ∧ Ext w w' := by
  obtain ⟨ra, rc, rfl, hr⟩ := hr.open
  obtain ⟨a, c, rfl, h⟩ := h.open
  have E0 := Lib.hid ((Ext.refl w).alloc (.cells #[] 28))
  have O0 := Lib.hid (OwnTwos.lit0 28 w w.heap.size (Nat.le_refl _))
  have Hr := Lib.hid hr
  have Hb := Lib.hid h
  have BV := Lib.hid (sBinsValid_any _ _ room bs _ (hr.ext E0.out) (h.ext E0.out) hf)
  clear hr h
  cases hv : binsB room bs with
  | false =>
    have cc := BV.out
    rw [hv] at cc
    have HP := Lib.hid (show movesOfL room bs = [] from by unfold movesOfL; rw [hv]; rfl)
    clear hv
    go_enter Try.func18, Try.ntmps18
    go_wp2_with (go_at_call 9; refine cc.mono ?_; clear cc; rintro e w1 ⟨rfl, hE1⟩)
    have F := Lib.hid (show OwnTwos 28 w1 0 (.slice (some ⟨w.heap.size, 0, none⟩) 0 0) (movesOfL room bs) ∧ Ext w w1 from ⟨by rw [HP.out]; exact ownsRow_base (O0.out.ext hE1) (Nat.zero_le _), E0.out.trans hE1⟩)
    clear hE1 HP
    go_ret
    exact ⟨_, rfl, F.out.1, F.out.2⟩
  | true =>
    have ok := binsB_iff.1 hv
    have okT := ok.1
    have R3 := Lib.hid okT.1.1.1
    have GB := Lib.hid (show GoodB bs from fun b hb => Good.flat okT.good hb)
    have hf14 : bs.flatten.length ≤ 14 := okT.2.1
    have hl14 : bs.length ≤ 14 := ok.2.1
    have HLB := Lib.hid (show ∀ b ∈ bs, b.length ≤ 1000 from fun b hb => by have := (sub_flat hb).length_le; omega)
    have HM := Lib.hid (show movesOfL room bs = allM room bs bs.flatten from by unfold movesOfL; rw [if_pos hv])
    have cc := BV.out
    rw [hv] at cc
    clear hv BV ok okT
    go_enter Try.func18, Try.ntmps18
    go_wp2_with (go_at_call 9; refine cc.mono ?_; clear cc; rintro e w1 ⟨rfl, hE1⟩)
    have E1 := Lib.hid (E0.out.trans hE1)
    have O1 := Lib.hid (O0.out.ext hE1)
    clear hE1 E0 O0
    go_wp2_with fail
    refine (l2All_any _ bs w1 (Hb.out.ext E1.out) (by omega)).mono ?_
    rintro e w2 ⟨r, rfl, hE2, hA⟩
    have TA := Lib.hid (hA.done (by unfold lim; omega))
    obtain ⟨aa, ac, rfl⟩ := hA.form
    have E2 := Lib.hid (E1.out.trans hE2)
    have O2 := Lib.hid (O1.out.ext hE2)
    clear hE2 hA E1 O1
    have HS := Lib.hid (fun k (h : k < bs.flatten.length) => allM_step room bs h)
    generalize bs.flatten = all at *
    go_wp2_with fail
    go_loopw [5, 7] (fun s i wr => ∃ (k : Nat) (ps : List Pr) (sa : Option Addr) (sc : Nat), k ≤ all.length ∧ i = .int .i64 k ∧ s = .slice sa ps.length sc ∧ OwnTwos 28 wr w.heap.size (.slice sa ps.length sc) ps ∧ ps = allM room bs (all.take k) ∧ ps.length ≤ 14 * k ∧ Ext w wr ∧ Tasks wr (.slice aa all.length ac) all) (fun _ i _ => all.length - (intOf i).toNat)
    case atStart => exact ⟨0, [], _, _, by omega, rfl, rfl, O2.out, rfl, by simp, E2.out, TA.out⟩
    case round =>
      clear O2 E2 TA
      obtain ⟨k, ps, sa, sc, hk, rfl, rfl, ho, hps, hpl, hE, hta⟩ := hrel
      have HO := Lib.hid ho
      have HPS := Lib.hid hps
      have HE := Lib.hid hE
      have HTA := Lib.hid hta
      have hkc : k ≤ 14 := by omega
      clear ho hps hE hta
      by_cases hlt : k < all.length
      · have HK := Lib.hid (HS.out k hlt)
        have b0 : (0 : Int) ≤ (k : Int) := by omega
        have b1 : (k : Int) < (all.length : Int) := by omega
        go_wp2_with fail
        go_loopw [5, 8] (fun s j wi => ∃ (q : Nat) (qs : List Pr) (sa : Option Addr) (sc : Nat), q ≤ bs.length ∧ j = .int .i64 q ∧ s = .slice sa qs.length sc ∧ OwnTwos 28 wi w.heap.size (.slice sa qs.length sc) qs ∧ qs = ps ++ rowM room bs all[k].id q ∧ qs.length ≤ 14 * k + q ∧ Ext w wi ∧ Tasks wi (.slice aa all.length ac) all) (fun _ j _ => bs.length - (intOf j).toNat)
        case atStart => exact ⟨0, ps, sa, sc, by omega, rfl, rfl, HO.out, by simp [rowM], by omega, HE.out, HTA.out⟩
        case round =>
          clear HO HE HTA
          obtain ⟨q, qs, sa, sc, hq, rfl, rfl, ho, hqs, hql, hE, hta⟩ := hrel
          have HO := Lib.hid ho
          have HQS := Lib.hid hqs
          have HE := Lib.hid hE
          have HTA := Lib.hid hta
          have hszw : w.heap.size ≤ wr.heap.size := hE.le
          clear ho hqs hE
          by_cases hlt2 : q < bs.length
          · obtain ⟨b, off, n2, hta', d0, d1, hn⟩ := hta.at hlt
            subst hta'
            have q0 : (q : Int) < (bs.length : Int) := by omega
            have E3 := Lib.hid ((Ext.refl wr).alloc (.cells #[.int .i64 all[k].id, .int .i64 (q : Int)] 28))
            have R3' := Lib.hid (heap_alloc_new wr (.cells #[.int .i64 all[k].id, .int .i64 (q : Int)] 28))
            have CC := Lib.hid (l15Can_any _ _ room all[k].id (q : Int) bs _ (Hr.out.ext (HE.out.trans E3.out)) (Hb.out.ext (HE.out.trans E3.out)) R3.out GB.out (by omega) HLB.out)
            clear hta hn
            cases hcan : canB room bs all[k].id (q : Int) with
            | false =>
              have HQ2 := Lib.hid (show qs = ps ++ rowM room bs all[k].id (q + 1) from by rw [rowM_no hcan]; exact HQS.out)
              have cc := CC.out
              rw [hcan] at cc
              clear hcan CC HQS
              go_wp2_with (go_at_call 38; refine cc.mono ?_; clear cc; rintro e w4 ⟨rfl, hE4⟩)
              have E4 := E3.out.trans hE4
              have O4 := Lib.hid (HO.out.ext E4)
              have X4 := Lib.hid (HE.out.trans E4)
              have T4 := Lib.hid (HTA.out.ext E4)
              clear E4 hE4
              go_roundw
              case rel => exact ⟨q + 1, qs, sa, sc, by omega, by go_num, rfl, O4.out, HQ2.out, by omega, X4.out, T4.out⟩
              case measure => simp [intOf]; omega
            | true =>
              have HQ2 := Lib.hid (show qs ++ [⟨all[k].id, (q : Int)⟩] = ps ++ rowM room bs all[k].id (q + 1) from by rw [rowM_yes hcan, ← List.append_assoc, ← HQS.out])
              have cc := CC.out
              rw [hcan] at cc
              clear hcan CC HQS
              have elq : (qs ++ [(⟨all[k].id, (q : Int)⟩ : Pr)]).length = qs.length + 1 := by simp
              go_wp2_with (first | (go_at_call 38; refine cc.mono ?_; clear cc; rintro e w4 ⟨rfl, hE4⟩; have E4 := Lib.hid (E3.out.trans hE4); have R4 := Lib.hid ((hE4.block (lt_of_heap R3'.out)).trans R3'.out); have c0 := cell_of_heap R4.out 0; have c1 := cell_of_heap R4.out 1; simp only [List.getElem?_toArray, List.getElem?_cons_zero, List.getElem?_cons_succ] at c0 c1; have hs4 : w.heap.size ≤ w4.heap.size := Nat.le_trans hszw E4.out.le; clear hE4) | (at_builtin; refine app_mvs rfl _ _ rfl w.heap.size _ qs rfl (HO.out.ext (E4.out.alloc _)) (by simp; omega) _ _ _ [⟨all[k].id, (q : Int)⟩] rfl (Move.lit1 w4 all[k].id (q : Int) 1 _) (by unfold lim; simp; omega) ?_; intro v' w5 hown hkt hbl) | fail)
              obtain ⟨pa, pc, rfl⟩ := hown.form
              have E5 := E4.out.alloc (.cells #[.int .i64 all[k].id, .int .i64 (q : Int)] 28)
              have O5 := Lib.hid hown
              have X5 := Lib.hid (show Ext w w5 from Below.trans (HE.out.trans E5) hbl)
              have T5 := Lib.hid ((HTA.out.ext E5).kt hkt (by decide) (by decide))
              clear E5 hown hkt hbl c0 c1
              go_wp2_with fail
              go_roundw
              case rel => exact ⟨q + 1, qs ++ [⟨all[k].id, (q : Int)⟩], pa, pc, by omega, by go_num, by rw [elq], O5.out, HQ2.out, by rw [elq]; omega, X5.out, T5.out⟩
              case measure => simp [intOf]; omega
          · have e : q = bs.length := by omega
            have HQ2 := Lib.hid (show qs = allM room bs (all.take (k + 1)) from by rw [HK.out, ← HPS.out, HQS.out, e])
            have hnl : ¬ (q : Int) < (bs.length : Int) := by omega
            clear HQS hta e
            go_wp2_with fail
            go_roundw
            case rel => exact ⟨k + 1, qs, sa, sc, by omega, by go_num, rfl, HO.out, HQ2.out, by omega, HE.out, HTA.out⟩
            case measure => simp [intOf] <;> omega
      · have e : k = all.length := by omega
        have F := Lib.hid (show OwnTwos 28 wr 0 (.slice sa ps.length sc) (movesOfL room bs) ∧ Ext w wr from ⟨by
          have h1 := ownsRow_base HO.out (Nat.zero_le _)
          have h2 := HPS.out
          rw [e, List.take_length, ← HM.out] at h2
          rw [← h2]; exact h1, HE.out⟩)
        have hnl : ¬ (k : Int) < (all.length : Int) := by omega
        clear HO HPS HE HTA e
        go_wp2_with fail
        go_ret
        exact ⟨_, rfl, F.out.1, F.out.2⟩

end Go.Proofs.Ytjdhiabdcmindaa

namespace Go.Proofs.Ytjdhiabdcmindaa
set_option maxRecDepth 100000

theorem found_at {room : List Int} {bs : List (List T)} (h : TasksOk room bs.flatten) {k i : Nat} (hk : k < bs.length) (hi : i < bs[k].length) (d : T) : foundL bs[k][i].id bs.flatten d = bs[k][i] := by
  obtain ⟨h1, h2⟩ := found_mem (l := bs.flatten) (id := bs[k][i].id) ⟨bs[k][i], List.mem_flatten.2 ⟨bs[k], List.getElem_mem hk, List.getElem_mem hi⟩, rfl⟩ d
  obtain ⟨b, hb, hm⟩ := List.mem_flatten.1 h1
  obtain ⟨j, hj, rfl⟩ := List.getElem_of_mem hb
  obtain ⟨l, hl, el⟩ := List.getElem_of_mem hm
  rw [← el] at h2 ⊢
  have w1 := where_at h hj hl
  rw [h2, where_at h hk hi] at w1
  simp only [Option.some.injEq] at w1
  subst w1
  have f1 := find_at (tasksOk_sub (sub_flat (List.getElem_mem hk)) h) hl
  rw [h2, find_at (tasksOk_sub (sub_flat (List.getElem_mem hk)) h) hi] at f1
  simp only [Option.some.injEq] at f1
  subst f1
  rfl
/-- The moves of a task of node k to the first q nodes, as the program finds them. -/
def rowI (room : List Int) (bs : List (List T)) (k : Nat) (x : T) (q : Nat) : List Pr := ((List.range q).filter fun t => fits11 room (bs.getD t []) x && !(t == k)).map fun (t : Nat) => ⟨x.id, (t : Int)⟩
theorem rowI_eq {room : List Int} {bs : List (List T)} (h : TasksOk room bs.flatten) {k i : Nat} (hk : k < bs.length) (hi : i < bs[k].length) : rowI room bs k bs[k][i] bs.length = rowM room bs bs[k][i].id bs.length := by
  unfold rowI rowM
  congr 1
  refine List.filter_congr fun t ht => ?_
  have ht := List.mem_range.1 ht
  by_cases e : t = k
  · subst e
    rw [can_same (where_at h hk hi) rfl]
    simp
  · rw [can_fits (where_at h hk hi) ht e, found_at h hk hi, getD_at ht]
    simp [e]
/-- What has been appended when the nodes pre have come. -/
def cameP (k : Nat) (id : Int) (pre : List (Nat × Value)) : List Pr := pre.filterMap fun y => if y.1 = k then none else some ⟨id, (y.1 : Int)⟩
theorem cameP_nil (k : Nat) (id : Int) : cameP k id [] = [] := rfl
theorem cameP_same {k : Nat} {id : Int} (pre : List (Nat × Value)) {y : Nat × Value} (h : y.1 = k) : cameP k id (pre ++ [y]) = cameP k id pre := by simp [cameP, h]
theorem cameP_more {k : Nat} {id : Int} (pre : List (Nat × Value)) {y : Nat × Value} (h : y.1 ≠ k) : cameP k id (pre ++ [y]) = cameP k id pre ++ [⟨id, (y.1 : Int)⟩] := by simp [cameP, h]
theorem cameP_len (k : Nat) (id : Int) (pre : List (Nat × Value)) : (cameP k id pre).length ≤ pre.length := List.length_filterMap_le _ _
theorem cameP_all (room : List Int) (bs : List (List T)) (x : T) (V : Nat → Value) (k : Nat) : ∀ q, cameP k x.id (cameR room bs x V q) = rowI room bs k x q := by
  intro q
  induction q with
  | zero => rfl
  | succ q ih =>
    have er : rowI room bs k x (q + 1) = rowI room bs k x q ++ (if fits11 room (bs.getD q []) x && !(q == k) then [⟨x.id, (q : Int)⟩] else []) := by
      unfold rowI
      rw [List.range_succ, List.filter_append, List.map_append]
      congr 1
      rw [List.filter_cons, List.filter_nil]
      split <;> rfl
    have ec : cameR room bs x V (q + 1) = if fits11 room (bs.getD q []) x then cameR room bs x V q ++ [(q, V q)] else cameR room bs x V q := rfl
    rw [er, ec, ← ih]
    by_cases hf : fits11 room (bs.getD q []) x = true
    · rw [if_pos hf, hf, Bool.true_and]
      by_cases hq : q = k
      · rw [cameP_same _ hq]; simp [hq]
      · rw [cameP_more _ hq]; simp [hq]
    · rw [if_neg hf, Bool.eq_false_iff.2 hf]
      simp
theorem allM_app (room : List Int) (bs : List (List T)) (xs ys : List T) : allM room bs (xs ++ ys) = allM room bs xs ++ allM room bs ys := by simp [allM]
theorem allM_snoc {room : List Int} {bs : List (List T)} (h : TasksOk room bs.flatten) {k i : Nat} (hk : k < bs.length) (hi : i < bs[k].length) : allM room bs ((bs.take k).flatten ++ bs[k].take (i + 1)) = allM room bs ((bs.take k).flatten ++ bs[k].take i) ++ rowI room bs k bs[k][i] bs.length := by
  rw [rowI_eq h hk hi, List.take_succ_eq_append_getElem hi, ← List.append_assoc, allM_app room bs _ [bs[k][i]]]
  simp [allM]
theorem allM_bin {bs : List (List T)} {k : Nat} (hk : k < bs.length) : (bs.take k).flatten ++ bs[k].take bs[k].length = (bs.take (k + 1)).flatten := by
  rw [List.take_succ_eq_append_getElem hk, List.flatten_append, List.take_length]; simp

end Go.Proofs.Ytjdhiabdcmindaa

namespace Go.Proofs.Ytjdhiabdcmindaa
set_option maxRecDepth 100000
open Go.RowKit Go.Shelf

/-- All cells but those of moves are as they were. -/
def KV (w w' : World) : Prop := w.heap.size ≤ w'.heap.size ∧ ∀ (b : Nat) (cs : Array Value) (t : TypeId) (fz : Nat × Nat), w.heap[b]? = some (Obj.cells cs t fz) → t ≠ 28 → t ≠ 32 → w'.heap[b]? = w.heap[b]?
theorem KV.refl (w : World) : KV w w := ⟨Nat.le_refl _, fun _ _ _ _ _ _ _ => rfl⟩
theorem KV.trans {a b c : World} (h : KV a b) (k : KV b c) : KV a c :=
  ⟨Nat.le_trans h.1 k.1, fun x cs t fz hx h1 h2 => by have e := h.2 x cs t fz hx h1 h2; exact (k.2 x cs t fz (e.trans hx) h1 h2).trans e⟩
theorem Ext.kv {w w' : World} (h : Ext w w') : KV w w' := ⟨h.le, fun _ _ _ _ hb _ _ => h.block (lt_of_heap hb)⟩
/-- A block that is no cells is turned. -/
theorem KV.putObj {w : World} {l : Nat} {o : Obj} (hl : w.heap[l]? = some o) (ho : o.isCells = false) (o' : Obj) : KV w (w.putObj l o') := by
  have hg := grownBy_putObj' w l o'
  refine ⟨hg.size, fun b cs t fz hb _ _ => hg.block b (lt_of_heap hb) (fun e => ?_)⟩
  simp only [Option.some.injEq] at e
  subst e
  rw [hl] at hb
  simp only [Option.some.injEq] at hb
  subst hb
  cases ho
/-- A row of moves grows. -/
theorem KV.grown {w w' : World} {v : Value} {B n : Nat} {xs : List Value} (ho : w.ownsRow B 28 2 v n xs) (h : w.grownBy w' v.ownBlock) : KV w w' := by
  have k := grownBy_kt ho h
  exact ⟨k.1, fun b cs t fz hb h1 _ => k.2 b cs t fz hb h1⟩
/-- The box of the row is written. -/
theorem KV.box {w : World} {b : Nat} {v u : Value} (h : w.heap[b]? = some (.cells #[v] 32 (0, 0))) : KV w (w.setCell ⟨b, 0, none⟩ u) := by
  have k := KT.put (p := ⟨b, 0, none⟩) h u
  exact ⟨k.1, fun b cs t fz hb _ h2 => k.2 b cs t fz hb h2⟩
theorem Row.kv {w w' : World} {e : TypeId} {a : Option Addr} {xs : List Value} (h : Row w e a xs) (k : KV w w') (n1 : e ≠ 28) (n2 : e ≠ 32) : Row w' e a xs := by
  rcases h with h | ⟨b, off, cs, ha, hb, hc⟩
  · exact .inl h
  · exact .inr ⟨b, off, cs, ha, (k.2 _ _ _ _ hb n1 n2).trans hb, hc⟩
theorem Ints.kv {w w' : World} {v : Value} {xs : List Int} (h : Ints w v xs) (k : KV w w') : Ints w' v xs := by
  obtain ⟨hl, a, cap, hv, hr⟩ := h
  exact ⟨hl, a, cap, hv, Row.kv hr k (by decide) (by decide)⟩
theorem Tasks.kv {w w' : World} {v : Value} {ts : List T} (h : Tasks w v ts) (k : KV w w') : Tasks w' v ts := by
  obtain ⟨hl, a, cap, xs, hv, hr, hc⟩ := h
  exact ⟨hl, a, cap, xs, hv, Row.kv hr k (by decide) (by decide), hc.1, fun j hj => ⟨(hc.2 j hj).1, let ⟨n, hn, hi⟩ := (hc.2 j hj).2; ⟨n, hn, hi.kv k⟩⟩⟩
theorem Bins.kv {w w' : World} {v : Value} {bs : List (List T)} (h : Bins w v bs) (k : KV w w') : Bins w' v bs := by
  obtain ⟨hl, a, cap, xs, hv, hr, hc⟩ := h
  exact ⟨hl, a, cap, xs, hv, Row.kv hr k (by decide) (by decide), hc.1, fun j hj => let ⟨n, hn, hi⟩ := hc.2 j hj; ⟨n, hn, hi.kv k⟩⟩

/-- What the iterator reads, with the types of its blocks. -/
structure RoomH (w : World) (pb pr px : Nat) (a : Option Addr) (cap : Nat) (vr : Value) (nxa : Option Addr) (nxc : Nat) (room : List Int) (bs : List (List T)) (x : T) (V : Nat → Value) : Prop where
  hb : w.heap[pb]? = some (.cells #[.slice a bs.length cap] 24 (0, 0))
  hr : w.heap[pr]? = some (.cells #[vr] 23 (0, 0))
  hx : w.heap[px]? = some (.cells #[.int .i64 x.id, .slice nxa x.need.length nxc] 56 (0, 0))
  len : bs.length ≤ 4194304
  row : ∃ xs, Row w 52 a xs ∧ xs.length = bs.length ∧ ∀ k (hk : k < bs.length), xs[k]? = some (V k) ∧ Tasks w (V k) bs[k]
  rroom : Ints w vr room
  rneed : Ints w (.slice nxa x.need.length nxc) x.need
  three : room.length = 3
  good : GoodB bs
  good1 : Good1 x
theorem RoomH.kv {w w' : World} {pb pr px : Nat} {a : Option Addr} {cap : Nat} {vr : Value} {nxa : Option Addr} {nxc : Nat} {room : List Int} {bs : List (List T)} {x : T} {V : Nat → Value} (h : RoomH w pb pr px a cap vr nxa nxc room bs x V) (k : KV w w') : RoomH w' pb pr px a cap vr nxa nxc room bs x V where
  hb := (k.2 _ _ _ _ h.hb (by decide) (by decide)).trans h.hb
  hr := (k.2 _ _ _ _ h.hr (by decide) (by decide)).trans h.hr
  hx := (k.2 _ _ _ _ h.hx (by decide) (by decide)).trans h.hx
  len := h.len
  row := let ⟨xs, h1, h2, h3⟩ := h.row; ⟨xs, Row.kv h1 k (by decide) (by decide), h2, fun j hj => ⟨(h3 j hj).1, (h3 j hj).2.kv k⟩⟩
  rroom := h.rroom.kv k
  rneed := h.rneed.kv k
  three := h.three
  good := h.good
  good1 := h.good1
theorem RoomH.it {w : World} {pb pr px : Nat} {a : Option Addr} {cap : Nat} {vr : Value} {nxa : Option Addr} {nxc : Nat} {room : List Int} {bs : List (List T)} {x : T} {V : Nat → Value} (h : RoomH w pb pr px a cap vr nxa nxc room bs x V) : RoomIt w pb pr px a cap vr nxa nxc room bs x V where
  cbins := cell_of_heap h.hb 0
  croom := cell_of_heap h.hr 0
  cid := cell_of_heap h.hx 0
  cneed := cell_of_heap h.hx 1
  len := h.len
  row := fun k hk => by
    obtain ⟨xs, h1, h2, h3⟩ := h.row
    obtain ⟨e, ht⟩ := h3 k hk
    rcases h1 with h1 | ⟨b, off, cs, ha, hb, hc⟩
    · subst h1; simp at e
    · exact ⟨b, off, ha, by rw [cell_of_heap hb, hc k (by omega), e], ht⟩
  rroom := h.rroom
  rneed := h.rneed
  three := h.three
  good := h.good
  good1 := h.good1

set_option maxHeartbeats 1000000 in
theorem withRoomH_any (v u n : Value) (room : List Int) (bs : List (List T)) (x : T) (w : World) (hr : Ints w v room) (h : Bins w u bs) (hn : Ints w n x.need) (r3 : room.length = 3) (gb : GoodB bs) (gx : Good1 x) :
    Calls Try.prog 33 #[v, u, .agg #[.int .i64 x.id, n]] w fun e w' => ∃ (pb pr px : Nat) (a : Option Addr) (cap : Nat) (nxa : Option Addr) (nxc : Nat) (V : Nat → Value), e = .returned (.func (.func 56) #[] #[.pointer (some ⟨pb, 0, none⟩), .pointer (some ⟨pr, 0, none⟩), .pointer (some ⟨px, 0, none⟩)]) ∧ Ext w w' ∧ RoomH w' pb pr px a cap v nxa nxc room bs x V := by
  have hmf := makes_func
  obtain ⟨ra, rc, rfl, hr⟩ := hr.open
  obtain ⟨na, nc, rfl, hn⟩ := hn.open
  obtain ⟨hl, a, cap, xs, rfl, hrow, hc⟩ := h
  have E0 : Ext w (((w.alloc (.cells #[.slice ra room.length rc] 23)).alloc (.cells #[.slice a bs.length cap] 24)).alloc (.cells #[.int .i64 x.id, .slice na x.need.length nc] 56)) := (((Ext.refl w).alloc _).alloc _).alloc _
  have key := Lib.hid (show RoomH (((w.alloc (.cells #[.slice ra room.length rc] 23)).alloc (.cells #[.slice a bs.length cap] 24)).alloc (.cells #[.int .i64 x.id, .slice na x.need.length nc] 56)) (w.heap.size + 1) w.heap.size (w.heap.size + 1 + 1) a cap (.slice ra room.length rc) na nc room bs x (fun k => xs.getD k (.bool true)) from
    { hb := heap_skip _ _ (heap_push _ _ (by simp))
      hr := heap_skip _ _ (heap_skip _ _ (heap_alloc_new w _))
      hx := heap_push _ _ (by simp)
      len := by unfold lim at hl; omega
      row := ⟨xs, hrow.ext E0, hc.1, fun k hk => by
        obtain ⟨nd, e, ht⟩ := hc.2 k hk
        have e2 : xs.getD k (.bool true) = nd := by rw [List.getD_eq_getElem?_getD, e]; rfl
        rw [e2]
        exact ⟨e, ht.ext E0⟩⟩
      rroom := hr.ext E0
      rneed := hn.ext E0
      three := r3
      good := gb
      good1 := gx })
  have E1 := Lib.hid E0
  clear hr hn r3 gb gx E0 hrow hc hl
  go_enter Try.func33, Try.ntmps33
  go_wp2
  go_ret
  exact ⟨_, _, _, a, cap, na, nc, _, rfl, E1.out, key.out⟩

end Go.Proofs.Ytjdhiabdcmindaa

namespace Go.Proofs.Ytjdhiabdcmindaa
set_option maxRecDepth 100000
open Go.RowKit Go.Shelf

/-- The deferred calls that the ranges over a function have left: a mark each. -/
def marksL (rs : List Nat) : List Deferred := rs.map fun r => { target := .collected r, args := #[] }
/-- What the loops keep: the list so far in its box, the marks. -/
def MoI (w wr : World) (rs : List Nat) (ps : List Pr) : Prop :=
  ∃ sa sc, wr.heap[w.heap.size + 1]? = some (.cells #[.slice sa ps.length sc] 32 (0, 0)) ∧ OwnTwos 28 wr w.heap.size (.slice sa ps.length sc) ps ∧ Ext w wr ∧ rs.Nodup ∧ ∀ r ∈ rs, w.heap.size ≤ r ∧ wr.heap[r]? = some (.deferred (some []))
theorem MoI.ext {w wr w' : World} {rs : List Nat} {ps : List Pr} (h : MoI w wr rs ps) (k : Ext wr w') : MoI w w' rs ps := by
  obtain ⟨sa, sc, h1, h2, h3, h4, h5⟩ := h
  exact ⟨sa, sc, (k.block (lt_of_heap h1)).trans h1, h2.ext k, h3.trans k, h4, fun r hr => ⟨(h5 r hr).1, (k.block (lt_of_heap (h5 r hr).2)).trans (h5 r hr).2⟩⟩
/-- A block that is no cells and is none of the marks is turned. -/
theorem MoI.turn {w wr w' : World} {rs : List Nat} {ps : List Pr} {row : Option Nat} (h : MoI w wr rs ps) (hg : wr.grownBy w' row) (hr : ∀ r, row = some r → w.heap.size ≤ r ∧ r ∉ rs ∧ ∃ o : Obj, wr.heap[r]? = some o ∧ o.isCells = false) : MoI w w' rs ps := by
  obtain ⟨sa, sc, h1, h2, h3, h4, h5⟩ := h
  have cells : ∀ (b : Nat) (cs : Array Value) (t : TypeId) (fz : Nat × Nat), wr.heap[b]? = some (.cells cs t fz) → w'.heap[b]? = wr.heap[b]? := fun b cs t fz hb => hg.block b (lt_of_heap hb) (fun e => by
    obtain ⟨-, -, o, ho, hc⟩ := hr b e.symm
    rw [hb] at ho
    simp only [Option.some.injEq] at ho
    subst ho
    cases hc)
  refine ⟨sa, sc, (cells _ _ _ _ h1).trans h1, ownsRow_keep h2 fun g hgb hlt => hg.block g hlt (fun e => ?_), Below.grown h3 hg h3.le (fun r e => (hr r e).1), h4, fun r hrs => ⟨(h5 r hrs).1, (hg.block r (lt_of_heap (h5 r hrs).2) (fun e => (hr r e.symm).2.1 hrs)).trans (h5 r hrs).2⟩⟩
  obtain ⟨-, -, o, ho, hc⟩ := hr g e.symm
  obtain ⟨_, h2⟩ := h2
  rcases h2 with ⟨h2, _⟩ | ⟨g', cap, cur, hv, _, hh, _⟩
  · rw [h2] at hgb; simp [Value.ownBlock] at hgb
  · rw [hv] at hgb
    simp only [Value.ownBlock, Option.some.injEq] at hgb
    subst hgb
    rw [hh] at ho
    simp only [Option.some.injEq] at ho
    subst ho
    cases hc
/-- A mark more. -/
theorem MoI.mark {w wr : World} {rs : List Nat} {ps : List Pr} {D : Nat} (h : MoI w wr rs ps) (hD : ∀ r ∈ rs, r < D) (hw : w.heap.size ≤ D) (hK : wr.heap[D]? = some (.deferred (some []))) : MoI w wr (D :: rs) ps := by
  obtain ⟨sa, sc, h1, h2, h3, h4, h5⟩ := h
  refine ⟨sa, sc, h1, h2, h3, List.nodup_cons.2 ⟨fun hm => by have := hD D hm; omega, h4⟩, fun r hr => ?_⟩
  rcases List.mem_cons.1 hr with rfl | hr
  · exact ⟨hw, hK⟩
  · exact h5 r hr
theorem MoI.lt {w wr : World} {rs : List Nat} {ps : List Pr} (h : MoI w wr rs ps) : ∀ r ∈ rs, r < wr.heap.size := by
  obtain ⟨_, _, _, _, _, _, h5⟩ := h
  exact fun r hr => lt_of_heap (h5 r hr).2

end Go.Proofs.Ytjdhiabdcmindaa

namespace Go.Proofs.Ytjdhiabdcmindaa
set_option maxRecDepth 100000
open Go.RowKit Go.Shelf
attribute [local go_sem] Oper.semAt_some

theorem KV.turn {w w' : World} {row : Option Nat} (hg : w.grownBy w' row) (hr : ∀ r, row = some r → ∃ o : Obj, w.heap[r]? = some o ∧ o.isCells = false) : KV w w' :=
  ⟨hg.size, fun b cs t fz hb _ _ => hg.block b (lt_of_heap hb) (fun e => by
    obtain ⟨o, ho, hc⟩ := hr b e.symm
    rw [hb] at ho
    simp only [Option.some.injEq] at ho
    subst ho
    cases hc)⟩
theorem two_new (W : World) (x y : Value) (t : TypeId) : ∀ (j : Nat) (u : Value), [x, y][j]? = some u → (W.alloc (.cells #[x, y] t)).cell? ((⟨W.heap.size, 0, none⟩ : Addr).add j) = some u := fun j u h => by
  rw [Addr.add_lit, box_cell, Nat.zero_add]
  simpa using h

theorem MoI.drop {w wr : World} {r : Nat} {rs : List Nat} {ps : List Pr} (h : MoI w wr (r :: rs) ps) : MoI w (wr.putObj r (.deferred none)) rs ps := by
  obtain ⟨sa, sc, h1, h2, h3, h4, h5⟩ := h
  have hr := h5 r (by simp)
  exact MoI.turn (row := some r) ⟨sa, sc, h1, h2, h3, (List.nodup_cons.1 h4).2, fun q hq => h5 q (List.mem_cons_of_mem _ hq)⟩ (grownBy_putObj' wr r _) (fun q e => by cases e; exact ⟨hr.1, (List.nodup_cons.1 h4).1, _, hr.2, rfl⟩)
theorem leaves_mo {F : Fence} {n : Nat} {P : Program} {fn : Func} {tmps : Array Value} {R : Ending → World → Prop} {w : World} {ps : List Pr} : ∀ (rs : List Nat) (wr : World), MoI w wr rs ps → (∀ w', MoI w w' [] ps → w'.heap[w.heap.size + 1]? = wr.heap[w.heap.size + 1]? → LeavesInM F n P fn tmps R [] .returning w') → LeavesInM F n P fn tmps R (marksL rs) .returning wr := by
  intro rs
  induction rs with
  | nil => exact fun wr h k => k wr h rfl
  | cons r rs ih =>
    intro wr h k
    have h5 : wr.heap[r]? = some (.deferred (some [])) := by obtain ⟨_, _, _, _, _, _, h5⟩ := h; exact (h5 r (by simp)).2
    have hb : (wr.putObj r (.deferred none)).heap[w.heap.size + 1]? = wr.heap[w.heap.size + 1]? := by
      obtain ⟨_, _, h1, _⟩ := h
      refine (grownBy_putObj' wr r (.deferred none)).block _ (lt_of_heap h1) (fun e => ?_)
      simp only [Option.some.injEq] at e
      rw [e, h5] at h1
      cases h1
    exact ⟨by simp, .inl ⟨r, _, rfl, run_takeDeferred h5, ih _ h.drop fun w' hm e => k w' hm (e.trans hb)⟩⟩
theorem rowM_len (room : List Int) (bs : List (List T)) (id : Int) (q : Nat) : (rowM room bs id q).length ≤ q := by
  unfold rowM
  rw [List.length_map]
  exact Nat.le_trans (List.length_filter_le _ _) (by simp)
theorem allM_len (room : List Int) (bs : List (List T)) (ts : List T) : (allM room bs ts).length ≤ ts.length * bs.length := by
  induction ts with
  | nil => simp [allM]
  | cons t r ih =>
    have e : allM room bs (t :: r) = rowM room bs t.id bs.length ++ allM room bs r := by simp [allM]
    rw [e, List.length_append, List.length_cons, Nat.succ_mul]
    have := rowM_len room bs t.id bs.length
    omega

set_option maxHeartbeats 4000000 in
theorem MovesOf_any (v u : Value) (room : List Int) (bs : List (List T)) (w : World) (hr : Ints w v room) (h : Bins w u bs) (hv : binsB room bs = true) :
    Calls Try.prog 10 #[v, u] w fun e w' => ∃ r, e = .returned r ∧ OwnTwos 28 w' w.heap.size r (movesOfL room bs) ∧ Ext w w' := by
  obtain ⟨ra, rc, rfl, hr⟩ := hr.open
  obtain ⟨a, c, rfl, h⟩ := h.open
  have Hr := Lib.hid hr
  have Hb := Lib.hid h
  have ok := binsB_iff.1 hv
  have okT := ok.1
  have OKT := Lib.hid okT
  have R3 := Lib.hid okT.1.1.1
  have GB := Lib.hid (show GoodB bs from fun b hb => Good.flat okT.good hb)
  have hf14 : bs.flatten.length ≤ 14 := okT.2.1
  have hl14 : bs.length ≤ 14 := ok.2.1
  have HLB := Lib.hid (show ∀ b ∈ bs, b.length ≤ 14 from fun b hb => by have := (sub_flat hb).length_le; omega)
  have HM := Lib.hid (show movesOfL room bs = allM room bs bs.flatten from by unfold movesOfL; rw [if_pos hv])
  have HV := Lib.hid hv
  clear hr h ok okT hv
  refine (callsIn_wide (n := 5)).1 ?_
  refine callsIn_of_wp_marks Try.func10 rfl trivial ?_ rfl
  simp only [Try.ntmps10, List.size_toArray, List.length_cons, List.length_nil, Nat.reduceAdd, Nat.reduceSub, Array.replicate_succ, Array.replicate_zero, List.push_toArray, List.append_toArray, List.nil_append, List.cons_append]
  gi_wp2
  refine ⟨trivial, ?_⟩
  have E0 := (((Ext.refl w).alloc (.cells #[] 28)).alloc (.cells #[.slice (some ⟨w.heap.size, 0, none⟩) 0 0] 32))
  have B0 := heap_push (w.alloc (.cells #[] 28)) (.cells #[.slice (some ⟨w.heap.size, 0, none⟩) 0 0] 32) (n := w.heap.size + 1) (by simp)
  have O0 := (OwnTwos.lit0 28 w w.heap.size (Nat.le_refl _)).ext ((Ext.refl _).alloc (.cells #[.slice (some ⟨w.heap.size, 0, none⟩) 0 0] 32))
  have cc := BinsValid_any _ _ room bs _ (Hr.out.ext E0) (Hb.out.ext E0) (by omega)
  rw [HV.out] at cc
  refine ((callsIn_wide (n := 4)).2 cc).mono ?_
  clear cc
  rintro e w1 ⟨rfl, hE1⟩
  have M1 := Lib.hid (show MoI w w1 [] [] from ⟨_, _, (hE1.block (lt_of_heap B0)).trans B0, O0.ext hE1, E0.trans hE1, List.nodup_nil, fun _ h => by cases h⟩)
  clear hE1 E0 B0 O0
  gi_wp2
  refine wpIn_loop (fun a' w' => ∃ (k : Nat) (rs : List Nat), k ≤ bs.length ∧ MoI w w' rs (allM room bs (bs.take k).flatten) ∧ ∃ (u2 u3 u4 u6 u7 u8 u9 u10 u11 u12 u13 u14 u15 u16 u20 u21 u22 u23 u24 u25 u26 u27 u28 u29 u30 u31 u32 u33 u34 u35 u36 u37 u38 u39 u40 u41 u42 u43 u44 u45 u46 u47 u48 : Value), a' = { tmps := #[Value.slice ra room.length rc, Value.slice a bs.length c, u2, u3, u4, Value.pointer (some ⟨w.heap.size + 1, 0, none⟩), u6, u7, u8, u9, u10, u11, u12, u13, u14, u15, u16, Value.slice a bs.length c, Value.int .i64 (bs.length : Int), Value.int .i64 (k : Int), u20, u21, u22, u23, u24, u25, u26, u27, u28, u29, u30, u31, u32, u33, u34, u35, u36, u37, u38, u39, u40, u41, u42, u43, u44, u45, u46, u47, u48], defers := marksL rs }) (fun a' _ => bs.length - (intOf (a'.tmps.getD 19 undef)).toNat) ?_ ?_
  · exact ⟨0, [], by omega, M1.out, _, _, _, _, _, _, _, _, _, _, _, _, _, _, _, _, _, _, _, _, _, _, _, _, _, _, _, _, _, _, _, _, _, _, _, _, _, _, _, _, _, _, _, rfl⟩
  clear M1
  rintro a0 wr ⟨k, rs, hk, hM, u2, u3, u4, u6, u7, u8, u9, u10, u11, u12, u13, u14, u15, u16, u20, u21, u22, u23, u24, u25, u26, u27, u28, u29, u30, u31, u32, u33, u34, u35, u36, u37, u38, u39, u40, u41, u42, u43, u44, u45, u46, u47, u48, rfl⟩
  by_cases hlt : k < bs.length
  · have MO := Lib.hid hM
    have hX : Ext w wr := by obtain ⟨_, _, _, _, hx, _⟩ := hM; exact hx
    obtain ⟨b, off, nd, he, c0, ht⟩ := (Hb.out.ext hX).at hlt
    subst he
    obtain ⟨na, nc, rfl, ht⟩ := ht.open
    have HT0 := Lib.hid (show Tasks w (.slice na bs[k].length nc) bs[k] from by
      obtain ⟨b', off', nd', he', c0', ht'⟩ := Hb.out.at hlt
      simp only [Option.some.injEq, Addr.mk.injEq, and_true] at he'
      obtain ⟨rfl, rfl⟩ := he'
      have e := hX.cell c0'
      rw [c0] at e
      simp only [Option.some.injEq] at e
      rw [e]
      exact ht')
    have b0 : (0 : Int) ≤ (k : Int) := by omega
    have b1 : (k : Int) < (bs.length : Int) := by omega
    have hbk := HLB.out _ (List.getElem_mem hlt)
    have EF := (Ext.refl wr).alloc (.cells #[.int .i64 (k : Int)] 3)
    have MF := Lib.hid (show MoI w (wr.alloc (.cells #[.int .i64 (k : Int)] 3)) rs (allM room bs ((bs.take k).flatten ++ bs[k].take 0)) from by rw [List.take_zero, List.append_nil]; exact MO.out.ext EF)
    have FB := Lib.hid (heap_alloc_new wr (.cells #[.int .i64 (k : Int)] 3))
    clear EF hX hM MO
    gi_wp2
    generalize hfb : wr.heap.size = fb at *
    refine wpIn_loop (fun a' w' => ∃ (q : Nat) (rs : List Nat), q ≤ bs[k].length ∧ MoI w w' rs (allM room bs ((bs.take k).flatten ++ bs[k].take q)) ∧ w'.heap[fb]? = some (.cells #[.int .i64 (k : Int)] 3 (0, 0)) ∧ ∃ (u2 u3 u4 u7 u8 u9 u10 u11 u12 u13 u14 u15 u16 u20 u21 u22 u23 u27 u28 u29 u30 u31 u32 u33 u34 u35 u36 u37 u38 u39 u40 u41 u42 u43 u44 u45 u46 u47 u48 : Value), a' = { tmps := #[Value.slice ra room.length rc, Value.slice (some ⟨b, off, none⟩) bs.length c, u2, u3, u4, Value.pointer (some ⟨w.heap.size + 1, 0, none⟩), Value.pointer (some ⟨fb, 0, none⟩), u7, u8, u9, u10, u11, u12, u13, u14, u15, u16, Value.slice (some ⟨b, off, none⟩) bs.length c, Value.int .i64 (bs.length : Int), Value.int .i64 (k : Int), u20, u21, u22, u23, Value.slice na bs[k].length nc, Value.int .i64 (bs[k].length : Int), Value.int .i64 (q : Int), u27, u28, u29, u30, u31, u32, u33, u34, u35, u36, u37, u38, u39, u40, u41, u42, u43, u44, u45, u46, u47, u48], defers := marksL rs }) (fun a' _ => bs[k].length - (intOf (a'.tmps.getD 26 undef)).toNat) ?_ ?_
    · exact ⟨0, rs, by omega, MF.out, FB.out, _, _, _, _, _, _, _, _, _, _, _, _, _, _, _, _, _, _, _, _, _, _, _, _, _, _, _, _, _, _, _, _, _, _, _, _, _, _, _, rfl⟩
    clear MF FB
    rintro a0 wi ⟨q, rs, hq, hM, hF, u2, u3, u4, u7, u8, u9, u10, u11, u12, u13, u14, u15, u16, u20, u21, u22, u23, u27, u28, u29, u30, u31, u32, u33, u34, u35, u36, u37, u38, u39, u40, u41, u42, u43, u44, u45, u46, u47, u48, rfl⟩
    have MO := Lib.hid hM
    have hX : Ext w wi := by obtain ⟨_, _, _, _, hx, _⟩ := hM; exact hx
    by_cases hlt2 : q < bs[k].length
    · obtain ⟨b', off', nd', he', c0', ht'⟩ := (Hb.out.ext hX).at hlt
      simp only [Option.some.injEq, Addr.mk.injEq, and_true] at he'
      obtain ⟨rfl, rfl⟩ := he'
      have HNK := Lib.hid ((HT0.out.ext hX))
      obtain ⟨b2, off2, n2, hta, d0, d1, hn⟩ := HNK.out.at hlt2
      subst hta
      obtain ⟨ma, mc, rfl, hn⟩ := hn.open
      have HN := Lib.hid hn
      have HR := Lib.hid (Hr.out.ext hX)
      have HB := Lib.hid (Hb.out.ext hX)
      have GX := Lib.hid (GB.out _ (List.getElem_mem hlt) _ (List.getElem_mem hlt2))
      have HF := Lib.hid hF
      have q0 : (0 : Int) ≤ (q : Int) := by omega
      have q1 : (q : Int) < (bs[k].length : Int) := by omega
      have EX := Lib.hid ((Ext.refl wi).alloc (.cells #[.int .i64 bs[k][q].id, .slice ma bs[k][q].need.length mc] 56))
      have XB := Lib.hid (heap_alloc_new wi (.cells #[.int .i64 bs[k][q].id, .slice ma bs[k][q].need.length mc] 56))
      clear hn hX hM hF c0' ht'
      gi_wp2
      refine ⟨trivial, ?_⟩
      refine ((callsIn_wide (n := 4)).2 (withRoomH_any _ _ _ room bs bs[k][q] _ (HR.out.ext EX.out) (HB.out.ext EX.out) (HN.out.ext EX.out) R3.out GB.out GX.out)).mono ?_
      rintro e w2 ⟨pb, pr, px, ia, icap, nxa, nxc, V, rfl, hE2, hIt⟩
      have MI := Lib.hid ((MO.out.ext EX.out).ext hE2)
      have hws : w.heap.size ≤ w2.heap.size := by obtain ⟨_, _, _, _, hx, _⟩ := MI.out; exact hx.le
      have hrs := MI.out.lt
      have FBX := Lib.hid ((hE2.block (lt_of_heap ((EX.out.block (lt_of_heap HF.out)).trans HF.out))).trans ((EX.out.block (lt_of_heap HF.out)).trans HF.out))
      have XBX := Lib.hid ((hE2.block (lt_of_heap XB.out)).trans XB.out)
      have HIT := Lib.hid hIt
      have HSN := Lib.hid (allM_snoc OKT.out hlt hlt2)
      have HPL := Lib.hid (show ∀ pre : List (Nat × Value), pre.length ≤ bs.length → (allM room bs ((bs.take k).flatten ++ bs[k].take q) ++ cameP k bs[k][q].id pre).length ≤ 100000 from fun pre hp => by
        have h1 := allM_len room bs ((bs.take k).flatten ++ bs[k].take q)
        have h2 := cameP_len k bs[k][q].id pre
        have h3 := congrArg List.length (show bs.flatten = (bs.take k).flatten ++ (bs.drop k).flatten from by rw [← List.flatten_append, List.take_append_drop])
        rw [List.length_append] at h3
        have h4 : ((bs.take k).flatten ++ bs[k].take q).length ≤ 28 := by rw [List.length_append, List.length_take]; omega
        have h5 := Nat.mul_le_mul h4 hl14
        rw [List.length_append]
        omega)
      have HCA := Lib.hid (cameP_all room bs bs[k][q] V k bs.length)
      clear hE2 hIt MO HF XB EX HNK HN HR HB d0 d1
      gi_wp2
      refine wpIn_rangeFunc_ownG rfl (by omega) (gf := 56) (lb := #[.pointer (some ⟨pb, 0, none⟩), .pointer (some ⟨pr, 0, none⟩), .pointer (some ⟨px, 0, none⟩)]) rfl trivial (enters_of Try.func56 (by kernel_rfl) rfl)
        (withRoom_stops 4 (by omega) pb pr px ia icap (.slice ra room.length rc) nxa nxc room bs bs[k][q] V KV (fun W => KV w2 W) (fun W hW => (HIT.out.kv hW).it) (fun _ _ h k => h.trans k.kv) (fun _ _ h k => h.trans k) w2 (KV.refl w2)) (fun h k => KV.trans h k) (fun W l o o' _ hl ho _ => KV.putObj hl ho o') (Below.refl _ _) (fun _ => rfl)
        (fun pre W => MoI w W rs (allM room bs ((bs.take k).flatten ++ bs[k].take q) ++ cameP k bs[k][q].id pre) ∧ KV w2 W)
        (fun _ _ _ => False)
        (fun s W W' row hs hg hr => ⟨hs.1.turn hg (fun r e => ⟨by have := (hr r e).1; omega, fun hm => by have := hrs r hm; have := (hr r e).1; omega, (hr r e).2⟩), hs.2.trans (KV.turn hg (fun r e => (hr r e).2))⟩)
        (fun _ _ _ _ _ hs _ _ => hs.elim)
        ⟨by rw [cameP_nil, List.append_nil]; exact MI.out, KV.refl _⟩
        (fun y => { tmps := #[Value.slice ra room.length rc, Value.slice (some ⟨b, off, none⟩) bs.length c, u2, u3, u4, Value.pointer (some ⟨w.heap.size + 1, 0, none⟩), Value.pointer (some ⟨fb, 0, none⟩), u7, u8, Value.pointer (some ⟨wi.heap.size, 0, none⟩), Value.int .i64 (y.1 : Int), u11, u12, u13, u14, u15, u16, Value.slice (some ⟨b, off, none⟩) bs.length c, Value.int .i64 (bs.length : Int), Value.int .i64 (k : Int), u20, u21, u22, u23, Value.slice (some ⟨b2, off2, none⟩) bs[k].length nc, Value.int .i64 (bs[k].length : Int), Value.int .i64 (q : Int), Value.bool true, Value.pointer (some ⟨b2, off2 + q * 2, none⟩), Value.agg #[Value.int .i64 bs[k][q].id, Value.slice ma bs[k][q].need.length mc], Value.slice ra room.length rc, Value.slice (some ⟨b, off, none⟩) bs.length c, Value.agg #[Value.int .i64 bs[k][q].id, Value.slice ma bs[k][q].need.length mc], .func (.func 56) #[] #[.pointer (some ⟨pb, 0, none⟩), .pointer (some ⟨pr, 0, none⟩), .pointer (some ⟨px, 0, none⟩)], Value.int .i64 (y.1 : Int), y.2, u36, u37, u38, u39, u40, u41, u42, u43, u44, u45, u46, u47, u48], defers := [] }) ?assign ?body ?done ?stop
      case assign =>
        intro l y W K hK
        gi_wp2
        exact hK
      case body =>
        rintro l pre y W ⟨hM, hKv⟩ hpl
        have FW := (hKv.2 _ _ _ _ FBX.out (by decide) (by decide)).trans FBX.out
        have XW := (hKv.2 _ _ _ _ XBX.out (by decide) (by decide)).trans XBX.out
        have f6 := cell_of_heap FW 0
        have x0 := cell_of_heap XW 0
        simp only [List.getElem?_toArray, List.getElem?_cons_zero] at f6 x0
        have MH := Lib.hid hM
        have KH := Lib.hid hKv
        by_cases e : y.1 = k
        · have be : ((y.1 : Int) != (k : Int)) = false := by simp [e]
          have MB := Lib.hid (show MoI w W rs (allM room bs ((bs.take k).flatten ++ bs[k].take q) ++ cameP k bs[k][q].id (pre ++ [y])) from by rw [cameP_same pre e]; exact hM)
          clear hM hKv FW XW e
          gi_wp2
          exact ⟨(KeepsOthers.refl W).from _, KV.refl W, MB.out, KH.out⟩
        · have be : ((y.1 : Int) != (k : Int)) = true := by simp; omega
          have hplen := HPL.out pre (by omega)
          obtain ⟨ps, hps⟩ : ∃ ps, ps = allM room bs ((bs.take k).flatten ++ bs[k].take q) ++ cameP k bs[k][q].id pre := ⟨_, rfl⟩
          have HNX := Lib.hid (show allM room bs ((bs.take k).flatten ++ bs[k].take q) ++ cameP k bs[k][q].id (pre ++ [y]) = ps ++ [⟨bs[k][q].id, (y.1 : Int)⟩] from by rw [cameP_more pre e, hps, List.append_assoc])
          rw [← hps] at hM hplen
          clear MH hps
          obtain ⟨sa, sc, hv, hrow, hX, hN, hD⟩ := hM
          have hbx : Boxed W (w.heap.size + 1) 32 _ := hv
          have BXH := Lib.hid hbx
          have ROW := Lib.hid hrow
          have XH := Lib.hid hX
          have NH := Lib.hid hN
          have DH := Lib.hid hD
          have c5 := hbx.cell
          have hsz := hX.le
          obtain ⟨i0, hi, hz, hs, hby⟩ := info_parts info_move
          clear hKv FW XW e hv hrow hX hN hD hbx
          gi_wp2_with (gi_at_builtin; refine wpListIn_append_own _ rfl _ _ 32 rfl w.heap.size 28 i0 (.agg #[.int .i64 0, .int .i64 0]) 2 16 under_moves hi hz hs hby rfl (by decide) _ _ _ rfl (ownsRow_ext ROW.out ((Ext.refl W).alloc _)) ⟨W.heap.size, 0, none⟩ 1 1 [.int .i64 bs[k][q].id, .int .i64 (y.1 : Int)] rfl rfl (two_new _ _ _ _) (by simp [Value.oneCell']) (by unfold maxLen; omega) (by omega) (by simp; omega) ?_; intro v' w9 hown' hgrow _; obtain ⟨g', cap', rfl⟩ := ownsRow_succ hown'; obtain ⟨hv1, hv2, hr2, hk2, hb2⟩ := BXH.out.appended (by decide) ROW.out hsz (by omega) hown' hgrow; have hc1 := hv1.cell; have hf1 := hv1.frozen)
          have el : (ps ++ [(⟨bs[k][q].id, (y.1 : Int)⟩ : Pr)]).length = ps.length + 1 := by simp
          exact ⟨hk2.from _, (((Ext.refl W).alloc _).kv.trans (KV.grown (ownsRow_ext ROW.out ((Ext.refl W).alloc _)) hgrow)).trans (KV.box hv1), by rw [HNX.out]; exact ⟨some ⟨g', 0, none⟩, cap', by rw [el]; exact hv2, by unfold OwnTwos; rw [el, cellsP_app]; exact hr2, XH.out.below hb2, NH.out, fun r hr => ⟨(DH.out r hr).1, hk2.same r _ (DH.out r hr).2 rfl⟩⟩, KH.out.trans ((((Ext.refl W).alloc _).kv.trans (KV.grown (ownsRow_ext ROW.out ((Ext.refl W).alloc _)) hgrow)).trans (KV.box hv1))⟩
      case done =>
        rintro D ys W hD hys ⟨hM, hKv⟩ hK
        have MF := Lib.hid (show MoI w W (D :: rs) (allM room bs ((bs.take k).flatten ++ bs[k].take (q + 1))) from by
          rw [HSN.out, ← HCA.out, ← hys]
          exact hM.mark (fun r hr => by have := hrs r hr; omega) (by omega) hK)
        have FW := Lib.hid ((hKv.2 _ _ _ _ FBX.out (by decide) (by decide)).trans FBX.out)
        clear hM hKv hK hys MI FBX XBX HIT HSN HCA
        gi_wp2
        refine ⟨⟨q + 1, D :: rs, by omega, MF.out, FW.out, _, _, _, _, _, _, _, _, _, _, _, _, _, _, _, _, _, _, _, _, _, _, _, _, _, _, _, _, _, _, _, _, _, _, _, _, _, _, _, rfl⟩, ?_⟩
        simp [intOf]
        omega
      case stop =>
        rintro D cc pre W hD _ hx
        exact hx.elim
    · have e : q = bs[k].length := by omega
      have hq1 : ¬ (q : Int) < (bs[k].length : Int) := by omega
      have MF := Lib.hid (show MoI w wi rs (allM room bs (bs.take (k + 1)).flatten) from by rw [← allM_bin hlt, ← e]; exact MO.out)
      clear hX hM hF MO HT0 e
      gi_wp2
      refine ⟨⟨k + 1, by omega, rs, MF.out, by omega, rfl⟩, ?_⟩
      simp [intOf]
      omega
  · have e : k = bs.length := by omega
    have hk1 : ¬ (k : Int) < (bs.length : Int) := by omega
    have MF := Lib.hid (show MoI w wr rs (movesOfL room bs) from by rw [e, List.take_length] at hM; rw [HM.out]; exact hM)
    obtain ⟨sa, sc, hv, -⟩ := MF.out
    have c5 := cell_of_heap hv 0
    simp only [List.getElem?_toArray, List.getElem?_cons_zero] at c5
    have HVB := Lib.hid hv
    clear hM e hv
    gi_wp2
    refine leaves_mo rs wr MF.out (fun w' hM' hbx => ?_)
    obtain ⟨sa', sc', hv', ho', hX', -, -⟩ := hM'
    rw [hbx, HVB.out] at hv'
    simp only [Option.some.injEq, Obj.cells.injEq, Array.mk.injEq, List.cons.injEq, Value.slice.injEq, and_true, true_and] at hv'
    obtain ⟨rfl, rfl⟩ := hv'
    refine ⟨.slice sa (movesOfL room bs).length sc, ?_, _, rfl, ho', hX'⟩
    simp [results, Try.f10, go_sem]

set_option maxHeartbeats 1000000 in
theorem MovesOf_all (v u : Value) (room : List Int) (bs : List (List T)) (w : World) (hr : Ints w v room) (h : Bins w u bs) (hf : bs.flatten.length ≤ 2097152) :
    Calls Try.prog 10 #[v, u] w fun e w' => ∃ r, e = .returned r ∧ OwnTwos 28 w' w.heap.size r (movesOfL room bs) ∧ Ext w w' := by
  cases hv : binsB room bs with
  | true => exact MovesOf_any v u room bs w hr h hv
  | false =>
    obtain ⟨ra, rc, rfl, hr⟩ := hr.open
    obtain ⟨a, c, rfl, h⟩ := h.open
    have HM := Lib.hid (show movesOfL room bs = [] from by unfold movesOfL; rw [hv]; rfl)
    have E0 := (((Ext.refl w).alloc (.cells #[] 28)).alloc (.cells #[.slice (some ⟨w.heap.size, 0, none⟩) 0 0] 32))
    have B0 := heap_push (w.alloc (.cells #[] 28)) (.cells #[.slice (some ⟨w.heap.size, 0, none⟩) 0 0] 32) (n := w.heap.size + 1) (by simp)
    have O0 := (OwnTwos.lit0 28 w w.heap.size (Nat.le_refl _)).ext ((Ext.refl _).alloc (.cells #[.slice (some ⟨w.heap.size, 0, none⟩) 0 0] 32))
    have cc := BinsValid_any _ _ room bs _ (hr.ext E0) (h.ext E0) hf
    rw [hv] at cc
    have CC := Lib.hid cc
    have EH := Lib.hid E0
    have BH := Lib.hid B0
    have OH := Lib.hid O0
    clear hr h cc E0 B0 O0 hv
    go_enter Try.func10, Try.ntmps10
    go_wp2_with fail
    refine CC.out.mono ?_
    rintro e w1 ⟨rfl, hE1⟩
    have c5 := cell_of_heap ((hE1.block (lt_of_heap BH.out)).trans BH.out) 0
    simp only [List.getElem?_toArray, List.getElem?_cons_zero] at c5
    have F := Lib.hid (show OwnTwos 28 w1 w.heap.size (.slice (some ⟨w.heap.size, 0, none⟩) 0 0) (movesOfL room bs) ∧ Ext w w1 from ⟨by rw [HM.out]; exact OH.out.ext hE1, EH.out.trans hE1⟩)
    clear hE1 HM CC BH OH EH
    go_wp2_with fail
    go_ret
    exact ⟨_, rfl, F.out.1, F.out.2⟩

end Go.Proofs.Ytjdhiabdcmindaa

namespace Go.Proofs.Ytjdhiabdcmindaa
set_option maxRecDepth 100000

theorem nextR_some {room : List Int} {bs : List (List T)} {k i : Nat} (hk : k < bs.length) (hi : i < bs[k].length) (ha : at11 room (bs.take k) bs[k][i] ≠ none) : ∀ m, k < m → nextR room bs m ≠ none := by
  intro m
  induction m with
  | zero => intro h; omega
  | succ m ih =>
    intro h
    rw [nextR]
    by_cases e : k = m
    · subst e
      have h1 : (bs.getD k []).findSome? (tryO room bs k) ≠ none := by
        rw [getD_at hk]
        intro h
        rw [List.findSome?_eq_none_iff] at h
        have := h _ (List.getElem_mem hi)
        unfold tryO at this
        rw [Option.map_eq_none_iff] at this
        exact ha this
      intro h
      rw [Option.or_eq_none_iff] at h
      exact h1 h.1
    · intro h'
      rw [Option.or_eq_none_iff] at h'
      exact ih (by omega) h'.2
theorem mem_allM {room : List Int} {bs : List (List T)} {ts : List T} {p : Pr} : p ∈ allM room bs ts ↔ ∃ x ∈ ts, ∃ t, t < bs.length ∧ canB room bs x.id (t : Int) = true ∧ p = ⟨x.id, (t : Int)⟩ := by
  unfold allM rowM
  rw [List.mem_flatMap]
  constructor
  · rintro ⟨x, hx, hp⟩
    obtain ⟨t, ht, rfl⟩ := List.mem_map.1 hp
    obtain ⟨h1, h2⟩ := List.mem_filter.1 ht
    exact ⟨x, hx, t, List.mem_range.1 h1, h2, rfl⟩
  · rintro ⟨x, hx, t, h1, h2, rfl⟩
    exact ⟨x, hx, List.mem_map.2 ⟨t, List.mem_filter.2 ⟨List.mem_range.2 h1, h2⟩, rfl⟩⟩
theorem next_any {room : List Int} {bs : List (List T)} (h : binsB room bs = true) : (nextO room bs).isSome = (allM room bs bs.flatten).any fun p => decide (p.b < whereI room bs p.a) := by
  have hT := (binsOk_all.1 (binsB_iff.1 h)).1
  rw [Bool.eq_iff_iff, List.any_eq_true]
  constructor
  · intro hs
    obtain ⟨⟨id, tt⟩, hn⟩ := Option.isSome_iff_exists.1 hs
    obtain ⟨k, i, hlt, can⟩ := next_can h hn
    have hk := can.hk
    have hi := can.hi
    have hids := can.ids
    have hfa := found_at hT hk hi (d := ⟨0, []⟩)
    rw [← hids] at hfa
    refine ⟨⟨id, (tt : Int)⟩, mem_allM.2 ⟨bs[k][i], List.mem_flatten.2 ⟨_, List.getElem_mem hk, List.getElem_mem hi⟩, tt, can.hto, ?_, by rw [← hids]⟩, ?_⟩
    · rw [← hids, can_fits can.wh can.hto can.ne, hfa]
      exact can.fit
    · unfold whereI
      rw [if_pos h, can.wh]
      refine decide_eq_true ?_
      simp only [nodeI]
      omega
  · rintro ⟨p, hp, hlt⟩
    obtain ⟨x, hx, t, ht, hc, rfl⟩ := mem_allM.1 hp
    obtain ⟨b, hb, hm⟩ := List.mem_flatten.1 hx
    obtain ⟨k, hk, rfl⟩ := List.getElem_of_mem hb
    obtain ⟨i, hi, rfl⟩ := List.getElem_of_mem hm
    unfold whereI at hlt
    rw [if_pos h, where_at hT hk hi] at hlt
    have htk : t < k := by
      have := of_decide_eq_true hlt
      simp only [nodeI] at this
      omega
    rw [can_fits (where_at hT hk hi) ht (by omega), found_at hT hk hi] at hc
    have ha : at11 room (bs.take k) bs[k][i] ≠ none := by
      intro e
      unfold at11 at e
      rw [List.findIdx?_eq_none_iff] at e
      have := e bs[t] (List.mem_iff_getElem.2 ⟨t, by simp; omega, by rw [List.getElem_take]⟩)
      rw [hc] at this
      cases this
    have := nextR_some hk hi ha bs.length hk
    unfold nextO
    cases hn : nextR room bs bs.length with
    | none => exact absurd hn this
    | some _ => rfl

end Go.Proofs.Ytjdhiabdcmindaa

namespace Go.Proofs.Ytjdhiabdcmindaa
set_option maxRecDepth 100000

theorem allM_can {room : List Int} {bs : List (List T)} (h : binsB room bs = true) {p : Pr} (hp : p ∈ allM room bs bs.flatten) : ∃ k i tt, CanL room bs p.a k i tt ∧ p.b = (tt : Int) := by
  have hT := (binsOk_all.1 (binsB_iff.1 h)).1
  obtain ⟨x, hx, t, ht, hc, rfl⟩ := mem_allM.1 hp
  obtain ⟨b, hb, hm⟩ := List.mem_flatten.1 hx
  obtain ⟨k, hk, rfl⟩ := List.getElem_of_mem hb
  obtain ⟨i, hi, rfl⟩ := List.getElem_of_mem hm
  have hne : t ≠ k := by
    intro e
    rw [can_same (where_at hT hk hi) (by rw [e])] at hc
    cases hc
  rw [can_fits (where_at hT hk hi) ht hne, found_at hT hk hi] at hc
  exact ⟨k, i, t, canL_of hT hk hi ht hne hc, rfl⟩
theorem rowM_nodup (room : List Int) (bs : List (List T)) (id : Int) (q : Nat) : (rowM room bs id q).Nodup := by
  induction q with
  | zero => simp [rowM]
  | succ q ih =>
    cases hc : canB room bs id (q : Int) with
    | false => rw [rowM_no hc]; exact ih
    | true =>
      rw [rowM_yes hc]
      refine List.nodup_append.2 ⟨ih, by simp, fun a ha b hb e => ?_⟩
      subst e
      obtain ⟨t, ht, rfl⟩ := List.mem_map.1 ha
      have h1 := List.mem_range.1 (List.mem_filter.1 ht).1
      rw [List.mem_singleton, Pr.mk.injEq] at hb
      omega
theorem allM_nodup (room : List Int) (bs : List (List T)) : ∀ (ts : List T), (ts.map T.id).Nodup → (allM room bs ts).Nodup := by
  intro ts
  induction ts with
  | nil => intro _; simp [allM]
  | cons t r ih =>
    intro h
    rw [List.map_cons, List.nodup_cons] at h
    have e : allM room bs (t :: r) = rowM room bs t.id bs.length ++ allM room bs r := by simp [allM]
    rw [e]
    refine List.nodup_append.2 ⟨rowM_nodup _ _ _ _, ih h.2, fun a ha b hb e => ?_⟩
    subst e
    obtain ⟨_, _, rfl⟩ := List.mem_map.1 ha
    obtain ⟨x, hx, _, _, _, e2⟩ := mem_allM.1 hb
    rw [Pr.mk.injEq] at e2
    exact h.1 (e2.1 ▸ List.mem_map_of_mem hx)
/-- Two of all moves are not the same. -/
theorem allM_apart {room : List Int} {bs : List (List T)} (h : binsB room bs = true) {i j : Nat} (hi : i < (allM room bs bs.flatten).length) (hj : j < (allM room bs bs.flatten).length) (e : (allM room bs bs.flatten)[i] = (allM room bs bs.flatten)[j]) : i = j := by
  have hT := (binsOk_all.1 (binsB_iff.1 h)).1
  have nd := allM_nodup room bs _ (tasksOk_iff.1 hT).2.2.2
  rw [List.Nodup, List.pairwise_iff_getElem] at nd
  rcases Nat.lt_trichotomy i j with h | h | h
  · exact absurd e (nd i j hi hj h)
  · exact h
  · exact absurd e.symm (nd j i hj hi h)

end Go.Proofs.Ytjdhiabdcmindaa

namespace Go.Proofs.Ytjdhiabdcmindaa
set_option maxRecDepth 100000

theorem eqIn_int2 (d : Nat) (x y : Int) (w : World) : (Op.equalIn (d + 1) 3 (.int .i64 x) (.int .i64 y)).run Try.prog w = .ok (x == y) w := by
  simp [Op.equalIn, run_underlying Try.underlying3]
theorem eqIn_move2 (d : Nat) (x y x' y' : Int) (w : World) : (Op.equalIn (d + 2) 28 (.agg #[.int .i64 x, .int .i64 y]) (.agg #[.int .i64 x', .int .i64 y'])).run Try.prog w = .ok (x == x' && y == y') w := by
  rw [Op.equalIn]
  by_cases h : x = x'
  · by_cases k : y = y'
    · simp [run_underlying Try.underlying28, part0', part1', eqIn_int2, h, k]
    · simp [run_underlying Try.underlying28, part0', part1', eqIn_int2, h, k]
  · simp [run_underlying Try.underlying28, part0', part1', eqIn_int2, h]
theorem move_eql2 (x y x' y' : Int) (w : World) : (binOp .eql 28 (.agg #[.int .i64 x, .int .i64 y]) (.agg #[.int .i64 x', .int .i64 y'])).run Try.prog w = .ok (.bool (x == x' && y == y')) w := by
  simp [binOp, Op.equal, Op.maxDepth, show (10000 : Nat) = 9998 + 2 from rfl, eqIn_move2]
theorem move_neq2 (x y x' y' : Int) (w : World) : (binOp .neq 28 (.agg #[.int .i64 x, .int .i64 y]) (.agg #[.int .i64 x', .int .i64 y'])).run Try.prog w = .ok (.bool (!(x == x' && y == y'))) w := by
  simp [binOp, Op.equal, Op.maxDepth, show (10000 : Nat) = 9998 + 2 from rfl, eqIn_move2]

/-- All moves are few. -/
theorem movesOf_len (room : List Int) (bs : List (List T)) : (movesOfL room bs).length ≤ 196 := by
  unfold movesOfL
  split
  · rename_i h
    have h1 := allM_len room bs bs.flatten
    have h2 := binsB_iff.1 h
    have h3 := Nat.mul_le_mul h2.1.2.1 h2.2.1
    omega
  · simp
theorem movesOf_lim (room : List Int) (bs : List (List T)) : (movesOfL room bs).length ≤ lim := by
  have := movesOf_len room bs
  unfold lim; omega

end Go.Proofs.Ytjdhiabdcmindaa
