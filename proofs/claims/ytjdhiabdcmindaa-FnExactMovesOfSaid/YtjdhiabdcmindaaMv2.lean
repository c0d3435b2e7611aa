/- The next move, by the program: a queue of candidates. No condition. -/
import Derived.Test.YtjdhiabdcmindaaMv1
namespace Go.Proofs.Ytjdhiabdcmindaa
set_option maxRecDepth 100000
open Go.RowKit

/-- The tasks of the nodes below m, the last node first, with their nodes. -/
def candR (bs : List (List T)) : Nat → List (T × Nat)
  | 0 => []
  | m + 1 => (bs.getD m []).map (fun t => (t, m)) ++ candR bs m
theorem candR_get {bs : List (List T)} {j : Nat} (h : j < bs.length) : candR bs (j + 1) = bs[j].map (fun t => (t, j)) ++ candR bs j := by
  show (bs.getD j []).map _ ++ _ = _
  rw [List.getD_eq_getElem?_getD, List.getElem?_eq_getElem h]; rfl
theorem candR_len {bs : List (List T)} : ∀ {m : Nat}, m ≤ bs.length → (candR bs m).length = (bs.take m).flatten.length := by
  intro m
  induction m with
  | zero => intro _; rfl
  | succ m ih =>
    intro h
    rw [candR_get (by omega), List.length_append, List.length_map, ih (by omega), List.take_succ_eq_append_getElem (by omega), List.flatten_append, List.length_append]
    simp; omega
theorem candR_next (room : List Int) (bs : List (List T)) : ∀ m, (candR bs m).findSome? (fun c => tryO room bs c.2 c.1) = nextR room bs m := by
  intro m
  induction m with
  | zero => rfl
  | succ m ih =>
    show ((bs.getD m []).map (fun t => (t, m)) ++ candR bs m).findSome? _ = ((bs.getD m []).findSome? (tryO room bs m)).or (nextR room bs m)
    rw [List.findSome?_append, ih, List.findSome?_map]
    rfl
theorem candR_node {bs : List (List T)} : ∀ {m : Nat}, m ≤ bs.length → ∀ c ∈ candR bs m, c.2 < bs.length ∧ ∃ h : c.2 < bs.length, c.1 ∈ bs[c.2]'h := by
  intro m
  induction m with
  | zero => intro _ c hc; simp [candR] at hc
  | succ m ih =>
    intro h c hc
    rw [candR_get (by omega)] at hc
    rcases List.mem_append.1 hc with hc | hc
    · simp only [List.mem_map] at hc
      obtain ⟨t, ht, rfl⟩ := hc
      exact ⟨by show m < _; omega, by show m < _; omega, ht⟩
    · exact ih (by omega) c hc

/-- Candidates as they lie in memory. -/
def CandCells (w : World) (xs : List Value) (cs : List (T × Nat)) : Prop :=
  xs.length = cs.length * 3 ∧ ∀ k (h : k < cs.length), xs[k * 3]? = some (.int .i64 cs[k].1.id) ∧ xs[k * 3 + 2]? = some (.int .i64 (cs[k].2 : Int)) ∧ ∃ n, xs[k * 3 + 1]? = some n ∧ Ints w n cs[k].1.need
theorem CandCells.kt {w w' : World} {xs : List Value} {cs : List (T × Nat)} {e : TypeId} (h : CandCells w xs cs) (k : KT e w w') (ne : 3 ≠ e) : CandCells w' xs cs :=
  ⟨h.1, fun j hj => ⟨(h.2 j hj).1, (h.2 j hj).2.1, let ⟨n, hn, hi⟩ := (h.2 j hj).2.2; ⟨n, hn, hi.kt k ne⟩⟩⟩
theorem CandCells.ext {w w' : World} {xs : List Value} {cs : List (T × Nat)} (h : CandCells w xs cs) (k : Ext w w') : CandCells w' xs cs :=
  ⟨h.1, fun j hj => ⟨(h.2 j hj).1, (h.2 j hj).2.1, let ⟨n, hn, hi⟩ := (h.2 j hj).2.2; ⟨n, hn, hi.ext k⟩⟩⟩
theorem CandCells.snoc {w : World} {xs : List Value} {cs : List (T × Nat)} (h : CandCells w xs cs) {t : T} {f : Nat} {n : Value} (hn : Ints w n t.need) : CandCells w (xs ++ [.int .i64 t.id, n, .int .i64 (f : Int)]) (cs ++ [(t, f)]) := by
  refine ⟨by simp [h.1]; omega, fun k hk => ?_⟩
  simp at hk
  by_cases hlt : k < cs.length
  · obtain ⟨h1, h2, n', h3, h4⟩ := h.2 k hlt
    have e1 : k * 3 < xs.length := by rw [h.1]; omega
    have e2 : k * 3 + 1 < xs.length := by rw [h.1]; omega
    have e3 : k * 3 + 2 < xs.length := by rw [h.1]; omega
    rw [List.getElem?_append_left e1, List.getElem?_append_left e2, List.getElem?_append_left e3]
    rw [List.getElem_append_left hlt]
    exact ⟨h1, h2, n', h3, h4⟩
  · have : k = cs.length := by omega
    subst this
    rw [← h.1, List.getElem?_append_right (Nat.le_refl _), List.getElem?_append_right (by omega), List.getElem?_append_right (by omega)]
    simp
    exact hn
def OwnC (w : World) (B : Nat) (v : Value) (cs : List (T × Nat)) : Prop := ∃ xs, w.ownsRow B 80 3 v cs.length xs ∧ CandCells w xs cs
theorem OwnC.ext {w w' : World} {B : Nat} {v : Value} {cs : List (T × Nat)} (h : OwnC w B v cs) (k : Ext w w') : OwnC w' B v cs := let ⟨xs, h1, h2⟩ := h; ⟨xs, ownsRow_ext h1 k, h2.ext k⟩
theorem OwnC.lit0 (w : World) (B : Nat) (hB : B ≤ w.heap.size) : OwnC (w.alloc (.cells #[] 80)) B (.slice (some ⟨w.heap.size, 0, none⟩) 0 0) [] := ⟨[], World.ownsRow_lit w #[] 0 hB (by simp [maxLen]) rfl, rfl, fun k h => by simp at h⟩
theorem OwnC.form {w : World} {B : Nat} {v : Value} {cs : List (T × Nat)} (h : OwnC w B v cs) : ∃ a c, v = .slice a cs.length c ∧ cs.length ≤ c := by
  obtain ⟨xs, ⟨_, h1⟩, _⟩ := h
  rcases h1 with ⟨rfl, hn⟩ | ⟨g, cap, cur, rfl, _, _, hc, _⟩
  · exact ⟨none, 0, by rw [hn], by omega⟩
  · exact ⟨_, cap, rfl, hc⟩
theorem OwnC.at {w : World} {B : Nat} {a : Option Addr} {n c : Nat} {cs : List (T × Nat)} (h : OwnC w B (.slice a n c) cs) (h0 : 0 < cs.length) :
    ∃ g, a = some ⟨g, 0, none⟩ ∧ ∀ k (hk : k < cs.length), w.cell? ⟨g, k * 3, none⟩ = some (.int .i64 cs[k].1.id) ∧ w.cell? ⟨g, k * 3 + 2, none⟩ = some (.int .i64 (cs[k].2 : Int)) ∧ ∃ nd, w.cell? ⟨g, k * 3 + 1, none⟩ = some nd ∧ Ints w nd cs[k].1.need := by
  obtain ⟨xs, h1, hl, hc⟩ := h
  obtain ⟨g, rfl, rfl, _, _, hcell, _⟩ := ownsRow_at h1 h0
  refine ⟨g, rfl, fun k hk => ?_⟩
  obtain ⟨c0, c2, nd, c1, hn⟩ := hc k hk
  exact ⟨by rw [hcell _ (by omega), c0], by rw [hcell _ (by omega), c2], nd, by rw [hcell _ (by omega), c1], hn⟩
theorem elt_cand : Elt Try.prog 77 80 3 40 := Elt.mk' (z := .agg #[.int .i64 0, .slice none 0 0, .int .i64 0]) (by kernel_rfl) (by kernel_rfl) rfl (by decide)

section
variable {w : World} {ops : Array Oper} {rest : List Oper} {o : Oper} {a : Act} {Q : Exit → Act → World → Prop}
theorem app_cand (hgd : o.guard = none) (s x : Operand) (ho : o.op = .call { callee := .builtin .append, args := #[s, x], argTypes := #[77, 77] }) (B : Nat) (v : Value) (cs : List (T × Nat)) (hs : a.eval s = v) (hown : OwnC w B v cs) (hB : B ≤ w.heap.size)
    (src : Option Addr) (c : Nat) (t : T) (f : Nat) (nd : Value) (hx : a.eval x = .slice src 1 c) (hrow : Row w 80 src [.int .i64 t.id, nd, .int .i64 (f : Int)]) (hn : Ints w nd t.need) (hl : cs.length + 1 ≤ lim)
    (h : ∀ v' w', OwnC w' B v' (cs ++ [(t, f)]) → KT 80 w w' → Below B w w' → wpList Try.prog ops Q rest (a.put o.dst v') w') : wpList Try.prog ops Q (o :: rest) a w := by
  obtain ⟨xs, hown, hcx⟩ := hown
  unfold lim at hl
  have hone : ∀ u ∈ [Value.int .i64 t.id, nd, Value.int .i64 (f : Int)], u.oneCell' = true := by
    intro u hu
    obtain ⟨na, nc, rfl, -⟩ := hn.open
    simp only [List.mem_cons, List.not_mem_nil, or_false] at hu
    rcases hu with rfl | rfl | rfl <;> rfl
  exact wpList_plain hgd fun _ hK => wp_app elt_cand s x ho B v cs.length xs hs hown hB src 1 c [.int .i64 t.id, nd, .int .i64 (f : Int)] hx rfl _ hrow hone (by omega) (by unfold maxLen; omega)
    (fun v' w' h1 h2 h3 => hK _ _ (h v' w' ⟨_, by rw [List.length_append]; exact h1, (hcx.kt h2 (by decide)).snoc (hn.kt h2 (by decide))⟩ h2 h3))
end

set_option maxHeartbeats 4000000 in
theorem candidates_any (v : Value) (bs : List (List T)) (w : World) (h : Bins w v bs) (hf : bs.flatten.length ≤ 2097152) :
    Calls Try.prog 49 #[v] w fun e w' => ∃ r, e = .returned r ∧ Ext w w' ∧ OwnC w' w.heap.size r (candR bs bs.length) := by
  obtain ⟨a, c, rfl, h⟩ := h.open
  have hl : bs.length ≤ 4194304 := h.1
  have E0 := Lib.hid ((Ext.refl w).alloc (.cells #[] 80))
  have O0 := Lib.hid (OwnC.lit0 w w.heap.size (Nat.le_refl _))
  have Hb := Lib.hid h
  have CL := Lib.hid (candR_len (bs := bs) (Nat.le_refl _))
  have hcl : (candR bs bs.length).length ≤ 2097152 := by rw [CL.out, List.take_length]; exact hf
  clear h
  go_enter Try.func49, Try.ntmps49
  go_wp2_with fail
  generalize w.alloc (.cells #[] 80) = W at *
  go_loopw [3, 4] (fun s i wr => ∃ (m : Nat) (D : List (T × Nat)), m ≤ bs.length ∧ i = .int .i64 ((m : Int) - 1) ∧ candR bs bs.length = D ++ candR bs m ∧ OwnC wr w.heap.size s D ∧ Ext w wr) (fun _ i _ => (intOf i + 1).toNat)
  case atStart => exact ⟨bs.length, [], by omega, by go_num, by simp, O0.out, E0.out⟩
  case round =>
    clear E0 O0
    obtain ⟨m, D, hm, rfl, ho, hO, hE⟩ := hrel
    have HE := Lib.hid hE
    have HO := Lib.hid hO
    have HD := Lib.hid ho
    obtain ⟨sa, sc, rfl, -⟩ := hO.form
    clear hE hO
    by_cases h1 : 0 < m
    · obtain ⟨j, rfl⟩ : ∃ j, m = j + 1 := ⟨m - 1, by omega⟩
      have hj : j < bs.length := by omega
      have ej : ((j + 1 : Nat) : Int) - 1 = (j : Int) := by omega
      rw [ej]
      have HC := Lib.hid (by have := ho; rw [candR_get hj, ← List.append_assoc] at this; exact this : candR bs bs.length = (D ++ (bs[j].map fun t => (t, j))) ++ candR bs j)
      have j00 : 0 ≤ (j : Int) := by omega
      have j1 : (j : Int) < (bs.length : Int) := by omega
      obtain ⟨b, off, nd, he, c0, ht⟩ := Hb.out.at hj
      subst he
      obtain ⟨ta, tc, rfl, ht⟩ := ht.open
      have hbl : bs[j].length ≤ 4194304 := ht.1
      have Ht := Lib.hid ht
      have c0 := HE.out.cell c0
      clear ho ej h1 ht
      go_wp2_with fail
      clear c0
      go_loopw [3, 20] (fun s i wr' => ∃ (q : Nat) (D' : List (T × Nat)), q ≤ bs[j].length ∧ i = .int .i64 q ∧ D' = D ++ ((bs[j].take q).map fun t => (t, j)) ∧ OwnC wr' w.heap.size s D' ∧ Ext w wr') (fun _ i _ => bs[j].length - (intOf i).toNat)
      case atStart => exact ⟨0, D, by omega, rfl, by simp, HO.out, HE.out⟩
      case round =>
        obtain ⟨wo, hwo⟩ : ∃ wo : World, wo = wr := ⟨_, rfl⟩
        clear HO hwo
        obtain ⟨q, D', hq, rfl, hD', hO, hE⟩ := hrel
        obtain ⟨sa', sc', rfl, -⟩ := hO.form
        have HX := Lib.hid hE
        have HO := Lib.hid hO
        have HD' := Lib.hid hD'
        by_cases hlt : q < bs[j].length
        · obtain ⟨b2, off2, n2, hta, d0, d1, hn⟩ := (Ht.out.ext hE).at hlt
          subst hta
          obtain ⟨na, nc, rfl, hn⟩ := hn.open
          have HN := Lib.hid hn
          have q0 : (0 : Int) ≤ (q : Int) := by omega
          have q1 : (q : Int) < (bs[j].length : Int) := by omega
          have hlim : D'.length + 1 ≤ 2097152 := by
            have e := congrArg List.length HC.out
            rw [List.length_append, List.length_append, List.length_map] at e
            have e2 := congrArg List.length hD'
            rw [List.length_append, List.length_map, List.length_take] at e2
            omega
          have St := Lib.hid (by rw [hD', List.take_succ_eq_append_getElem hlt, List.map_append, ← List.append_assoc]; rfl : D' ++ [(bs[j][q], j)] = D ++ ((bs[j].take (q + 1)).map fun t => (t, j)))
          have hwl : w.heap.size ≤ wr.heap.size := hE.le
          have X2 := Lib.hid (((Ext.refl wr).alloc (.cells #[.int .i64 bs[j][q].id, .slice na bs[j][q].need.length nc] 56)))
          have hsz : (wr.alloc (.cells #[.int .i64 bs[j][q].id, .slice na bs[j][q].need.length nc] 56)).heap.size = wr.heap.size + 1 := by simp
          have HSz := Lib.hid hsz
          clear hn hO hD' hE hsz
          go_wp2_with (at_builtin; refine app_cand rfl _ _ rfl w.heap.size _ D' rfl ?hown ?hB _ _ bs[j][q] j (.slice na bs[j][q].need.length nc) rfl ?hrow ?hn ?hl ?_)
          case hown => exact (HO.out.ext X2.out).ext ((Ext.refl _).alloc _)
          case hB => simp only [World.size_alloc]; omega
          case hrow =>
            have hrw := Row.lit (wr.alloc (.cells #[.int .i64 bs[j][q].id, .slice na bs[j][q].need.length nc] 56)) #[.int .i64 bs[j][q].id, .slice na bs[j][q].need.length nc, .int .i64 (j : Int)] 80
            rw [World.size_alloc] at hrw
            exact hrw
          case hn => exact (HN.out.ext X2.out).ext ((Ext.refl _).alloc _)
          case hl => unfold lim; omega
          intro v9 w9 hown hkt hbl
          rw [St.out] at hown
          have O9 := Lib.hid hown
          have X9 := Lib.hid (show Ext w w9 from Below.trans (HX.out.trans (X2.out.alloc _)) hbl)
          obtain ⟨sa9, sc9, rfl, -⟩ := hown.form
          clear hown hkt hbl
          go_wp2_with fail
          go_roundw
          case rel => exact ⟨q + 1, _, by omega, by go_num, rfl, O9.out, X9.out⟩
          case measure => simp [intOf]; omega
        · have e : q = bs[j].length := by omega
          subst e
          have HC2 := Lib.hid (by rw [HC.out, hD', List.take_length] : candR bs bs.length = D' ++ candR bs j)
          have HE2 := HX
          clear hO hD' hE
          go_wp2_with fail
          go_roundw
          case rel => exact ⟨j, D', by omega, by go_num, HC2.out, HO.out, HE2.out⟩
          case measure => simp [intOf] <;> omega
    · have e : m = 0 := by omega
      subst e
      have HF := Lib.hid (by rw [ho]; simp [candR] : candR bs bs.length = D)
      clear ho
      go_wp2_with fail
      go_ret
      exact ⟨_, rfl, HE.out, by rw [HF.out]; exact HO.out⟩

end Go.Proofs.Ytjdhiabdcmindaa
