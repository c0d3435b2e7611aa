/- The program: tasks sorted by a heap. No condition. -/
import Derived.Test.YtcijbpjiioodlaaI20
namespace Go.Proofs.Ytcijbpjiioodlaa
set_option maxRecDepth 100000
open Go.RowKit

theorem tasksS_tb {w : World} {L : Nat} {v : Value} {ts : List T} (h : TasksS w L v ts) (hv : ∀ t ∈ ts, VecOk t.need) : ∃ ys : List Tb, ys.map (·.t) = ts ∧ OwnQ w L v ys ∧ Needs w L ys := by
  obtain ⟨xs, nb, h1, h2, h3⟩ := h
  have each : ∀ k, k < ts.length → ∃ c : Nat, ∀ (hk : k < ts.length), xs[k * 2]? = some (.int .i64 ts[k].id) ∧ xs[k * 2 + 1]? = some (.slice (some ⟨nb k, 0, none⟩) ts[k].need.length c) ∧ NeedS w L (nb k) (.slice (some ⟨nb k, 0, none⟩) ts[k].need.length c) ts[k].need := by
    intro k hk
    obtain ⟨a, n, b, c⟩ := h2 k hk hk
    obtain ⟨⟨cap, rfl⟩, hc⟩ := c
    exact ⟨cap, fun _ => ⟨a, b, ⟨cap, rfl⟩, hc⟩⟩
  obtain ⟨f, hf⟩ : ∃ f : Nat → Nat, ∀ k, ∀ (_ : k < ts.length) (hk : k < ts.length), xs[k * 2]? = some (.int .i64 ts[k].id) ∧ xs[k * 2 + 1]? = some (.slice (some ⟨nb k, 0, none⟩) ts[k].need.length (f k)) ∧ NeedS w L (nb k) (.slice (some ⟨nb k, 0, none⟩) ts[k].need.length (f k)) ts[k].need :=
    ⟨fun k => if hk : k < ts.length then (each k hk).choose else 0, fun k hk _ => by simp only [dif_pos hk]; exact (each k hk).choose_spec hk⟩
  have el : ((List.range ts.length).map fun k => (⟨ts.getD k ⟨0, []⟩, nb k, f k⟩ : Tb)).length = ts.length := by simp
  have eg : ∀ k (hk : k < ts.length), ((List.range ts.length).map fun k => (⟨ts.getD k ⟨0, []⟩, nb k, f k⟩ : Tb))[k]'(by rw [el]; exact hk) = ⟨ts[k], nb k, f k⟩ := by
    intro k hk
    simp [List.getD_eq_getElem?_getD, List.getElem?_eq_getElem hk]
  generalize ((List.range ts.length).map fun k => (⟨ts.getD k ⟨0, []⟩, nb k, f k⟩ : Tb)) = ys at *
  have mem : ∀ y ∈ ys, ∃ k, ∃ hk : k < ts.length, y = ⟨ts[k], nb k, f k⟩ := by
    intro y hy
    obtain ⟨k, hk, rfl⟩ := List.getElem_of_mem hy
    exact ⟨k, by omega, eg k (by omega)⟩
  refine ⟨ys, ?_, ?_, ?_, ?_, ?_⟩
  · refine List.ext_getElem (by simp [el]) fun k g1 g2 => ?_
    rw [List.getElem_map, eg k g2]
  · have e : xs = cellsB ys := by
      have hx := h1.1
      have hc := cellsB_len ys
      apply List.ext_getElem?
      intro i
      by_cases hi : i < ts.length * 2
      · have hk : i / 2 < ts.length := by omega
        obtain ⟨g1, g2, _⟩ := hf (i / 2) hk hk
        obtain ⟨c1, c2⟩ := cellsB_at (ps := ys) (k := i / 2) (by omega)
        rw [eg _ hk] at c1 c2
        rcases Nat.mod_two_eq_zero_or_one i with e | e
        · have e2 : i / 2 * 2 = i := by omega
          rw [e2] at g1 c1
          rw [g1, c1]
        · have e2 : i / 2 * 2 + 1 = i := by omega
          rw [e2] at g2 c2
          rw [g2, c2]
          rfl
      · rw [List.getElem?_eq_none (by omega), List.getElem?_eq_none (by omega)]
    unfold OwnQ
    rw [el, ← e]
    exact h1
  · intro y hy
    obtain ⟨k, hk, rfl⟩ := mem y hy
    exact (hf k hk hk).2.2
  · rw [List.nodup_iff_pairwise_ne, List.pairwise_iff_getElem]
    intro i j g1 g2 hij
    simp only [List.length_map] at g1 g2
    rw [List.getElem_map, List.getElem_map, eg i (by omega), eg j (by omega)]
    exact h3 i j hij (by omega) (by omega)
  · intro y hy
    obtain ⟨k, hk, rfl⟩ := mem y hy
    exact hv _ (List.getElem_mem hk)
theorem tb_tasksS {w : World} {L : Nat} {v : Value} {ys : List Tb} (h : OwnQ w L v ys) (hn : Needs w L ys) : TasksS w L v (ys.map (·.t)) := by
  refine ⟨cellsB ys, fun k => (ys.getD k ⟨⟨0, []⟩, 0, 0⟩).g, by rw [List.length_map]; exact h, fun k hk _ => ?_, fun i j hij hj _ => ?_⟩
  · simp only [List.length_map] at hk
    obtain ⟨c1, c2⟩ := cellsB_at hk
    rw [List.getElem_map]
    refine ⟨c1, _, c2, ?_⟩
    simp only [List.getD_eq_getElem?_getD, List.getElem?_eq_getElem hk, Option.getD_some]
    exact hn.1 _ (List.getElem_mem hk)
  · simp only [List.length_map] at hj
    have := hn.2.1
    rw [List.nodup_iff_pairwise_ne, List.pairwise_iff_getElem] at this
    have := this i j (by simp; omega) (by simpa using hj) hij
    rw [List.getElem_map, List.getElem_map] at this
    simpa only [List.getD_eq_getElem?_getD, List.getElem?_eq_getElem hj, List.getElem?_eq_getElem (show i < ys.length by omega), Option.getD_some] using this
theorem Queue.below {w w' : World} {L U q : Nat} {ys : List Tb} (h : Queue w L U q ys) (k : Below U w w') (kt : KT 45 w w') : Queue w' L U q ys := by
  obtain ⟨a, c, h1, h2, h3, h4, h5, h6, h7, h8⟩ := h
  refine ⟨a, c, (kt.2 _ _ _ _ h1 (by decide)).trans h1, ?_, h3.kt kt (by decide), h4, h5, h6, h7, h8⟩
  obtain ⟨hl, h2⟩ := h2
  rcases h2 with h | ⟨g, cap, cur, hv, hB, hg, r⟩
  · exact ⟨hl, .inl h⟩
  · refine ⟨hl, .inr ⟨g, cap, cur, hv, hB, ?_, r⟩⟩
    have := (h8 g (by rw [hv]; rfl)).2
    exact (k.block g this).trans hg
theorem Queue.needs {w : World} {L U q : Nat} {ys : List Tb} (h : Queue w L U q ys) : Needs w L ys := by
  obtain ⟨a, c, h1, h2, h3, _⟩ := h
  exact h3
section
variable {w : World} {ops : Array Oper} {rest : List Oper} {o : Oper} {a : Act} {Q : Exit → Act → World → Prop}
theorem app_tb (hgd : o.guard = none) (s x : Operand) (ho : o.op = .call { callee := .builtin .append, args := #[s, x], argTypes := #[36, 36] }) (B : Nat) (v : Value) (out : List Tb) (hs : a.eval s = v) (hown : OwnQ w B v out) (hB : B ≤ w.heap.size)
    (src : Option Addr) (c : Nat) (y : Tb) (hx : a.eval x = .slice src 1 c) (hrow : Row w 45 src [.int .i64 y.t.id, need y]) (hl : out.length ≤ 1000)
    (h : ∀ v' w', OwnQ w' B v' (out ++ [y]) → KT 45 w w' → Below B w w' → wpList Try.prog ops Q rest (a.put o.dst v') w') : wpList Try.prog ops Q (o :: rest) a w := by
  have hone : ∀ u ∈ [Value.int .i64 y.t.id, need y], u.oneCell' = true := by
    intro u hu
    simp only [List.mem_cons, List.not_mem_nil, or_false] at hu
    rcases hu with rfl | rfl <;> rfl
  refine wpList_plain hgd fun _ hK => wp_app elt_task s x ho B v out.length (cellsB out) hs hown hB src 1 c [.int .i64 y.t.id, need y] hx rfl _ hrow hone (by omega) (by unfold maxLen; omega) (fun v' w' k1 k2 k3 => hK _ _ (h v' w' ?_ k2 k3))
  unfold OwnQ
  rw [cellsB_app, List.length_append]
  exact k1
end
def lenV : Value → Nat | .slice _ n _ => n | _ => 0
theorem asks_task (x : Int) (n : Value) (w : World) : (Instr.typeAssert (.iface 45 (.agg #[.int .i64 x, n])) 20 45 false).run Try.prog w = .ok (.agg #[.int .i64 x, n]) w := by kernel_rfl

set_option maxHeartbeats 2000000 in
theorem sorted_any (v : Value) (ts : List T) (w : World) (h : Tasks w v ts) (hv : ∀ t ∈ ts, VecOk t.need) (ha : Apart ts) (hl : ts.length ≤ 14) :
    Calls Try.prog 108 #[v] w fun e w' => ∃ r, e = .returned r ∧ Ext w w' ∧ TasksS w' w.heap.size r (sortS ts) := by
  obtain ⟨a, cap, rfl, h⟩ := h.open
  have HA := Lib.hid ha
  have HV := Lib.hid hv
  have has := asks_task
  obtain ⟨i0, hi, hz, hs, hby⟩ := info_parts info_task
  clear ha hv
  go_enter Try.func108, Try.ntmps108
  go_wp2_with fail
  refine (copyTasks_any _ _ _ h (fun t ht => (HV.out t ht).1)).mono ?_
  rintro e w1 ⟨r, rfl, hE1, ht⟩
  obtain ⟨ys, hy, ho, hns⟩ := tasksS_tb ht HV.out
  have yl : ys.length = ts.length := by rw [← hy, List.length_map]
  obtain ⟨ra, rc, rfl⟩ := ho.form
  have hcap : ys.length ≤ rc := by
    rcases ho.2 with ⟨h1, h2⟩ | ⟨g, cap, cur, h1, _, _, h2, _⟩
    · omega
    · cases h1; omega
  have hgl : ∀ g, (Value.slice ra ys.length rc).ownBlock = some g → w.heap.size ≤ g ∧ g < w1.heap.size + 1 := fun g hg => by have := World.ownsRow.lt ho g hg; omega
  have yl14 : ys.length ≤ 14 := by omega
  have lw := hE1.le
  have tl : ts.length ≤ 14 := hl
  have Hy := Lib.hid hy
  have E2 := Lib.hid (hE1.alloc (Obj.cells #[.slice ra ys.length rc] 162))
  have EX := (Ext.refl w1).alloc (Obj.cells #[.slice ra ys.length rc] 162)
  have HQ0 := Lib.hid (show Queue (w1.alloc (Obj.cells #[.slice ra ys.length rc] 162)) w.heap.size (w1.heap.size + 1) w1.heap.size ys from ⟨ra, rc, heap_alloc_new w1 _, ho.ext EX, hns.ext EX, hcap, by omega, hE1.le, by omega, hgl⟩)
  have sz : (w1.alloc (Obj.cells #[.slice ra ys.length rc] 162)).heap.size = w1.heap.size + 1 := by simp
  clear ho hns hgl ht hy yl hE1 EX hcap hl
  go_wp2_with fail
  generalize w1.alloc (Obj.cells #[.slice ra ys.length rc] 162) = W at *
  refine (heapInit_any _ _ _ ys _ HQ0.out (by omega)).mono ?_
  rintro e w2 ⟨rfl, xs, hq, hp, hh, hf⟩
  have E3 := Lib.hid (hf.1.ext E2.out (Nat.le_refl _))
  have le2 : w1.heap.size + 1 ≤ w2.heap.size := by have := hf.1.size; omega
  have HQ := Lib.hid hq
  have xl := hp.length_eq
  have HS := Lib.hid (Sorting.start hp (by rw [xl]; exact hh))
  have HN := Lib.hid hq.needs
  clear hq hp hh hf HQ0 E2 xl sz
  go_wp2_with (at_make; refine wpList_make_own _ rfl _ _ 36 rfl (w1.heap.size + 1) 45 i0 (.agg #[.int .i64 0, .slice none 0 0]) 2 under_tasks hi hz hs .i64 .i64 _ ts.length rfl rfl rfl (by rw [hby]; omega) (by unfold maxLen; omega) le2 ?_; intro w3 hown hg)
  have hE3 : Ext w2 w3 := Below.grown (Below.refl _ _) hg (Nat.le_refl _) (by simp)
  have E4 := Lib.hid (E3.out.trans hE3)
  have HQ4 := Lib.hid (HQ.out.ext hE3)
  have HN4 := Lib.hid (HN.out.ext hE3)
  have HO4 := Lib.hid (show OwnQ w3 (w1.heap.size + 1) _ [] from hown)
  have le4 := hE3.le
  clear hown hg hi hz hs hby hE3 E3 HQ HN
  go_loopw [4] (fun s wr => ∃ (zs out : List Tb), Queue wr w.heap.size (w1.heap.size + 1) w1.heap.size zs ∧ OwnQ wr (w1.heap.size + 1) s out ∧ Needs wr w.heap.size (out ++ zs) ∧ Sorting ys out zs ∧ Ext w wr ∧ w1.heap.size + 1 ≤ wr.heap.size) (fun s _ => 15 - lenV s)
  case atStart => exact ⟨xs, [], HQ4.out, HO4.out, HN4.out, HS.out, E4.out, by omega⟩
  case round =>
    clear HQ4 HO4 HN4 HS E4 le4 le2
    obtain ⟨zs, out, hq, ho, hn, hsr, hE, le⟩ := hrel
    have tot := hsr.1.length_eq
    rw [List.length_append] at tot
    obtain ⟨sa, sc, rfl⟩ := ho.form
    have hq' := hq
    obtain ⟨qa, qc, h1, h2, h3, h4, h5, h6, h7, h8⟩ := hq'
    have q0 := cell_of_heap h1 0
    have HQ := Lib.hid hq
    have HO := Lib.hid ho
    have HN := Lib.hid hn
    have HS := Lib.hid hsr
    have HE := Lib.hid hE
    clear h1 h2 h3 h4 h5 h6 h7 h8 hq ho hn hsr hE
    cases hz : zs.length with
    | zero =>
      have Hd := Lib.hid (HS.out.done hz)
      have ez : zs = [] := List.eq_nil_of_length_eq_zero hz
      subst ez
      have Ht := Lib.hid (tb_tasksS (ownsRow_base HO.out (show w.heap.size ≤ w1.heap.size + 1 by omega)) (by have := HN.out; rwa [List.append_nil] at this))
      have Hr := Lib.hid (sorted_tb HA.out Hy.out Hd.out.1 Hd.out.2)
      go_wp2_with fail
      refine (qLen_any _ _ _ _).mono ?_
      rintro e w4 ⟨rfl, rfl⟩
      go_wp2
      go_ret
      exact ⟨_, rfl, HE.out, by rw [← Hr.out]; exact Ht.out⟩
    | succ n =>
      have Hz := Lib.hid hz
      have ol : out.length ≤ 13 := by omega
      have nl : n ≤ 13 := by omega
      have n0 : (0 : Int) < ((n : Int) + 1) := by omega
      rw [hz] at q0
      clear hz tot
      go_wp2_with fail
      refine (qLen_any _ _ _ _).mono ?_
      rintro e w4 ⟨rfl, rfl⟩
      clear q0
      go_wp2_with fail
      refine (heapPop_any _ _ _ zs n _ HQ.out Hz.out (by rw [Hz.out]; omega) (by have := HS.out.2.2.2; rwa [Hz.out] at this)).mono ?_
      rintro e w4 ⟨ps, rfl, hq4, hd4, hf4⟩
      obtain ⟨pl, hs4⟩ := HS.out.step Hz.out hd4
      have N4 := Lib.hid ((HN.out.kn hf4.2).perm (hs4.1.trans HS.out.1.symm))
      have O4 := Lib.hid (show OwnQ w4 (w1.heap.size + 1) (.slice sa out.length sc) out from ownsRow_chg HO.out hf4.1 fun g hg => .inr (World.ownsRow.lt HO.out g hg).1)
      have X4 := Lib.hid (hf4.1.ext HE.out (Nat.le_refl _))
      have le4 : w1.heap.size + 1 ≤ w4.heap.size := Nat.le_trans le hf4.1.size
      have Q4 := Lib.hid hq4
      have S4 := Lib.hid hs4
      clear hq4 hd4 hf4 hs4 pl HQ HO HN HS HE Hz
      generalize At ps n = y at *
      generalize ps.take n = us at *
      have ou : (out ++ [y]).length = out.length + 1 := by simp
      have EA := Lib.hid ((Ext.refl w4).alloc (Obj.cells #[.int .i64 y.t.id, need y] 45))
      go_wp2_with (at_builtin; refine app_tb rfl _ _ rfl (w1.heap.size + 1) _ out rfl (O4.out.ext EA.out) (by simp; omega) _ _ y rfl (Row.lit w4 #[.int .i64 y.t.id, need y] _) (by omega) ?_; intro v5 w5 hown hkt hbl)
      have Q5 := Lib.hid ((Q4.out.ext EA.out).below hbl hkt)
      have N5 := Lib.hid ((N4.out.ext EA.out).kt hkt (by decide))
      have E5 := Lib.hid ((X4.out.trans EA.out).below (Below.mono hbl (by omega)))
      have le5 := hbl.size
      simp only [World.size_alloc] at le5
      have O5 := Lib.hid hown
      obtain ⟨oa, oc, rfl⟩ := hown.form
      clear hown hkt hbl
      go_roundw
      case rel => exact ⟨us, out ++ [y], Q5.out, O5.out, N5.out, S4.out, E5.out, by omega⟩
      case measure => simp [lenV]; omega

theorem Apart.ok {room : List Int} {ts : List T} (h : TasksOk room ts) : Apart ts := Apart.of_tasks h

set_option maxHeartbeats 400000 in
theorem TasksSort_any (v u : Value) (room : List Int) (ts : List T) (w : World) (hr : Ints w v room) (h : Tasks w u ts) :
    Calls Try.prog 59 #[v, u] w fun e w' => ∃ r, e = .returned r ∧ Ext w w' ∧ TasksS w' w.heap.size r (sortL room ts) := by
  cases hb : tasksB room ts with
  | false =>
    have Hd : Hid (sortL room ts = []) := by show sortL room ts = []; simp [sortL, hb]
    go_enter Try.func59, Try.ntmps59
    go_wp2_with fail
    have cc := TasksValid_any _ _ _ _ _ hr h
    rw [hb] at cc
    refine cc.mono ?_
    clear cc
    rintro e w2 ⟨rfl, hE2⟩
    go_wp2
    go_ret
    exact ⟨_, rfl, hE2, by rw [Hd.out]; exact TasksS.nil _ _⟩
  | true =>
    have ok := tasksB_iff.1 hb
    have Hd : Hid (sortL room ts = sortS ts) := by show sortL room ts = _; simp [sortL, hb]
    have HK := Lib.hid ok
    have l14 : ts.length ≤ 14 := ok.2.1
    clear ok
    go_enter Try.func59, Try.ntmps59
    go_wp2_with fail
    have cc := TasksValid_any _ _ _ _ _ hr h
    rw [hb] at cc
    refine cc.mono ?_
    clear cc
    rintro e w2 ⟨rfl, hE2⟩
    go_wp2_with fail
    refine (sorted_any _ ts _ (h.ext hE2) HK.out.vec (Apart.of_tasks HK.out) l14).mono ?_
    rintro e w3 ⟨r, rfl, hE3, ht⟩
    have Ht := Lib.hid (show TasksS w3 w.heap.size r (sortL room ts) by rw [Hd.out]; exact ht.base hE2.le)
    have F := hE2.trans hE3
    clear ht hE3 hE2
    obtain ⟨sa, sc, hs⟩ := Ht.out.form
    subst hs
    go_wp2
    go_ret
    exact ⟨_, rfl, F, Ht.out⟩

theorem sortL_lim (room : List Int) (ts : List T) : Sm (sortL room ts) := by
  unfold sortL
  split
  · rename_i hb
    have ok := tasksB_iff.1 hb
    refine ⟨?_, fun t ht => ?_⟩
    · rw [sortS_len]; have := ok.2.1; omega
    · have := (ok.vec t (sortS_mem ht)).1; omega
  · exact ⟨by simp, by simp⟩

end Go.Proofs.Ytcijbpjiioodlaa
