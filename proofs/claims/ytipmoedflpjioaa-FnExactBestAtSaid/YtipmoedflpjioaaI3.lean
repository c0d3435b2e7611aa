/- The map of numbers that have been seen; laws for the walk. -/
import Derived.Test.YtipmoedflpjioaaI2
import Derived.Test.YtipmoedflpjioaaS4
import Derived.Lib.AppendZeros
import Derived.Maps.OwnSet
namespace Go.Proofs.Ytipmoedflpjioaa
set_option maxRecDepth 100000
open Go.RowKit

/-- A block is a map whose keys are these numbers, each with a task. -/
def MapIds (w : World) (b : Nat) (ids : List Int) : Prop :=
  ∃ es clock, w.heap[b]? = some (Obj.map es clock) ∧ es.toList.map (·.key) = ids.map (Value.int .i64) ∧ ∀ e ∈ es.toList, ∃ i a n c, e.val = .agg #[.int .i64 i, .slice a n c]

theorem MapIds.ext {w w' : World} {b : Nat} {ids : List Int} (h : MapIds w b ids) (k : Ext w w') : MapIds w' b ids := by
  obtain ⟨es, clock, hb, r⟩ := h
  exact ⟨es, clock, (k.block (lt_of_heap hb)).trans hb, r⟩
theorem MapIds.made (w : World) : MapIds (w.alloc (.map #[] 0)) w.heap.size [] := ⟨#[], 0, heap_alloc_new w _, rfl, fun e h => by simp at h⟩

theorem findNow_ids (id : Int) : ∀ (es : List MapEntry) (ids : List Int) (i : Nat), es.map (·.key) = ids.map (Value.int .i64) →
    ∃ r, Instr.findNow (.int .i64) (.int .i64 id) es i = some r ∧ r.isSome = ids.contains id ∧ ∀ x, r = some x → ∃ e ∈ es, x.2 = e.val
  | [], [], i, _ => ⟨none, rfl, by simp, fun x h => by cases h⟩
  | e :: es, n :: ids, i, h => by
    simp only [List.map_cons, List.cons.injEq] at h
    simp only [Instr.findNow, h.1, Instr.sameNow]
    by_cases hn : id = n
    · subst hn
      refine ⟨some (i, e.val), by simp, by simp, fun x hx => ?_⟩
      simp only [Option.some.injEq] at hx
      subst hx
      exact ⟨e, by simp, rfl⟩
    · obtain ⟨r, h1, h2, h3⟩ := findNow_ids id es ids (i + 1) h.2
      refine ⟨r, ?_, ?_, fun x hx => ?_⟩
      · have hb : (id == n) = false := by simpa using hn
        simp [hb, h1]
      · rw [h2]; simp [hn]
      · obtain ⟨e', he', hx'⟩ := h3 x hx
        exact ⟨e', by simp [he'], hx'⟩
  | [], _ :: _, _, h => by simp at h
  | _ :: _, [], _, h => by simp at h

theorem under_int : Try.prog.underlying 3 = some (.int .i64) := by kernel_rfl
theorem under_seen : Try.prog.underlying 79 = some (.map 3 38) := by kernel_rfl
theorem zero_task (w : World) : (zeroValue 38).run Try.prog w = .ok (.agg #[.int .i64 0, .slice none 0 0]) w := by kernel_rfl

theorem checkKey_succ (b : Bool) (m : Nat) (id : Int) (w : World) : (Instr.checkKey b (m + 1) 3 (.int .i64 id)).run Try.prog w = .ok () w := by
  simp [Instr.checkKey, run_underlying under_int]
theorem checkKey_int (b : Bool) (id : Int) (w : World) : (Instr.checkKey b 10000 3 (.int .i64 id)).run Try.prog w = .ok () w := checkKey_succ b 9999 id w

theorem run_lookup_ids {w : World} {b : Nat} {ids : List Int} (h : MapIds w b ids) (id : Int) :
    ∃ i a n c, (Instr.lookup 79 (.map (some b)) (.int .i64 id) true).run Try.prog w = .ok (.tuple #[.agg #[.int .i64 i, .slice a n c], .bool (ids.contains id)]) w := by
  obtain ⟨es, clock, hb, hk, hv⟩ := h
  obtain ⟨r, h1, h2, h3⟩ := findNow_ids id es.toList ids 0 hk
  cases r with
  | none =>
    refine ⟨0, none, 0, 0, ?_⟩
    simp at h2
    simp [Instr.lookup, run_underlying under_seen, MapKept.run_getObj_map hb, checkKey_int, Instr.findKey, run_underlying under_int, h1, h2]
  | some x =>
    obtain ⟨e, he, hx⟩ := h3 x rfl
    obtain ⟨i, a, n, c, hv'⟩ := hv e he
    refine ⟨i, a, n, c, ?_⟩
    simp at h2
    simp [Instr.lookup, run_underlying under_seen, MapKept.run_getObj_map hb, checkKey_int, Instr.findKey, run_underlying under_int, h1, hx, hv', h2]

theorem run_update_ids {w : World} {b : Nat} {ids : List Int} (h : MapIds w b ids) {id : Int} (hid : ids.contains id = false) (i : Int) (a : Option Addr) (n c : Nat) :
    ∃ w', (Instr.mapUpdate 79 (.map (some b)) (.int .i64 id) (.agg #[.int .i64 i, .slice a n c])).run Try.prog w = .ok () w' ∧ MapIds w' b (ids ++ [id]) ∧ w.grownBy w' (some b) := by
  obtain ⟨es, clock, hb, hk, hv⟩ := h
  obtain ⟨r, h1, h2, h3⟩ := findNow_ids id es.toList ids 0 hk
  rw [hid] at h2
  have hr : r = none := by cases r <;> simp_all
  subst hr
  refine ⟨{ w with heap := w.heap.setIfInBounds b (.map (es.push { key := .int .i64 id, val := .agg #[.int .i64 i, .slice a n c], born := clock }) (clock + 1)) }, ?_, ?_, ?_⟩
  · simp [Instr.mapUpdate, run_underlying under_seen, MapKept.run_getObj_map hb, checkKey_int, Instr.findKey, run_underlying under_int, h1, Sem.run, setObj, hb]
  · have hlt := lt_of_heap hb
    refine ⟨es.push { key := .int .i64 id, val := .agg #[.int .i64 i, .slice a n c], born := clock }, clock + 1, ?_, ?_, ?_⟩
    · simp [hlt]
    · simp [hk]
    · intro e he
      simp at he
      rcases he with he | he
      · exact hv e (by simpa using he)
      · subst he; exact ⟨i, a, n, c, rfl⟩
  · refine ⟨rfl, rfl, rfl, by simp, fun k hk' hne => ?_⟩
    have : b ≠ k := fun e => hne (by rw [e])
    simp [this]

section
variable {w : World} {ops : Array Oper} {rest : List Oper} {o : Oper} {a : Act} {Q : Exit → Act → World → Prop}
theorem lookup_ids (hg : o.guard = none) (m x : Operand) (hop : o.op = Op.lookup 79 m x true) (b : Nat) (ids : List Int) (hm : a.eval m = .map (some b)) (hown : MapIds w b ids) (id : Int) (hx : a.eval x = .int .i64 id) (bb : Bool) (hbb : ids.contains id = bb)
    (hK : ∀ i ad n c, wpList Try.prog ops Q rest (a.put o.dst (.tuple #[.agg #[.int .i64 i, .slice ad n c], .bool bb])) w) : wpList Try.prog ops Q (o :: rest) a w := by
  refine wpList_plain hg fun K' hK' => ?_
  obtain ⟨i, ad, n, c, hrun⟩ := run_lookup_ids hown id
  rw [hbb] at hrun
  unfold Oper.wp
  simp [execOp, hop, hm, hx, hrun, Result.andThen]
  exact hK' _ _ (hK i ad n c)
theorem update_ids (hg : o.guard = none) (m x v : Operand) (hop : o.op = Op.mapUpdate 79 m x v) (b : Nat) (ids : List Int) (hm : a.eval m = .map (some b)) (hown : MapIds w b ids) (id : Int) (hx : a.eval x = .int .i64 id) (hid : ids.contains id = false)
    (i : Int) (ad : Option Addr) (n c : Nat) (hv : a.eval v = .agg #[.int .i64 i, .slice ad n c])
    (hK : ∀ w', MapIds w' b (ids ++ [id]) → w.grownBy w' (some b) → wpList Try.prog ops Q rest (a.put o.dst undef) w') : wpList Try.prog ops Q (o :: rest) a w := by
  refine wpList_plain hg fun K' hK' => ?_
  obtain ⟨w', hrun, r1, r2⟩ := run_update_ids hown hid i ad n c
  unfold Oper.wp
  simp [execOp, hop, hm, hx, hv, hrun, Result.andThen]
  exact hK' _ _ (hK w' r1 r2)
end

set_option maxRecDepth 100000 in
theorem run_grow0 (n : Nat) (h0 : 0 < n) (hn : n ≤ 4194304) (w : World) (ty : TypeId) :
    ∃ cap w', (Builtin.append_ #[27, 3] ty #[.slice none 0 0, .int .i64 n]).run Try.prog w = .ok (.slice (some ⟨w.heap.size, 0, none⟩) n cap) w' ∧ Ext w w' ∧ w'.ownsRow w.heap.size 38 2 (.slice (some ⟨w.heap.size, 0, none⟩) 0 cap) 0 [] := by
  obtain ⟨i, z, ht, hi, hz, hs, hby, hzs, hp⟩ := elt_task.got
  have hr := Lib.run_append_nil_zeros w _ _ ty _ i z .i64 .i64 ht under_int hi hz n h0 (by omega) (by omega) (by rw [hby]; omega)
  refine ⟨_, _, hr, ((Ext.refl w).drew).alloc _, ?_⟩
  have h1 := grownCap_ge w n 0 38
  refine World.ownsRow_made w.drew _ _ (Nat.le_refl _) (grownCap_le_maxLen w n 0 _ (by simp [maxLen]; omega)) ?_
  rw [Array.size_append, size_zeroCells, size_zeroCells, hzs, ← Nat.add_mul]
  congr 1
  omega

end Go.Proofs.Ytipmoedflpjioaa
