/- A move that is possible, done by the program on nodes that the call owns. No condition. -/
import Derived.Test.YtfidamjepjgknaaDel
import Derived.Test.YtfidamjepjgknaaI8
import Derived.Test.YtfidamjepjgknaaI16
import Derived.Test.YtfidamjepjgknaaReg
namespace Go.Proofs.Ytfidamjepjgknaa
set_option maxRecDepth 100000
open Go.RowKit

theorem NestS.nest {w : World} {L : Nat} {v : Value} {bs : List (List T)} (h : NestS w L v bs) (hb : ∀ b ∈ bs, ∀ t ∈ b, t.need.length ≤ lim) : Nest w L L v bs := by
  obtain ⟨xs, S, h1, h2, h3, h4⟩ := h
  have hx := h1.1
  refine ⟨xs, h1, by omega, fun k hk => ?_, fun i j n m g hij hi hj hgi hgj => ?_⟩
  · obtain ⟨n, hn, ys, nb, r, hc, hp, hq⟩ := h4 k hk
    refine ⟨n, hn, ys, ?_, r.1, fun j hj => ?_⟩
    · obtain ⟨hl, r⟩ := r
      refine ⟨hl, ?_⟩
      rcases r with r | ⟨g, cap, cur, rfl, hB, r⟩
      · exact .inl r
      · exact .inr ⟨g, cap, cur, rfl, (h2 k g (hp g rfl)).1, r⟩
    · obtain ⟨c0, m, c1, hm⟩ := hc.1 j hj hj
      exact ⟨c0, m, c1, hm.2.done (hb _ (List.getElem_mem hk) _ (List.getElem_mem hj))⟩
  · have at' : ∀ (i : Nat) (n : Value), xs[i]? = some n → n.ownBlock = some g → S i g := fun i n hi hg => by
      have hil : i < bs.length := by
        rcases Nat.lt_or_ge i xs.length with h | h
        · omega
        · simp [List.getElem?_eq_none h] at hi
      obtain ⟨n', hn', ys, nb, r, hc, hp, hq⟩ := h4 i hil
      rw [hi] at hn'
      cases hn'
      exact hp g hg
    exact h3 i j g hij (at' i n hi hgi) (at' j m hj hgj)

/-- The nodes after a move. -/
def movL (bs : List (List T)) (k i to : Nat) (x : T) : List (List T) := (bs.set k ((bs.getD k []).take i ++ (bs.getD k []).drop (i + 1))).set to (bs.getD to [] ++ [x])
theorem keepBox {w w1 : World} {b k g y : Nat} {u : Value} (hg : w.grownBy w1 (some g)) (hy : y < w.heap.size) (h1 : y ≠ g) (h2 : y ≠ b) : (w1.setCell ⟨b, k, none⟩ u).heap[y]? = w.heap[y]? :=
  (Below.heap_setCell w1 ⟨b, k, none⟩ u y h2).trans (hg.block y hy (fun e => h1 (by cases e; rfl)))
theorem cell_of_block {w w' : World} {b o : Nat} {v : Value} (h : w'.heap[b]? = w.heap[b]?) (hc : w.cell? ⟨b, o, none⟩ = some v) : w'.cell? ⟨b, o, none⟩ = some v := by
  rw [World.cell?_of_block (w := w) (a := ⟨b, o, none⟩) h]; exact hc
theorem ownsRow_max {w : World} {B : Nat} {e : TypeId} {size g n c : Nat} {xs : List Value} (h : w.ownsRow B e size (.slice (some ⟨g, 0, none⟩) n c) n xs) : c ≤ 9223372036854775807 := by
  obtain ⟨_, h⟩ := h
  rcases h with ⟨h, _⟩ | ⟨g', cap, cur, hv, _, _, _, h2, _⟩
  · cases h
  · simp only [Value.slice.injEq, Option.some.injEq, Addr.mk.injEq, true_and, and_true] at hv
    obtain ⟨rfl, rfl⟩ := hv
    unfold maxLen at h2; omega

/-- Every row of other things than tasks and nodes is as it was. -/
def KM (w w' : World) : Prop := w.heap.size ≤ w'.heap.size ∧ ∀ (b : Nat) (cs : Array Value) (t : TypeId) (fz : Nat × Nat), w.heap[b]? = some (Obj.cells cs t fz) → t ≠ 37 → t ≠ 29 → w'.heap[b]? = w.heap[b]?
theorem KM.trans {a b c : World} (h : KM a b) (k : KM b c) : KM a c :=
  ⟨Nat.le_trans h.1 k.1, fun x cs t fz hx h1 h2 => by have e := h.2 x cs t fz hx h1 h2; exact (k.2 x cs t fz (e.trans hx) h1 h2).trans e⟩
theorem KT.kmt {w w' : World} (h : KT 37 w w') : KM w w' := ⟨h.1, fun b cs t fz hb h1 _ => h.2 b cs t fz hb h1⟩
theorem KT.kmb {w w' : World} (h : KT 29 w w') : KM w w' := ⟨h.1, fun b cs t fz hb _ h2 => h.2 b cs t fz hb h2⟩
theorem Ext.km {w w' : World} (h : Ext w w') : KM w w' := ⟨h.le, fun _ _ _ _ hb _ _ => h.block (lt_of_heap hb)⟩
theorem ownsRow_km {w w' : World} {B : Nat} {e : TypeId} {size n : Nat} {v : Value} {xs : List Value} (h : w.ownsRow B e size v n xs) (k : KM w w') (n1 : e ≠ 37) (n2 : e ≠ 29) : w'.ownsRow B e size v n xs := by
  obtain ⟨hl, h⟩ := h
  refine ⟨hl, ?_⟩
  rcases h with h | ⟨g, cap, cur, rfl, hB, hh, r⟩
  · exact .inl h
  · exact .inr ⟨g, cap, cur, rfl, hB, (k.2 _ _ _ _ hh n1 n2).trans hh, r⟩

end Go.Proofs.Ytfidamjepjgknaa
