/- Drawn tasks. Drawn nodes. What the exported drawing functions give. No condition. -/
import Derived.Test.YtfidamjepjgknaaDr1
import Derived.Test.YtfidamjepjgknaaS8
import Derived.StillTailTactics
import Derived.Deep.RegionLaw
import Derived.Test.YtfidamjepjgknaaCode
namespace Go.Proofs.Ytfidamjepjgknaa
section
set_option maxRecDepth 100000
open Go.RowKit

/-- None of the values leads to a block below 'B'. -/
def Far (B : Nat) (xs : List Value) : Prop := ∀ u ∈ xs, ∀ g, u.ownBlock = some g → B ≤ g
/-- Tasks that a call owns, whose needs it has made. -/
def OwnF (w : World) (B : Nat) (v : Value) (ts : List T) : Prop := ∃ xs, w.ownsRow B 37 2 v ts.length xs ∧ TaskCells w xs ts ∧ Far B xs
def SrcF (w : World) (B : Nat) (a : Option Addr) (us : List T) : Prop := ∃ ys, Row w 37 a ys ∧ TaskCells w ys us ∧ Far B ys
theorem OwnF.own {w : World} {B : Nat} {v : Value} {ts : List T} (h : OwnF w B v ts) : OwnTasks w B v ts := let ⟨xs, h1, h2, _⟩ := h; ⟨xs, h1, h2⟩
theorem OwnF.ext {w w' : World} {B : Nat} {v : Value} {ts : List T} (h : OwnF w B v ts) (k : Ext w w') : OwnF w' B v ts := let ⟨xs, h1, h2, h3⟩ := h; ⟨xs, ownsRow_ext h1 k, h2.ext k, h3⟩
theorem OwnF.kt {w w' : World} {B : Nat} {v : Value} {ts : List T} {e : TypeId} (h : OwnF w B v ts) (k : KT e w w') (n1 : 3 ≠ e) (n2 : 37 ≠ e) : OwnF w' B v ts := let ⟨xs, h1, h2, h3⟩ := h; ⟨xs, ownsRow_kt h1 k n2, h2.kt k n1, h3⟩
theorem OwnF.alloc {w : World} {B : Nat} {v : Value} {ts : List T} (h : OwnF w B v ts) (o : Obj) : OwnF (w.alloc o) B v ts := h.ext ((Ext.refl w).alloc o)
theorem OwnF.src {w : World} {B : Nat} {a : Option Addr} {n c : Nat} {ts : List T} (h : OwnF w B (.slice a n c) ts) : SrcF w B a ts := by
  obtain ⟨xs, h1, h2, h3⟩ := h
  obtain ⟨a', c', hv, hr⟩ := Row.of_own h1
  simp only [Value.slice.injEq] at hv
  obtain ⟨rfl, rfl, rfl⟩ := hv
  exact ⟨xs, hr, h2, h3⟩
theorem far_one {B : Nat} {id : Int} {n : Value} (hf : ∀ g, n.ownBlock = some g → B ≤ g) : Far B [.int .i64 id, n] := fun u hu g hg => by
  simp only [List.mem_cons, List.not_mem_nil, or_false] at hu
  rcases hu with rfl | rfl
  · simp [Value.ownBlock] at hg
  · exact hf g hg
theorem OwnF.lit0 (w : World) (B : Nat) (hB : B ≤ w.heap.size) : OwnF (w.alloc (.cells #[] 37)) B (.slice (some ⟨w.heap.size, 0, none⟩) 0 0) [] := ⟨[], World.ownsRow_lit w #[] 0 hB (by simp [maxLen]) rfl, TaskCells.nil _, fun u hu => by simp at hu⟩
theorem OwnF.lit1 {w : World} {B : Nat} {t : T} {n : Value} (hn : Ints w n t.need) (hf : ∀ g, n.ownBlock = some g → B ≤ g) (hB : B ≤ w.heap.size) : OwnF (w.alloc (.cells #[.int .i64 t.id, n] 37)) B (.slice (some ⟨w.heap.size, 0, none⟩) 1 1) [t] :=
  ⟨[.int .i64 t.id, n], World.ownsRow_lit w #[.int .i64 t.id, n] 1 hB (by simp [maxLen]) rfl, by simpa using (TaskCells.nil _).snoc (hn.ext ((Ext.refl w).alloc _)), far_one hf⟩
theorem SrcF.lit1 {w : World} {B : Nat} {t : T} {n : Value} (hn : Ints w n t.need) (hf : ∀ g, n.ownBlock = some g → B ≤ g) : SrcF (w.alloc (.cells #[.int .i64 t.id, n] 37)) B (some ⟨w.heap.size, 0, none⟩) [t] :=
  ⟨[.int .i64 t.id, n], Row.lit w #[.int .i64 t.id, n] _, by simpa using (TaskCells.nil _).snoc (hn.ext ((Ext.refl w).alloc _)), far_one hf⟩

section
variable {w : World} {ops : Array Oper} {rest : List Oper} {o : Oper} {a : Act} {Q : Exit → Act → World → Prop}
theorem app_far (hgd : o.guard = none) (s x : Operand) (ho : o.op = .call { callee := .builtin .append, args := #[s, x], argTypes := #[29, 29] }) (B : Nat) (v : Value) (ts : List T) (hs : a.eval s = v) (hown : OwnF w B v ts) (hB : B ≤ w.heap.size)
    (src : Option Addr) (c : Nat) (us : List T) (hx : a.eval x = .slice src us.length c) (hsrc : SrcF w B src us) (hl : ts.length + us.length ≤ lim)
    (h : ∀ v' w', OwnF w' B v' (ts ++ us) → KT 37 w w' → Below B w w' → wpList Try.prog ops Q rest (a.put o.dst v') w') : wpList Try.prog ops Q (o :: rest) a w := by
  obtain ⟨ys, hr, hc, hf⟩ := hsrc
  obtain ⟨xs, hown, hcx, hfx⟩ := hown
  unfold lim at hl
  refine wpList_plain hgd fun _ hK => wp_app elt_task s x ho B v ts.length _ hs hown hB src us.length c _ hx hc.1 _ hr hc.one (by omega) (by unfold maxLen; omega)
    (fun v' w' h1 h2 h3 => hK _ _ (h v' w' ⟨xs ++ ys, by simpa using h1, (hcx.app hc).kt h2 (by decide), fun u hu => (List.mem_append.1 hu).elim (hfx u) (hf u)⟩ h2 h3))
end

theorem OwnF.form {w : World} {B : Nat} {v : Value} {ts : List T} (h : OwnF w B v ts) : ∃ a c, v = .slice a ts.length c := by
  obtain ⟨xs, ⟨_, h1⟩, _⟩ := h
  rcases h1 with ⟨rfl, hn⟩ | ⟨g, cap, cur, rfl, _⟩
  · exact ⟨none, 0, by rw [hn]⟩
  · exact ⟨_, cap, rfl⟩
theorem OwnF.row {w : World} {B : Nat} {a : Option Addr} {n c : Nat} {ts : List T} (h : OwnF w B (.slice a n c) ts) (h0 : 0 < ts.length) :
    ∃ g, a = some ⟨g, 0, none⟩ ∧ n = ts.length ∧ B ≤ g ∧ ∀ k (hk : k < ts.length), w.frozen? ⟨g, k * 2, none⟩ = false ∧ w.cell? ⟨g, k * 2, none⟩ = some (.int .i64 ts[k].id) ∧ ∃ nd, w.cell? ⟨g, k * 2 + 1, none⟩ = some nd ∧ Ints w nd ts[k].need ∧ ∀ g, nd.ownBlock = some g → B ≤ g := by
  obtain ⟨xs, h1, ⟨hl, hc⟩, hf⟩ := h
  obtain ⟨g, rfl, rfl, hB, _, hcell, ho⟩ := ownsRow_at h1 h0
  refine ⟨g, rfl, rfl, hB, fun k hk => ?_⟩
  obtain ⟨c0, nd, c1, hn⟩ := hc k hk
  exact ⟨(ownsRow_put ho (k := k * 2) (by omega) (.bool true)).2.2.2, by rw [hcell _ (by omega), c0], nd, by rw [hcell _ (by omega), c1], hn, hf nd (List.mem_of_getElem? c1)⟩
theorem DnT.app {ts us : List T} (h : DnT ts) (k : DnT us) : DnT (ts ++ us) := fun t ht => (List.mem_append.1 ht).elim (h t) (k t)
theorem DnT.one {t : T} (h : Dn t.need) : DnT [t] := fun u hu => by simp at hu; subst hu; exact h

end

section
set_option maxRecDepth 100000
open Go.RowKit

/-- The tasks of all nodes have three bounded numbers each. -/
def DnB (bs : List (List T)) : Prop := ∀ b ∈ bs, DnT b
theorem DnB.good {bs : List (List T)} (h : DnB bs) : GoodB bs := fun b hb => (h b hb).good
theorem DnB.push {bs : List (List T)} (h : DnB bs) {k : Nat} (hk : k < bs.length) {t : T} (ht : Dn t.need) : DnB (bs.set k (bs[k] ++ [t])) := fun b hb => by
  rcases List.mem_or_eq_of_mem_set hb with h1 | rfl
  · exact h b h1
  · exact (h _ (List.getElem_mem hk)).app (DnT.one ht)
theorem flat_push {bs : List (List T)} {k : Nat} (hk : k < bs.length) (t : T) : (bs.set k (bs[k] ++ [t])).flatten.length = bs.flatten.length + 1 := by
  induction bs generalizing k with
  | nil => simp at hk
  | cons b r ih =>
    cases k with
    | zero => simp; omega
    | succ k => simp at hk; simp [ih hk]; omega
theorem bin_len {bs : List (List T)} {b : List T} (h : b ∈ bs) : b.length ≤ bs.flatten.length := (sub_flat h).length_le
theorem Nest.bins {w : World} {B C : Nat} {v : Value} {bs : List (List T)} (h : Nest w B C v bs) (hl : bs.length ≤ 1000) (hf : bs.flatten.length ≤ 1000) : Bins w v bs :=
  h.done (by unfold lim; omega) fun b hb => by have := bin_len hb; unfold lim; omega

theorem Nest.base {w : World} {B C C' : Nat} {v : Value} {bs : List (List T)} (h : Nest w B C v bs) (hc : C' ≤ C) : Nest w B C' v bs := by
  obtain ⟨xs, h1, h2, h3, h4⟩ := h
  exact ⟨xs, h1, h2, fun k hk => let ⟨n, a, b⟩ := h3 k hk; ⟨n, a, b.base hc⟩, h4⟩
theorem Nest.none {w : World} {B C C' : Nat} {v : Value} (h : Nest w B C v []) : Nest w B C' v [] := by
  obtain ⟨xs, h1, h2, h3, h4⟩ := h
  exact ⟨xs, h1, h2, fun k hk => by simp at hk, h4⟩

end

section
set_option maxRecDepth 100000
open Go.RowKit

/-- A drawn room with nodes. -/
def DrawnBins (w : World) (vr vb : Value) (room : List Int) (bs : List (List T)) : Prop := Ints w vr room ∧ Bins w vb bs ∧ DnB bs ∧ bs.length ≤ 10 ∧ bs.flatten.length ≤ 20
theorem DrawnBins.ext {w w' : World} {vr vb : Value} {room : List Int} {bs : List (List T)} (h : DrawnBins w vr vb room bs) (k : Ext w w') : DrawnBins w' vr vb room bs := ⟨h.1.ext k, h.2.1.ext k, h.2.2⟩

end

end Go.Proofs.Ytfidamjepjgknaa
