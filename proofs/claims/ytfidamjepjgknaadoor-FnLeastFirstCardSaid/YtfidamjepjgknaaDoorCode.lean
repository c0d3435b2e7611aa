/- A code as it comes in, and the reader that is laid over it. No condition. -/
import Derived.Test.YtfidamjepjgknaaDoorDr1
import Derived.Test.YtfidamjepjgknaaDoorOpen
namespace Go.Proofs.YtfidamjepjgknaaDoor
set_option maxRecDepth 100000
open Go.RowKit Go.ChangeShapes Go.WideShapes Go.Deep

/-- A slice of bytes that came in. -/
def ArgCode (w : World) (v : Value) (n : Nat) : Prop :=
  n ≤ 9223372036854775807 ∧ ∃ a c, v = .slice a n c ∧ n ≤ c ∧ (0 < n → ∃ b off, a = some ⟨b, off, none⟩ ∧ ∀ k, k < n → ∃ x : Nat, x < 256 ∧ w.cell? ⟨b, off + k, none⟩ = some (.int .u8 x))
theorem cells_byte : Tryd.prog.cellsOf 5 = 1 := by kernel_rfl

theorem argCode_of {H : Type} {enc : TypeId × Value → H} {w : World} {base : Nat} {spare : Nat → Bool} {held : Bool} {v : Value} {d : DataW H} {p : List MemPlace} (h : DataW.Trod enc Tryd.prog w base spare held 22 v d p) (hv : ∃ a n c, v = .slice a n c) : ∃ n, ArgCode w v n := by
  obtain ⟨a, n, c, rfl⟩ := hv
  obtain ⟨fuel, h⟩ := h
  rcases open_ints Tryd.underlying22 Tryd.underlying5 cells_byte h with ⟨hcs, hx⟩ | ⟨a', len, cap, zs, hcs, _, hl, hm, hz, hx, hcell, hwz⟩
  · simp only [Value.cells, List.cons.injEq, and_true] at hcs
    rw [hcs]
    exact ⟨0, by simp, none, 0, rfl, by simp, fun h => by simp at h⟩
  · simp only [Value.cells, List.cons.injEq, and_true] at hcs
    rw [hcs]
    have hzl : len ≤ zs.length := by rw [hz]; split <;> omega
    refine ⟨len, by unfold maxLen at hm; omega, some a', cap, rfl, by omega, fun h0 => ?_⟩
    have h0' : 0 < zs.length := by omega
    obtain ⟨b, off, spot⟩ := a'
    have hspot : spot = none := by simpa [Addr.add] using World.cell?_spot (hcell 0 h0')
    subst hspot
    refine ⟨b, off, rfl, fun k hk => ?_⟩
    have hk' : k < zs.length := by omega
    have := hcell k hk'
    rw [Go.WideShapes.add_plain] at this
    have hw := hwz _ (List.getElem_mem hk')
    simp [Lit.wf, IntKind.min, IntKind.max, IntKind.bits, IntKind.signed] at hw
    refine ⟨(zs[k]).toNat, by omega, ?_⟩
    rw [this]
    simp [List.getD, List.getElem?_eq_getElem hk']
    omega

set_option maxHeartbeats 400000 in
theorem l6Open_any (v : Value) (n : Nat) (w : World) (h : ArgCode w v n) :
    Calls Tryd.prog 10 #[v] w fun e w' => ∃ r, e = .returned r ∧ Ext w w' ∧ Rdr w' w.heap.size r 0 := by
  obtain ⟨hn, a, c, rfl, hcap, hc⟩ := h
  have key : ∀ m, m ≤ n → m ≤ 2000 → Rdr (w.alloc (.cells #[.slice a m c, .int .i64 0] 52)) w.heap.size (.pointer (some ⟨w.heap.size, 0, none⟩)) 0 := fun m hm h2 => by
    refine ⟨w.heap.size, a, m, c, 0, rfl, Nat.le_refl _, heap_alloc_new w _, by omega, h2, fun h0 => ?_⟩
    obtain ⟨b, off, rfl, hx⟩ := hc (by omega)
    obtain ⟨x0, _, hx0⟩ := hx 0 (by omega)
    exact ⟨b, off, rfl, World.block_lt_of_cell? w _ hx0, fun k hk => let ⟨x, h1, h2⟩ := hx k (by omega); ⟨x, h1, ((Ext.refl w).alloc _).cell h2⟩⟩
  have Key := Lib.hid key
  clear hc key
  by_cases hlt : 2000 < n
  · go_enter Tryd.func10, Tryd.ntmps10
    go_wp2
    go_ret
    exact ⟨_, rfl, (Ext.refl w).alloc _, Key.out 2000 (by omega) (by omega)⟩
  · go_enter Tryd.func10, Tryd.ntmps10
    go_wp2
    go_ret
    exact ⟨_, rfl, (Ext.refl w).alloc _, Key.out n (by omega) (by omega)⟩

end Go.Proofs.YtfidamjepjgknaaDoor
