/- What the rows list of the variable of the error that a move is not possible gives the walks ('ErrW'), and the heap that the door's run leaves meets it. No condition. -/
import Derived.Test.YtjdhiabdcmindaaDoorMe
import Derived.Test.YtjdhiabdcmindaaDoorTie
import Derived.Test.YtjdhiabdcmindaaDoorCards
import Derived.Stop.LaidErr
import Derived.LaidMore
import Derived.SevenTiedAt
import Derived.ProofKit
import Derived.Stop.Joined
namespace Go.Proofs.YtjdhiabdcmindaaDoor
set_option maxRecDepth 100000
open Go.ChangeShapes Go.WideShapes Go.RowKit

def laidE : List (String × DataW Unit) := [("loop.example/vectorpacker/impl.errMove", Rows.laid_loop_example_vectorpacker_impl_errMove)]
theorem gErr : Tryd.prog.globalNamed "loop.example/vectorpacker/impl.errMove" = some 0 := by kernel_rfl
theorem err_star : "*" ++ "errors.errorString" = "*errors.errorString" := by decide
theorem err_row (u : TypeId) (h : Tryd.prog.typeName? 3 u = some "*errors.errorString") : u = 123 :=
  typeName_ptr_named (nm := "errors.errorString") (by rw [err_star]; kernel_rfl) (by kernel_rfl) (by decide) u (by rw [err_star]; exact h)
theorem met_err {W : World} (h : laidMetH Tryd.prog laidE W) : ErrW W := by
  rw [MakeChecks.laidMetH_plain _ _ _ (by kernel_rfl)] at h
  obtain ⟨a, s, hv, -, -, -⟩ := laid_sentinel h gErr (by kernel_rfl) Tryd.underlying58 err_row Tryd.underlying123 Tryd.underlying149 rfl rfl Tryd.underlying9 (by kernel_rfl) (by kernel_rfl)
  have := World.var?_cell gErr hv 0
  exact ⟨_, a, by simpa using this⟩
theorem door_err (os : Os) (args : Array Value) : laidMetH Tryd.prog laidE ((World.doorLaid Tryd.prog 28 os).forCall (fun _ _ => 0) ⟨#[], args, []⟩).memory :=
  laidMetH_of_parts3 (fuel := 8) (laidMet_of_run' 8 (by kernel_rfl) (by kernel_rfl)) (by kernel_rfl) (by kernel_rfl)

theorem errType : (Tryd.prog.globals[0]?).map (·.type) = some 58 := by kernel_rfl
theorem var_err {W : World} (h : laidMetH Tryd.prog laidE W) : ∃ x, W.var? Tryd.prog "loop.example/vectorpacker/impl.errMove" = some #[x] ∧ IsIface x := by
  rw [MakeChecks.laidMetH_plain _ _ _ (by kernel_rfl)] at h
  obtain ⟨a, s, hv, -, -, -⟩ := laid_sentinel h gErr (by kernel_rfl) Tryd.underlying58 err_row Tryd.underlying123 Tryd.underlying149 rfl rfl Tryd.underlying9 (by kernel_rfl) (by kernel_rfl)
  exact ⟨_, hv, trivial⟩
theorem var_ext {W W' : World} {cs : Array Value} (h : W.var? Tryd.prog "loop.example/vectorpacker/impl.errMove" = some cs) (bel : Ext W W') : W'.var? Tryd.prog "loop.example/vectorpacker/impl.errMove" = some cs := by
  unfold World.var? at h ⊢
  rw [gErr] at h ⊢
  simp only [Option.bind_some] at h ⊢
  have hlt : 0 < W.heap.size := by
    rcases Nat.eq_zero_or_pos W.heap.size with h' | h'
    · simp [Array.getElem?_eq_none (Nat.le_of_eq h')] at h
    · exact h'
  rw [bel.block hlt]
  exact h
theorem vars_err {H : Type} {enc : TypeId × Value → H} {W : World} {sp : Nat → Bool} {gs : List (DataW H)} {q : List MemPlace} {x : Value} (hV : DataW.TrodVars enc Tryd.prog W sp ["loop.example/vectorpacker/impl.errMove"] gs q)
    (hv : W.var? Tryd.prog "loop.example/vectorpacker/impl.errMove" = some #[x]) (ix : IsIface x) : gs = [tok enc x] ∧ q = [.cell 0 0] := by
  obtain ⟨g, t, cs, fuel, d, p, rfl, hg, ht, hv', hd, rfl⟩ := trodVars_one hV
  obtain rfl := Option.some.inj (gErr.symm.trans hg)
  obtain rfl := Option.some.inj (errType.symm.trans ht)
  obtain rfl := Option.some.inj (hv.symm.trans hv')
  cases fuel with
  | zero => simp [DataW.trod] at hd
  | succ f =>
    have e := trod_held (enc := enc) Tryd.underlying58 (W := W) (base := 0) (sp := sp) ix f
    rw [show (#[x] : Array Value).toList = [x] from rfl, e] at hd
    cases hd
    exact ⟨rfl, by simp [MemPlace.row]⟩
theorem vars_mk {H : Type} {enc : TypeId × Value → H} {W : World} {sp : Nat → Bool} {x : Value} (hv : W.var? Tryd.prog "loop.example/vectorpacker/impl.errMove" = some #[x]) (ix : IsIface x) : DataW.TrodVars enc Tryd.prog W sp ["loop.example/vectorpacker/impl.errMove"] [tok enc x] [.cell 0 0] :=
  vars_read1 enc gErr errType Tryd.underlying58 hv ix sp

end Go.Proofs.YtjdhiabdcmindaaDoor
