/-
  NARROWER THAN 'FOR EVERY INPUT', by the rows' own cells (each row's printed sentence says how): FnPlanBegin: ifaces, laid · FnNext: ifaces, laid · FnMovesOf: ifaces, laid.
  DERIVED. THE GIVEN ROWS OF THIS SEAT. 3 by the template 'for every input the law returns true; each argument reads behind the call as it read before'; 0 by the template 'total and deterministic' (their statements: YtjdhiabdcmindaaDoorTotals.lean).
  GIVEN WITH THE SEED: the statements are not yours to turn. If you find one false, say at which input.
  Laid BY PROGRAM, IN A SANDBOX (cutbox-rows.mjs): the forced cells as the released guide's own fill.sh prints them over the translation 66f12b4b0effbfca… (all of the seat's roots in one cut). By AI agents, Wed Nov 11 2026. No macro, syntax, notation, axiom, sorry.
-/
import Derived.Test.YtjdhiabdcmindaaDoorChecked
import GoSem.Claim
import GoSem.ClaimJoined
import GoSem.ClaimMapViews
import Derived.JoinedTies
import Derived.KernelRfl
namespace Go.Proofs.YtjdhiabdcmindaaDoor
/- THE CELL 'sum', in the pinned program and in every row, IS THE sha256 OF THE DUMP (.gsa) THAT YtjdhiabdcmindaaDoorProg.lean LOADS. Nothing in Lean hashes anything: it is a label: what it is worth is what the hold of that sum in a sandbox is worth. -/
noncomputable def Tryd.pinned : Pinned := { name := "ytjdhiabdcmindaadoor", sum := "66f12b4b0effbfcab964415c4b1feafda13c3db09bdf75062e7cd99ad0002271", checked := Tryd.checked }
namespace Rows
def none {H : Type} : Left H := { results := [], args := [] }

/- WHAT THE LISTED PACKAGE-LEVEL VARIABLES READ AS WHEN THE CALL BEGINS. Each datum BY PROGRAM (the guide's laid-datum.mjs) off the statement by which the dump's own 'gosem.cut.vars' lays the variable. In a bare row this is a premise. The card (YtjdhiabdcmindaaDoorCards.lean) ties it to the program's text. -/
def laid_loop_example_vectorpacker_impl_errMove {H : Type} : DataW H := .iface "*errors.errorString" (.ptr (.agg [.lit (.string [110, 111, 32, 109, 111, 118, 101])]))

/-- 'laws.FnPlanBegin': WHATEVER THE INPUT: true; the input reads as it did. -/
def fnPlanBeginSpec : ChangeSpec := { name := "fnPlanBegin", vars := ["loop.example/vectorpacker/impl.errMove"], fn := fun _ => fun
  | [d1, d2, g1] => { results := [.lit (.bool true)], args := [d1, d2], vars := [g1] }
  | _ => none }
def fnPlanBeginRow : OpenClaim := { program := "ytjdhiabdcmindaadoor", sum := "66f12b4b0effbfcab964415c4b1feafda13c3db09bdf75062e7cd99ad0002271", func := "loop.example/vectorpacker/laws.FnPlanBegin", spec := "fnPlanBegin", unfollowed := true, recurses := true, named := ["loop.example/vectorpacker/impl.errMove"], ifaces := true, apart := false, laid := [("loop.example/vectorpacker/impl.errMove", laid_loop_example_vectorpacker_impl_errMove)] }
def FnPlanBeginSaid : Prop := fnPlanBeginRow.holds Tryd.pinned (OpenSpec.ofChange fnPlanBeginSpec)

/-- ITS FALSE NEIGHBOUR: 'it returns false'. Refute it at one input. -/
def fnPlanBeginWrong : ChangeSpec := { name := "fnPlanBegin", vars := ["loop.example/vectorpacker/impl.errMove"], fn := fun _ => fun
  | [d1, d2, g1] => { results := [.lit (.bool false)], args := [d1, d2], vars := [g1] }
  | _ => none }
def FnPlanBeginWrongFalsely : Prop := fnPlanBeginRow.holds Tryd.pinned (OpenSpec.ofChange fnPlanBeginWrong)

/-- 'laws.FnNext': WHATEVER THE INPUT: true; the input reads as it did. -/
def fnNextSpec : ChangeSpec := { name := "fnNext", vars := ["loop.example/vectorpacker/impl.errMove"], fn := fun _ => fun
  | [d, g1] => { results := [.lit (.bool true)], args := [d], vars := [g1] }
  | _ => none }
def fnNextRow : OpenClaim := { program := "ytjdhiabdcmindaadoor", sum := "66f12b4b0effbfcab964415c4b1feafda13c3db09bdf75062e7cd99ad0002271", func := "loop.example/vectorpacker/laws.FnNext", spec := "fnNext", inPlace := ["internal/reflectlite.TypeOf"], unfollowed := true, recurses := true, named := ["loop.example/vectorpacker/impl.errMove"], ifaces := true, apart := false, laid := [("loop.example/vectorpacker/impl.errMove", laid_loop_example_vectorpacker_impl_errMove)] }
def FnNextSaid : Prop := fnNextRow.holds Tryd.pinned (OpenSpec.ofChange fnNextSpec)

/-- ITS FALSE NEIGHBOUR: 'it returns false'. Refute it at one input. -/
def fnNextWrong : ChangeSpec := { name := "fnNext", vars := ["loop.example/vectorpacker/impl.errMove"], fn := fun _ => fun
  | [d, g1] => { results := [.lit (.bool false)], args := [d], vars := [g1] }
  | _ => none }
def FnNextWrongFalsely : Prop := fnNextRow.holds Tryd.pinned (OpenSpec.ofChange fnNextWrong)

/-- 'laws.FnMovesOf': WHATEVER THE INPUT: true; the input reads as it did. -/
def fnMovesOfSpec : ChangeSpec := { name := "fnMovesOf", vars := ["loop.example/vectorpacker/impl.errMove"], fn := fun _ => fun
  | [d1, d2, g1] => { results := [.lit (.bool true)], args := [d1, d2], vars := [g1] }
  | _ => none }
def fnMovesOfRow : OpenClaim := { program := "ytjdhiabdcmindaadoor", sum := "66f12b4b0effbfcab964415c4b1feafda13c3db09bdf75062e7cd99ad0002271", func := "loop.example/vectorpacker/laws.FnMovesOf", spec := "fnMovesOf", inPlace := ["internal/reflectlite.TypeOf"], unfollowed := true, recurses := true, named := ["loop.example/vectorpacker/impl.errMove"], ifaces := true, apart := false, laid := [("loop.example/vectorpacker/impl.errMove", laid_loop_example_vectorpacker_impl_errMove)] }
def FnMovesOfSaid : Prop := fnMovesOfRow.holds Tryd.pinned (OpenSpec.ofChange fnMovesOfSpec)

/-- ITS FALSE NEIGHBOUR: 'it returns false'. Refute it at one input. -/
def fnMovesOfWrong : ChangeSpec := { name := "fnMovesOf", vars := ["loop.example/vectorpacker/impl.errMove"], fn := fun _ => fun
  | [d1, d2, g1] => { results := [.lit (.bool false)], args := [d1, d2], vars := [g1] }
  | _ => none }
def FnMovesOfWrongFalsely : Prop := fnMovesOfRow.holds Tryd.pinned (OpenSpec.ofChange fnMovesOfWrong)

/- THE SECOND FORM. 'bulk': how many values and letters a reading holds, each counted each time it is reached (what is shared counts as often as it is met; a slice's spare places count too). A statement '..UptoSaid' is the law's where the arguments, and the package variables that the reading takes, are together of bulk at most 1048576: NARROWER than '..Said'. Prove '..Said' where nothing that the law and all that it calls make is longer than what came in: it says more and counts as full. Else prove '..UptoSaid'. A law counts once. -/
mutual
def uptoBulk {H : Type} : DataW H → Nat
  | .lit (.string bytes) => bytes.length + 1
  | .lit _ => 1
  | .nil => 1
  | .ptr d => uptoBulk d + 1
  | .slice elems spare => uptoBulkAll elems + uptoBulkAll spare + 1
  | .agg parts => uptoBulkAll parts + 1
  | .iface _ d => uptoBulk d + 1
  | .map entries => uptoBulkEntries entries + 1
  | .held _ => 1
def uptoBulkAll {H : Type} : List (DataW H) → Nat
  | [] => 0
  | d :: r => uptoBulk d + uptoBulkAll r
def uptoBulkEntries {H : Type} : List (Lit × DataW H) → Nat
  | [] => 0
  | x :: r => uptoBulkEntry x + uptoBulkEntries r
def uptoBulkEntry {H : Type} : Lit × DataW H → Nat
  | (.string bytes, d) => bytes.length + uptoBulk d + 1
  | (_, d) => uptoBulk d + 1
 end
def uptoSmall : (H : Type) → List (DataW H) → Bool := fun _ ds => decide (uptoBulkAll ds ≤ 1048576)
def OpenSpec.upto (s : _root_.Go.ChangeSpec) : _root_.Go.OpenSpec := { _root_.Go.OpenSpec.ofChange s with cond := some uptoSmall }

/-- 'laws.FnPlanBegin', WHERE WHAT IT READS IS OF BULK AT MOST 1048576: true; the input reads as it did. -/
def fnPlanBeginUptoRow : OpenClaim := { program := "ytjdhiabdcmindaadoor", sum := "66f12b4b0effbfcab964415c4b1feafda13c3db09bdf75062e7cd99ad0002271", func := "loop.example/vectorpacker/laws.FnPlanBegin", spec := "fnPlanBegin", unfollowed := true, recurses := true, named := ["loop.example/vectorpacker/impl.errMove"], ifaces := true, apart := false, laid := [("loop.example/vectorpacker/impl.errMove", laid_loop_example_vectorpacker_impl_errMove)], narrowed := true }
def FnPlanBeginUptoSaid : Prop := fnPlanBeginUptoRow.holds Tryd.pinned (OpenSpec.upto fnPlanBeginSpec)

/-- 'laws.FnNext', WHERE WHAT IT READS IS OF BULK AT MOST 1048576: true; the input reads as it did. -/
def fnNextUptoRow : OpenClaim := { program := "ytjdhiabdcmindaadoor", sum := "66f12b4b0effbfcab964415c4b1feafda13c3db09bdf75062e7cd99ad0002271", func := "loop.example/vectorpacker/laws.FnNext", spec := "fnNext", inPlace := ["internal/reflectlite.TypeOf"], unfollowed := true, recurses := true, named := ["loop.example/vectorpacker/impl.errMove"], ifaces := true, apart := false, laid := [("loop.example/vectorpacker/impl.errMove", laid_loop_example_vectorpacker_impl_errMove)], narrowed := true }
def FnNextUptoSaid : Prop := fnNextUptoRow.holds Tryd.pinned (OpenSpec.upto fnNextSpec)

/-- 'laws.FnMovesOf', WHERE WHAT IT READS IS OF BULK AT MOST 1048576: true; the input reads as it did. -/
def fnMovesOfUptoRow : OpenClaim := { program := "ytjdhiabdcmindaadoor", sum := "66f12b4b0effbfcab964415c4b1feafda13c3db09bdf75062e7cd99ad0002271", func := "loop.example/vectorpacker/laws.FnMovesOf", spec := "fnMovesOf", inPlace := ["internal/reflectlite.TypeOf"], unfollowed := true, recurses := true, named := ["loop.example/vectorpacker/impl.errMove"], ifaces := true, apart := false, laid := [("loop.example/vectorpacker/impl.errMove", laid_loop_example_vectorpacker_impl_errMove)], narrowed := true }
def FnMovesOfUptoSaid : Prop := fnMovesOfUptoRow.holds Tryd.pinned (OpenSpec.upto fnMovesOfSpec)

end Rows
end Go.Proofs.YtjdhiabdcmindaaDoor
