/-
  No cell of these rows narrows 'for every input' (looked for: loops, veiled, ifaces, maps, wideKeys, modest, calm, conditions, laid).
  DERIVED. THE GIVEN ROWS OF THIS SEAT. 16 by the template 'for every input the law returns true; each argument reads behind the call as it read before'; 0 by the template 'total and deterministic' (their statements: YtnjgljeejdkbmaaTotals.lean).
  GIVEN WITH THE SEED: the statements are not yours to turn. If you find one false, say at which input.
  Laid BY PROGRAM, IN A SANDBOX (cutbox-rows.mjs): the forced cells as the released guide's own fill.sh prints them over the translation b8f4d53b8315c5c6… (all of the seat's roots in one cut). By AI agents, Wed Nov 11 2026. No macro, syntax, notation, axiom, sorry.
-/
import Derived.Test.YtnjgljeejdkbmaaChecked
import GoSem.Claim
import GoSem.ClaimJoined
import GoSem.ClaimMapViews
import Derived.JoinedTies
import Derived.KernelRfl
namespace Go.Proofs.Ytnjgljeejdkbmaa
/- THE CELL 'sum', in the pinned program and in every row, IS THE sha256 OF THE DUMP (.gsa) THAT YtnjgljeejdkbmaaProg.lean LOADS. Nothing in Lean hashes anything: it is a label: what it is worth is what the hold of that sum in a sandbox is worth. -/
noncomputable def Try.pinned : Pinned := { name := "ytnjgljeejdkbmaa", sum := "b8f4d53b8315c5c6491fa69f3d6457fbdac0ab301326176e9a160b612b052198", checked := Try.checked }
namespace Rows
def none {H : Type} : Left H := { results := [], args := [] }

/-- 'laws.FnExactBoundBest': WHATEVER THE INPUT: true; the input reads as it did. -/
def fnExactBoundBestSpec : ChangeSpec := { name := "fnExactBoundBest", fn := fun _ => fun
  | [d1, d2] => { results := [.lit (.bool true)], args := [d1, d2] }
  | _ => none }
def fnExactBoundBestRow : OpenClaim := { program := "ytnjgljeejdkbmaa", sum := "b8f4d53b8315c5c6491fa69f3d6457fbdac0ab301326176e9a160b612b052198", func := "loop.example/vectorpacker/laws.FnExactBoundBest", spec := "fnExactBoundBest", unfollowed := true, recurses := true, apart := false }
def FnExactBoundBestSaid : Prop := fnExactBoundBestRow.holds Try.pinned (OpenSpec.ofChange fnExactBoundBestSpec)

/-- ITS FALSE NEIGHBOUR: 'it returns false'. Refute it at one input. -/
def fnExactBoundBestWrong : ChangeSpec := { name := "fnExactBoundBest", fn := fun _ => fun
  | [d1, d2] => { results := [.lit (.bool false)], args := [d1, d2] }
  | _ => none }
def FnExactBoundBestWrongFalsely : Prop := fnExactBoundBestRow.holds Try.pinned (OpenSpec.ofChange fnExactBoundBestWrong)

/-- 'laws.FnBins': WHATEVER THE INPUT: true; the input reads as it did. -/
def fnBinsSpec : ChangeSpec := { name := "fnBins", fn := fun _ => fun
  | [d] => { results := [.lit (.bool true)], args := [d] }
  | _ => none }
def fnBinsRow : OpenClaim := { program := "ytnjgljeejdkbmaa", sum := "b8f4d53b8315c5c6491fa69f3d6457fbdac0ab301326176e9a160b612b052198", func := "loop.example/vectorpacker/laws.FnBins", spec := "fnBins", unfollowed := true, recurses := true, apart := false }
def FnBinsSaid : Prop := fnBinsRow.holds Try.pinned (OpenSpec.ofChange fnBinsSpec)

/-- ITS FALSE NEIGHBOUR: 'it returns false'. Refute it at one input. -/
def fnBinsWrong : ChangeSpec := { name := "fnBins", fn := fun _ => fun
  | [d] => { results := [.lit (.bool false)], args := [d] }
  | _ => none }
def FnBinsWrongFalsely : Prop := fnBinsRow.holds Try.pinned (OpenSpec.ofChange fnBinsWrong)

/-- 'laws.FnBinsTwo': WHATEVER THE INPUT: true; the input reads as it did. -/
def fnBinsTwoSpec : ChangeSpec := { name := "fnBinsTwo", fn := fun _ => fun
  | [d] => { results := [.lit (.bool true)], args := [d] }
  | _ => none }
def fnBinsTwoRow : OpenClaim := { program := "ytnjgljeejdkbmaa", sum := "b8f4d53b8315c5c6491fa69f3d6457fbdac0ab301326176e9a160b612b052198", func := "loop.example/vectorpacker/laws.FnBinsTwo", spec := "fnBinsTwo", unfollowed := true, recurses := true, apart := false }
def FnBinsTwoSaid : Prop := fnBinsTwoRow.holds Try.pinned (OpenSpec.ofChange fnBinsTwoSpec)

/-- ITS FALSE NEIGHBOUR: 'it returns false'. Refute it at one input. -/
def fnBinsTwoWrong : ChangeSpec := { name := "fnBinsTwo", fn := fun _ => fun
  | [d] => { results := [.lit (.bool false)], args := [d] }
  | _ => none }
def FnBinsTwoWrongFalsely : Prop := fnBinsTwoRow.holds Try.pinned (OpenSpec.ofChange fnBinsTwoWrong)

/-- 'laws.FnExactBinsValid': WHATEVER THE INPUT: true; the input reads as it did. -/
def fnExactBinsValidSpec : ChangeSpec := { name := "fnExactBinsValid", fn := fun _ => fun
  | [d1, d2] => { results := [.lit (.bool true)], args := [d1, d2] }
  | _ => none }
def fnExactBinsValidRow : OpenClaim := { program := "ytnjgljeejdkbmaa", sum := "b8f4d53b8315c5c6491fa69f3d6457fbdac0ab301326176e9a160b612b052198", func := "loop.example/vectorpacker/laws.FnExactBinsValid", spec := "fnExactBinsValid", unfollowed := true, recurses := true, apart := false }
def FnExactBinsValidSaid : Prop := fnExactBinsValidRow.holds Try.pinned (OpenSpec.ofChange fnExactBinsValidSpec)

/-- ITS FALSE NEIGHBOUR: 'it returns false'. Refute it at one input. -/
def fnExactBinsValidWrong : ChangeSpec := { name := "fnExactBinsValid", fn := fun _ => fun
  | [d1, d2] => { results := [.lit (.bool false)], args := [d1, d2] }
  | _ => none }
def FnExactBinsValidWrongFalsely : Prop := fnExactBinsValidRow.holds Try.pinned (OpenSpec.ofChange fnExactBinsValidWrong)

/-- 'laws.FnWhere': WHATEVER THE INPUT: true; the input reads as it did. -/
def fnWhereSpec : ChangeSpec := { name := "fnWhere", fn := fun _ => fun
  | [d] => { results := [.lit (.bool true)], args := [d] }
  | _ => none }
def fnWhereRow : OpenClaim := { program := "ytnjgljeejdkbmaa", sum := "b8f4d53b8315c5c6491fa69f3d6457fbdac0ab301326176e9a160b612b052198", func := "loop.example/vectorpacker/laws.FnWhere", spec := "fnWhere", unfollowed := true, recurses := true, apart := false }
def FnWhereSaid : Prop := fnWhereRow.holds Try.pinned (OpenSpec.ofChange fnWhereSpec)

/-- ITS FALSE NEIGHBOUR: 'it returns false'. Refute it at one input. -/
def fnWhereWrong : ChangeSpec := { name := "fnWhere", fn := fun _ => fun
  | [d] => { results := [.lit (.bool false)], args := [d] }
  | _ => none }
def FnWhereWrongFalsely : Prop := fnWhereRow.holds Try.pinned (OpenSpec.ofChange fnWhereWrong)

/-- 'laws.FnEmpty': WHATEVER THE INPUT: true; the input reads as it did. -/
def fnEmptySpec : ChangeSpec := { name := "fnEmpty", fn := fun _ => fun
  | [d] => { results := [.lit (.bool true)], args := [d] }
  | _ => none }
def fnEmptyRow : OpenClaim := { program := "ytnjgljeejdkbmaa", sum := "b8f4d53b8315c5c6491fa69f3d6457fbdac0ab301326176e9a160b612b052198", func := "loop.example/vectorpacker/laws.FnEmpty", spec := "fnEmpty", unfollowed := true, recurses := true, apart := false }
def FnEmptySaid : Prop := fnEmptyRow.holds Try.pinned (OpenSpec.ofChange fnEmptySpec)

/-- ITS FALSE NEIGHBOUR: 'it returns false'. Refute it at one input. -/
def fnEmptyWrong : ChangeSpec := { name := "fnEmpty", fn := fun _ => fun
  | [d] => { results := [.lit (.bool false)], args := [d] }
  | _ => none }
def FnEmptyWrongFalsely : Prop := fnEmptyRow.holds Try.pinned (OpenSpec.ofChange fnEmptyWrong)

/-- 'laws.FnExactBinsWhere': WHATEVER THE INPUT: true; the input reads as it did. -/
def fnExactBinsWhereSpec : ChangeSpec := { name := "fnExactBinsWhere", fn := fun _ => fun
  | [d1, d2, d3] => { results := [.lit (.bool true)], args := [d1, d2, d3] }
  | _ => none }
def fnExactBinsWhereRow : OpenClaim := { program := "ytnjgljeejdkbmaa", sum := "b8f4d53b8315c5c6491fa69f3d6457fbdac0ab301326176e9a160b612b052198", func := "loop.example/vectorpacker/laws.FnExactBinsWhere", spec := "fnExactBinsWhere", unfollowed := true, recurses := true, apart := false }
def FnExactBinsWhereSaid : Prop := fnExactBinsWhereRow.holds Try.pinned (OpenSpec.ofChange fnExactBinsWhereSpec)

/-- ITS FALSE NEIGHBOUR: 'it returns false'. Refute it at one input. -/
def fnExactBinsWhereWrong : ChangeSpec := { name := "fnExactBinsWhere", fn := fun _ => fun
  | [d1, d2, d3] => { results := [.lit (.bool false)], args := [d1, d2, d3] }
  | _ => none }
def FnExactBinsWhereWrongFalsely : Prop := fnExactBinsWhereRow.holds Try.pinned (OpenSpec.ofChange fnExactBinsWhereWrong)

/-- 'laws.FnWhereNone': WHATEVER THE INPUT: true; the input reads as it did. -/
def fnWhereNoneSpec : ChangeSpec := { name := "fnWhereNone", fn := fun _ => fun
  | [d] => { results := [.lit (.bool true)], args := [d] }
  | _ => none }
def fnWhereNoneRow : OpenClaim := { program := "ytnjgljeejdkbmaa", sum := "b8f4d53b8315c5c6491fa69f3d6457fbdac0ab301326176e9a160b612b052198", func := "loop.example/vectorpacker/laws.FnWhereNone", spec := "fnWhereNone", unfollowed := true, recurses := true, apart := false }
def FnWhereNoneSaid : Prop := fnWhereNoneRow.holds Try.pinned (OpenSpec.ofChange fnWhereNoneSpec)

/-- ITS FALSE NEIGHBOUR: 'it returns false'. Refute it at one input. -/
def fnWhereNoneWrong : ChangeSpec := { name := "fnWhereNone", fn := fun _ => fun
  | [d] => { results := [.lit (.bool false)], args := [d] }
  | _ => none }
def FnWhereNoneWrongFalsely : Prop := fnWhereNoneRow.holds Try.pinned (OpenSpec.ofChange fnWhereNoneWrong)

/-- 'laws.FnExactBestScore': WHATEVER THE INPUT: true; the input reads as it did. -/
def fnExactBestScoreSpec : ChangeSpec := { name := "fnExactBestScore", fn := fun _ => fun
  | [d1, d2, d3] => { results := [.lit (.bool true)], args := [d1, d2, d3] }
  | _ => none }
def fnExactBestScoreRow : OpenClaim := { program := "ytnjgljeejdkbmaa", sum := "b8f4d53b8315c5c6491fa69f3d6457fbdac0ab301326176e9a160b612b052198", func := "loop.example/vectorpacker/laws.FnExactBestScore", spec := "fnExactBestScore", unfollowed := true, recurses := true, apart := false }
def FnExactBestScoreSaid : Prop := fnExactBestScoreRow.holds Try.pinned (OpenSpec.ofChange fnExactBestScoreSpec)

/-- ITS FALSE NEIGHBOUR: 'it returns false'. Refute it at one input. -/
def fnExactBestScoreWrong : ChangeSpec := { name := "fnExactBestScore", fn := fun _ => fun
  | [d1, d2, d3] => { results := [.lit (.bool false)], args := [d1, d2, d3] }
  | _ => none }
def FnExactBestScoreWrongFalsely : Prop := fnExactBestScoreRow.holds Try.pinned (OpenSpec.ofChange fnExactBestScoreWrong)

/-- 'laws.FnFirstAt': WHATEVER THE INPUT: true; the input reads as it did. -/
def fnFirstAtSpec : ChangeSpec := { name := "fnFirstAt", fn := fun _ => fun
  | [d] => { results := [.lit (.bool true)], args := [d] }
  | _ => none }
def fnFirstAtRow : OpenClaim := { program := "ytnjgljeejdkbmaa", sum := "b8f4d53b8315c5c6491fa69f3d6457fbdac0ab301326176e9a160b612b052198", func := "loop.example/vectorpacker/laws.FnFirstAt", spec := "fnFirstAt", unfollowed := true, recurses := true, apart := false }
def FnFirstAtSaid : Prop := fnFirstAtRow.holds Try.pinned (OpenSpec.ofChange fnFirstAtSpec)

/-- ITS FALSE NEIGHBOUR: 'it returns false'. Refute it at one input. -/
def fnFirstAtWrong : ChangeSpec := { name := "fnFirstAt", fn := fun _ => fun
  | [d] => { results := [.lit (.bool false)], args := [d] }
  | _ => none }
def FnFirstAtWrongFalsely : Prop := fnFirstAtRow.holds Try.pinned (OpenSpec.ofChange fnFirstAtWrong)

/-- 'laws.FnFirstEmpty': WHATEVER THE INPUT: true; the input reads as it did. -/
def fnFirstEmptySpec : ChangeSpec := { name := "fnFirstEmpty", fn := fun _ => fun
  | [d] => { results := [.lit (.bool true)], args := [d] }
  | _ => none }
def fnFirstEmptyRow : OpenClaim := { program := "ytnjgljeejdkbmaa", sum := "b8f4d53b8315c5c6491fa69f3d6457fbdac0ab301326176e9a160b612b052198", func := "loop.example/vectorpacker/laws.FnFirstEmpty", spec := "fnFirstEmpty", unfollowed := true, recurses := true, apart := false }
def FnFirstEmptySaid : Prop := fnFirstEmptyRow.holds Try.pinned (OpenSpec.ofChange fnFirstEmptySpec)

/-- ITS FALSE NEIGHBOUR: 'it returns false'. Refute it at one input. -/
def fnFirstEmptyWrong : ChangeSpec := { name := "fnFirstEmpty", fn := fun _ => fun
  | [d] => { results := [.lit (.bool false)], args := [d] }
  | _ => none }
def FnFirstEmptyWrongFalsely : Prop := fnFirstEmptyRow.holds Try.pinned (OpenSpec.ofChange fnFirstEmptyWrong)

/-- 'laws.FnFirstNone': WHATEVER THE INPUT: true; the input reads as it did. -/
def fnFirstNoneSpec : ChangeSpec := { name := "fnFirstNone", fn := fun _ => fun
  | [d] => { results := [.lit (.bool true)], args := [d] }
  | _ => none }
def fnFirstNoneRow : OpenClaim := { program := "ytnjgljeejdkbmaa", sum := "b8f4d53b8315c5c6491fa69f3d6457fbdac0ab301326176e9a160b612b052198", func := "loop.example/vectorpacker/laws.FnFirstNone", spec := "fnFirstNone", unfollowed := true, recurses := true, apart := false }
def FnFirstNoneSaid : Prop := fnFirstNoneRow.holds Try.pinned (OpenSpec.ofChange fnFirstNoneSpec)

/-- ITS FALSE NEIGHBOUR: 'it returns false'. Refute it at one input. -/
def fnFirstNoneWrong : ChangeSpec := { name := "fnFirstNone", fn := fun _ => fun
  | [d] => { results := [.lit (.bool false)], args := [d] }
  | _ => none }
def FnFirstNoneWrongFalsely : Prop := fnFirstNoneRow.holds Try.pinned (OpenSpec.ofChange fnFirstNoneWrong)

/-- 'laws.FnBinsTasks': WHATEVER THE INPUT: true; the input reads as it did. -/
def fnBinsTasksSpec : ChangeSpec := { name := "fnBinsTasks", fn := fun _ => fun
  | [d] => { results := [.lit (.bool true)], args := [d] }
  | _ => none }
def fnBinsTasksRow : OpenClaim := { program := "ytnjgljeejdkbmaa", sum := "b8f4d53b8315c5c6491fa69f3d6457fbdac0ab301326176e9a160b612b052198", func := "loop.example/vectorpacker/laws.FnBinsTasks", spec := "fnBinsTasks", unfollowed := true, recurses := true, apart := false }
def FnBinsTasksSaid : Prop := fnBinsTasksRow.holds Try.pinned (OpenSpec.ofChange fnBinsTasksSpec)

/-- ITS FALSE NEIGHBOUR: 'it returns false'. Refute it at one input. -/
def fnBinsTasksWrong : ChangeSpec := { name := "fnBinsTasks", fn := fun _ => fun
  | [d] => { results := [.lit (.bool false)], args := [d] }
  | _ => none }
def FnBinsTasksWrongFalsely : Prop := fnBinsTasksRow.holds Try.pinned (OpenSpec.ofChange fnBinsTasksWrong)

/-- 'laws.FnExactFirstAt': WHATEVER THE INPUT: true; the input reads as it did. -/
def fnExactFirstAtSpec : ChangeSpec := { name := "fnExactFirstAt", fn := fun _ => fun
  | [d1, d2, d3] => { results := [.lit (.bool true)], args := [d1, d2, d3] }
  | _ => none }
def fnExactFirstAtRow : OpenClaim := { program := "ytnjgljeejdkbmaa", sum := "b8f4d53b8315c5c6491fa69f3d6457fbdac0ab301326176e9a160b612b052198", func := "loop.example/vectorpacker/laws.FnExactFirstAt", spec := "fnExactFirstAt", unfollowed := true, recurses := true, apart := false }
def FnExactFirstAtSaid : Prop := fnExactFirstAtRow.holds Try.pinned (OpenSpec.ofChange fnExactFirstAtSpec)

/-- ITS FALSE NEIGHBOUR: 'it returns false'. Refute it at one input. -/
def fnExactFirstAtWrong : ChangeSpec := { name := "fnExactFirstAt", fn := fun _ => fun
  | [d1, d2, d3] => { results := [.lit (.bool false)], args := [d1, d2, d3] }
  | _ => none }
def FnExactFirstAtWrongFalsely : Prop := fnExactFirstAtRow.holds Try.pinned (OpenSpec.ofChange fnExactFirstAtWrong)

/-- 'laws.FnExactGatherEmpty': WHATEVER THE INPUT: true; the input reads as it did. -/
def fnExactGatherEmptySpec : ChangeSpec := { name := "fnExactGatherEmpty", fn := fun _ => fun
  | [d1, d2] => { results := [.lit (.bool true)], args := [d1, d2] }
  | _ => none }
def fnExactGatherEmptyRow : OpenClaim := { program := "ytnjgljeejdkbmaa", sum := "b8f4d53b8315c5c6491fa69f3d6457fbdac0ab301326176e9a160b612b052198", func := "loop.example/vectorpacker/laws.FnExactGatherEmpty", spec := "fnExactGatherEmpty", unfollowed := true, recurses := true, apart := false }
def FnExactGatherEmptySaid : Prop := fnExactGatherEmptyRow.holds Try.pinned (OpenSpec.ofChange fnExactGatherEmptySpec)

/-- ITS FALSE NEIGHBOUR: 'it returns false'. Refute it at one input. -/
def fnExactGatherEmptyWrong : ChangeSpec := { name := "fnExactGatherEmpty", fn := fun _ => fun
  | [d1, d2] => { results := [.lit (.bool false)], args := [d1, d2] }
  | _ => none }
def FnExactGatherEmptyWrongFalsely : Prop := fnExactGatherEmptyRow.holds Try.pinned (OpenSpec.ofChange fnExactGatherEmptyWrong)

/-- 'laws.FnExactBinsTasks': WHATEVER THE INPUT: true; the input reads as it did. -/
def fnExactBinsTasksSpec : ChangeSpec := { name := "fnExactBinsTasks", fn := fun _ => fun
  | [d1, d2] => { results := [.lit (.bool true)], args := [d1, d2] }
  | _ => none }
def fnExactBinsTasksRow : OpenClaim := { program := "ytnjgljeejdkbmaa", sum := "b8f4d53b8315c5c6491fa69f3d6457fbdac0ab301326176e9a160b612b052198", func := "loop.example/vectorpacker/laws.FnExactBinsTasks", spec := "fnExactBinsTasks", unfollowed := true, recurses := true, apart := false }
def FnExactBinsTasksSaid : Prop := fnExactBinsTasksRow.holds Try.pinned (OpenSpec.ofChange fnExactBinsTasksSpec)

/-- ITS FALSE NEIGHBOUR: 'it returns false'. Refute it at one input. -/
def fnExactBinsTasksWrong : ChangeSpec := { name := "fnExactBinsTasks", fn := fun _ => fun
  | [d1, d2] => { results := [.lit (.bool false)], args := [d1, d2] }
  | _ => none }
def FnExactBinsTasksWrongFalsely : Prop := fnExactBinsTasksRow.holds Try.pinned (OpenSpec.ofChange fnExactBinsTasksWrong)

/- THE SECOND FORM. 'bulk': how many values and letters a reading holds, each counted each time it is reached (what is shared counts as often as it is met; a slice's spare places count too). A statement '..UptoSaid' is the law's where the arguments, and the package variables that the reading takes, are together of bulk at most 1048576: NARROWER than '..Said'. Prove '..Said' where nothing that the law and all that it calls make is longer than what came in: it says more and counts as full. Else prove '..UptoSaid'. A law counts once. -/
mutual
def uptoBulk {H : Type} : DataW H → Nat
  | .lit (.string bytes) => bytes.length + 1
  | .lit _ => 1
  | .nil => 1
  | .ptr d => uptoBulk d + 1
  | .slice elems spare => uptoBulkAll elems + uptoBulkAll spare + 1
  | .agg parts => uptoBulkAll parts + 1
  | .iface _ d => uptoBulk d + 1
  | .map entries => uptoBulkEntries entries + 1
  | .held _ => 1
def uptoBulkAll {H : Type} : List (DataW H) → Nat
  | [] => 0
  | d :: r => uptoBulk d + uptoBulkAll r
def uptoBulkEntries {H : Type} : List (Lit × DataW H) → Nat
  | [] => 0
  | x :: r => uptoBulkEntry x + uptoBulkEntries r
def uptoBulkEntry {H : Type} : Lit × DataW H → Nat
  | (.string bytes, d) => bytes.length + uptoBulk d + 1
  | (_, d) => uptoBulk d + 1
 end
def uptoSmall : (H : Type) → List (DataW H) → Bool := fun _ ds => decide (uptoBulkAll ds ≤ 1048576)
def OpenSpec.upto (s : _root_.Go.ChangeSpec) : _root_.Go.OpenSpec := { _root_.Go.OpenSpec.ofChange s with cond := some uptoSmall }

/-- 'laws.FnExactBoundBest', WHERE WHAT IT READS IS OF BULK AT MOST 1048576: true; the input reads as it did. -/
def fnExactBoundBestUptoRow : OpenClaim := { program := "ytnjgljeejdkbmaa", sum := "b8f4d53b8315c5c6491fa69f3d6457fbdac0ab301326176e9a160b612b052198", func := "loop.example/vectorpacker/laws.FnExactBoundBest", spec := "fnExactBoundBest", unfollowed := true, recurses := true, apart := false, narrowed := true }
def FnExactBoundBestUptoSaid : Prop := fnExactBoundBestUptoRow.holds Try.pinned (OpenSpec.upto fnExactBoundBestSpec)

/-- 'laws.FnBins', WHERE WHAT IT READS IS OF BULK AT MOST 1048576: true; the input reads as it did. -/
def fnBinsUptoRow : OpenClaim := { program := "ytnjgljeejdkbmaa", sum := "b8f4d53b8315c5c6491fa69f3d6457fbdac0ab301326176e9a160b612b052198", func := "loop.example/vectorpacker/laws.FnBins", spec := "fnBins", unfollowed := true, recurses := true, apart := false, narrowed := true }
def FnBinsUptoSaid : Prop := fnBinsUptoRow.holds Try.pinned (OpenSpec.upto fnBinsSpec)

/-- 'laws.FnBinsTwo', WHERE WHAT IT READS IS OF BULK AT MOST 1048576: true; the input reads as it did. -/
def fnBinsTwoUptoRow : OpenClaim := { program := "ytnjgljeejdkbmaa", sum := "b8f4d53b8315c5c6491fa69f3d6457fbdac0ab301326176e9a160b612b052198", func := "loop.example/vectorpacker/laws.FnBinsTwo", spec := "fnBinsTwo", unfollowed := true, recurses := true, apart := false, narrowed := true }
def FnBinsTwoUptoSaid : Prop := fnBinsTwoUptoRow.holds Try.pinned (OpenSpec.upto fnBinsTwoSpec)

/-- 'laws.FnExactBinsValid', WHERE WHAT IT READS IS OF BULK AT MOST 1048576: true; the input reads as it did. -/
def fnExactBinsValidUptoRow : OpenClaim := { program := "ytnjgljeejdkbmaa", sum := "b8f4d53b8315c5c6491fa69f3d6457fbdac0ab301326176e9a160b612b052198", func := "loop.example/vectorpacker/laws.FnExactBinsValid", spec := "fnExactBinsValid", unfollowed := true, recurses := true, apart := false, narrowed := true }
def FnExactBinsValidUptoSaid : Prop := fnExactBinsValidUptoRow.holds Try.pinned (OpenSpec.upto fnExactBinsValidSpec)

/-- 'laws.FnWhere', WHERE WHAT IT READS IS OF BULK AT MOST 1048576: true; the input reads as it did. -/
def fnWhereUptoRow : OpenClaim := { program := "ytnjgljeejdkbmaa", sum := "b8f4d53b8315c5c6491fa69f3d6457fbdac0ab301326176e9a160b612b052198", func := "loop.example/vectorpacker/laws.FnWhere", spec := "fnWhere", unfollowed := true, recurses := true, apart := false, narrowed := true }
def FnWhereUptoSaid : Prop := fnWhereUptoRow.holds Try.pinned (OpenSpec.upto fnWhereSpec)

/-- 'laws.FnEmpty', WHERE WHAT IT READS IS OF BULK AT MOST 1048576: true; the input reads as it did. -/
def fnEmptyUptoRow : OpenClaim := { program := "ytnjgljeejdkbmaa", sum := "b8f4d53b8315c5c6491fa69f3d6457fbdac0ab301326176e9a160b612b052198", func := "loop.example/vectorpacker/laws.FnEmpty", spec := "fnEmpty", unfollowed := true, recurses := true, apart := false, narrowed := true }
def FnEmptyUptoSaid : Prop := fnEmptyUptoRow.holds Try.pinned (OpenSpec.upto fnEmptySpec)

/-- 'laws.FnExactBinsWhere', WHERE WHAT IT READS IS OF BULK AT MOST 1048576: true; the input reads as it did. -/
def fnExactBinsWhereUptoRow : OpenClaim := { program := "ytnjgljeejdkbmaa", sum := "b8f4d53b8315c5c6491fa69f3d6457fbdac0ab301326176e9a160b612b052198", func := "loop.example/vectorpacker/laws.FnExactBinsWhere", spec := "fnExactBinsWhere", unfollowed := true, recurses := true, apart := false, narrowed := true }
def FnExactBinsWhereUptoSaid : Prop := fnExactBinsWhereUptoRow.holds Try.pinned (OpenSpec.upto fnExactBinsWhereSpec)

/-- 'laws.FnWhereNone', WHERE WHAT IT READS IS OF BULK AT MOST 1048576: true; the input reads as it did. -/
def fnWhereNoneUptoRow : OpenClaim := { program := "ytnjgljeejdkbmaa", sum := "b8f4d53b8315c5c6491fa69f3d6457fbdac0ab301326176e9a160b612b052198", func := "loop.example/vectorpacker/laws.FnWhereNone", spec := "fnWhereNone", unfollowed := true, recurses := true, apart := false, narrowed := true }
def FnWhereNoneUptoSaid : Prop := fnWhereNoneUptoRow.holds Try.pinned (OpenSpec.upto fnWhereNoneSpec)

/-- 'laws.FnExactBestScore', WHERE WHAT IT READS IS OF BULK AT MOST 1048576: true; the input reads as it did. -/
def fnExactBestScoreUptoRow : OpenClaim := { program := "ytnjgljeejdkbmaa", sum := "b8f4d53b8315c5c6491fa69f3d6457fbdac0ab301326176e9a160b612b052198", func := "loop.example/vectorpacker/laws.FnExactBestScore", spec := "fnExactBestScore", unfollowed := true, recurses := true, apart := false, narrowed := true }
def FnExactBestScoreUptoSaid : Prop := fnExactBestScoreUptoRow.holds Try.pinned (OpenSpec.upto fnExactBestScoreSpec)

/-- 'laws.FnFirstAt', WHERE WHAT IT READS IS OF BULK AT MOST 1048576: true; the input reads as it did. -/
def fnFirstAtUptoRow : OpenClaim := { program := "ytnjgljeejdkbmaa", sum := "b8f4d53b8315c5c6491fa69f3d6457fbdac0ab301326176e9a160b612b052198", func := "loop.example/vectorpacker/laws.FnFirstAt", spec := "fnFirstAt", unfollowed := true, recurses := true, apart := false, narrowed := true }
def FnFirstAtUptoSaid : Prop := fnFirstAtUptoRow.holds Try.pinned (OpenSpec.upto fnFirstAtSpec)

/-- 'laws.FnFirstEmpty', WHERE WHAT IT READS IS OF BULK AT MOST 1048576: true; the input reads as it did. -/
def fnFirstEmptyUptoRow : OpenClaim := { program := "ytnjgljeejdkbmaa", sum := "b8f4d53b8315c5c6491fa69f3d6457fbdac0ab301326176e9a160b612b052198", func := "loop.example/vectorpacker/laws.FnFirstEmpty", spec := "fnFirstEmpty", unfollowed := true, recurses := true, apart := false, narrowed := true }
def FnFirstEmptyUptoSaid : Prop := fnFirstEmptyUptoRow.holds Try.pinned (OpenSpec.upto fnFirstEmptySpec)

/-- 'laws.FnFirstNone', WHERE WHAT IT READS IS OF BULK AT MOST 1048576: true; the input reads as it did. -/
def fnFirstNoneUptoRow : OpenClaim := { program := "ytnjgljeejdkbmaa", sum := "b8f4d53b8315c5c6491fa69f3d6457fbdac0ab301326176e9a160b612b052198", func := "loop.example/vectorpacker/laws.FnFirstNone", spec := "fnFirstNone", unfollowed := true, recurses := true, apart := false, narrowed := true }
def FnFirstNoneUptoSaid : Prop := fnFirstNoneUptoRow.holds Try.pinned (OpenSpec.upto fnFirstNoneSpec)

/-- 'laws.FnBinsTasks', WHERE WHAT IT READS IS OF BULK AT MOST 1048576: true; the input reads as it did. -/
def fnBinsTasksUptoRow : OpenClaim := { program := "ytnjgljeejdkbmaa", sum := "b8f4d53b8315c5c6491fa69f3d6457fbdac0ab301326176e9a160b612b052198", func := "loop.example/vectorpacker/laws.FnBinsTasks", spec := "fnBinsTasks", unfollowed := true, recurses := true, apart := false, narrowed := true }
def FnBinsTasksUptoSaid : Prop := fnBinsTasksUptoRow.holds Try.pinned (OpenSpec.upto fnBinsTasksSpec)

/-- 'laws.FnExactFirstAt', WHERE WHAT IT READS IS OF BULK AT MOST 1048576: true; the input reads as it did. -/
def fnExactFirstAtUptoRow : OpenClaim := { program := "ytnjgljeejdkbmaa", sum := "b8f4d53b8315c5c6491fa69f3d6457fbdac0ab301326176e9a160b612b052198", func := "loop.example/vectorpacker/laws.FnExactFirstAt", spec := "fnExactFirstAt", unfollowed := true, recurses := true, apart := false, narrowed := true }
def FnExactFirstAtUptoSaid : Prop := fnExactFirstAtUptoRow.holds Try.pinned (OpenSpec.upto fnExactFirstAtSpec)

/-- 'laws.FnExactGatherEmpty', WHERE WHAT IT READS IS OF BULK AT MOST 1048576: true; the input reads as it did. -/
def fnExactGatherEmptyUptoRow : OpenClaim := { program := "ytnjgljeejdkbmaa", sum := "b8f4d53b8315c5c6491fa69f3d6457fbdac0ab301326176e9a160b612b052198", func := "loop.example/vectorpacker/laws.FnExactGatherEmpty", spec := "fnExactGatherEmpty", unfollowed := true, recurses := true, apart := false, narrowed := true }
def FnExactGatherEmptyUptoSaid : Prop := fnExactGatherEmptyUptoRow.holds Try.pinned (OpenSpec.upto fnExactGatherEmptySpec)

/-- 'laws.FnExactBinsTasks', WHERE WHAT IT READS IS OF BULK AT MOST 1048576: true; the input reads as it did. -/
def fnExactBinsTasksUptoRow : OpenClaim := { program := "ytnjgljeejdkbmaa", sum := "b8f4d53b8315c5c6491fa69f3d6457fbdac0ab301326176e9a160b612b052198", func := "loop.example/vectorpacker/laws.FnExactBinsTasks", spec := "fnExactBinsTasks", unfollowed := true, recurses := true, apart := false, narrowed := true }
def FnExactBinsTasksUptoSaid : Prop := fnExactBinsTasksUptoRow.holds Try.pinned (OpenSpec.upto fnExactBinsTasksSpec)

end Rows
end Go.Proofs.Ytnjgljeejdkbmaa
