/-
  No cell of these rows narrows 'for every input' (looked for: loops, veiled, ifaces, maps, wideKeys, modest, calm, conditions, laid).
  DERIVED. THE GIVEN ROWS OF THIS SEAT. 16 by the template 'for every input the law returns true; each argument reads behind the call as it read before'; 0 by the template 'total and deterministic' (their statements: YtipmoedflpjioaaTotals.lean).
  GIVEN WITH THE SEED: the statements are not yours to turn. If you find one false, say at which input.
  Laid BY PROGRAM, IN A SANDBOX (cutbox-rows.mjs): the forced cells as the released guide's own fill.sh prints them over the translation af637f57310caf0c… (all of the seat's roots in one cut). By AI agents, Wed Nov 11 2026. No macro, syntax, notation, axiom, sorry.
-/
import Derived.Test.YtipmoedflpjioaaChecked
import GoSem.Claim
import GoSem.ClaimJoined
import GoSem.ClaimMapViews
import Derived.JoinedTies
import Derived.KernelRfl
namespace Go.Proofs.Ytipmoedflpjioaa
/- THE CELL 'sum', in the pinned program and in every row, IS THE sha256 OF THE DUMP (.gsa) THAT YtipmoedflpjioaaProg.lean LOADS. Nothing in Lean hashes anything: it is a label: what it is worth is what the hold of that sum in a sandbox is worth. -/
noncomputable def Try.pinned : Pinned := { name := "ytipmoedflpjioaa", sum := "af637f57310caf0c8fe1f10fd4b0b67e509a9557ad26bb891853be316f4539d1", checked := Try.checked }
namespace Rows
def none {H : Type} : Left H := { results := [], args := [] }

/-- 'laws.FnBinsTasks': WHATEVER THE INPUT: true; the input reads as it did. -/
def fnBinsTasksSpec : ChangeSpec := { name := "fnBinsTasks", fn := fun _ => fun
  | [d] => { results := [.lit (.bool true)], args := [d] }
  | _ => none }
def fnBinsTasksRow : OpenClaim := { program := "ytipmoedflpjioaa", sum := "af637f57310caf0c8fe1f10fd4b0b67e509a9557ad26bb891853be316f4539d1", func := "loop.example/vectorpacker/laws.FnBinsTasks", spec := "fnBinsTasks", unfollowed := true, recurses := true, apart := false }
def FnBinsTasksSaid : Prop := fnBinsTasksRow.holds Try.pinned (OpenSpec.ofChange fnBinsTasksSpec)

/-- ITS FALSE NEIGHBOUR: 'it returns false'. Refute it at one input. -/
def fnBinsTasksWrong : ChangeSpec := { name := "fnBinsTasks", fn := fun _ => fun
  | [d] => { results := [.lit (.bool false)], args := [d] }
  | _ => none }
def FnBinsTasksWrongFalsely : Prop := fnBinsTasksRow.holds Try.pinned (OpenSpec.ofChange fnBinsTasksWrong)

/-- 'laws.FnBestOne': WHATEVER THE INPUT: true; the input reads as it did. -/
def fnBestOneSpec : ChangeSpec := { name := "fnBestOne", fn := fun _ => fun
  | [d1, d2] => { results := [.lit (.bool true)], args := [d1, d2] }
  | _ => none }
def fnBestOneRow : OpenClaim := { program := "ytipmoedflpjioaa", sum := "af637f57310caf0c8fe1f10fd4b0b67e509a9557ad26bb891853be316f4539d1", func := "loop.example/vectorpacker/laws.FnBestOne", spec := "fnBestOne", unfollowed := true, recurses := true, apart := false }
def FnBestOneSaid : Prop := fnBestOneRow.holds Try.pinned (OpenSpec.ofChange fnBestOneSpec)

/-- ITS FALSE NEIGHBOUR: 'it returns false'. Refute it at one input. -/
def fnBestOneWrong : ChangeSpec := { name := "fnBestOne", fn := fun _ => fun
  | [d1, d2] => { results := [.lit (.bool false)], args := [d1, d2] }
  | _ => none }
def FnBestOneWrongFalsely : Prop := fnBestOneRow.holds Try.pinned (OpenSpec.ofChange fnBestOneWrong)

/-- 'laws.FnFirstAllBound': WHATEVER THE INPUT: true; the input reads as it did. -/
def fnFirstAllBoundSpec : ChangeSpec := { name := "fnFirstAllBound", fn := fun _ => fun
  | [d] => { results := [.lit (.bool true)], args := [d] }
  | _ => none }
def fnFirstAllBoundRow : OpenClaim := { program := "ytipmoedflpjioaa", sum := "af637f57310caf0c8fe1f10fd4b0b67e509a9557ad26bb891853be316f4539d1", func := "loop.example/vectorpacker/laws.FnFirstAllBound", spec := "fnFirstAllBound", unfollowed := true, recurses := true, apart := false }
def FnFirstAllBoundSaid : Prop := fnFirstAllBoundRow.holds Try.pinned (OpenSpec.ofChange fnFirstAllBoundSpec)

/-- ITS FALSE NEIGHBOUR: 'it returns false'. Refute it at one input. -/
def fnFirstAllBoundWrong : ChangeSpec := { name := "fnFirstAllBound", fn := fun _ => fun
  | [d] => { results := [.lit (.bool false)], args := [d] }
  | _ => none }
def FnFirstAllBoundWrongFalsely : Prop := fnFirstAllBoundRow.holds Try.pinned (OpenSpec.ofChange fnFirstAllBoundWrong)

/-- 'laws.FnExactFirstAll': WHATEVER THE INPUT: true; the input reads as it did. -/
def fnExactFirstAllSpec : ChangeSpec := { name := "fnExactFirstAll", fn := fun _ => fun
  | [d1, d2] => { results := [.lit (.bool true)], args := [d1, d2] }
  | _ => none }
def fnExactFirstAllRow : OpenClaim := { program := "ytipmoedflpjioaa", sum := "af637f57310caf0c8fe1f10fd4b0b67e509a9557ad26bb891853be316f4539d1", func := "loop.example/vectorpacker/laws.FnExactFirstAll", spec := "fnExactFirstAll", unfollowed := true, recurses := true, apart := false }
def FnExactFirstAllSaid : Prop := fnExactFirstAllRow.holds Try.pinned (OpenSpec.ofChange fnExactFirstAllSpec)

/-- ITS FALSE NEIGHBOUR: 'it returns false'. Refute it at one input. -/
def fnExactFirstAllWrong : ChangeSpec := { name := "fnExactFirstAll", fn := fun _ => fun
  | [d1, d2] => { results := [.lit (.bool false)], args := [d1, d2] }
  | _ => none }
def FnExactFirstAllWrongFalsely : Prop := fnExactFirstAllRow.holds Try.pinned (OpenSpec.ofChange fnExactFirstAllWrong)

/-- 'laws.FnBestScore': WHATEVER THE INPUT: true; the input reads as it did. -/
def fnBestScoreSpec : ChangeSpec := { name := "fnBestScore", fn := fun _ => fun
  | [d] => { results := [.lit (.bool true)], args := [d] }
  | _ => none }
def fnBestScoreRow : OpenClaim := { program := "ytipmoedflpjioaa", sum := "af637f57310caf0c8fe1f10fd4b0b67e509a9557ad26bb891853be316f4539d1", func := "loop.example/vectorpacker/laws.FnBestScore", spec := "fnBestScore", unfollowed := true, recurses := true, apart := false }
def FnBestScoreSaid : Prop := fnBestScoreRow.holds Try.pinned (OpenSpec.ofChange fnBestScoreSpec)

/-- ITS FALSE NEIGHBOUR: 'it returns false'. Refute it at one input. -/
def fnBestScoreWrong : ChangeSpec := { name := "fnBestScore", fn := fun _ => fun
  | [d] => { results := [.lit (.bool false)], args := [d] }
  | _ => none }
def FnBestScoreWrongFalsely : Prop := fnBestScoreRow.holds Try.pinned (OpenSpec.ofChange fnBestScoreWrong)

/-- 'laws.FnBestAt': WHATEVER THE INPUT: true; the input reads as it did. -/
def fnBestAtSpec : ChangeSpec := { name := "fnBestAt", fn := fun _ => fun
  | [d] => { results := [.lit (.bool true)], args := [d] }
  | _ => none }
def fnBestAtRow : OpenClaim := { program := "ytipmoedflpjioaa", sum := "af637f57310caf0c8fe1f10fd4b0b67e509a9557ad26bb891853be316f4539d1", func := "loop.example/vectorpacker/laws.FnBestAt", spec := "fnBestAt", unfollowed := true, recurses := true, apart := false }
def FnBestAtSaid : Prop := fnBestAtRow.holds Try.pinned (OpenSpec.ofChange fnBestAtSpec)

/-- ITS FALSE NEIGHBOUR: 'it returns false'. Refute it at one input. -/
def fnBestAtWrong : ChangeSpec := { name := "fnBestAt", fn := fun _ => fun
  | [d] => { results := [.lit (.bool false)], args := [d] }
  | _ => none }
def FnBestAtWrongFalsely : Prop := fnBestAtRow.holds Try.pinned (OpenSpec.ofChange fnBestAtWrong)

/-- 'laws.FnFirstAllFull': WHATEVER THE INPUT: true; the input reads as it did. -/
def fnFirstAllFullSpec : ChangeSpec := { name := "fnFirstAllFull", fn := fun _ => fun
  | [d1, d2] => { results := [.lit (.bool true)], args := [d1, d2] }
  | _ => none }
def fnFirstAllFullRow : OpenClaim := { program := "ytipmoedflpjioaa", sum := "af637f57310caf0c8fe1f10fd4b0b67e509a9557ad26bb891853be316f4539d1", func := "loop.example/vectorpacker/laws.FnFirstAllFull", spec := "fnFirstAllFull", unfollowed := true, recurses := true, apart := false }
def FnFirstAllFullSaid : Prop := fnFirstAllFullRow.holds Try.pinned (OpenSpec.ofChange fnFirstAllFullSpec)

/-- ITS FALSE NEIGHBOUR: 'it returns false'. Refute it at one input. -/
def fnFirstAllFullWrong : ChangeSpec := { name := "fnFirstAllFull", fn := fun _ => fun
  | [d1, d2] => { results := [.lit (.bool false)], args := [d1, d2] }
  | _ => none }
def FnFirstAllFullWrongFalsely : Prop := fnFirstAllFullRow.holds Try.pinned (OpenSpec.ofChange fnFirstAllFullWrong)

/-- 'laws.FnExactBestAt': WHATEVER THE INPUT: true; the input reads as it did. -/
def fnExactBestAtSpec : ChangeSpec := { name := "fnExactBestAt", fn := fun _ => fun
  | [d1, d2, d3] => { results := [.lit (.bool true)], args := [d1, d2, d3] }
  | _ => none }
def fnExactBestAtRow : OpenClaim := { program := "ytipmoedflpjioaa", sum := "af637f57310caf0c8fe1f10fd4b0b67e509a9557ad26bb891853be316f4539d1", func := "loop.example/vectorpacker/laws.FnExactBestAt", spec := "fnExactBestAt", unfollowed := true, recurses := true, apart := false }
def FnExactBestAtSaid : Prop := fnExactBestAtRow.holds Try.pinned (OpenSpec.ofChange fnExactBestAtSpec)

/-- ITS FALSE NEIGHBOUR: 'it returns false'. Refute it at one input. -/
def fnExactBestAtWrong : ChangeSpec := { name := "fnExactBestAt", fn := fun _ => fun
  | [d1, d2, d3] => { results := [.lit (.bool false)], args := [d1, d2, d3] }
  | _ => none }
def FnExactBestAtWrongFalsely : Prop := fnExactBestAtRow.holds Try.pinned (OpenSpec.ofChange fnExactBestAtWrong)

/-- 'laws.FnFirstAllTwice': WHATEVER THE INPUT: true; the input reads as it did. -/
def fnFirstAllTwiceSpec : ChangeSpec := { name := "fnFirstAllTwice", fn := fun _ => fun
  | [d] => { results := [.lit (.bool true)], args := [d] }
  | _ => none }
def fnFirstAllTwiceRow : OpenClaim := { program := "ytipmoedflpjioaa", sum := "af637f57310caf0c8fe1f10fd4b0b67e509a9557ad26bb891853be316f4539d1", func := "loop.example/vectorpacker/laws.FnFirstAllTwice", spec := "fnFirstAllTwice", unfollowed := true, recurses := true, apart := false }
def FnFirstAllTwiceSaid : Prop := fnFirstAllTwiceRow.holds Try.pinned (OpenSpec.ofChange fnFirstAllTwiceSpec)

/-- ITS FALSE NEIGHBOUR: 'it returns false'. Refute it at one input. -/
def fnFirstAllTwiceWrong : ChangeSpec := { name := "fnFirstAllTwice", fn := fun _ => fun
  | [d] => { results := [.lit (.bool false)], args := [d] }
  | _ => none }
def FnFirstAllTwiceWrongFalsely : Prop := fnFirstAllTwiceRow.holds Try.pinned (OpenSpec.ofChange fnFirstAllTwiceWrong)

/-- 'laws.FnBestAtNone': WHATEVER THE INPUT: true; the input reads as it did. -/
def fnBestAtNoneSpec : ChangeSpec := { name := "fnBestAtNone", fn := fun _ => fun
  | [d] => { results := [.lit (.bool true)], args := [d] }
  | _ => none }
def fnBestAtNoneRow : OpenClaim := { program := "ytipmoedflpjioaa", sum := "af637f57310caf0c8fe1f10fd4b0b67e509a9557ad26bb891853be316f4539d1", func := "loop.example/vectorpacker/laws.FnBestAtNone", spec := "fnBestAtNone", unfollowed := true, recurses := true, apart := false }
def FnBestAtNoneSaid : Prop := fnBestAtNoneRow.holds Try.pinned (OpenSpec.ofChange fnBestAtNoneSpec)

/-- ITS FALSE NEIGHBOUR: 'it returns false'. Refute it at one input. -/
def fnBestAtNoneWrong : ChangeSpec := { name := "fnBestAtNone", fn := fun _ => fun
  | [d] => { results := [.lit (.bool false)], args := [d] }
  | _ => none }
def FnBestAtNoneWrongFalsely : Prop := fnBestAtNoneRow.holds Try.pinned (OpenSpec.ofChange fnBestAtNoneWrong)

/-- 'laws.FnFirstAll': WHATEVER THE INPUT: true; the input reads as it did. -/
def fnFirstAllSpec : ChangeSpec := { name := "fnFirstAll", fn := fun _ => fun
  | [d] => { results := [.lit (.bool true)], args := [d] }
  | _ => none }
def fnFirstAllRow : OpenClaim := { program := "ytipmoedflpjioaa", sum := "af637f57310caf0c8fe1f10fd4b0b67e509a9557ad26bb891853be316f4539d1", func := "loop.example/vectorpacker/laws.FnFirstAll", spec := "fnFirstAll", unfollowed := true, recurses := true, apart := false }
def FnFirstAllSaid : Prop := fnFirstAllRow.holds Try.pinned (OpenSpec.ofChange fnFirstAllSpec)

/-- ITS FALSE NEIGHBOUR: 'it returns false'. Refute it at one input. -/
def fnFirstAllWrong : ChangeSpec := { name := "fnFirstAll", fn := fun _ => fun
  | [d] => { results := [.lit (.bool false)], args := [d] }
  | _ => none }
def FnFirstAllWrongFalsely : Prop := fnFirstAllRow.holds Try.pinned (OpenSpec.ofChange fnFirstAllWrong)

/-- 'laws.FnExactBestAll': WHATEVER THE INPUT: true; the input reads as it did. -/
def fnExactBestAllSpec : ChangeSpec := { name := "fnExactBestAll", fn := fun _ => fun
  | [d1, d2] => { results := [.lit (.bool true)], args := [d1, d2] }
  | _ => none }
def fnExactBestAllRow : OpenClaim := { program := "ytipmoedflpjioaa", sum := "af637f57310caf0c8fe1f10fd4b0b67e509a9557ad26bb891853be316f4539d1", func := "loop.example/vectorpacker/laws.FnExactBestAll", spec := "fnExactBestAll", unfollowed := true, recurses := true, apart := false }
def FnExactBestAllSaid : Prop := fnExactBestAllRow.holds Try.pinned (OpenSpec.ofChange fnExactBestAllSpec)

/-- ITS FALSE NEIGHBOUR: 'it returns false'. Refute it at one input. -/
def fnExactBestAllWrong : ChangeSpec := { name := "fnExactBestAll", fn := fun _ => fun
  | [d1, d2] => { results := [.lit (.bool false)], args := [d1, d2] }
  | _ => none }
def FnExactBestAllWrongFalsely : Prop := fnExactBestAllRow.holds Try.pinned (OpenSpec.ofChange fnExactBestAllWrong)

/-- 'laws.FnFirstAllStep': WHATEVER THE INPUT: true; the input reads as it did. -/
def fnFirstAllStepSpec : ChangeSpec := { name := "fnFirstAllStep", fn := fun _ => fun
  | [d] => { results := [.lit (.bool true)], args := [d] }
  | _ => none }
def fnFirstAllStepRow : OpenClaim := { program := "ytipmoedflpjioaa", sum := "af637f57310caf0c8fe1f10fd4b0b67e509a9557ad26bb891853be316f4539d1", func := "loop.example/vectorpacker/laws.FnFirstAllStep", spec := "fnFirstAllStep", unfollowed := true, recurses := true, apart := false }
def FnFirstAllStepSaid : Prop := fnFirstAllStepRow.holds Try.pinned (OpenSpec.ofChange fnFirstAllStepSpec)

/-- ITS FALSE NEIGHBOUR: 'it returns false'. Refute it at one input. -/
def fnFirstAllStepWrong : ChangeSpec := { name := "fnFirstAllStep", fn := fun _ => fun
  | [d] => { results := [.lit (.bool false)], args := [d] }
  | _ => none }
def FnFirstAllStepWrongFalsely : Prop := fnFirstAllStepRow.holds Try.pinned (OpenSpec.ofChange fnFirstAllStepWrong)

/-- 'laws.FnBestAllFull': WHATEVER THE INPUT: true; the input reads as it did. -/
def fnBestAllFullSpec : ChangeSpec := { name := "fnBestAllFull", fn := fun _ => fun
  | [d1, d2] => { results := [.lit (.bool true)], args := [d1, d2] }
  | _ => none }
def fnBestAllFullRow : OpenClaim := { program := "ytipmoedflpjioaa", sum := "af637f57310caf0c8fe1f10fd4b0b67e509a9557ad26bb891853be316f4539d1", func := "loop.example/vectorpacker/laws.FnBestAllFull", spec := "fnBestAllFull", unfollowed := true, recurses := true, apart := false }
def FnBestAllFullSaid : Prop := fnBestAllFullRow.holds Try.pinned (OpenSpec.ofChange fnBestAllFullSpec)

/-- ITS FALSE NEIGHBOUR: 'it returns false'. Refute it at one input. -/
def fnBestAllFullWrong : ChangeSpec := { name := "fnBestAllFull", fn := fun _ => fun
  | [d1, d2] => { results := [.lit (.bool false)], args := [d1, d2] }
  | _ => none }
def FnBestAllFullWrongFalsely : Prop := fnBestAllFullRow.holds Try.pinned (OpenSpec.ofChange fnBestAllFullWrong)

/-- 'laws.FnBestAllStep': WHATEVER THE INPUT: true; the input reads as it did. -/
def fnBestAllStepSpec : ChangeSpec := { name := "fnBestAllStep", fn := fun _ => fun
  | [d] => { results := [.lit (.bool true)], args := [d] }
  | _ => none }
def fnBestAllStepRow : OpenClaim := { program := "ytipmoedflpjioaa", sum := "af637f57310caf0c8fe1f10fd4b0b67e509a9557ad26bb891853be316f4539d1", func := "loop.example/vectorpacker/laws.FnBestAllStep", spec := "fnBestAllStep", unfollowed := true, recurses := true, apart := false }
def FnBestAllStepSaid : Prop := fnBestAllStepRow.holds Try.pinned (OpenSpec.ofChange fnBestAllStepSpec)

/-- ITS FALSE NEIGHBOUR: 'it returns false'. Refute it at one input. -/
def fnBestAllStepWrong : ChangeSpec := { name := "fnBestAllStep", fn := fun _ => fun
  | [d] => { results := [.lit (.bool false)], args := [d] }
  | _ => none }
def FnBestAllStepWrongFalsely : Prop := fnBestAllStepRow.holds Try.pinned (OpenSpec.ofChange fnBestAllStepWrong)

/-- 'laws.FnBestAll': WHATEVER THE INPUT: true; the input reads as it did. -/
def fnBestAllSpec : ChangeSpec := { name := "fnBestAll", fn := fun _ => fun
  | [d] => { results := [.lit (.bool true)], args := [d] }
  | _ => none }
def fnBestAllRow : OpenClaim := { program := "ytipmoedflpjioaa", sum := "af637f57310caf0c8fe1f10fd4b0b67e509a9557ad26bb891853be316f4539d1", func := "loop.example/vectorpacker/laws.FnBestAll", spec := "fnBestAll", unfollowed := true, recurses := true, apart := false }
def FnBestAllSaid : Prop := fnBestAllRow.holds Try.pinned (OpenSpec.ofChange fnBestAllSpec)

/-- ITS FALSE NEIGHBOUR: 'it returns false'. Refute it at one input. -/
def fnBestAllWrong : ChangeSpec := { name := "fnBestAll", fn := fun _ => fun
  | [d] => { results := [.lit (.bool false)], args := [d] }
  | _ => none }
def FnBestAllWrongFalsely : Prop := fnBestAllRow.holds Try.pinned (OpenSpec.ofChange fnBestAllWrong)

/- THE SECOND FORM. 'bulk': how many values and letters a reading holds, each counted each time it is reached (what is shared counts as often as it is met; a slice's spare places count too). A statement '..UptoSaid' is the law's where the arguments, and the package variables that the reading takes, are together of bulk at most 1048576: NARROWER than '..Said'. Prove '..Said' where nothing that the law and all that it calls make is longer than what came in: it says more and counts as full. Else prove '..UptoSaid'. A law counts once. -/
mutual
def uptoBulk {H : Type} : DataW H → Nat
  | .lit (.string bytes) => bytes.length + 1
  | .lit _ => 1
  | .nil => 1
  | .ptr d => uptoBulk d + 1
  | .slice elems spare => uptoBulkAll elems + uptoBulkAll spare + 1
  | .agg parts => uptoBulkAll parts + 1
  | .iface _ d => uptoBulk d + 1
  | .map entries => uptoBulkEntries entries + 1
  | .held _ => 1
def uptoBulkAll {H : Type} : List (DataW H) → Nat
  | [] => 0
  | d :: r => uptoBulk d + uptoBulkAll r
def uptoBulkEntries {H : Type} : List (Lit × DataW H) → Nat
  | [] => 0
  | x :: r => uptoBulkEntry x + uptoBulkEntries r
def uptoBulkEntry {H : Type} : Lit × DataW H → Nat
  | (.string bytes, d) => bytes.length + uptoBulk d + 1
  | (_, d) => uptoBulk d + 1
 end
def uptoSmall : (H : Type) → List (DataW H) → Bool := fun _ ds => decide (uptoBulkAll ds ≤ 1048576)
def OpenSpec.upto (s : _root_.Go.ChangeSpec) : _root_.Go.OpenSpec := { _root_.Go.OpenSpec.ofChange s with cond := some uptoSmall }

/-- 'laws.FnBinsTasks', WHERE WHAT IT READS IS OF BULK AT MOST 1048576: true; the input reads as it did. -/
def fnBinsTasksUptoRow : OpenClaim := { program := "ytipmoedflpjioaa", sum := "af637f57310caf0c8fe1f10fd4b0b67e509a9557ad26bb891853be316f4539d1", func := "loop.example/vectorpacker/laws.FnBinsTasks", spec := "fnBinsTasks", unfollowed := true, recurses := true, apart := false, narrowed := true }
def FnBinsTasksUptoSaid : Prop := fnBinsTasksUptoRow.holds Try.pinned (OpenSpec.upto fnBinsTasksSpec)

/-- 'laws.FnBestOne', WHERE WHAT IT READS IS OF BULK AT MOST 1048576: true; the input reads as it did. -/
def fnBestOneUptoRow : OpenClaim := { program := "ytipmoedflpjioaa", sum := "af637f57310caf0c8fe1f10fd4b0b67e509a9557ad26bb891853be316f4539d1", func := "loop.example/vectorpacker/laws.FnBestOne", spec := "fnBestOne", unfollowed := true, recurses := true, apart := false, narrowed := true }
def FnBestOneUptoSaid : Prop := fnBestOneUptoRow.holds Try.pinned (OpenSpec.upto fnBestOneSpec)

/-- 'laws.FnFirstAllBound', WHERE WHAT IT READS IS OF BULK AT MOST 1048576: true; the input reads as it did. -/
def fnFirstAllBoundUptoRow : OpenClaim := { program := "ytipmoedflpjioaa", sum := "af637f57310caf0c8fe1f10fd4b0b67e509a9557ad26bb891853be316f4539d1", func := "loop.example/vectorpacker/laws.FnFirstAllBound", spec := "fnFirstAllBound", unfollowed := true, recurses := true, apart := false, narrowed := true }
def FnFirstAllBoundUptoSaid : Prop := fnFirstAllBoundUptoRow.holds Try.pinned (OpenSpec.upto fnFirstAllBoundSpec)

/-- 'laws.FnExactFirstAll', WHERE WHAT IT READS IS OF BULK AT MOST 1048576: true; the input reads as it did. -/
def fnExactFirstAllUptoRow : OpenClaim := { program := "ytipmoedflpjioaa", sum := "af637f57310caf0c8fe1f10fd4b0b67e509a9557ad26bb891853be316f4539d1", func := "loop.example/vectorpacker/laws.FnExactFirstAll", spec := "fnExactFirstAll", unfollowed := true, recurses := true, apart := false, narrowed := true }
def FnExactFirstAllUptoSaid : Prop := fnExactFirstAllUptoRow.holds Try.pinned (OpenSpec.upto fnExactFirstAllSpec)

/-- 'laws.FnBestScore', WHERE WHAT IT READS IS OF BULK AT MOST 1048576: true; the input reads as it did. -/
def fnBestScoreUptoRow : OpenClaim := { program := "ytipmoedflpjioaa", sum := "af637f57310caf0c8fe1f10fd4b0b67e509a9557ad26bb891853be316f4539d1", func := "loop.example/vectorpacker/laws.FnBestScore", spec := "fnBestScore", unfollowed := true, recurses := true, apart := false, narrowed := true }
def FnBestScoreUptoSaid : Prop := fnBestScoreUptoRow.holds Try.pinned (OpenSpec.upto fnBestScoreSpec)

/-- 'laws.FnBestAt', WHERE WHAT IT READS IS OF BULK AT MOST 1048576: true; the input reads as it did. -/
def fnBestAtUptoRow : OpenClaim := { program := "ytipmoedflpjioaa", sum := "af637f57310caf0c8fe1f10fd4b0b67e509a9557ad26bb891853be316f4539d1", func := "loop.example/vectorpacker/laws.FnBestAt", spec := "fnBestAt", unfollowed := true, recurses := true, apart := false, narrowed := true }
def FnBestAtUptoSaid : Prop := fnBestAtUptoRow.holds Try.pinned (OpenSpec.upto fnBestAtSpec)

/-- 'laws.FnFirstAllFull', WHERE WHAT IT READS IS OF BULK AT MOST 1048576: true; the input reads as it did. -/
def fnFirstAllFullUptoRow : OpenClaim := { program := "ytipmoedflpjioaa", sum := "af637f57310caf0c8fe1f10fd4b0b67e509a9557ad26bb891853be316f4539d1", func := "loop.example/vectorpacker/laws.FnFirstAllFull", spec := "fnFirstAllFull", unfollowed := true, recurses := true, apart := false, narrowed := true }
def FnFirstAllFullUptoSaid : Prop := fnFirstAllFullUptoRow.holds Try.pinned (OpenSpec.upto fnFirstAllFullSpec)

/-- 'laws.FnExactBestAt', WHERE WHAT IT READS IS OF BULK AT MOST 1048576: true; the input reads as it did. -/
def fnExactBestAtUptoRow : OpenClaim := { program := "ytipmoedflpjioaa", sum := "af637f57310caf0c8fe1f10fd4b0b67e509a9557ad26bb891853be316f4539d1", func := "loop.example/vectorpacker/laws.FnExactBestAt", spec := "fnExactBestAt", unfollowed := true, recurses := true, apart := false, narrowed := true }
def FnExactBestAtUptoSaid : Prop := fnExactBestAtUptoRow.holds Try.pinned (OpenSpec.upto fnExactBestAtSpec)

/-- 'laws.FnFirstAllTwice', WHERE WHAT IT READS IS OF BULK AT MOST 1048576: true; the input reads as it did. -/
def fnFirstAllTwiceUptoRow : OpenClaim := { program := "ytipmoedflpjioaa", sum := "af637f57310caf0c8fe1f10fd4b0b67e509a9557ad26bb891853be316f4539d1", func := "loop.example/vectorpacker/laws.FnFirstAllTwice", spec := "fnFirstAllTwice", unfollowed := true, recurses := true, apart := false, narrowed := true }
def FnFirstAllTwiceUptoSaid : Prop := fnFirstAllTwiceUptoRow.holds Try.pinned (OpenSpec.upto fnFirstAllTwiceSpec)

/-- 'laws.FnBestAtNone', WHERE WHAT IT READS IS OF BULK AT MOST 1048576: true; the input reads as it did. -/
def fnBestAtNoneUptoRow : OpenClaim := { program := "ytipmoedflpjioaa", sum := "af637f57310caf0c8fe1f10fd4b0b67e509a9557ad26bb891853be316f4539d1", func := "loop.example/vectorpacker/laws.FnBestAtNone", spec := "fnBestAtNone", unfollowed := true, recurses := true, apart := false, narrowed := true }
def FnBestAtNoneUptoSaid : Prop := fnBestAtNoneUptoRow.holds Try.pinned (OpenSpec.upto fnBestAtNoneSpec)

/-- 'laws.FnFirstAll', WHERE WHAT IT READS IS OF BULK AT MOST 1048576: true; the input reads as it did. -/
def fnFirstAllUptoRow : OpenClaim := { program := "ytipmoedflpjioaa", sum := "af637f57310caf0c8fe1f10fd4b0b67e509a9557ad26bb891853be316f4539d1", func := "loop.example/vectorpacker/laws.FnFirstAll", spec := "fnFirstAll", unfollowed := true, recurses := true, apart := false, narrowed := true }
def FnFirstAllUptoSaid : Prop := fnFirstAllUptoRow.holds Try.pinned (OpenSpec.upto fnFirstAllSpec)

/-- 'laws.FnExactBestAll', WHERE WHAT IT READS IS OF BULK AT MOST 1048576: true; the input reads as it did. -/
def fnExactBestAllUptoRow : OpenClaim := { program := "ytipmoedflpjioaa", sum := "af637f57310caf0c8fe1f10fd4b0b67e509a9557ad26bb891853be316f4539d1", func := "loop.example/vectorpacker/laws.FnExactBestAll", spec := "fnExactBestAll", unfollowed := true, recurses := true, apart := false, narrowed := true }
def FnExactBestAllUptoSaid : Prop := fnExactBestAllUptoRow.holds Try.pinned (OpenSpec.upto fnExactBestAllSpec)

/-- 'laws.FnFirstAllStep', WHERE WHAT IT READS IS OF BULK AT MOST 1048576: true; the input reads as it did. -/
def fnFirstAllStepUptoRow : OpenClaim := { program := "ytipmoedflpjioaa", sum := "af637f57310caf0c8fe1f10fd4b0b67e509a9557ad26bb891853be316f4539d1", func := "loop.example/vectorpacker/laws.FnFirstAllStep", spec := "fnFirstAllStep", unfollowed := true, recurses := true, apart := false, narrowed := true }
def FnFirstAllStepUptoSaid : Prop := fnFirstAllStepUptoRow.holds Try.pinned (OpenSpec.upto fnFirstAllStepSpec)

/-- 'laws.FnBestAllFull', WHERE WHAT IT READS IS OF BULK AT MOST 1048576: true; the input reads as it did. -/
def fnBestAllFullUptoRow : OpenClaim := { program := "ytipmoedflpjioaa", sum := "af637f57310caf0c8fe1f10fd4b0b67e509a9557ad26bb891853be316f4539d1", func := "loop.example/vectorpacker/laws.FnBestAllFull", spec := "fnBestAllFull", unfollowed := true, recurses := true, apart := false, narrowed := true }
def FnBestAllFullUptoSaid : Prop := fnBestAllFullUptoRow.holds Try.pinned (OpenSpec.upto fnBestAllFullSpec)

/-- 'laws.FnBestAllStep', WHERE WHAT IT READS IS OF BULK AT MOST 1048576: true; the input reads as it did. -/
def fnBestAllStepUptoRow : OpenClaim := { program := "ytipmoedflpjioaa", sum := "af637f57310caf0c8fe1f10fd4b0b67e509a9557ad26bb891853be316f4539d1", func := "loop.example/vectorpacker/laws.FnBestAllStep", spec := "fnBestAllStep", unfollowed := true, recurses := true, apart := false, narrowed := true }
def FnBestAllStepUptoSaid : Prop := fnBestAllStepUptoRow.holds Try.pinned (OpenSpec.upto fnBestAllStepSpec)

/-- 'laws.FnBestAll', WHERE WHAT IT READS IS OF BULK AT MOST 1048576: true; the input reads as it did. -/
def fnBestAllUptoRow : OpenClaim := { program := "ytipmoedflpjioaa", sum := "af637f57310caf0c8fe1f10fd4b0b67e509a9557ad26bb891853be316f4539d1", func := "loop.example/vectorpacker/laws.FnBestAll", spec := "fnBestAll", unfollowed := true, recurses := true, apart := false, narrowed := true }
def FnBestAllUptoSaid : Prop := fnBestAllUptoRow.holds Try.pinned (OpenSpec.upto fnBestAllSpec)

end Rows
end Go.Proofs.Ytipmoedflpjioaa
