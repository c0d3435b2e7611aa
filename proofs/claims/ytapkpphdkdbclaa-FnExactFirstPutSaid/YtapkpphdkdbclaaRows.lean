/-
  No cell of these rows narrows 'for every input' (looked for: loops, veiled, ifaces, maps, wideKeys, modest, calm, conditions, laid).
  DERIVED. THE GIVEN ROWS OF THIS SEAT. 12 by the template 'for every input the law returns true; each argument reads behind the call as it read before'; 0 by the template 'total and deterministic' (their statements: YtapkpphdkdbclaaTotals.lean).
  GIVEN WITH THE SEED: the statements are not yours to turn. If you find one false, say at which input.
  Laid BY PROGRAM, IN A SANDBOX (cutbox-rows.mjs): the forced cells as the released guide's own fill.sh prints them over the translation 2b48d3c03dd6e019… (all of the seat's roots in one cut). By AI agents, Wed Nov 11 2026. No macro, syntax, notation, axiom, sorry.
-/
import Derived.Test.YtapkpphdkdbclaaChecked
import GoSem.Claim
import GoSem.ClaimJoined
import GoSem.ClaimMapViews
import Derived.JoinedTies
import Derived.KernelRfl
namespace Go.Proofs.Ytapkpphdkdbclaa
/- THE CELL 'sum', in the pinned program and in every row, IS THE sha256 OF THE DUMP (.gsa) THAT YtapkpphdkdbclaaProg.lean LOADS. Nothing in Lean hashes anything: it is a label: what it is worth is what the hold of that sum in a sandbox is worth. -/
noncomputable def Try.pinned : Pinned := { name := "ytapkpphdkdbclaa", sum := "2b48d3c03dd6e019e42104bec3f1fa0f513661f84e990d33f0cbb0d85f8f0331", checked := Try.checked }
namespace Rows
def none {H : Type} : Left H := { results := [], args := [] }

/-- 'laws.FnExactPairsBroken': WHATEVER THE INPUT: true; the input reads as it did. -/
def fnExactPairsBrokenSpec : ChangeSpec := { name := "fnExactPairsBroken", fn := fun _ => fun
  | [d1, d2, d3] => { results := [.lit (.bool true)], args := [d1, d2, d3] }
  | _ => none }
def fnExactPairsBrokenRow : OpenClaim := { program := "ytapkpphdkdbclaa", sum := "2b48d3c03dd6e019e42104bec3f1fa0f513661f84e990d33f0cbb0d85f8f0331", func := "loop.example/vectorpacker/laws.FnExactPairsBroken", spec := "fnExactPairsBroken", unfollowed := true, recurses := true, apart := false }
def FnExactPairsBrokenSaid : Prop := fnExactPairsBrokenRow.holds Try.pinned (OpenSpec.ofChange fnExactPairsBrokenSpec)

/-- ITS FALSE NEIGHBOUR: 'it returns false'. Refute it at one input. -/
def fnExactPairsBrokenWrong : ChangeSpec := { name := "fnExactPairsBroken", fn := fun _ => fun
  | [d1, d2, d3] => { results := [.lit (.bool false)], args := [d1, d2, d3] }
  | _ => none }
def FnExactPairsBrokenWrongFalsely : Prop := fnExactPairsBrokenRow.holds Try.pinned (OpenSpec.ofChange fnExactPairsBrokenWrong)

/-- 'laws.FnFirstEmpty': WHATEVER THE INPUT: true; the input reads as it did. -/
def fnFirstEmptySpec : ChangeSpec := { name := "fnFirstEmpty", fn := fun _ => fun
  | [d] => { results := [.lit (.bool true)], args := [d] }
  | _ => none }
def fnFirstEmptyRow : OpenClaim := { program := "ytapkpphdkdbclaa", sum := "2b48d3c03dd6e019e42104bec3f1fa0f513661f84e990d33f0cbb0d85f8f0331", func := "loop.example/vectorpacker/laws.FnFirstEmpty", spec := "fnFirstEmpty", unfollowed := true, recurses := true, apart := false }
def FnFirstEmptySaid : Prop := fnFirstEmptyRow.holds Try.pinned (OpenSpec.ofChange fnFirstEmptySpec)

/-- ITS FALSE NEIGHBOUR: 'it returns false'. Refute it at one input. -/
def fnFirstEmptyWrong : ChangeSpec := { name := "fnFirstEmpty", fn := fun _ => fun
  | [d] => { results := [.lit (.bool false)], args := [d] }
  | _ => none }
def FnFirstEmptyWrongFalsely : Prop := fnFirstEmptyRow.holds Try.pinned (OpenSpec.ofChange fnFirstEmptyWrong)

/-- 'laws.FnFirstNone': WHATEVER THE INPUT: true; the input reads as it did. -/
def fnFirstNoneSpec : ChangeSpec := { name := "fnFirstNone", fn := fun _ => fun
  | [d] => { results := [.lit (.bool true)], args := [d] }
  | _ => none }
def fnFirstNoneRow : OpenClaim := { program := "ytapkpphdkdbclaa", sum := "2b48d3c03dd6e019e42104bec3f1fa0f513661f84e990d33f0cbb0d85f8f0331", func := "loop.example/vectorpacker/laws.FnFirstNone", spec := "fnFirstNone", unfollowed := true, recurses := true, apart := false }
def FnFirstNoneSaid : Prop := fnFirstNoneRow.holds Try.pinned (OpenSpec.ofChange fnFirstNoneSpec)

/-- ITS FALSE NEIGHBOUR: 'it returns false'. Refute it at one input. -/
def fnFirstNoneWrong : ChangeSpec := { name := "fnFirstNone", fn := fun _ => fun
  | [d] => { results := [.lit (.bool false)], args := [d] }
  | _ => none }
def FnFirstNoneWrongFalsely : Prop := fnFirstNoneRow.holds Try.pinned (OpenSpec.ofChange fnFirstNoneWrong)

/-- 'laws.FnNextNone': WHATEVER THE INPUT: true; the input reads as it did. -/
def fnNextNoneSpec : ChangeSpec := { name := "fnNextNone", fn := fun _ => fun
  | [d] => { results := [.lit (.bool true)], args := [d] }
  | _ => none }
def fnNextNoneRow : OpenClaim := { program := "ytapkpphdkdbclaa", sum := "2b48d3c03dd6e019e42104bec3f1fa0f513661f84e990d33f0cbb0d85f8f0331", func := "loop.example/vectorpacker/laws.FnNextNone", spec := "fnNextNone", unfollowed := true, recurses := true, apart := false }
def FnNextNoneSaid : Prop := fnNextNoneRow.holds Try.pinned (OpenSpec.ofChange fnNextNoneSpec)

/-- ITS FALSE NEIGHBOUR: 'it returns false'. Refute it at one input. -/
def fnNextNoneWrong : ChangeSpec := { name := "fnNextNone", fn := fun _ => fun
  | [d] => { results := [.lit (.bool false)], args := [d] }
  | _ => none }
def FnNextNoneWrongFalsely : Prop := fnNextNoneRow.holds Try.pinned (OpenSpec.ofChange fnNextNoneWrong)

/-- 'laws.FnExactGatherNext': WHATEVER THE INPUT: true; the input reads as it did. -/
def fnExactGatherNextSpec : ChangeSpec := { name := "fnExactGatherNext", fn := fun _ => fun
  | [d1, d2] => { results := [.lit (.bool true)], args := [d1, d2] }
  | _ => none }
def fnExactGatherNextRow : OpenClaim := { program := "ytapkpphdkdbclaa", sum := "2b48d3c03dd6e019e42104bec3f1fa0f513661f84e990d33f0cbb0d85f8f0331", func := "loop.example/vectorpacker/laws.FnExactGatherNext", spec := "fnExactGatherNext", unfollowed := true, recurses := true, apart := false }
def FnExactGatherNextSaid : Prop := fnExactGatherNextRow.holds Try.pinned (OpenSpec.ofChange fnExactGatherNextSpec)

/-- ITS FALSE NEIGHBOUR: 'it returns false'. Refute it at one input. -/
def fnExactGatherNextWrong : ChangeSpec := { name := "fnExactGatherNext", fn := fun _ => fun
  | [d1, d2] => { results := [.lit (.bool false)], args := [d1, d2] }
  | _ => none }
def FnExactGatherNextWrongFalsely : Prop := fnExactGatherNextRow.holds Try.pinned (OpenSpec.ofChange fnExactGatherNextWrong)

/-- 'laws.FnBrokenPart': WHATEVER THE INPUT: true; the input reads as it did. -/
def fnBrokenPartSpec : ChangeSpec := { name := "fnBrokenPart", fn := fun _ => fun
  | [d1, d2] => { results := [.lit (.bool true)], args := [d1, d2] }
  | _ => none }
def fnBrokenPartRow : OpenClaim := { program := "ytapkpphdkdbclaa", sum := "2b48d3c03dd6e019e42104bec3f1fa0f513661f84e990d33f0cbb0d85f8f0331", func := "loop.example/vectorpacker/laws.FnBrokenPart", spec := "fnBrokenPart", unfollowed := true, recurses := true, apart := false }
def FnBrokenPartSaid : Prop := fnBrokenPartRow.holds Try.pinned (OpenSpec.ofChange fnBrokenPartSpec)

/-- ITS FALSE NEIGHBOUR: 'it returns false'. Refute it at one input. -/
def fnBrokenPartWrong : ChangeSpec := { name := "fnBrokenPart", fn := fun _ => fun
  | [d1, d2] => { results := [.lit (.bool false)], args := [d1, d2] }
  | _ => none }
def FnBrokenPartWrongFalsely : Prop := fnBrokenPartRow.holds Try.pinned (OpenSpec.ofChange fnBrokenPartWrong)

/-- 'laws.FnBroken': WHATEVER THE INPUT: true; the input reads as it did. -/
def fnBrokenSpec : ChangeSpec := { name := "fnBroken", fn := fun _ => fun
  | [d] => { results := [.lit (.bool true)], args := [d] }
  | _ => none }
def fnBrokenRow : OpenClaim := { program := "ytapkpphdkdbclaa", sum := "2b48d3c03dd6e019e42104bec3f1fa0f513661f84e990d33f0cbb0d85f8f0331", func := "loop.example/vectorpacker/laws.FnBroken", spec := "fnBroken", unfollowed := true, recurses := true, apart := false }
def FnBrokenSaid : Prop := fnBrokenRow.holds Try.pinned (OpenSpec.ofChange fnBrokenSpec)

/-- ITS FALSE NEIGHBOUR: 'it returns false'. Refute it at one input. -/
def fnBrokenWrong : ChangeSpec := { name := "fnBroken", fn := fun _ => fun
  | [d] => { results := [.lit (.bool false)], args := [d] }
  | _ => none }
def FnBrokenWrongFalsely : Prop := fnBrokenRow.holds Try.pinned (OpenSpec.ofChange fnBrokenWrong)

/-- 'laws.FnFirstPut': WHATEVER THE INPUT: true; the input reads as it did. -/
def fnFirstPutSpec : ChangeSpec := { name := "fnFirstPut", fn := fun _ => fun
  | [d] => { results := [.lit (.bool true)], args := [d] }
  | _ => none }
def fnFirstPutRow : OpenClaim := { program := "ytapkpphdkdbclaa", sum := "2b48d3c03dd6e019e42104bec3f1fa0f513661f84e990d33f0cbb0d85f8f0331", func := "loop.example/vectorpacker/laws.FnFirstPut", spec := "fnFirstPut", unfollowed := true, recurses := true, apart := false }
def FnFirstPutSaid : Prop := fnFirstPutRow.holds Try.pinned (OpenSpec.ofChange fnFirstPutSpec)

/-- ITS FALSE NEIGHBOUR: 'it returns false'. Refute it at one input. -/
def fnFirstPutWrong : ChangeSpec := { name := "fnFirstPut", fn := fun _ => fun
  | [d] => { results := [.lit (.bool false)], args := [d] }
  | _ => none }
def FnFirstPutWrongFalsely : Prop := fnFirstPutRow.holds Try.pinned (OpenSpec.ofChange fnFirstPutWrong)

/-- 'laws.FnBrokenAlone': WHATEVER THE INPUT: true; the input reads as it did. -/
def fnBrokenAloneSpec : ChangeSpec := { name := "fnBrokenAlone", fn := fun _ => fun
  | [d] => { results := [.lit (.bool true)], args := [d] }
  | _ => none }
def fnBrokenAloneRow : OpenClaim := { program := "ytapkpphdkdbclaa", sum := "2b48d3c03dd6e019e42104bec3f1fa0f513661f84e990d33f0cbb0d85f8f0331", func := "loop.example/vectorpacker/laws.FnBrokenAlone", spec := "fnBrokenAlone", unfollowed := true, recurses := true, apart := false }
def FnBrokenAloneSaid : Prop := fnBrokenAloneRow.holds Try.pinned (OpenSpec.ofChange fnBrokenAloneSpec)

/-- ITS FALSE NEIGHBOUR: 'it returns false'. Refute it at one input. -/
def fnBrokenAloneWrong : ChangeSpec := { name := "fnBrokenAlone", fn := fun _ => fun
  | [d] => { results := [.lit (.bool false)], args := [d] }
  | _ => none }
def FnBrokenAloneWrongFalsely : Prop := fnBrokenAloneRow.holds Try.pinned (OpenSpec.ofChange fnBrokenAloneWrong)

/-- 'laws.FnExactMovesOf': WHATEVER THE INPUT: true; the input reads as it did. -/
def fnExactMovesOfSpec : ChangeSpec := { name := "fnExactMovesOf", fn := fun _ => fun
  | [d1, d2] => { results := [.lit (.bool true)], args := [d1, d2] }
  | _ => none }
def fnExactMovesOfRow : OpenClaim := { program := "ytapkpphdkdbclaa", sum := "2b48d3c03dd6e019e42104bec3f1fa0f513661f84e990d33f0cbb0d85f8f0331", func := "loop.example/vectorpacker/laws.FnExactMovesOf", spec := "fnExactMovesOf", unfollowed := true, recurses := true, apart := false }
def FnExactMovesOfSaid : Prop := fnExactMovesOfRow.holds Try.pinned (OpenSpec.ofChange fnExactMovesOfSpec)

/-- ITS FALSE NEIGHBOUR: 'it returns false'. Refute it at one input. -/
def fnExactMovesOfWrong : ChangeSpec := { name := "fnExactMovesOf", fn := fun _ => fun
  | [d1, d2] => { results := [.lit (.bool false)], args := [d1, d2] }
  | _ => none }
def FnExactMovesOfWrongFalsely : Prop := fnExactMovesOfRow.holds Try.pinned (OpenSpec.ofChange fnExactMovesOfWrong)

/-- 'laws.FnFirstPutWhere': WHATEVER THE INPUT: true; the input reads as it did. -/
def fnFirstPutWhereSpec : ChangeSpec := { name := "fnFirstPutWhere", fn := fun _ => fun
  | [d] => { results := [.lit (.bool true)], args := [d] }
  | _ => none }
def fnFirstPutWhereRow : OpenClaim := { program := "ytapkpphdkdbclaa", sum := "2b48d3c03dd6e019e42104bec3f1fa0f513661f84e990d33f0cbb0d85f8f0331", func := "loop.example/vectorpacker/laws.FnFirstPutWhere", spec := "fnFirstPutWhere", unfollowed := true, recurses := true, apart := false }
def FnFirstPutWhereSaid : Prop := fnFirstPutWhereRow.holds Try.pinned (OpenSpec.ofChange fnFirstPutWhereSpec)

/-- ITS FALSE NEIGHBOUR: 'it returns false'. Refute it at one input. -/
def fnFirstPutWhereWrong : ChangeSpec := { name := "fnFirstPutWhere", fn := fun _ => fun
  | [d] => { results := [.lit (.bool false)], args := [d] }
  | _ => none }
def FnFirstPutWhereWrongFalsely : Prop := fnFirstPutWhereRow.holds Try.pinned (OpenSpec.ofChange fnFirstPutWhereWrong)

/-- 'laws.FnExactFirstPut': WHATEVER THE INPUT: true; the input reads as it did. -/
def fnExactFirstPutSpec : ChangeSpec := { name := "fnExactFirstPut", fn := fun _ => fun
  | [d1, d2, d3] => { results := [.lit (.bool true)], args := [d1, d2, d3] }
  | _ => none }
def fnExactFirstPutRow : OpenClaim := { program := "ytapkpphdkdbclaa", sum := "2b48d3c03dd6e019e42104bec3f1fa0f513661f84e990d33f0cbb0d85f8f0331", func := "loop.example/vectorpacker/laws.FnExactFirstPut", spec := "fnExactFirstPut", unfollowed := true, recurses := true, apart := false }
def FnExactFirstPutSaid : Prop := fnExactFirstPutRow.holds Try.pinned (OpenSpec.ofChange fnExactFirstPutSpec)

/-- ITS FALSE NEIGHBOUR: 'it returns false'. Refute it at one input. -/
def fnExactFirstPutWrong : ChangeSpec := { name := "fnExactFirstPut", fn := fun _ => fun
  | [d1, d2, d3] => { results := [.lit (.bool false)], args := [d1, d2, d3] }
  | _ => none }
def FnExactFirstPutWrongFalsely : Prop := fnExactFirstPutRow.holds Try.pinned (OpenSpec.ofChange fnExactFirstPutWrong)

/- THE SECOND FORM. 'bulk': how many values and letters a reading holds, each counted each time it is reached (what is shared counts as often as it is met; a slice's spare places count too). A statement '..UptoSaid' is the law's where the arguments, and the package variables that the reading takes, are together of bulk at most 1048576: NARROWER than '..Said'. Prove '..Said' where nothing that the law and all that it calls make is longer than what came in: it says more and counts as full. Else prove '..UptoSaid'. A law counts once. -/
mutual
def uptoBulk {H : Type} : DataW H → Nat
  | .lit (.string bytes) => bytes.length + 1
  | .lit _ => 1
  | .nil => 1
  | .ptr d => uptoBulk d + 1
  | .slice elems spare => uptoBulkAll elems + uptoBulkAll spare + 1
  | .agg parts => uptoBulkAll parts + 1
  | .iface _ d => uptoBulk d + 1
  | .map entries => uptoBulkEntries entries + 1
  | .held _ => 1
def uptoBulkAll {H : Type} : List (DataW H) → Nat
  | [] => 0
  | d :: r => uptoBulk d + uptoBulkAll r
def uptoBulkEntries {H : Type} : List (Lit × DataW H) → Nat
  | [] => 0
  | x :: r => uptoBulkEntry x + uptoBulkEntries r
def uptoBulkEntry {H : Type} : Lit × DataW H → Nat
  | (.string bytes, d) => bytes.length + uptoBulk d + 1
  | (_, d) => uptoBulk d + 1
 end
def uptoSmall : (H : Type) → List (DataW H) → Bool := fun _ ds => decide (uptoBulkAll ds ≤ 1048576)
def OpenSpec.upto (s : _root_.Go.ChangeSpec) : _root_.Go.OpenSpec := { _root_.Go.OpenSpec.ofChange s with cond := some uptoSmall }

/-- 'laws.FnExactPairsBroken', WHERE WHAT IT READS IS OF BULK AT MOST 1048576: true; the input reads as it did. -/
def fnExactPairsBrokenUptoRow : OpenClaim := { program := "ytapkpphdkdbclaa", sum := "2b48d3c03dd6e019e42104bec3f1fa0f513661f84e990d33f0cbb0d85f8f0331", func := "loop.example/vectorpacker/laws.FnExactPairsBroken", spec := "fnExactPairsBroken", unfollowed := true, recurses := true, apart := false, narrowed := true }
def FnExactPairsBrokenUptoSaid : Prop := fnExactPairsBrokenUptoRow.holds Try.pinned (OpenSpec.upto fnExactPairsBrokenSpec)

/-- 'laws.FnFirstEmpty', WHERE WHAT IT READS IS OF BULK AT MOST 1048576: true; the input reads as it did. -/
def fnFirstEmptyUptoRow : OpenClaim := { program := "ytapkpphdkdbclaa", sum := "2b48d3c03dd6e019e42104bec3f1fa0f513661f84e990d33f0cbb0d85f8f0331", func := "loop.example/vectorpacker/laws.FnFirstEmpty", spec := "fnFirstEmpty", unfollowed := true, recurses := true, apart := false, narrowed := true }
def FnFirstEmptyUptoSaid : Prop := fnFirstEmptyUptoRow.holds Try.pinned (OpenSpec.upto fnFirstEmptySpec)

/-- 'laws.FnFirstNone', WHERE WHAT IT READS IS OF BULK AT MOST 1048576: true; the input reads as it did. -/
def fnFirstNoneUptoRow : OpenClaim := { program := "ytapkpphdkdbclaa", sum := "2b48d3c03dd6e019e42104bec3f1fa0f513661f84e990d33f0cbb0d85f8f0331", func := "loop.example/vectorpacker/laws.FnFirstNone", spec := "fnFirstNone", unfollowed := true, recurses := true, apart := false, narrowed := true }
def FnFirstNoneUptoSaid : Prop := fnFirstNoneUptoRow.holds Try.pinned (OpenSpec.upto fnFirstNoneSpec)

/-- 'laws.FnNextNone', WHERE WHAT IT READS IS OF BULK AT MOST 1048576: true; the input reads as it did. -/
def fnNextNoneUptoRow : OpenClaim := { program := "ytapkpphdkdbclaa", sum := "2b48d3c03dd6e019e42104bec3f1fa0f513661f84e990d33f0cbb0d85f8f0331", func := "loop.example/vectorpacker/laws.FnNextNone", spec := "fnNextNone", unfollowed := true, recurses := true, apart := false, narrowed := true }
def FnNextNoneUptoSaid : Prop := fnNextNoneUptoRow.holds Try.pinned (OpenSpec.upto fnNextNoneSpec)

/-- 'laws.FnExactGatherNext', WHERE WHAT IT READS IS OF BULK AT MOST 1048576: true; the input reads as it did. -/
def fnExactGatherNextUptoRow : OpenClaim := { program := "ytapkpphdkdbclaa", sum := "2b48d3c03dd6e019e42104bec3f1fa0f513661f84e990d33f0cbb0d85f8f0331", func := "loop.example/vectorpacker/laws.FnExactGatherNext", spec := "fnExactGatherNext", unfollowed := true, recurses := true, apart := false, narrowed := true }
def FnExactGatherNextUptoSaid : Prop := fnExactGatherNextUptoRow.holds Try.pinned (OpenSpec.upto fnExactGatherNextSpec)

/-- 'laws.FnBrokenPart', WHERE WHAT IT READS IS OF BULK AT MOST 1048576: true; the input reads as it did. -/
def fnBrokenPartUptoRow : OpenClaim := { program := "ytapkpphdkdbclaa", sum := "2b48d3c03dd6e019e42104bec3f1fa0f513661f84e990d33f0cbb0d85f8f0331", func := "loop.example/vectorpacker/laws.FnBrokenPart", spec := "fnBrokenPart", unfollowed := true, recurses := true, apart := false, narrowed := true }
def FnBrokenPartUptoSaid : Prop := fnBrokenPartUptoRow.holds Try.pinned (OpenSpec.upto fnBrokenPartSpec)

/-- 'laws.FnBroken', WHERE WHAT IT READS IS OF BULK AT MOST 1048576: true; the input reads as it did. -/
def fnBrokenUptoRow : OpenClaim := { program := "ytapkpphdkdbclaa", sum := "2b48d3c03dd6e019e42104bec3f1fa0f513661f84e990d33f0cbb0d85f8f0331", func := "loop.example/vectorpacker/laws.FnBroken", spec := "fnBroken", unfollowed := true, recurses := true, apart := false, narrowed := true }
def FnBrokenUptoSaid : Prop := fnBrokenUptoRow.holds Try.pinned (OpenSpec.upto fnBrokenSpec)

/-- 'laws.FnFirstPut', WHERE WHAT IT READS IS OF BULK AT MOST 1048576: true; the input reads as it did. -/
def fnFirstPutUptoRow : OpenClaim := { program := "ytapkpphdkdbclaa", sum := "2b48d3c03dd6e019e42104bec3f1fa0f513661f84e990d33f0cbb0d85f8f0331", func := "loop.example/vectorpacker/laws.FnFirstPut", spec := "fnFirstPut", unfollowed := true, recurses := true, apart := false, narrowed := true }
def FnFirstPutUptoSaid : Prop := fnFirstPutUptoRow.holds Try.pinned (OpenSpec.upto fnFirstPutSpec)

/-- 'laws.FnBrokenAlone', WHERE WHAT IT READS IS OF BULK AT MOST 1048576: true; the input reads as it did. -/
def fnBrokenAloneUptoRow : OpenClaim := { program := "ytapkpphdkdbclaa", sum := "2b48d3c03dd6e019e42104bec3f1fa0f513661f84e990d33f0cbb0d85f8f0331", func := "loop.example/vectorpacker/laws.FnBrokenAlone", spec := "fnBrokenAlone", unfollowed := true, recurses := true, apart := false, narrowed := true }
def FnBrokenAloneUptoSaid : Prop := fnBrokenAloneUptoRow.holds Try.pinned (OpenSpec.upto fnBrokenAloneSpec)

/-- 'laws.FnExactMovesOf', WHERE WHAT IT READS IS OF BULK AT MOST 1048576: true; the input reads as it did. -/
def fnExactMovesOfUptoRow : OpenClaim := { program := "ytapkpphdkdbclaa", sum := "2b48d3c03dd6e019e42104bec3f1fa0f513661f84e990d33f0cbb0d85f8f0331", func := "loop.example/vectorpacker/laws.FnExactMovesOf", spec := "fnExactMovesOf", unfollowed := true, recurses := true, apart := false, narrowed := true }
def FnExactMovesOfUptoSaid : Prop := fnExactMovesOfUptoRow.holds Try.pinned (OpenSpec.upto fnExactMovesOfSpec)

/-- 'laws.FnFirstPutWhere', WHERE WHAT IT READS IS OF BULK AT MOST 1048576: true; the input reads as it did. -/
def fnFirstPutWhereUptoRow : OpenClaim := { program := "ytapkpphdkdbclaa", sum := "2b48d3c03dd6e019e42104bec3f1fa0f513661f84e990d33f0cbb0d85f8f0331", func := "loop.example/vectorpacker/laws.FnFirstPutWhere", spec := "fnFirstPutWhere", unfollowed := true, recurses := true, apart := false, narrowed := true }
def FnFirstPutWhereUptoSaid : Prop := fnFirstPutWhereUptoRow.holds Try.pinned (OpenSpec.upto fnFirstPutWhereSpec)

/-- 'laws.FnExactFirstPut', WHERE WHAT IT READS IS OF BULK AT MOST 1048576: true; the input reads as it did. -/
def fnExactFirstPutUptoRow : OpenClaim := { program := "ytapkpphdkdbclaa", sum := "2b48d3c03dd6e019e42104bec3f1fa0f513661f84e990d33f0cbb0d85f8f0331", func := "loop.example/vectorpacker/laws.FnExactFirstPut", spec := "fnExactFirstPut", unfollowed := true, recurses := true, apart := false, narrowed := true }
def FnExactFirstPutUptoSaid : Prop := fnExactFirstPutUptoRow.holds Try.pinned (OpenSpec.upto fnExactFirstPutSpec)

end Rows
end Go.Proofs.Ytapkpphdkdbclaa
