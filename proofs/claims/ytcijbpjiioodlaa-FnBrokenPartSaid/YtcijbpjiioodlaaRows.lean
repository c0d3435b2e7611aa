/-
  No cell of these rows narrows 'for every input' (looked for: loops, veiled, ifaces, maps, wideKeys, modest, calm, conditions, laid).
  DERIVED. THE GIVEN ROWS OF THIS SEAT. 17 by the template 'for every input the law returns true; each argument reads behind the call as it read before'; 0 by the template 'total and deterministic' (their statements: YtcijbpjiioodlaaTotals.lean).
  GIVEN WITH THE SEED: the statements are not yours to turn. If you find one false, say at which input.
  Laid BY PROGRAM, IN A SANDBOX (cutbox-rows.mjs): the forced cells as the released guide's own fill.sh prints them over the translation 0ebfc12cd462e56e… (all of the seat's roots in one cut). By AI agents, Wed Nov 11 2026. No macro, syntax, notation, axiom, sorry.
-/
import Derived.Test.YtcijbpjiioodlaaChecked
import GoSem.Claim
import GoSem.ClaimJoined
import GoSem.ClaimMapViews
import Derived.JoinedTies
import Derived.KernelRfl
namespace Go.Proofs.Ytcijbpjiioodlaa
/- THE CELL 'sum', in the pinned program and in every row, IS THE sha256 OF THE DUMP (.gsa) THAT YtcijbpjiioodlaaProg.lean LOADS. Nothing in Lean hashes anything: it is a label: what it is worth is what the hold of that sum in a sandbox is worth. -/
noncomputable def Try.pinned : Pinned := { name := "ytcijbpjiioodlaa", sum := "0ebfc12cd462e56e9a35a7691b9dbe11996d1218b535d4f2a46d732da8f806c0", checked := Try.checked }
namespace Rows
def none {H : Type} : Left H := { results := [], args := [] }

/-- 'laws.FnExactClusterValid': WHATEVER THE INPUT: true; the input reads as it did. -/
def fnExactClusterValidSpec : ChangeSpec := { name := "fnExactClusterValid", fn := fun _ => fun
  | [d] => { results := [.lit (.bool true)], args := [d] }
  | _ => none }
def fnExactClusterValidRow : OpenClaim := { program := "ytcijbpjiioodlaa", sum := "0ebfc12cd462e56e9a35a7691b9dbe11996d1218b535d4f2a46d732da8f806c0", func := "loop.example/vectorpacker/laws.FnExactClusterValid", spec := "fnExactClusterValid", unfollowed := true, recurses := true, apart := false }
def FnExactClusterValidSaid : Prop := fnExactClusterValidRow.holds Try.pinned (OpenSpec.ofChange fnExactClusterValidSpec)

/-- ITS FALSE NEIGHBOUR: 'it returns false'. Refute it at one input. -/
def fnExactClusterValidWrong : ChangeSpec := { name := "fnExactClusterValid", fn := fun _ => fun
  | [d] => { results := [.lit (.bool false)], args := [d] }
  | _ => none }
def FnExactClusterValidWrongFalsely : Prop := fnExactClusterValidRow.holds Try.pinned (OpenSpec.ofChange fnExactClusterValidWrong)

/-- 'laws.FnClusterPart': WHATEVER THE INPUT: true; the input reads as it did. -/
def fnClusterPartSpec : ChangeSpec := { name := "fnClusterPart", fn := fun _ => fun
  | [d1, d2] => { results := [.lit (.bool true)], args := [d1, d2] }
  | _ => none }
def fnClusterPartRow : OpenClaim := { program := "ytcijbpjiioodlaa", sum := "0ebfc12cd462e56e9a35a7691b9dbe11996d1218b535d4f2a46d732da8f806c0", func := "loop.example/vectorpacker/laws.FnClusterPart", spec := "fnClusterPart", unfollowed := true, recurses := true, apart := false }
def FnClusterPartSaid : Prop := fnClusterPartRow.holds Try.pinned (OpenSpec.ofChange fnClusterPartSpec)

/-- ITS FALSE NEIGHBOUR: 'it returns false'. Refute it at one input. -/
def fnClusterPartWrong : ChangeSpec := { name := "fnClusterPart", fn := fun _ => fun
  | [d1, d2] => { results := [.lit (.bool false)], args := [d1, d2] }
  | _ => none }
def FnClusterPartWrongFalsely : Prop := fnClusterPartRow.holds Try.pinned (OpenSpec.ofChange fnClusterPartWrong)

/-- 'laws.FnExactClusterWhere': WHATEVER THE INPUT: true; the input reads as it did. -/
def fnExactClusterWhereSpec : ChangeSpec := { name := "fnExactClusterWhere", fn := fun _ => fun
  | [d1, d2] => { results := [.lit (.bool true)], args := [d1, d2] }
  | _ => none }
def fnExactClusterWhereRow : OpenClaim := { program := "ytcijbpjiioodlaa", sum := "0ebfc12cd462e56e9a35a7691b9dbe11996d1218b535d4f2a46d732da8f806c0", func := "loop.example/vectorpacker/laws.FnExactClusterWhere", spec := "fnExactClusterWhere", unfollowed := true, recurses := true, apart := false }
def FnExactClusterWhereSaid : Prop := fnExactClusterWhereRow.holds Try.pinned (OpenSpec.ofChange fnExactClusterWhereSpec)

/-- ITS FALSE NEIGHBOUR: 'it returns false'. Refute it at one input. -/
def fnExactClusterWhereWrong : ChangeSpec := { name := "fnExactClusterWhere", fn := fun _ => fun
  | [d1, d2] => { results := [.lit (.bool false)], args := [d1, d2] }
  | _ => none }
def FnExactClusterWhereWrongFalsely : Prop := fnExactClusterWhereRow.holds Try.pinned (OpenSpec.ofChange fnExactClusterWhereWrong)

/-- 'laws.FnClusterWhere': WHATEVER THE INPUT: true; the input reads as it did. -/
def fnClusterWhereSpec : ChangeSpec := { name := "fnClusterWhere", fn := fun _ => fun
  | [d] => { results := [.lit (.bool true)], args := [d] }
  | _ => none }
def fnClusterWhereRow : OpenClaim := { program := "ytcijbpjiioodlaa", sum := "0ebfc12cd462e56e9a35a7691b9dbe11996d1218b535d4f2a46d732da8f806c0", func := "loop.example/vectorpacker/laws.FnClusterWhere", spec := "fnClusterWhere", unfollowed := true, recurses := true, apart := false }
def FnClusterWhereSaid : Prop := fnClusterWhereRow.holds Try.pinned (OpenSpec.ofChange fnClusterWhereSpec)

/-- ITS FALSE NEIGHBOUR: 'it returns false'. Refute it at one input. -/
def fnClusterWhereWrong : ChangeSpec := { name := "fnClusterWhere", fn := fun _ => fun
  | [d] => { results := [.lit (.bool false)], args := [d] }
  | _ => none }
def FnClusterWhereWrongFalsely : Prop := fnClusterWhereRow.holds Try.pinned (OpenSpec.ofChange fnClusterWhereWrong)

/-- 'laws.FnCounts': WHATEVER THE INPUT: true; the input reads as it did. -/
def fnCountsSpec : ChangeSpec := { name := "fnCounts", fn := fun _ => fun
  | [d] => { results := [.lit (.bool true)], args := [d] }
  | _ => none }
def fnCountsRow : OpenClaim := { program := "ytcijbpjiioodlaa", sum := "0ebfc12cd462e56e9a35a7691b9dbe11996d1218b535d4f2a46d732da8f806c0", func := "loop.example/vectorpacker/laws.FnCounts", spec := "fnCounts", unfollowed := true, recurses := true, apart := false }
def FnCountsSaid : Prop := fnCountsRow.holds Try.pinned (OpenSpec.ofChange fnCountsSpec)

/-- ITS FALSE NEIGHBOUR: 'it returns false'. Refute it at one input. -/
def fnCountsWrong : ChangeSpec := { name := "fnCounts", fn := fun _ => fun
  | [d] => { results := [.lit (.bool false)], args := [d] }
  | _ => none }
def FnCountsWrongFalsely : Prop := fnCountsRow.holds Try.pinned (OpenSpec.ofChange fnCountsWrong)

/-- 'laws.FnExactClusterCounts': WHATEVER THE INPUT: true; the input reads as it did. -/
def fnExactClusterCountsSpec : ChangeSpec := { name := "fnExactClusterCounts", fn := fun _ => fun
  | [d] => { results := [.lit (.bool true)], args := [d] }
  | _ => none }
def fnExactClusterCountsRow : OpenClaim := { program := "ytcijbpjiioodlaa", sum := "0ebfc12cd462e56e9a35a7691b9dbe11996d1218b535d4f2a46d732da8f806c0", func := "loop.example/vectorpacker/laws.FnExactClusterCounts", spec := "fnExactClusterCounts", unfollowed := true, recurses := true, apart := false }
def FnExactClusterCountsSaid : Prop := fnExactClusterCountsRow.holds Try.pinned (OpenSpec.ofChange fnExactClusterCountsSpec)

/-- ITS FALSE NEIGHBOUR: 'it returns false'. Refute it at one input. -/
def fnExactClusterCountsWrong : ChangeSpec := { name := "fnExactClusterCounts", fn := fun _ => fun
  | [d] => { results := [.lit (.bool false)], args := [d] }
  | _ => none }
def FnExactClusterCountsWrongFalsely : Prop := fnExactClusterCountsRow.holds Try.pinned (OpenSpec.ofChange fnExactClusterCountsWrong)

/-- 'laws.FnExactSpareCount': WHATEVER THE INPUT: true; the input reads as it did. -/
def fnExactSpareCountSpec : ChangeSpec := { name := "fnExactSpareCount", fn := fun _ => fun
  | [d1, d2] => { results := [.lit (.bool true)], args := [d1, d2] }
  | _ => none }
def fnExactSpareCountRow : OpenClaim := { program := "ytcijbpjiioodlaa", sum := "0ebfc12cd462e56e9a35a7691b9dbe11996d1218b535d4f2a46d732da8f806c0", func := "loop.example/vectorpacker/laws.FnExactSpareCount", spec := "fnExactSpareCount", unfollowed := true, recurses := true, apart := false }
def FnExactSpareCountSaid : Prop := fnExactSpareCountRow.holds Try.pinned (OpenSpec.ofChange fnExactSpareCountSpec)

/-- ITS FALSE NEIGHBOUR: 'it returns false'. Refute it at one input. -/
def fnExactSpareCountWrong : ChangeSpec := { name := "fnExactSpareCount", fn := fun _ => fun
  | [d1, d2] => { results := [.lit (.bool false)], args := [d1, d2] }
  | _ => none }
def FnExactSpareCountWrongFalsely : Prop := fnExactSpareCountRow.holds Try.pinned (OpenSpec.ofChange fnExactSpareCountWrong)

/-- 'laws.FnExactPairsBroken': WHATEVER THE INPUT: true; the input reads as it did. -/
def fnExactPairsBrokenSpec : ChangeSpec := { name := "fnExactPairsBroken", fn := fun _ => fun
  | [d1, d2, d3] => { results := [.lit (.bool true)], args := [d1, d2, d3] }
  | _ => none }
def fnExactPairsBrokenRow : OpenClaim := { program := "ytcijbpjiioodlaa", sum := "0ebfc12cd462e56e9a35a7691b9dbe11996d1218b535d4f2a46d732da8f806c0", func := "loop.example/vectorpacker/laws.FnExactPairsBroken", spec := "fnExactPairsBroken", unfollowed := true, recurses := true, apart := false }
def FnExactPairsBrokenSaid : Prop := fnExactPairsBrokenRow.holds Try.pinned (OpenSpec.ofChange fnExactPairsBrokenSpec)

/-- ITS FALSE NEIGHBOUR: 'it returns false'. Refute it at one input. -/
def fnExactPairsBrokenWrong : ChangeSpec := { name := "fnExactPairsBroken", fn := fun _ => fun
  | [d1, d2, d3] => { results := [.lit (.bool false)], args := [d1, d2, d3] }
  | _ => none }
def FnExactPairsBrokenWrongFalsely : Prop := fnExactPairsBrokenRow.holds Try.pinned (OpenSpec.ofChange fnExactPairsBrokenWrong)

/-- 'laws.FnBrokenPart': WHATEVER THE INPUT: true; the input reads as it did. -/
def fnBrokenPartSpec : ChangeSpec := { name := "fnBrokenPart", fn := fun _ => fun
  | [d1, d2] => { results := [.lit (.bool true)], args := [d1, d2] }
  | _ => none }
def fnBrokenPartRow : OpenClaim := { program := "ytcijbpjiioodlaa", sum := "0ebfc12cd462e56e9a35a7691b9dbe11996d1218b535d4f2a46d732da8f806c0", func := "loop.example/vectorpacker/laws.FnBrokenPart", spec := "fnBrokenPart", unfollowed := true, recurses := true, apart := false }
def FnBrokenPartSaid : Prop := fnBrokenPartRow.holds Try.pinned (OpenSpec.ofChange fnBrokenPartSpec)

/-- ITS FALSE NEIGHBOUR: 'it returns false'. Refute it at one input. -/
def fnBrokenPartWrong : ChangeSpec := { name := "fnBrokenPart", fn := fun _ => fun
  | [d1, d2] => { results := [.lit (.bool false)], args := [d1, d2] }
  | _ => none }
def FnBrokenPartWrongFalsely : Prop := fnBrokenPartRow.holds Try.pinned (OpenSpec.ofChange fnBrokenPartWrong)

/-- 'laws.FnBroken': WHATEVER THE INPUT: true; the input reads as it did. -/
def fnBrokenSpec : ChangeSpec := { name := "fnBroken", fn := fun _ => fun
  | [d] => { results := [.lit (.bool true)], args := [d] }
  | _ => none }
def fnBrokenRow : OpenClaim := { program := "ytcijbpjiioodlaa", sum := "0ebfc12cd462e56e9a35a7691b9dbe11996d1218b535d4f2a46d732da8f806c0", func := "loop.example/vectorpacker/laws.FnBroken", spec := "fnBroken", unfollowed := true, recurses := true, apart := false }
def FnBrokenSaid : Prop := fnBrokenRow.holds Try.pinned (OpenSpec.ofChange fnBrokenSpec)

/-- ITS FALSE NEIGHBOUR: 'it returns false'. Refute it at one input. -/
def fnBrokenWrong : ChangeSpec := { name := "fnBroken", fn := fun _ => fun
  | [d] => { results := [.lit (.bool false)], args := [d] }
  | _ => none }
def FnBrokenWrongFalsely : Prop := fnBrokenRow.holds Try.pinned (OpenSpec.ofChange fnBrokenWrong)

/-- 'laws.FnBrokenAlone': WHATEVER THE INPUT: true; the input reads as it did. -/
def fnBrokenAloneSpec : ChangeSpec := { name := "fnBrokenAlone", fn := fun _ => fun
  | [d] => { results := [.lit (.bool true)], args := [d] }
  | _ => none }
def fnBrokenAloneRow : OpenClaim := { program := "ytcijbpjiioodlaa", sum := "0ebfc12cd462e56e9a35a7691b9dbe11996d1218b535d4f2a46d732da8f806c0", func := "loop.example/vectorpacker/laws.FnBrokenAlone", spec := "fnBrokenAlone", unfollowed := true, recurses := true, apart := false }
def FnBrokenAloneSaid : Prop := fnBrokenAloneRow.holds Try.pinned (OpenSpec.ofChange fnBrokenAloneSpec)

/-- ITS FALSE NEIGHBOUR: 'it returns false'. Refute it at one input. -/
def fnBrokenAloneWrong : ChangeSpec := { name := "fnBrokenAlone", fn := fun _ => fun
  | [d] => { results := [.lit (.bool false)], args := [d] }
  | _ => none }
def FnBrokenAloneWrongFalsely : Prop := fnBrokenAloneRow.holds Try.pinned (OpenSpec.ofChange fnBrokenAloneWrong)

/-- 'laws.FnDown': WHATEVER THE INPUT: true; the input reads as it did. -/
def fnDownSpec : ChangeSpec := { name := "fnDown", fn := fun _ => fun
  | [d] => { results := [.lit (.bool true)], args := [d] }
  | _ => none }
def fnDownRow : OpenClaim := { program := "ytcijbpjiioodlaa", sum := "0ebfc12cd462e56e9a35a7691b9dbe11996d1218b535d4f2a46d732da8f806c0", func := "loop.example/vectorpacker/laws.FnDown", spec := "fnDown", unfollowed := true, recurses := true, apart := false }
def FnDownSaid : Prop := fnDownRow.holds Try.pinned (OpenSpec.ofChange fnDownSpec)

/-- ITS FALSE NEIGHBOUR: 'it returns false'. Refute it at one input. -/
def fnDownWrong : ChangeSpec := { name := "fnDown", fn := fun _ => fun
  | [d] => { results := [.lit (.bool false)], args := [d] }
  | _ => none }
def FnDownWrongFalsely : Prop := fnDownRow.holds Try.pinned (OpenSpec.ofChange fnDownWrong)

/-- 'laws.FnSortPart': WHATEVER THE INPUT: true; the input reads as it did. -/
def fnSortPartSpec : ChangeSpec := { name := "fnSortPart", fn := fun _ => fun
  | [d1, d2] => { results := [.lit (.bool true)], args := [d1, d2] }
  | _ => none }
def fnSortPartRow : OpenClaim := { program := "ytcijbpjiioodlaa", sum := "0ebfc12cd462e56e9a35a7691b9dbe11996d1218b535d4f2a46d732da8f806c0", func := "loop.example/vectorpacker/laws.FnSortPart", spec := "fnSortPart", unfollowed := true, recurses := true, apart := false }
def FnSortPartSaid : Prop := fnSortPartRow.holds Try.pinned (OpenSpec.ofChange fnSortPartSpec)

/-- ITS FALSE NEIGHBOUR: 'it returns false'. Refute it at one input. -/
def fnSortPartWrong : ChangeSpec := { name := "fnSortPart", fn := fun _ => fun
  | [d1, d2] => { results := [.lit (.bool false)], args := [d1, d2] }
  | _ => none }
def FnSortPartWrongFalsely : Prop := fnSortPartRow.holds Try.pinned (OpenSpec.ofChange fnSortPartWrong)

/-- 'laws.FnSortTwice': WHATEVER THE INPUT: true; the input reads as it did. -/
def fnSortTwiceSpec : ChangeSpec := { name := "fnSortTwice", fn := fun _ => fun
  | [d] => { results := [.lit (.bool true)], args := [d] }
  | _ => none }
def fnSortTwiceRow : OpenClaim := { program := "ytcijbpjiioodlaa", sum := "0ebfc12cd462e56e9a35a7691b9dbe11996d1218b535d4f2a46d732da8f806c0", func := "loop.example/vectorpacker/laws.FnSortTwice", spec := "fnSortTwice", unfollowed := true, recurses := true, apart := false }
def FnSortTwiceSaid : Prop := fnSortTwiceRow.holds Try.pinned (OpenSpec.ofChange fnSortTwiceSpec)

/-- ITS FALSE NEIGHBOUR: 'it returns false'. Refute it at one input. -/
def fnSortTwiceWrong : ChangeSpec := { name := "fnSortTwice", fn := fun _ => fun
  | [d] => { results := [.lit (.bool false)], args := [d] }
  | _ => none }
def FnSortTwiceWrongFalsely : Prop := fnSortTwiceRow.holds Try.pinned (OpenSpec.ofChange fnSortTwiceWrong)

/-- 'laws.FnSort': WHATEVER THE INPUT: true; the input reads as it did. -/
def fnSortSpec : ChangeSpec := { name := "fnSort", fn := fun _ => fun
  | [d] => { results := [.lit (.bool true)], args := [d] }
  | _ => none }
def fnSortRow : OpenClaim := { program := "ytcijbpjiioodlaa", sum := "0ebfc12cd462e56e9a35a7691b9dbe11996d1218b535d4f2a46d732da8f806c0", func := "loop.example/vectorpacker/laws.FnSort", spec := "fnSort", unfollowed := true, recurses := true, apart := false }
def FnSortSaid : Prop := fnSortRow.holds Try.pinned (OpenSpec.ofChange fnSortSpec)

/-- ITS FALSE NEIGHBOUR: 'it returns false'. Refute it at one input. -/
def fnSortWrong : ChangeSpec := { name := "fnSort", fn := fun _ => fun
  | [d] => { results := [.lit (.bool false)], args := [d] }
  | _ => none }
def FnSortWrongFalsely : Prop := fnSortRow.holds Try.pinned (OpenSpec.ofChange fnSortWrong)

/-- 'laws.FnExactTasksSort': WHATEVER THE INPUT: true; the input reads as it did. -/
def fnExactTasksSortSpec : ChangeSpec := { name := "fnExactTasksSort", fn := fun _ => fun
  | [d1, d2] => { results := [.lit (.bool true)], args := [d1, d2] }
  | _ => none }
def fnExactTasksSortRow : OpenClaim := { program := "ytcijbpjiioodlaa", sum := "0ebfc12cd462e56e9a35a7691b9dbe11996d1218b535d4f2a46d732da8f806c0", func := "loop.example/vectorpacker/laws.FnExactTasksSort", spec := "fnExactTasksSort", unfollowed := true, recurses := true, apart := false }
def FnExactTasksSortSaid : Prop := fnExactTasksSortRow.holds Try.pinned (OpenSpec.ofChange fnExactTasksSortSpec)

/-- ITS FALSE NEIGHBOUR: 'it returns false'. Refute it at one input. -/
def fnExactTasksSortWrong : ChangeSpec := { name := "fnExactTasksSort", fn := fun _ => fun
  | [d1, d2] => { results := [.lit (.bool false)], args := [d1, d2] }
  | _ => none }
def FnExactTasksSortWrongFalsely : Prop := fnExactTasksSortRow.holds Try.pinned (OpenSpec.ofChange fnExactTasksSortWrong)

/-- 'laws.FnSortSum': WHATEVER THE INPUT: true; the input reads as it did. -/
def fnSortSumSpec : ChangeSpec := { name := "fnSortSum", fn := fun _ => fun
  | [d] => { results := [.lit (.bool true)], args := [d] }
  | _ => none }
def fnSortSumRow : OpenClaim := { program := "ytcijbpjiioodlaa", sum := "0ebfc12cd462e56e9a35a7691b9dbe11996d1218b535d4f2a46d732da8f806c0", func := "loop.example/vectorpacker/laws.FnSortSum", spec := "fnSortSum", unfollowed := true, recurses := true, apart := false }
def FnSortSumSaid : Prop := fnSortSumRow.holds Try.pinned (OpenSpec.ofChange fnSortSumSpec)

/-- ITS FALSE NEIGHBOUR: 'it returns false'. Refute it at one input. -/
def fnSortSumWrong : ChangeSpec := { name := "fnSortSum", fn := fun _ => fun
  | [d] => { results := [.lit (.bool false)], args := [d] }
  | _ => none }
def FnSortSumWrongFalsely : Prop := fnSortSumRow.holds Try.pinned (OpenSpec.ofChange fnSortSumWrong)

/- THE SECOND FORM. 'bulk': how many values and letters a reading holds, each counted each time it is reached (what is shared counts as often as it is met; a slice's spare places count too). A statement '..UptoSaid' is the law's where the arguments, and the package variables that the reading takes, are together of bulk at most 1048576: NARROWER than '..Said'. Prove '..Said' where nothing that the law and all that it calls make is longer than what came in: it says more and counts as full. Else prove '..UptoSaid'. A law counts once. -/
mutual
def uptoBulk {H : Type} : DataW H → Nat
  | .lit (.string bytes) => bytes.length + 1
  | .lit _ => 1
  | .nil => 1
  | .ptr d => uptoBulk d + 1
  | .slice elems spare => uptoBulkAll elems + uptoBulkAll spare + 1
  | .agg parts => uptoBulkAll parts + 1
  | .iface _ d => uptoBulk d + 1
  | .map entries => uptoBulkEntries entries + 1
  | .held _ => 1
def uptoBulkAll {H : Type} : List (DataW H) → Nat
  | [] => 0
  | d :: r => uptoBulk d + uptoBulkAll r
def uptoBulkEntries {H : Type} : List (Lit × DataW H) → Nat
  | [] => 0
  | x :: r => uptoBulkEntry x + uptoBulkEntries r
def uptoBulkEntry {H : Type} : Lit × DataW H → Nat
  | (.string bytes, d) => bytes.length + uptoBulk d + 1
  | (_, d) => uptoBulk d + 1
 end
def uptoSmall : (H : Type) → List (DataW H) → Bool := fun _ ds => decide (uptoBulkAll ds ≤ 1048576)
def OpenSpec.upto (s : _root_.Go.ChangeSpec) : _root_.Go.OpenSpec := { _root_.Go.OpenSpec.ofChange s with cond := some uptoSmall }

/-- 'laws.FnExactClusterValid', WHERE WHAT IT READS IS OF BULK AT MOST 1048576: true; the input reads as it did. -/
def fnExactClusterValidUptoRow : OpenClaim := { program := "ytcijbpjiioodlaa", sum := "0ebfc12cd462e56e9a35a7691b9dbe11996d1218b535d4f2a46d732da8f806c0", func := "loop.example/vectorpacker/laws.FnExactClusterValid", spec := "fnExactClusterValid", unfollowed := true, recurses := true, apart := false, narrowed := true }
def FnExactClusterValidUptoSaid : Prop := fnExactClusterValidUptoRow.holds Try.pinned (OpenSpec.upto fnExactClusterValidSpec)

/-- 'laws.FnClusterPart', WHERE WHAT IT READS IS OF BULK AT MOST 1048576: true; the input reads as it did. -/
def fnClusterPartUptoRow : OpenClaim := { program := "ytcijbpjiioodlaa", sum := "0ebfc12cd462e56e9a35a7691b9dbe11996d1218b535d4f2a46d732da8f806c0", func := "loop.example/vectorpacker/laws.FnClusterPart", spec := "fnClusterPart", unfollowed := true, recurses := true, apart := false, narrowed := true }
def FnClusterPartUptoSaid : Prop := fnClusterPartUptoRow.holds Try.pinned (OpenSpec.upto fnClusterPartSpec)

/-- 'laws.FnExactClusterWhere', WHERE WHAT IT READS IS OF BULK AT MOST 1048576: true; the input reads as it did. -/
def fnExactClusterWhereUptoRow : OpenClaim := { program := "ytcijbpjiioodlaa", sum := "0ebfc12cd462e56e9a35a7691b9dbe11996d1218b535d4f2a46d732da8f806c0", func := "loop.example/vectorpacker/laws.FnExactClusterWhere", spec := "fnExactClusterWhere", unfollowed := true, recurses := true, apart := false, narrowed := true }
def FnExactClusterWhereUptoSaid : Prop := fnExactClusterWhereUptoRow.holds Try.pinned (OpenSpec.upto fnExactClusterWhereSpec)

/-- 'laws.FnClusterWhere', WHERE WHAT IT READS IS OF BULK AT MOST 1048576: true; the input reads as it did. -/
def fnClusterWhereUptoRow : OpenClaim := { program := "ytcijbpjiioodlaa", sum := "0ebfc12cd462e56e9a35a7691b9dbe11996d1218b535d4f2a46d732da8f806c0", func := "loop.example/vectorpacker/laws.FnClusterWhere", spec := "fnClusterWhere", unfollowed := true, recurses := true, apart := false, narrowed := true }
def FnClusterWhereUptoSaid : Prop := fnClusterWhereUptoRow.holds Try.pinned (OpenSpec.upto fnClusterWhereSpec)

/-- 'laws.FnCounts', WHERE WHAT IT READS IS OF BULK AT MOST 1048576: true; the input reads as it did. -/
def fnCountsUptoRow : OpenClaim := { program := "ytcijbpjiioodlaa", sum := "0ebfc12cd462e56e9a35a7691b9dbe11996d1218b535d4f2a46d732da8f806c0", func := "loop.example/vectorpacker/laws.FnCounts", spec := "fnCounts", unfollowed := true, recurses := true, apart := false, narrowed := true }
def FnCountsUptoSaid : Prop := fnCountsUptoRow.holds Try.pinned (OpenSpec.upto fnCountsSpec)

/-- 'laws.FnExactClusterCounts', WHERE WHAT IT READS IS OF BULK AT MOST 1048576: true; the input reads as it did. -/
def fnExactClusterCountsUptoRow : OpenClaim := { program := "ytcijbpjiioodlaa", sum := "0ebfc12cd462e56e9a35a7691b9dbe11996d1218b535d4f2a46d732da8f806c0", func := "loop.example/vectorpacker/laws.FnExactClusterCounts", spec := "fnExactClusterCounts", unfollowed := true, recurses := true, apart := false, narrowed := true }
def FnExactClusterCountsUptoSaid : Prop := fnExactClusterCountsUptoRow.holds Try.pinned (OpenSpec.upto fnExactClusterCountsSpec)

/-- 'laws.FnExactSpareCount', WHERE WHAT IT READS IS OF BULK AT MOST 1048576: true; the input reads as it did. -/
def fnExactSpareCountUptoRow : OpenClaim := { program := "ytcijbpjiioodlaa", sum := "0ebfc12cd462e56e9a35a7691b9dbe11996d1218b535d4f2a46d732da8f806c0", func := "loop.example/vectorpacker/laws.FnExactSpareCount", spec := "fnExactSpareCount", unfollowed := true, recurses := true, apart := false, narrowed := true }
def FnExactSpareCountUptoSaid : Prop := fnExactSpareCountUptoRow.holds Try.pinned (OpenSpec.upto fnExactSpareCountSpec)

/-- 'laws.FnExactPairsBroken', WHERE WHAT IT READS IS OF BULK AT MOST 1048576: true; the input reads as it did. -/
def fnExactPairsBrokenUptoRow : OpenClaim := { program := "ytcijbpjiioodlaa", sum := "0ebfc12cd462e56e9a35a7691b9dbe11996d1218b535d4f2a46d732da8f806c0", func := "loop.example/vectorpacker/laws.FnExactPairsBroken", spec := "fnExactPairsBroken", unfollowed := true, recurses := true, apart := false, narrowed := true }
def FnExactPairsBrokenUptoSaid : Prop := fnExactPairsBrokenUptoRow.holds Try.pinned (OpenSpec.upto fnExactPairsBrokenSpec)

/-- 'laws.FnBrokenPart', WHERE WHAT IT READS IS OF BULK AT MOST 1048576: true; the input reads as it did. -/
def fnBrokenPartUptoRow : OpenClaim := { program := "ytcijbpjiioodlaa", sum := "0ebfc12cd462e56e9a35a7691b9dbe11996d1218b535d4f2a46d732da8f806c0", func := "loop.example/vectorpacker/laws.FnBrokenPart", spec := "fnBrokenPart", unfollowed := true, recurses := true, apart := false, narrowed := true }
def FnBrokenPartUptoSaid : Prop := fnBrokenPartUptoRow.holds Try.pinned (OpenSpec.upto fnBrokenPartSpec)

/-- 'laws.FnBroken', WHERE WHAT IT READS IS OF BULK AT MOST 1048576: true; the input reads as it did. -/
def fnBrokenUptoRow : OpenClaim := { program := "ytcijbpjiioodlaa", sum := "0ebfc12cd462e56e9a35a7691b9dbe11996d1218b535d4f2a46d732da8f806c0", func := "loop.example/vectorpacker/laws.FnBroken", spec := "fnBroken", unfollowed := true, recurses := true, apart := false, narrowed := true }
def FnBrokenUptoSaid : Prop := fnBrokenUptoRow.holds Try.pinned (OpenSpec.upto fnBrokenSpec)

/-- 'laws.FnBrokenAlone', WHERE WHAT IT READS IS OF BULK AT MOST 1048576: true; the input reads as it did. -/
def fnBrokenAloneUptoRow : OpenClaim := { program := "ytcijbpjiioodlaa", sum := "0ebfc12cd462e56e9a35a7691b9dbe11996d1218b535d4f2a46d732da8f806c0", func := "loop.example/vectorpacker/laws.FnBrokenAlone", spec := "fnBrokenAlone", unfollowed := true, recurses := true, apart := false, narrowed := true }
def FnBrokenAloneUptoSaid : Prop := fnBrokenAloneUptoRow.holds Try.pinned (OpenSpec.upto fnBrokenAloneSpec)

/-- 'laws.FnDown', WHERE WHAT IT READS IS OF BULK AT MOST 1048576: true; the input reads as it did. -/
def fnDownUptoRow : OpenClaim := { program := "ytcijbpjiioodlaa", sum := "0ebfc12cd462e56e9a35a7691b9dbe11996d1218b535d4f2a46d732da8f806c0", func := "loop.example/vectorpacker/laws.FnDown", spec := "fnDown", unfollowed := true, recurses := true, apart := false, narrowed := true }
def FnDownUptoSaid : Prop := fnDownUptoRow.holds Try.pinned (OpenSpec.upto fnDownSpec)

/-- 'laws.FnSortPart', WHERE WHAT IT READS IS OF BULK AT MOST 1048576: true; the input reads as it did. -/
def fnSortPartUptoRow : OpenClaim := { program := "ytcijbpjiioodlaa", sum := "0ebfc12cd462e56e9a35a7691b9dbe11996d1218b535d4f2a46d732da8f806c0", func := "loop.example/vectorpacker/laws.FnSortPart", spec := "fnSortPart", unfollowed := true, recurses := true, apart := false, narrowed := true }
def FnSortPartUptoSaid : Prop := fnSortPartUptoRow.holds Try.pinned (OpenSpec.upto fnSortPartSpec)

/-- 'laws.FnSortTwice', WHERE WHAT IT READS IS OF BULK AT MOST 1048576: true; the input reads as it did. -/
def fnSortTwiceUptoRow : OpenClaim := { program := "ytcijbpjiioodlaa", sum := "0ebfc12cd462e56e9a35a7691b9dbe11996d1218b535d4f2a46d732da8f806c0", func := "loop.example/vectorpacker/laws.FnSortTwice", spec := "fnSortTwice", unfollowed := true, recurses := true, apart := false, narrowed := true }
def FnSortTwiceUptoSaid : Prop := fnSortTwiceUptoRow.holds Try.pinned (OpenSpec.upto fnSortTwiceSpec)

/-- 'laws.FnSort', WHERE WHAT IT READS IS OF BULK AT MOST 1048576: true; the input reads as it did. -/
def fnSortUptoRow : OpenClaim := { program := "ytcijbpjiioodlaa", sum := "0ebfc12cd462e56e9a35a7691b9dbe11996d1218b535d4f2a46d732da8f806c0", func := "loop.example/vectorpacker/laws.FnSort", spec := "fnSort", unfollowed := true, recurses := true, apart := false, narrowed := true }
def FnSortUptoSaid : Prop := fnSortUptoRow.holds Try.pinned (OpenSpec.upto fnSortSpec)

/-- 'laws.FnExactTasksSort', WHERE WHAT IT READS IS OF BULK AT MOST 1048576: true; the input reads as it did. -/
def fnExactTasksSortUptoRow : OpenClaim := { program := "ytcijbpjiioodlaa", sum := "0ebfc12cd462e56e9a35a7691b9dbe11996d1218b535d4f2a46d732da8f806c0", func := "loop.example/vectorpacker/laws.FnExactTasksSort", spec := "fnExactTasksSort", unfollowed := true, recurses := true, apart := false, narrowed := true }
def FnExactTasksSortUptoSaid : Prop := fnExactTasksSortUptoRow.holds Try.pinned (OpenSpec.upto fnExactTasksSortSpec)

/-- 'laws.FnSortSum', WHERE WHAT IT READS IS OF BULK AT MOST 1048576: true; the input reads as it did. -/
def fnSortSumUptoRow : OpenClaim := { program := "ytcijbpjiioodlaa", sum := "0ebfc12cd462e56e9a35a7691b9dbe11996d1218b535d4f2a46d732da8f806c0", func := "loop.example/vectorpacker/laws.FnSortSum", spec := "fnSortSum", unfollowed := true, recurses := true, apart := false, narrowed := true }
def FnSortSumUptoSaid : Prop := fnSortSumUptoRow.holds Try.pinned (OpenSpec.upto fnSortSumSpec)

end Rows
end Go.Proofs.Ytcijbpjiioodlaa
