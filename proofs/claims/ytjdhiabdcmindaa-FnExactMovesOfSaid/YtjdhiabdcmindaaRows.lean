/-
  No cell of these rows narrows 'for every input' (looked for: loops, veiled, ifaces, maps, wideKeys, modest, calm, conditions, laid).
  DERIVED. THE GIVEN ROWS OF THIS SEAT. 3 by the template 'for every input the law returns true; each argument reads behind the call as it read before'; 0 by the template 'total and deterministic' (their statements: YtjdhiabdcmindaaTotals.lean).
  GIVEN WITH THE SEED: the statements are not yours to turn. If you find one false, say at which input.
  Laid BY PROGRAM, IN A SANDBOX (cutbox-rows.mjs): the forced cells as the released guide's own fill.sh prints them over the translation 27ea25a941878d6b… (all of the seat's roots in one cut). By AI agents, Wed Nov 11 2026. No macro, syntax, notation, axiom, sorry.
-/
import Derived.Test.YtjdhiabdcmindaaChecked
import GoSem.Claim
import GoSem.ClaimJoined
import GoSem.ClaimMapViews
import Derived.JoinedTies
import Derived.KernelRfl
namespace Go.Proofs.Ytjdhiabdcmindaa
/- THE CELL 'sum', in the pinned program and in every row, IS THE sha256 OF THE DUMP (.gsa) THAT YtjdhiabdcmindaaProg.lean LOADS. Nothing in Lean hashes anything: it is a label: what it is worth is what the hold of that sum in a sandbox is worth. -/
noncomputable def Try.pinned : Pinned := { name := "ytjdhiabdcmindaa", sum := "27ea25a941878d6b85af313ae825669ff9e65b266b1e016052580928e6fbbe0e", checked := Try.checked }
namespace Rows
def none {H : Type} : Left H := { results := [], args := [] }

/-- 'laws.FnNextNone': WHATEVER THE INPUT: true; the input reads as it did. -/
def fnNextNoneSpec : ChangeSpec := { name := "fnNextNone", fn := fun _ => fun
  | [d] => { results := [.lit (.bool true)], args := [d] }
  | _ => none }
def fnNextNoneRow : OpenClaim := { program := "ytjdhiabdcmindaa", sum := "27ea25a941878d6b85af313ae825669ff9e65b266b1e016052580928e6fbbe0e", func := "loop.example/vectorpacker/laws.FnNextNone", spec := "fnNextNone", unfollowed := true, recurses := true, apart := false }
def FnNextNoneSaid : Prop := fnNextNoneRow.holds Try.pinned (OpenSpec.ofChange fnNextNoneSpec)

/-- ITS FALSE NEIGHBOUR: 'it returns false'. Refute it at one input. -/
def fnNextNoneWrong : ChangeSpec := { name := "fnNextNone", fn := fun _ => fun
  | [d] => { results := [.lit (.bool false)], args := [d] }
  | _ => none }
def FnNextNoneWrongFalsely : Prop := fnNextNoneRow.holds Try.pinned (OpenSpec.ofChange fnNextNoneWrong)

/-- 'laws.FnExactGatherNext': WHATEVER THE INPUT: true; the input reads as it did. -/
def fnExactGatherNextSpec : ChangeSpec := { name := "fnExactGatherNext", fn := fun _ => fun
  | [d1, d2] => { results := [.lit (.bool true)], args := [d1, d2] }
  | _ => none }
def fnExactGatherNextRow : OpenClaim := { program := "ytjdhiabdcmindaa", sum := "27ea25a941878d6b85af313ae825669ff9e65b266b1e016052580928e6fbbe0e", func := "loop.example/vectorpacker/laws.FnExactGatherNext", spec := "fnExactGatherNext", unfollowed := true, recurses := true, apart := false }
def FnExactGatherNextSaid : Prop := fnExactGatherNextRow.holds Try.pinned (OpenSpec.ofChange fnExactGatherNextSpec)

/-- ITS FALSE NEIGHBOUR: 'it returns false'. Refute it at one input. -/
def fnExactGatherNextWrong : ChangeSpec := { name := "fnExactGatherNext", fn := fun _ => fun
  | [d1, d2] => { results := [.lit (.bool false)], args := [d1, d2] }
  | _ => none }
def FnExactGatherNextWrongFalsely : Prop := fnExactGatherNextRow.holds Try.pinned (OpenSpec.ofChange fnExactGatherNextWrong)

/-- 'laws.FnExactMovesOf': WHATEVER THE INPUT: true; the input reads as it did. -/
def fnExactMovesOfSpec : ChangeSpec := { name := "fnExactMovesOf", fn := fun _ => fun
  | [d1, d2] => { results := [.lit (.bool true)], args := [d1, d2] }
  | _ => none }
def fnExactMovesOfRow : OpenClaim := { program := "ytjdhiabdcmindaa", sum := "27ea25a941878d6b85af313ae825669ff9e65b266b1e016052580928e6fbbe0e", func := "loop.example/vectorpacker/laws.FnExactMovesOf", spec := "fnExactMovesOf", unfollowed := true, recurses := true, apart := false }
def FnExactMovesOfSaid : Prop := fnExactMovesOfRow.holds Try.pinned (OpenSpec.ofChange fnExactMovesOfSpec)

/-- ITS FALSE NEIGHBOUR: 'it returns false'. Refute it at one input. -/
def fnExactMovesOfWrong : ChangeSpec := { name := "fnExactMovesOf", fn := fun _ => fun
  | [d1, d2] => { results := [.lit (.bool false)], args := [d1, d2] }
  | _ => none }
def FnExactMovesOfWrongFalsely : Prop := fnExactMovesOfRow.holds Try.pinned (OpenSpec.ofChange fnExactMovesOfWrong)

/- THE SECOND FORM. 'bulk': how many values and letters a reading holds, each counted each time it is reached (what is shared counts as often as it is met; a slice's spare places count too). A statement '..UptoSaid' is the law's where the arguments, and the package variables that the reading takes, are together of bulk at most 1048576: NARROWER than '..Said'. Prove '..Said' where nothing that the law and all that it calls make is longer than what came in: it says more and counts as full. Else prove '..UptoSaid'. A law counts once. -/
mutual
def uptoBulk {H : Type} : DataW H → Nat
  | .lit (.string bytes) => bytes.length + 1
  | .lit _ => 1
  | .nil => 1
  | .ptr d => uptoBulk d + 1
  | .slice elems spare => uptoBulkAll elems + uptoBulkAll spare + 1
  | .agg parts => uptoBulkAll parts + 1
  | .iface _ d => uptoBulk d + 1
  | .map entries => uptoBulkEntries entries + 1
  | .held _ => 1
def uptoBulkAll {H : Type} : List (DataW H) → Nat
  | [] => 0
  | d :: r => uptoBulk d + uptoBulkAll r
def uptoBulkEntries {H : Type} : List (Lit × DataW H) → Nat
  | [] => 0
  | x :: r => uptoBulkEntry x + uptoBulkEntries r
def uptoBulkEntry {H : Type} : Lit × DataW H → Nat
  | (.string bytes, d) => bytes.length + uptoBulk d + 1
  | (_, d) => uptoBulk d + 1
 end
def uptoSmall : (H : Type) → List (DataW H) → Bool := fun _ ds => decide (uptoBulkAll ds ≤ 1048576)
def OpenSpec.upto (s : _root_.Go.ChangeSpec) : _root_.Go.OpenSpec := { _root_.Go.OpenSpec.ofChange s with cond := some uptoSmall }

/-- 'laws.FnNextNone', WHERE WHAT IT READS IS OF BULK AT MOST 1048576: true; the input reads as it did. -/
def fnNextNoneUptoRow : OpenClaim := { program := "ytjdhiabdcmindaa", sum := "27ea25a941878d6b85af313ae825669ff9e65b266b1e016052580928e6fbbe0e", func := "loop.example/vectorpacker/laws.FnNextNone", spec := "fnNextNone", unfollowed := true, recurses := true, apart := false, narrowed := true }
def FnNextNoneUptoSaid : Prop := fnNextNoneUptoRow.holds Try.pinned (OpenSpec.upto fnNextNoneSpec)

/-- 'laws.FnExactGatherNext', WHERE WHAT IT READS IS OF BULK AT MOST 1048576: true; the input reads as it did. -/
def fnExactGatherNextUptoRow : OpenClaim := { program := "ytjdhiabdcmindaa", sum := "27ea25a941878d6b85af313ae825669ff9e65b266b1e016052580928e6fbbe0e", func := "loop.example/vectorpacker/laws.FnExactGatherNext", spec := "fnExactGatherNext", unfollowed := true, recurses := true, apart := false, narrowed := true }
def FnExactGatherNextUptoSaid : Prop := fnExactGatherNextUptoRow.holds Try.pinned (OpenSpec.upto fnExactGatherNextSpec)

/-- 'laws.FnExactMovesOf', WHERE WHAT IT READS IS OF BULK AT MOST 1048576: true; the input reads as it did. -/
def fnExactMovesOfUptoRow : OpenClaim := { program := "ytjdhiabdcmindaa", sum := "27ea25a941878d6b85af313ae825669ff9e65b266b1e016052580928e6fbbe0e", func := "loop.example/vectorpacker/laws.FnExactMovesOf", spec := "fnExactMovesOf", unfollowed := true, recurses := true, apart := false, narrowed := true }
def FnExactMovesOfUptoSaid : Prop := fnExactMovesOfUptoRow.holds Try.pinned (OpenSpec.upto fnExactMovesOfSpec)

end Rows
end Go.Proofs.Ytjdhiabdcmindaa
