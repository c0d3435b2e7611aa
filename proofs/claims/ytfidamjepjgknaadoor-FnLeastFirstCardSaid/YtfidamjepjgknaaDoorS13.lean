/- The reference: the node with the greatest score; all tasks put by first fit, by best fit. -/
import Derived.Test.YtfidamjepjgknaaDoorS12
import Derived.Test.YtfidamjepjgknaaDoorI15
import Derived.Test.YtfidamjepjgknaaDoorReg
namespace Go.Proofs.YtfidamjepjgknaaDoor
set_option maxRecDepth 100000
open Go.RowKit

theorem l11Put_any (u n : Value) (bs : List (List T)) (o : Option Nat) (x : T) (w : World) (h : Bins w u bs) (hn : Ints w n x.need) (h3 : x.need.length ≤ 1000) (ho : ∀ k, o = some k → k < bs.length) (hl : bs.length ≤ 1000) (hb : ∀ b ∈ bs, b.length ≤ 1000 ∧ ∀ t ∈ b, t.need.length ≤ 1000) :
    Calls Tryd.prog 30 #[u, .int .i64 (nodeI o), .agg #[.int .i64 x.id, n]] w fun e w' => ∃ a c, e = .returned (.slice a (putL bs o x).length c) ∧ Ext w w' ∧ Bins w' (.slice a (putL bs o x).length c) (putL bs o x) := by
  cases o with
  | none =>
    have := l11Put_new u n bs x w h hn h3 hl hb
    rw [putL_none, show (bs ++ [[x]]).length = bs.length + 1 by simp]
    exact this
  | some k =>
    have hk := ho k rfl
    have := l11Put_old u n k bs x w h hn h3 hk hl hb
    rw [putL_some hk, show (bs.set k (bs[k] ++ [x])).length = bs.length by simp]
    exact this

end Go.Proofs.YtfidamjepjgknaaDoor
