import Derived.Test.YtcfkmcbmambchaaXAx10
namespace Go.Proofs.Ytcfkmcbmambchaa.XA
open Go.RowKit Go.Proofs.YtcfkmcbmambchaaW.PrintWords
/-- The one statement over numbers and lists that is left of this law. -/
def sorrellaw09_BlockPuts.Pure : Prop := ∀ (l0 : List (S36)), ((l0).length ≤ maxLen ∧ ∀ y2 ∈ l0, ((y2.f0).size ≤ maxLen) ∧ ((y2.f1).size ≤ maxLen) ∧ (True) ∧ ((Lit.int .i64 (y2.f3)).wf = true)) → ∃ k, sorrellaw09_BlockPuts.f k l0 = some true
end Go.Proofs.Ytcfkmcbmambchaa.XA
