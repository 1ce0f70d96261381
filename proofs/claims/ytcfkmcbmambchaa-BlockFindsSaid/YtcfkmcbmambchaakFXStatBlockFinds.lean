import Derived.Test.YtcfkmcbmambchaakFXAx15
namespace Go.Proofs.YtcfkmcbmambchaaW.PrintWords
end Go.Proofs.YtcfkmcbmambchaaW.PrintWords
namespace Go.Proofs.Ytcfkmcbmambchaa.XA
open Go.RowKit Go.Proofs.YtcfkmcbmambchaaW.PrintWords
def sorrellaw09_BlockFinds.Pure : Prop := ∀ (l0 : List (S36)) (x1 : ByteArray) (x2 : Int), ((l0).length ≤ maxLen ∧ ∀ y2 ∈ l0, ((y2.f0).size ≤ maxLen) ∧ ((y2.f1).size ≤ maxLen) ∧ (True) ∧ ((Lit.int .i64 (y2.f3)).wf = true)) → (x1.size ≤ 140737488351232) → ((Lit.int .i64 (x2)).wf = true) → ∃ k, sorrellaw09_BlockFinds.f k l0 x1 x2 = some true
end Go.Proofs.Ytcfkmcbmambchaa.XA
