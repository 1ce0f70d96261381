import Derived.Test.YtcfkmcbmambchaakBXAx14
namespace Go.Proofs.YtcfkmcbmambchaaW.PrintWords
end Go.Proofs.YtcfkmcbmambchaaW.PrintWords
namespace Go.Proofs.Ytcfkmcbmambchaa.XA
open Go.RowKit Go.Proofs.YtcfkmcbmambchaaW.PrintWords
def sorrellaw09_BlockBack.Pure : Prop := ∀ (l0 : List (S36)) (x1 : ByteArray), ((l0).length ≤ maxLen ∧ ∀ y2 ∈ l0, ((y2.f0).size ≤ maxLen) ∧ ((y2.f1).size ≤ maxLen) ∧ (True) ∧ ((Lit.int .i64 (y2.f3)).wf = true)) → (x1.size ≤ 140737488351232) → ∃ k, sorrellaw09_BlockBack.f k l0 x1 = some true
end Go.Proofs.Ytcfkmcbmambchaa.XA
