import Derived.Test.YtcfkmcbmambchaaXAx17
namespace Go.Proofs.Ytcfkmcbmambchaa.XA
open Go.RowKit Go.Proofs.YtcfkmcbmambchaaW.PrintWords
/-- The one statement over numbers and lists that is left of this law. -/
def sorrellaw09_BlockOrder.Pure : Prop := ∀ (x0 : S36) (x1 : S36) (x2 : S36), (((x0.f0).size ≤ maxLen) ∧ ((x0.f1).size ≤ maxLen) ∧ (True) ∧ ((Lit.int .i64 (x0.f3)).wf = true)) → (((x1.f0).size ≤ maxLen) ∧ ((x1.f1).size ≤ maxLen) ∧ (True) ∧ ((Lit.int .i64 (x1.f3)).wf = true)) → (((x2.f0).size ≤ maxLen) ∧ ((x2.f1).size ≤ maxLen) ∧ (True) ∧ ((Lit.int .i64 (x2.f3)).wf = true)) → ∃ k, sorrellaw09_BlockOrder.f k (x0.f0) (x0.f1) (x0.f2) (x0.f3) (x1.f0) (x1.f1) (x1.f2) (x1.f3) (x2.f0) (x2.f1) (x2.f2) (x2.f3) = some true
end Go.Proofs.Ytcfkmcbmambchaa.XA
