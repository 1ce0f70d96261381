import Derived.Test.YtffmndbgbooedaaXAx8
namespace Go.Proofs.Ytffmndbgbooedaa.XA
open Go.RowKit Go.Proofs.YtffmndbgbooedaaW.PrintWords
/-- The one statement over numbers and lists that is left of this law. -/
def sorrellaw04_SpanMeets.Pure : Prop := ∀ (x0 : S23) (x1 : S23) (x2 : ByteArray), (((x0.f0).size ≤ maxLen) ∧ ((x0.f1).size ≤ maxLen)) → (((x1.f0).size ≤ maxLen) ∧ ((x1.f1).size ≤ maxLen)) → (x2.size ≤ 140737488351232) → ∃ k, sorrellaw04_SpanMeets.f k (x0.f0) (x0.f1) (x1.f0) (x1.f1) x2 = some true
end Go.Proofs.Ytffmndbgbooedaa.XA
