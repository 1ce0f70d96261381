import Derived.Test.YtffmndbgbooedaaXAx7
namespace Go.Proofs.Ytffmndbgbooedaa.XA
open Go.RowKit Go.Proofs.YtffmndbgbooedaaW.PrintWords
/-- The one statement over numbers and lists that is left of this law. -/
def sorrellaw04_SpanBack.Pure : Prop := ∀ (x0 : S23) (x1 : ByteArray) (x2 : ByteArray), (((x0.f0).size ≤ maxLen) ∧ ((x0.f1).size ≤ maxLen)) → (x1.size ≤ 140737488351232) → (x2.size ≤ 140737488351232) → ∃ k, sorrellaw04_SpanBack.f k (x0.f0) (x0.f1) x1 x2 = some true
end Go.Proofs.Ytffmndbgbooedaa.XA
