import Derived.Test.YtffmndbgbooedaaXAx11
namespace Go.Proofs.Ytffmndbgbooedaa.XA
open Go.RowKit Go.Proofs.YtffmndbgbooedaaW.PrintWords
/-- The one statement over numbers and lists that is left of this law. -/
def sorrellaw04_SpanCovers.Pure : Prop := ∀ (l0 : List (S23)) (x1 : ByteArray), ((l0).length ≤ maxLen ∧ ∀ y2 ∈ l0, ((y2.f0).size ≤ maxLen) ∧ ((y2.f1).size ≤ maxLen)) → (x1.size ≤ 140737488351232) → ∃ k, sorrellaw04_SpanCovers.f k l0 x1 = some true
end Go.Proofs.Ytffmndbgbooedaa.XA
