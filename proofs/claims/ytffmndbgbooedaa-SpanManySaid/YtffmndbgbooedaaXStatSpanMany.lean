import Derived.Test.YtffmndbgbooedaaXAx12
namespace Go.Proofs.Ytffmndbgbooedaa.XA
open Go.RowKit Go.Proofs.YtffmndbgbooedaaW.PrintWords
/-- The one statement over numbers and lists that is left of this law. -/
def sorrellaw04_SpanMany.Pure : Prop := ∀ (l0 : List ByteArray) (x1 : ByteArray), ((l0).length ≤ maxLen ∧ ∀ y2 ∈ l0, (y2).size ≤ maxLen) → (x1.size ≤ 140737488351232) → ∃ k, sorrellaw04_SpanMany.f k l0 x1 = some true
end Go.Proofs.Ytffmndbgbooedaa.XA
