import Derived.Test.YtffmndbgbooedaaXAx13
namespace Go.Proofs.Ytffmndbgbooedaa.XA
open Go.RowKit Go.Proofs.YtffmndbgbooedaaW.PrintWords
/-- The one statement over numbers and lists that is left of this law. -/
def sorrellaw04_SpanClips.Pure : Prop := ∀ (l0 : List (S50)) (x1 : S23) (x2 : ByteArray), ((l0).length ≤ maxLen ∧ ∀ y2 ∈ l0, ((y2.f0).size ≤ maxLen) ∧ ((y2.f1).size ≤ maxLen) ∧ (True) ∧ ((Lit.int .i64 (y2.f3)).wf = true)) → (((x1.f0).size ≤ maxLen) ∧ ((x1.f1).size ≤ maxLen)) → (x2.size ≤ 140737488351232) → ∃ k, sorrellaw04_SpanClips.f k l0 (x1.f0) (x1.f1) x2 = some true
end Go.Proofs.Ytffmndbgbooedaa.XA
