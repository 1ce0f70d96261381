import Derived.Test.YthjgnnldpepdfaaXAx3
namespace Go.Proofs.Ythjgnnldpepdfaa.XA
open Go.RowKit Go.Proofs.YthjgnnldpepdfaaW.PrintWords
/-- The one statement over numbers and lists that is left of this law. -/
def sorrellaw08_BloomAll.Pure : Prop := ∀ (l0 : List ByteArray), ((l0).length ≤ maxLen ∧ ∀ y2 ∈ l0, (y2).size ≤ maxLen) → ∃ k, sorrellaw08_BloomAll.f k l0 = some true
end Go.Proofs.Ythjgnnldpepdfaa.XA
