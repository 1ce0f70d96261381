import Derived.Test.YthjgnnldpepdfaaXAx4
namespace Go.Proofs.Ythjgnnldpepdfaa.XA
open Go.RowKit Go.Proofs.YthjgnnldpepdfaaW.PrintWords
/-- The one statement over numbers and lists that is left of this law. -/
def sorrellaw08_BloomMore.Pure : Prop := ∀ (l0 : List ByteArray) (x1 : Int) (x2 : ByteArray), ((l0).length ≤ maxLen ∧ ∀ y2 ∈ l0, (y2).size ≤ maxLen) → ((Lit.int .i64 (x1)).wf = true) → (x2.size ≤ 140737488351232) → ∃ k, sorrellaw08_BloomMore.f k l0 x1 x2 = some true
end Go.Proofs.Ythjgnnldpepdfaa.XA
