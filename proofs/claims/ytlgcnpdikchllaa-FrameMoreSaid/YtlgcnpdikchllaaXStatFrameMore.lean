import Derived.Test.YtlgcnpdikchllaaXAx6
namespace Go.Proofs.Ytlgcnpdikchllaa.XA
open Go.RowKit Go.Proofs.YtlgcnpdikchllaaW.PrintWords
/-- The one statement over numbers and lists that is left of this law. -/
def sorrellaw03_FrameMore.Pure : Prop := ∀ (l0 : List ByteArray) (l1 : List ByteArray) (x2 : ByteArray), ((l0).length ≤ maxLen ∧ ∀ y2 ∈ l0, (y2).size ≤ maxLen) → ((l1).length ≤ maxLen ∧ ∀ y2 ∈ l1, (y2).size ≤ maxLen) → (x2.size ≤ 140737488351232) → ∃ k, sorrellaw03_FrameMore.f k l0 l1 x2 = some true
end Go.Proofs.Ytlgcnpdikchllaa.XA
