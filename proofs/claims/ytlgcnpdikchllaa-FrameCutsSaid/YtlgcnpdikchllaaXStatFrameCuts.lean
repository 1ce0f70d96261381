import Derived.Test.YtlgcnpdikchllaaXAx5
namespace Go.Proofs.Ytlgcnpdikchllaa.XA
open Go.RowKit Go.Proofs.YtlgcnpdikchllaaW.PrintWords
/-- The one statement over numbers and lists that is left of this law. -/
def sorrellaw03_FrameCuts.Pure : Prop := ∀ (l0 : List ByteArray) (x1 : Int), ((l0).length ≤ maxLen ∧ ∀ y2 ∈ l0, (y2).size ≤ maxLen) → ((Lit.int .i64 (x1)).wf = true) → ∃ k, sorrellaw03_FrameCuts.f k l0 x1 = some true
end Go.Proofs.Ytlgcnpdikchllaa.XA
