/- Reading all frames that bytes begin with answers as the document's own. -/
import Derived.Test.YtlgcnpdikchllaaXAx5
import Derived.Test.YtlgcnpdikchllaaVaReads
namespace Go.Proofs.Ytlgcnpdikchllaa.Pure
open Go.RowKit Go.Proofs.Ytlgcnpdikchllaa.XA
theorem FrameReads : sorrellaw03_FrameReads.Pure := Go.Proofs.Ytlgcnpdikchllaa.VaReads.law_reads
end Go.Proofs.Ytlgcnpdikchllaa.Pure
