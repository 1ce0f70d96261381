/- Putting a text as a frame and taking the frame that bytes begin with answer as the document's own. -/
import Derived.Test.YtlgcnpdikchllaaXAx4
import Derived.Test.YtlgcnpdikchllaaVaRef
namespace Go.Proofs.Ytlgcnpdikchllaa.Pure
open Go.RowKit Go.Proofs.Ytlgcnpdikchllaa.XA
theorem FramePuts : sorrellaw03_FramePuts.Pure := Go.Proofs.Ytlgcnpdikchllaa.VaRef.law_puts
end Go.Proofs.Ytlgcnpdikchllaa.Pure
