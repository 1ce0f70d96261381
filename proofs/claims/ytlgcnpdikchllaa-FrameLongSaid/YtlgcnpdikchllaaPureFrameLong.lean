/- Texts as long as may be are put as frames and taken again, and longer ones are refused. -/
import Derived.Test.YtlgcnpdikchllaaXAx6
import Derived.Test.YtlgcnpdikchllaaVaLong
namespace Go.Proofs.Ytlgcnpdikchllaa.Pure
open Go.RowKit Go.Proofs.Ytlgcnpdikchllaa.XA
theorem FrameLong : sorrellaw03_FrameLong.Pure := Go.Proofs.Ytlgcnpdikchllaa.VaLong.law_long
end Go.Proofs.Ytlgcnpdikchllaa.Pure
