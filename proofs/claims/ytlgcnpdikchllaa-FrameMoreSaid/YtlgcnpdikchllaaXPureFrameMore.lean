/- Frames that stand behind others are read behind them, and what is no frame ends the reading. -/
import Derived.Test.YtlgcnpdikchllaaXStatFrameMore
import Derived.Test.YtlgcnpdikchllaaVaMore
namespace Go.Proofs.Ytlgcnpdikchllaa.XPure
theorem FrameMore : Go.Proofs.Ytlgcnpdikchllaa.XA.sorrellaw03_FrameMore.Pure := Go.Proofs.Ytlgcnpdikchllaa.VaMore.law_more
end Go.Proofs.Ytlgcnpdikchllaa.XPure
