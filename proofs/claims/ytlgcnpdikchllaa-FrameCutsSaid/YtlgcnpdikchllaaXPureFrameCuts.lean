/- Frames that are cut anywhere are read as far as they are whole, and nothing else is read. -/
import Derived.Test.YtlgcnpdikchllaaXStatFrameCuts
import Derived.Test.YtlgcnpdikchllaaVaCuts
namespace Go.Proofs.Ytlgcnpdikchllaa.XPure
theorem FrameCuts : Go.Proofs.Ytlgcnpdikchllaa.XA.sorrellaw03_FrameCuts.Pure := Go.Proofs.Ytlgcnpdikchllaa.VaCuts.law_cuts
end Go.Proofs.Ytlgcnpdikchllaa.XPure
