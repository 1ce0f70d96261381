import Derived.Test.YtcfkmcbmambchaakFXStatBlockFinds
import Derived.Test.YtcfkmcbmambchaakFVaFinds
namespace Go.Proofs.Ytcfkmcbmambchaa.XPure
theorem BlockFinds : Go.Proofs.Ytcfkmcbmambchaa.XA.sorrellaw09_BlockFinds.Pure := Go.Proofs.Ytcfkmcbmambchaa.VaFinds.law_finds
end Go.Proofs.Ytcfkmcbmambchaa.XPure
