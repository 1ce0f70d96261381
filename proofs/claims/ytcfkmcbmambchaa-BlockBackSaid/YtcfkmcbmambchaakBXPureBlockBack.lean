import Derived.Test.YtcfkmcbmambchaakBXStatBlockBack
import Derived.Test.YtcfkmcbmambchaakBVaBack
namespace Go.Proofs.Ytcfkmcbmambchaa.XPure
theorem BlockBack : Go.Proofs.Ytcfkmcbmambchaa.XA.sorrellaw09_BlockBack.Pure := Go.Proofs.Ytcfkmcbmambchaa.VaBack.law_back
end Go.Proofs.Ytcfkmcbmambchaa.XPure
