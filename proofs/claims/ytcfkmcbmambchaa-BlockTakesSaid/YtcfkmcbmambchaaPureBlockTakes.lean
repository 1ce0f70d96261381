/- What a block takes of any bytes, the reference takes. -/
import Derived.Test.YtcfkmcbmambchaaXAx12
import Derived.Test.YtcfkmcbmambchaaVaTakes
namespace Go.Proofs.Ytcfkmcbmambchaa.Pure
open Go.RowKit Go.Proofs.Ytcfkmcbmambchaa.XA
theorem BlockTakes : sorrellaw09_BlockTakes.Pure := Go.Proofs.Ytcfkmcbmambchaa.VaTakes.law_takes
end Go.Proofs.Ytcfkmcbmambchaa.Pure
