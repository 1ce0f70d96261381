/- The bytes of any entries, or that they may not be a block's (BlockPuts): for every list of entries the statement's function returns true. -/
import Derived.Test.YtcfkmcbmambchaaXStatBlockPuts
import Derived.Test.YtcfkmcbmambchaaVaPuts
namespace Go.Proofs.Ytcfkmcbmambchaa.XPure
theorem BlockPuts : Go.Proofs.Ytcfkmcbmambchaa.XA.sorrellaw09_BlockPuts.Pure := Go.Proofs.Ytcfkmcbmambchaa.VaPuts.law_puts
end Go.Proofs.Ytcfkmcbmambchaa.XPure
