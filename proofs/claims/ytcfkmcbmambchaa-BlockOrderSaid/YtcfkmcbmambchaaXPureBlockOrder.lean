/- Entries stand in one order (BlockOrder): for any three entries the statement's function returns true. -/
import Derived.Test.YtcfkmcbmambchaaXStatBlockOrder
import Derived.Test.YtcfkmcbmambchaaVaOrder
namespace Go.Proofs.Ytcfkmcbmambchaa.XPure
theorem BlockOrder : Go.Proofs.Ytcfkmcbmambchaa.XA.sorrellaw09_BlockOrder.Pure := Go.Proofs.Ytcfkmcbmambchaa.VaOrder.law_order
end Go.Proofs.Ytcfkmcbmambchaa.XPure
