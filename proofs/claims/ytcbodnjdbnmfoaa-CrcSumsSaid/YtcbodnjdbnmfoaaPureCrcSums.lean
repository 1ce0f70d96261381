/- The sum of any bytes, and of any behind others, is the reference's; no condition beyond the row's own (up to 4096 bytes are compared, as the law says). -/
import Derived.Test.YtcbodnjdbnmfoaaXAx1
import Derived.Test.YtcbodnjdbnmfoaaVaCrc
namespace Go.Proofs.Ytcbodnjdbnmfoaa.Pure
open Go.RowKit Go.Proofs.Ytcbodnjdbnmfoaa.XA
theorem CrcSums : sorrellaw02_CrcSums.Pure := Go.Proofs.Ytcbodnjdbnmfoaa.VaCrc.law_sums
end Go.Proofs.Ytcbodnjdbnmfoaa.Pure
