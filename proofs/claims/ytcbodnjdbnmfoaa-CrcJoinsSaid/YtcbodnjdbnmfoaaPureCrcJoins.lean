/- The sum of bytes behind others is that of both together, in two or three parts; no condition beyond the row's own. -/
import Derived.Test.YtcbodnjdbnmfoaaXAx1
import Derived.Test.YtcbodnjdbnmfoaaVaCrc
namespace Go.Proofs.Ytcbodnjdbnmfoaa.Pure
open Go.RowKit Go.Proofs.Ytcbodnjdbnmfoaa.XA
theorem CrcJoins : sorrellaw02_CrcJoins.Pure := Go.Proofs.Ytcbodnjdbnmfoaa.VaCrc.law_joins
end Go.Proofs.Ytcbodnjdbnmfoaa.Pure
