/- Any bytes with their sum behind, and whether any bytes are such, are the reference's, and sealed bytes check; no condition beyond the row's own. -/
import Derived.Test.YtcbodnjdbnmfoaaXAx4
import Derived.Test.YtcbodnjdbnmfoaaVaSeals
namespace Go.Proofs.Ytcbodnjdbnmfoaa.Pure
open Go.RowKit Go.Proofs.Ytcbodnjdbnmfoaa.XA
theorem CrcSeals : sorrellaw02_CrcSeals.Pure := Go.Proofs.Ytcbodnjdbnmfoaa.VaSeals.law_seals
end Go.Proofs.Ytcbodnjdbnmfoaa.Pure
