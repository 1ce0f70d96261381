/- The sums of three texts of one length, turned into one another, are the sum of the texts turned into one another; no condition beyond the row's own. -/
import Derived.Test.YtcbodnjdbnmfoaaXAx2
import Derived.Test.YtcbodnjdbnmfoaaVaCrc
namespace Go.Proofs.Ytcbodnjdbnmfoaa.Pure
open Go.RowKit Go.Proofs.Ytcbodnjdbnmfoaa.XA
theorem CrcThree : sorrellaw02_CrcThree.Pure := Go.Proofs.Ytcbodnjdbnmfoaa.VaCrc.law_three
end Go.Proofs.Ytcbodnjdbnmfoaa.Pure
