/- Four bytes of any number, and the number of any four bytes, are the reference's, there and back; no condition beyond the row's own. -/
import Derived.Test.YtgcmgbjinommpaaXAx1
import Derived.Test.YtgcmgbjinommpaaVaFixed
namespace Go.Proofs.Ytgcmgbjinommpaa.Pure
open Go.RowKit Go.Proofs.Ytgcmgbjinommpaa.XA
theorem VarintFixed : sorrellaw01_VarintFixed.Pure := Go.Proofs.Ytgcmgbjinommpaa.VaFixed.law_fixed
end Go.Proofs.Ytgcmgbjinommpaa.Pure
