/- The bytes of up to 30 numbers, one behind the other, are taken one by one; no condition beyond the row's own. -/
import Derived.Test.YtgcmgbjinommpaaPVarintRowx2
import Derived.Test.YtgcmgbjinommpaaVaVarintRow
namespace Go.Proofs.Ytgcmgbjinommpaa.Pure
open Go.RowKit Go.Proofs.Ytgcmgbjinommpaa.PVarintRow
theorem VarintRow : sorrellaw01_VarintRow.Pure := Go.Proofs.Ytgcmgbjinommpaa.VaVarintRow.law_row
end Go.Proofs.Ytgcmgbjinommpaa.Pure
