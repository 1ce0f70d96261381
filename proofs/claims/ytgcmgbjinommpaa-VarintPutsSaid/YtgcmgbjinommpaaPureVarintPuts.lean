/- Whatever the number, varint.Put and the reference's Put answer the same bytes and the same error; no condition beyond the row's own. -/
import Derived.Test.YtgcmgbjinommpaaPVarintPutsx1
import Derived.Test.YtgcmgbjinommpaaVaVarintPuts
namespace Go.Proofs.Ytgcmgbjinommpaa.Pure
open Go.RowKit Go.Proofs.Ytgcmgbjinommpaa.PVarintPuts
theorem VarintPuts : sorrellaw01_VarintPuts.Pure := Go.Proofs.Ytgcmgbjinommpaa.VaVarintPuts.law_puts
end Go.Proofs.Ytgcmgbjinommpaa.Pure
