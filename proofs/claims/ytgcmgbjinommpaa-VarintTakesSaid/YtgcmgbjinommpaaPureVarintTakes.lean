/- Whatever the bytes, varint.Take and the reference's Take answer the same number, length and error; no condition beyond the row's own. -/
import Derived.Test.YtgcmgbjinommpaaPVarintTakesx1
import Derived.Test.YtgcmgbjinommpaaVaVarintTakes
namespace Go.Proofs.Ytgcmgbjinommpaa.Pure
open Go.RowKit Go.Proofs.Ytgcmgbjinommpaa.PVarintTakes
theorem VarintTakes : sorrellaw01_VarintTakes.Pure := Go.Proofs.Ytgcmgbjinommpaa.VaVarintTakes.law_takes
end Go.Proofs.Ytgcmgbjinommpaa.Pure
