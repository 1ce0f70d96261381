/- A number's bytes are taken back as it, whatever stands behind, and what is taken of any bytes is put as the same bytes; no condition beyond the row's own. -/
import Derived.Test.YtgcmgbjinommpaaPVarintBackx1
import Derived.Test.YtgcmgbjinommpaaVaVarintBack
namespace Go.Proofs.Ytgcmgbjinommpaa.Pure
open Go.RowKit Go.Proofs.Ytgcmgbjinommpaa.PVarintBack
theorem VarintBack : sorrellaw01_VarintBack.Pure := Go.Proofs.Ytgcmgbjinommpaa.VaVarintBack.law_back
end Go.Proofs.Ytgcmgbjinommpaa.Pure
