/- A text with its length ahead, and the text that any bytes begin with, are the reference's, there and back; no condition beyond the row's own. -/
import Derived.Test.YtgcmgbjinommpaaPVarintTextsx2
import Derived.Test.YtgcmgbjinommpaaVaVarintTexts
namespace Go.Proofs.Ytgcmgbjinommpaa.Pure
open Go.RowKit Go.Proofs.Ytgcmgbjinommpaa.PVarintTexts
theorem VarintTexts : sorrellaw01_VarintTexts.Pure := Go.Proofs.Ytgcmgbjinommpaa.VaVarintTexts.law_texts
end Go.Proofs.Ytgcmgbjinommpaa.Pure
