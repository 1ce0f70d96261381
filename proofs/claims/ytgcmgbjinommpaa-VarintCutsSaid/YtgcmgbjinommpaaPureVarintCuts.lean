/- The bytes of a number, and of a text of up to 4096 bytes, that lack some at the end are too short; no condition beyond the row's own. -/
import Derived.Test.YtgcmgbjinommpaaPVarintCutsx2
import Derived.Test.YtgcmgbjinommpaaVaVarintCuts
namespace Go.Proofs.Ytgcmgbjinommpaa.Pure
open Go.RowKit Go.Proofs.Ytgcmgbjinommpaa.PVarintCuts
theorem VarintCuts : sorrellaw01_VarintCuts.Pure := Go.Proofs.Ytgcmgbjinommpaa.VaVarintCuts.law_cuts
end Go.Proofs.Ytgcmgbjinommpaa.Pure
