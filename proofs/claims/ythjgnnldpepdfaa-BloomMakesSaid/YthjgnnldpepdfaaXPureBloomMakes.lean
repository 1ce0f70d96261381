/- The bits that are made of any keys are the document's own. -/
import Derived.Test.YthjgnnldpepdfaaXStatBloomMakes
import Derived.Test.YthjgnnldpepdfaaVaLMakes
namespace Go.Proofs.Ythjgnnldpepdfaa.XPure
theorem BloomMakes : Go.Proofs.Ythjgnnldpepdfaa.XA.sorrellaw08_BloomMakes.Pure := Go.Proofs.Ythjgnnldpepdfaa.VaLMakes.law_makes
end Go.Proofs.Ythjgnnldpepdfaa.XPure
