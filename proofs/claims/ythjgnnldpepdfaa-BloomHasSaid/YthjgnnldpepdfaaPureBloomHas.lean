/- Whether any bits have any key, and how many bits there are for so many keys, is told as the document tells it. -/
import Derived.Test.YthjgnnldpepdfaaXAx3
import Derived.Test.YthjgnnldpepdfaaVaLHas
namespace Go.Proofs.Ythjgnnldpepdfaa.Pure
open Go.RowKit Go.Proofs.Ythjgnnldpepdfaa.XA
theorem BloomHas : sorrellaw08_BloomHas.Pure := Go.Proofs.Ythjgnnldpepdfaa.VaLHas.law_has
end Go.Proofs.Ythjgnnldpepdfaa.Pure
