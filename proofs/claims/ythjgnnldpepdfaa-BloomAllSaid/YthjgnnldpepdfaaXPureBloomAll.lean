/- Of keys of which bits were made each is told to be there. -/
import Derived.Test.YthjgnnldpepdfaaXStatBloomAll
import Derived.Test.YthjgnnldpepdfaaVaLAll
namespace Go.Proofs.Ythjgnnldpepdfaa.XPure
theorem BloomAll : Go.Proofs.Ythjgnnldpepdfaa.XA.sorrellaw08_BloomAll.Pure := Go.Proofs.Ythjgnnldpepdfaa.VaLAll.law_all
end Go.Proofs.Ythjgnnldpepdfaa.XPure
