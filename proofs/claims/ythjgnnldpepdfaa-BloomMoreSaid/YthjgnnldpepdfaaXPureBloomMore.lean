/- In whatever order keys come, and however often, the bits are the same; a key in place of another that is there twice sets no fewer bits. -/
import Derived.Test.YthjgnnldpepdfaaXStatBloomMore
import Derived.Test.YthjgnnldpepdfaaVaLMore
namespace Go.Proofs.Ythjgnnldpepdfaa.XPure
theorem BloomMore : Go.Proofs.Ythjgnnldpepdfaa.XA.sorrellaw08_BloomMore.Pure := Go.Proofs.Ythjgnnldpepdfaa.VaLMore.law_more
end Go.Proofs.Ythjgnnldpepdfaa.XPure
