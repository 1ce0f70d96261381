/- As many keys as may be have bits, and one key more is refused. -/
import Derived.Test.YthjgnnldpepdfaaXAx5
import Derived.Test.YthjgnnldpepdfaaVaLFull
namespace Go.Proofs.Ythjgnnldpepdfaa.Pure
open Go.RowKit Go.Proofs.Ythjgnnldpepdfaa.XA
theorem BloomFull : sorrellaw08_BloomFull.Pure := Go.Proofs.Ythjgnnldpepdfaa.VaLFull.law_full
end Go.Proofs.Ythjgnnldpepdfaa.Pure
