/- There are at least ten bits for each key, never fewer for more keys, in whole bytes, and at least sixty four. -/
import Derived.Test.YthjgnnldpepdfaaXAx5
import Derived.Test.YthjgnnldpepdfaaVaLSizes
namespace Go.Proofs.Ythjgnnldpepdfaa.Pure
open Go.RowKit Go.Proofs.Ythjgnnldpepdfaa.XA
theorem BloomSizes : sorrellaw08_BloomSizes.Pure := Go.Proofs.Ythjgnnldpepdfaa.VaLSizes.law_sizes
end Go.Proofs.Ythjgnnldpepdfaa.Pure
