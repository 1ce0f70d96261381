/- Whether any ranges have each key once is the reference's answer, and then each key is within just one of them; no condition beyond the row's own. -/
import Derived.Test.YtffmndbgbooedaaXStatSpanCovers
import Derived.Test.YtffmndbgbooedaaVaCovers
namespace Go.Proofs.Ytffmndbgbooedaa.XPure
theorem SpanCovers : Go.Proofs.Ytffmndbgbooedaa.XA.sorrellaw04_SpanCovers.Pure := Go.Proofs.Ytffmndbgbooedaa.VaCovers.law_covers
end Go.Proofs.Ytffmndbgbooedaa.XPure
