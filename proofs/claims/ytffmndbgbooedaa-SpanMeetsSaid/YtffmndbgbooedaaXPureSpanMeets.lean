/- A key is within what two ranges have in common just if it is within both, whichever is first; no condition beyond the row's own. -/
import Derived.Test.YtffmndbgbooedaaXStatSpanMeets
import Derived.Test.YtffmndbgbooedaaVaMeets
namespace Go.Proofs.Ytffmndbgbooedaa.XPure
theorem SpanMeets : Go.Proofs.Ytffmndbgbooedaa.XA.sorrellaw04_SpanMeets.Pure := Go.Proofs.Ytffmndbgbooedaa.VaMeets.law_meets
end Go.Proofs.Ytffmndbgbooedaa.XPure
