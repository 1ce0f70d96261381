/- What is cut is joined as it was, and each key of it is within just one of the two parts; no condition beyond the row's own. -/
import Derived.Test.YtffmndbgbooedaaXStatSpanBack
import Derived.Test.YtffmndbgbooedaaVaBack
namespace Go.Proofs.Ytffmndbgbooedaa.XPure
theorem SpanBack : Go.Proofs.Ytffmndbgbooedaa.XA.sorrellaw04_SpanBack.Pure := Go.Proofs.Ytffmndbgbooedaa.VaBack.law_back
end Go.Proofs.Ytffmndbgbooedaa.XPure
