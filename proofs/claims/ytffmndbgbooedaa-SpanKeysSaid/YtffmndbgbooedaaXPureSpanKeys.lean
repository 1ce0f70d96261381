/- Whether any text is a key, any range may be, and any key is within any range, is the reference's answer; no condition beyond the row's own. -/
import Derived.Test.YtffmndbgbooedaaXStatSpanKeys
import Derived.Test.YtffmndbgbooedaaVaKeys
namespace Go.Proofs.Ytffmndbgbooedaa.XPure
theorem SpanKeys : Go.Proofs.Ytffmndbgbooedaa.XA.sorrellaw04_SpanKeys.Pure := Go.Proofs.Ytffmndbgbooedaa.VaKeys.law_keys
end Go.Proofs.Ytffmndbgbooedaa.XPure
