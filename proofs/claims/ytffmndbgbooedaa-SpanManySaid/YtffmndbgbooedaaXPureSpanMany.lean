/- A range cut again and again, at whatever keys, covers what it did, each part within it and none empty; no condition beyond the row's own. -/
import Derived.Test.YtffmndbgbooedaaXStatSpanMany
import Derived.Test.YtffmndbgbooedaaVaMany
namespace Go.Proofs.Ytffmndbgbooedaa.XPure
theorem SpanMany : Go.Proofs.Ytffmndbgbooedaa.XA.sorrellaw04_SpanMany.Pure := Go.Proofs.Ytffmndbgbooedaa.VaMany.law_many
end Go.Proofs.Ytffmndbgbooedaa.XPure
