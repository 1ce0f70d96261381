/- The entries of a range are those whose keys are within it, in their order; of two parts of it those of the one, and of the other one (SpanClips) -/
import Derived.Test.YtffmndbgbooedaaXStatSpanClips
import Derived.Test.YtffmndbgbooedaaVaClips
namespace Go.Proofs.Ytffmndbgbooedaa.XPure
theorem SpanClips : Go.Proofs.Ytffmndbgbooedaa.XA.sorrellaw04_SpanClips.Pure := Go.Proofs.Ytffmndbgbooedaa.VaClips.law_clips
end Go.Proofs.Ytffmndbgbooedaa.XPure
