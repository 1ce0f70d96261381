/- Plain laws on what the functions written out for this seat come to. -/
import Derived.Test.YtcfkmcbmambchaaXAx12
import Derived.Test.YtcfkmcbmambchaaVLib
import Derived.Test.YtcfkmcbmambchaaCLib
import Derived.Test.YtcfkmcbmambchaaXW
import Derived.Test.YtcfkmcbmambchaaVaB1
import Derived.Test.YtcfkmcbmambchaaVaChk
import Derived.Test.YtcfkmcbmambchaaVaPut
import Derived.Test.YtcfkmcbmambchaaVaRT
import Derived.Test.YtcfkmcbmambchaaVaRT2
import Derived.Test.YtcfkmcbmambchaaVaPT
namespace Go.Proofs.Ytcfkmcbmambchaa.VaTakes
open Go.RowKit Go.Proofs.Ytcfkmcbmambchaa.XA Go.Proofs.Ytcfkmcbmambchaa.VLib Go.Proofs.Ytcfkmcbmambchaa.CLib Go.Proofs.Ytcfkmcbmambchaa.XW Go.Proofs.Ytcfkmcbmambchaa.VaB1 Go.Proofs.Ytcfkmcbmambchaa.VaChk Go.Proofs.Ytcfkmcbmambchaa.VaPut Go.Proofs.Ytcfkmcbmambchaa.VaRT Go.Proofs.Ytcfkmcbmambchaa.VaRT2 Go.Proofs.Ytcfkmcbmambchaa.VaPT Go.Proofs.YtcfkmcbmambchaaW.PrintWords Go.Proofs.YtcfkmcbmambchaaW.PrintLast Go.Proofs.YtcfkmcbmambchaaW.PrintMore
theorem awake_300 : sorrellaw09_awake.f 300 = some true := by kernel_rfl
theorem awake_is (k : Nat) (hk : 300 ≤ k) : sorrellaw09_awake.f k = some true := at_rounds (g := fun k => sorrellaw09_awake.f k) sorrellaw09_awake.mono hk awake_300
theorem takes_is (s : ByteArray) (K : Nat) (hK : 300000 ≤ K) : sorrellaw09_BlockTakes.f K s = some true := by
  unfold sorrellaw09_BlockTakes.f
  by_cases h1 : (s.size : Int) > 4096
  · rw [if_pos h1, awake_is K (by omega)]; rfl
  · have ho := outB_len s.data.toList
    rw [if_neg h1, btk_is s K (by omega) (by omega), Option.bind_some, rtk_is s K (by omega) (by omega), Option.bind_some, sameE_yes _ K (by omega) (by omega), Option.bind_some, if_pos rfl, if_pos rfl, awake_is K (by omega)]; rfl
theorem law_takes : sorrellaw09_BlockTakes.Pure := fun s _ => ⟨300000, takes_is s _ (Nat.le_refl _)⟩
end Go.Proofs.Ytcfkmcbmambchaa.VaTakes
