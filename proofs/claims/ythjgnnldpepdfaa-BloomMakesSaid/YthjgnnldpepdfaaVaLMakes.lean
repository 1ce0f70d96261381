/- Plain laws on what the functions written out for this seat come to. -/
import Derived.Test.YthjgnnldpepdfaaXStatBloomMakes
import Derived.Test.YthjgnnldpepdfaaVLib
import Derived.Test.YthjgnnldpepdfaaCLib
import Derived.Test.YthjgnnldpepdfaaVaBl
import Derived.Test.YthjgnnldpepdfaaVaHas
import Derived.Test.YthjgnnldpepdfaaVaRef
namespace Go.Proofs.Ythjgnnldpepdfaa.VaLMakes
open Go.RowKit Go.Proofs.Ythjgnnldpepdfaa.XA Go.Proofs.Ythjgnnldpepdfaa.VLib Go.Proofs.Ythjgnnldpepdfaa.CLib Go.Proofs.Ythjgnnldpepdfaa.VaBl Go.Proofs.Ythjgnnldpepdfaa.VaHas Go.Proofs.Ythjgnnldpepdfaa.VaRef Go.Proofs.YthjgnnldpepdfaaW.PrintWords Go.Proofs.YthjgnnldpepdfaaW.PrintLast Go.Proofs.YthjgnnldpepdfaaW.PrintMore
theorem makes_is (l : List ByteArray) (k : Nat) (hk : 5000 ≤ k) : sorrellaw08_BloomMakes.f k l = some true := by
  obtain ⟨b, h1, h2⟩ := few_is l k (by omega)
  unfold sorrellaw08_BloomMakes.f
  rw [h1, Option.bind_some]
  cases b with
  | false => rw [if_neg (by decide), awake_is k (by omega), Option.bind_some]
  | true =>
    obtain ⟨g1, g2⟩ := h2 rfl
    rw [if_pos rfl, make_is l k 256 (by omega) (by omega) g2 (by omega), Option.bind_some, rmake_is l k 256 (by omega) (by omega) g2 (by omega), Option.bind_some, if_pos rfl, if_pos rfl, awake_is k (by omega), Option.bind_some]
theorem law_makes : sorrellaw08_BloomMakes.Pure := fun l _ => ⟨5000, makes_is l _ (Nat.le_refl _)⟩
end Go.Proofs.Ythjgnnldpepdfaa.VaLMakes
