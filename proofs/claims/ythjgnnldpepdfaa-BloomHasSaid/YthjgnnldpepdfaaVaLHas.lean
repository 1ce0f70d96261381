/- Plain laws on what the functions written out for this seat come to. -/
import Derived.Test.YthjgnnldpepdfaaXAx3
import Derived.Test.YthjgnnldpepdfaaVLib
import Derived.Test.YthjgnnldpepdfaaCLib
import Derived.Test.YthjgnnldpepdfaaVaBl
import Derived.Test.YthjgnnldpepdfaaVaHas
import Derived.Test.YthjgnnldpepdfaaVaRef
namespace Go.Proofs.Ythjgnnldpepdfaa.VaLHas
open Go.RowKit Go.Proofs.Ythjgnnldpepdfaa.XA Go.Proofs.Ythjgnnldpepdfaa.VLib Go.Proofs.Ythjgnnldpepdfaa.CLib Go.Proofs.Ythjgnnldpepdfaa.VaBl Go.Proofs.Ythjgnnldpepdfaa.VaHas Go.Proofs.Ythjgnnldpepdfaa.VaRef Go.Proofs.YthjgnnldpepdfaaW.PrintWords Go.Proofs.YthjgnnldpepdfaaW.PrintLast Go.Proofs.YthjgnnldpepdfaaW.PrintMore
theorem has_j0 (s key : ByteArray) (x : Int) (b : Bool) (k : Nat) (hk : 3000 ≤ k) (h : b = false → s.size ≤ 1024 ∧ key.size ≤ 256) : sorrellaw08_BloomHas.j0 (k + 1) s key x b = some true := by
  simp only [sorrellaw08_BloomHas.j0]
  cases b with
  | true => rw [if_pos rfl, awake_is k (by omega), Option.bind_some]
  | false =>
    obtain ⟨h1, h2⟩ := h rfl
    rw [if_neg (by decide), has_is s key k 256 (by omega) h2 (by omega) (by omega), Option.bind_some, rhas_is s key k 256 (by omega) h2 (by omega) (by omega), Option.bind_some, if_pos (by simp), size_is, Option.bind_some, rsize_is, Option.bind_some, if_pos rfl, awake_is k (by omega), Option.bind_some]
theorem has_law (s key : ByteArray) (x : Int) (k : Nat) (hk : 3000 ≤ k) : sorrellaw08_BloomHas.f (k + 1) s key x = some true := by
  unfold sorrellaw08_BloomHas.f
  by_cases c : (s.size : Int) > 1024
  · rw [if_pos c]; exact has_j0 s key x true k hk (by simp)
  · rw [if_neg c]
    refine has_j0 s key x _ k hk (fun h => ?_)
    have := of_decide_eq_false h
    omega
theorem law_has : sorrellaw08_BloomHas.Pure := fun s key x _ _ _ => ⟨3000 + 1, has_law s key x _ (Nat.le_refl _)⟩
end Go.Proofs.Ythjgnnldpepdfaa.VaLHas
