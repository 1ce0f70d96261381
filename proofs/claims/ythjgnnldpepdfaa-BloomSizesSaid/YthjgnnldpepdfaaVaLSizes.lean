/- Plain laws on what the functions written out for this seat come to. -/
import Derived.Test.YthjgnnldpepdfaaXAx5
import Derived.Test.YthjgnnldpepdfaaVLib
import Derived.Test.YthjgnnldpepdfaaCLib
import Derived.Test.YthjgnnldpepdfaaVaBl
import Derived.Test.YthjgnnldpepdfaaVaHas
namespace Go.Proofs.Ythjgnnldpepdfaa.VaLSizes
open Go.RowKit Go.Proofs.Ythjgnnldpepdfaa.XA Go.Proofs.Ythjgnnldpepdfaa.VLib Go.Proofs.Ythjgnnldpepdfaa.CLib Go.Proofs.Ythjgnnldpepdfaa.VaBl Go.Proofs.Ythjgnnldpepdfaa.VaHas Go.Proofs.YthjgnnldpepdfaaW.PrintWords Go.Proofs.YthjgnnldpepdfaaW.PrintLast Go.Proofs.YthjgnnldpepdfaaW.PrintMore
theorem sizes_j0 (a b : Int) (k : Nat) (hk : 100 ≤ k) : sorrellaw08_BloomSizes.j0 (k + 1) a b ((8 * bytesN a.toNat : Nat) : Int) ((8 * bytesN b.toNat : Nat) : Int) false = some true := by
  have aw := awake_is k hk
  simp only [sorrellaw08_BloomSizes.j0]
  rw [if_neg (by decide), aw, Option.bind_some]
  have hle : ¬ a > b → ((8 * bytesN a.toNat : Nat) : Int) ≤ ((8 * bytesN b.toNat : Nat) : Int) := by
    intro h; unfold bytesN; omega
  by_cases c : a > b
  · rw [if_pos c]
    by_cases h0 : a ≥ 0
    · rw [if_pos h0]
      by_cases h1 : a ≤ 4096
      · have e1 : ¬ ((8 * bytesN a.toNat : Nat) : Int) < 10 * a := by unfold bytesN; omega
        have e2 : ¬ ((8 * bytesN a.toNat : Nat) : Int) ≥ 10 * a + 72 := by unfold bytesN; omega
        rw [if_pos h1, w64 (n := 10 * a) (by omega) (by omega), w64 (by omega) (by omega), if_neg e1, if_neg e2]
      · rw [if_neg h1]
    · rw [if_neg h0]
  · rw [if_neg c, if_pos (hle c)]
    by_cases h0 : a ≥ 0
    · rw [if_pos h0]
      by_cases h1 : a ≤ 4096
      · have e1 : ¬ ((8 * bytesN a.toNat : Nat) : Int) < 10 * a := by unfold bytesN; omega
        have e2 : ¬ ((8 * bytesN a.toNat : Nat) : Int) ≥ 10 * a + 72 := by unfold bytesN; omega
        rw [if_pos h1, w64 (n := 10 * a) (by omega) (by omega), w64 (by omega) (by omega), if_neg e1, if_neg e2]
      · rw [if_neg h1]
    · rw [if_neg h0]
theorem sizes_is (a b : Int) (k : Nat) (hk : 100 ≤ k) : sorrellaw08_BloomSizes.f (k + 1) a b = some true := by
  unfold sorrellaw08_BloomSizes.f
  have h1 : ¬ ((8 * bytesN a.toNat : Nat) : Int) < 64 := by unfold bytesN; omega
  have h2 : Int.tmod ((8 * bytesN a.toNat : Nat) : Int) 8 = 0 := by rw [mod8, Nat.mul_mod_right]; rfl
  have h3 : ¬ ((8 * bytesN a.toNat : Nat) : Int) > 40960 := by unfold bytesN; omega
  rw [size_is, Option.bind_some, size_is, Option.bind_some, if_neg h1, if_pos h2, decide_eq_false h3]
  exact sizes_j0 a b k hk
theorem law_sizes : sorrellaw08_BloomSizes.Pure := fun a b _ _ => ⟨100 + 1, sizes_is a b _ (Nat.le_refl _)⟩
end Go.Proofs.Ythjgnnldpepdfaa.VaLSizes
