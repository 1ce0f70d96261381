/- Plain laws on what the functions written out for this seat come to. -/
import Derived.Test.YthjgnnldpepdfaaXStatBloomAll
import Derived.Test.YthjgnnldpepdfaaVLib
import Derived.Test.YthjgnnldpepdfaaCLib
import Derived.Test.YthjgnnldpepdfaaVaBl
import Derived.Test.YthjgnnldpepdfaaVaHas
import Derived.Test.YthjgnnldpepdfaaVaBits
namespace Go.Proofs.Ythjgnnldpepdfaa.VaLAll
open Go.RowKit Go.Proofs.Ythjgnnldpepdfaa.XA Go.Proofs.Ythjgnnldpepdfaa.VLib Go.Proofs.Ythjgnnldpepdfaa.CLib Go.Proofs.Ythjgnnldpepdfaa.VaBl Go.Proofs.Ythjgnnldpepdfaa.VaHas Go.Proofs.Ythjgnnldpepdfaa.VaBits Go.Proofs.YthjgnnldpepdfaaW.PrintWords Go.Proofs.YthjgnnldpepdfaaW.PrintLast Go.Proofs.YthjgnnldpepdfaaW.PrintMore
theorem all_l0 (l : List ByteArray) (hl : l.length ≤ 100) (hs : ∀ t ∈ l, t.size ≤ 256) : ∀ (d i k : Nat), i + d = l.length → d + 3000 ≤ k → sorrellaw08_BloomAll.l0 k l (bitsOf l) (i : Int) = some true := by
  have hb := bytesN_pos l.length
  have hz := bitsOf_size l
  intro d
  induction d with
  | zero =>
    intro i k h hk
    obtain ⟨k, rfl⟩ : ∃ m, k = m + 1 := ⟨k - 1, by omega⟩
    simp only [sorrellaw08_BloomAll.l0]
    rw [if_neg (by omega), awake_is k (by omega), Option.bind_some]
  | succ d ih =>
    intro i k h hk
    obtain ⟨k, rfl⟩ : ∃ m, k = m + 1 := ⟨k - 1, by omega⟩
    have hi : i < l.length := by omega
    simp only [sorrellaw08_BloomAll.l0]
    rw [if_pos (by omega), if_pos (by omega), rdS l i hi, has_is _ _ k 256 (by omega) (hs _ (List.getElem_mem hi)) (by omega) (by omega), has_all l _ (List.getElem_mem hi), Option.bind_some, if_pos rfl, w64 (by omega) (by omega)]
    exact ih (i + 1) k (by omega) (by omega)
theorem all_is (l : List ByteArray) (k : Nat) (hk : 5000 ≤ k) : sorrellaw08_BloomAll.f (k + 1) l = some true := by
  obtain ⟨b, h1, h2⟩ := few_is l (k + 1) (by omega)
  unfold sorrellaw08_BloomAll.f
  rw [h1, Option.bind_some]
  cases b with
  | false => rw [if_neg (by decide), awake_is _ (by omega), Option.bind_some]
  | true =>
    obtain ⟨g1, g2⟩ := h2 rfl
    have hb := bytesN_pos l.length
    have e : wrap64 (8 * ((bitsOf l).size : Int)) = ((8 * bytesN l.length : Nat) : Int) := by rw [bitsOf_size, w64 (by omega) (by omega)]; rfl
    rw [if_pos rfl, make_bits l (k + 1) 256 (by omega) (by omega) g2 (by omega), Option.bind_some, if_pos rfl, size_is, Option.bind_some, e, Int.toNat_natCast, bne_self_eq_false]
    simp only [sorrellaw08_BloomAll.j0]
    rw [if_neg (by decide)]
    exact all_l0 l g1 g2 l.length 0 k (by omega) (by omega)
theorem law_all : sorrellaw08_BloomAll.Pure := fun l _ => ⟨5000 + 1, all_is l _ (Nat.le_refl _)⟩
end Go.Proofs.Ythjgnnldpepdfaa.VaLAll
