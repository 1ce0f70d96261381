/- Plain laws on what the functions written out for this seat come to. -/
import Derived.Test.YthjgnnldpepdfaaXAx5
import Derived.Test.YthjgnnldpepdfaaVLib
import Derived.Test.YthjgnnldpepdfaaCLib
import Derived.Test.YthjgnnldpepdfaaVaBl
import Derived.Test.YthjgnnldpepdfaaVaHas
import Derived.Test.YthjgnnldpepdfaaVaBits
namespace Go.Proofs.Ythjgnnldpepdfaa.VaLFull
open Go.RowKit Go.Proofs.Ythjgnnldpepdfaa.XA Go.Proofs.Ythjgnnldpepdfaa.VLib Go.Proofs.Ythjgnnldpepdfaa.CLib Go.Proofs.Ythjgnnldpepdfaa.VaBl Go.Proofs.Ythjgnnldpepdfaa.VaHas Go.Proofs.Ythjgnnldpepdfaa.VaBits Go.Proofs.YthjgnnldpepdfaaW.PrintWords Go.Proofs.YthjgnnldpepdfaaW.PrintLast Go.Proofs.YthjgnnldpepdfaaW.PrintMore
theorem full_is (x : Int) (k : Nat) (hk : 10000 ≤ k) : sorrellaw08_BloomFull.f k x = some true := by
  obtain ⟨r, hr, e⟩ := and_small x 3 (by decide)
  have e' : Go.bits .and .i64 x 3 = (r : Int) := e
  have aw := awake_is k (by omega)
  have e1 : wrap64 (4095 + (r : Int)) = ((4095 + r : Nat) : Int) := by rw [w64 (by omega) (by omega)]; rfl
  unfold sorrellaw08_BloomFull.f
  rw [e', e1, if_pos (by omega), Int.toNat_natCast, if_pos (by omega)]
  generalize hl : List.replicate (4095 + r) (⟨#[]⟩ : ByteArray) = l
  have hn : l.length = 4095 + r := by rw [← hl, List.length_replicate]
  have hs : ∀ t ∈ l, t.size ≤ 0 := fun t ht => by rw [← hl] at ht; rw [(List.mem_replicate.1 ht).2]; decide
  by_cases c : 4096 < 4095 + r
  · have hm : bloom_Make.f k l = some ((⟨#[]⟩ : ByteArray), 2) := by unfold bloom_Make.f; rw [if_pos (by omega)]
    rw [hm, Option.bind_some, if_pos (by omega), if_pos (by rw [toList_data]), if_pos rfl, aw, Option.bind_some]
  · have hb := bytesN_pos l.length
    have hz := bitsOf_size l
    have hmem : (⟨#[]⟩ : ByteArray) ∈ l := by rw [← hl]; exact List.mem_replicate.2 ⟨by omega, rfl⟩
    have e2 : wrap64 ((wrap64 (10 * ((4095 + r : Nat) : Int))) + 7) = ((10 * (4095 + r) + 7 : Nat) : Int) := by rw [w64 (n := 10 * ((4095 + r : Nat) : Int)) (by omega) (by omega), w64 (by omega) (by omega)]; rfl
    have e3 : bytesN l.length = (10 * (4095 + r) + 7) / 8 := by unfold bytesN; omega
    rw [make_bits l k 0 (by omega) (by omega) hs (by omega), Option.bind_some, if_neg (by omega), if_pos rfl, e2, div8 _ (by omega), hz, if_pos (by rw [e3]), has_is _ _ k 0 (show (bitsOf l).size ≤ 1000000 from by omega) (hs _ hmem) (by omega) (by omega), has_all l _ hmem, Option.bind_some, if_pos rfl, aw, Option.bind_some]
theorem law_full : sorrellaw08_BloomFull.Pure := fun x _ => ⟨10000, full_is x _ (Nat.le_refl _)⟩
end Go.Proofs.Ythjgnnldpepdfaa.VaLFull
