/- Plain laws on what the functions written out for this seat come to. -/
import Derived.Test.YtlgcnpdikchllaaXAx5
import Derived.Test.YtlgcnpdikchllaaVLib
import Derived.Test.YtlgcnpdikchllaaCLib
import Derived.Test.YtlgcnpdikchllaaVaFrm
import Derived.Test.YtlgcnpdikchllaaVaRef
namespace Go.Proofs.Ytlgcnpdikchllaa.VaReads
open Go.RowKit Go.Proofs.Ytlgcnpdikchllaa.XA Go.Proofs.Ytlgcnpdikchllaa.VLib Go.Proofs.Ytlgcnpdikchllaa.CLib Go.Proofs.Ytlgcnpdikchllaa.VaFrm Go.Proofs.Ytlgcnpdikchllaa.VaRef Go.Proofs.YtlgcnpdikchllaaW.PrintWords Go.Proofs.YtlgcnpdikchllaaW.PrintLast Go.Proofs.YtlgcnpdikchllaaW.PrintMore
theorem rfall_l0 (s : ByteArray) (hs : s.size ≤ 1099511627776) : ∀ (n at_ k : Nat) (out : List ByteArray), at_ ≤ s.size → s.size - at_ ≤ n → out.length ≤ at_ → 10 * s.size + 12 + n ≤ k →
    sorrelref03_All.l0 k s out (at_ : Int) = some (out ++ (allL (s.data.toList.drop at_)).1.map bs, ((at_ + (allL (s.data.toList.drop at_)).2 : Nat) : Int)) := by
  have hl := len_list s
  intro n
  induction n with
  | zero =>
    intro at_ k out h1 h2 h3 hk
    obtain ⟨k, rfl⟩ : ∃ m, k = m + 1 := ⟨k - 1, by omega⟩
    have hx : (s.extract (at_ : Int).toNat s.size).data.toList = s.data.toList.drop at_ := by
      rw [extract_list, Int.toNat_natCast, List.take_of_length_le (by omega)]
    have hz : (s.extract (at_ : Int).toNat s.size).size ≤ s.size := by rw [← len_list, hx, List.length_drop]; omega
    simp only [sorrelref03_All.l0]
    rw [if_pos (by omega), if_pos (by omega), rftake_is _ k (by omega) (by omega), hx, List.drop_eq_nil_of_le (by omega), takeF_nil, allL_none takeF_nil]
    simp only [Option.bind_some]
    rw [if_neg (by decide)]; simp
  | succ n ih =>
    intro at_ k out h1 h2 h3 hk
    obtain ⟨k, rfl⟩ : ∃ m, k = m + 1 := ⟨k - 1, by omega⟩
    have hx : (s.extract (at_ : Int).toNat s.size).data.toList = s.data.toList.drop at_ := by
      rw [extract_list, Int.toNat_natCast, List.take_of_length_le (by omega)]
    have hz : (s.extract (at_ : Int).toNat s.size).size ≤ s.size := by rw [← len_list, hx, List.length_drop]; omega
    simp only [sorrelref03_All.l0]
    rw [if_pos (by omega), if_pos (by omega), rftake_is _ k (by omega) (by omega), hx]
    simp only [Option.bind_some]
    rcases takeF_cases (s.data.toList.drop at_) with e | ⟨e, e1, e2⟩
    · rw [e, allL_none e, if_neg (by decide)]; simp
    · have hd : (s.data.toList.drop at_).length = s.data.toList.length - at_ := List.length_drop
      rw [if_pos (by omega), if_pos (by omega), w64 (by omega) (by omega), allL_some e, List.drop_drop, show (at_ : Int) + ((takeF (s.data.toList.drop at_)).2.1 : Int) = ((at_ + (takeF (s.data.toList.drop at_)).2.1 : Nat) : Int) from by omega,
        ih _ k _ (by omega) (by omega) (by rw [List.length_append]; simp only [List.length_cons, List.length_nil]; omega) (by omega)]
      simp only [List.map_cons, List.append_assoc, List.cons_append, List.nil_append, Nat.add_assoc]
theorem rfall_is (s : ByteArray) (k : Nat) (hs : s.size ≤ 1099511627776) (hk : 11 * s.size + 12 ≤ k) : sorrelref03_All.f k s = some ((allL s.data.toList).1.map bs, ((allL s.data.toList).2 : Int)) := by
  unfold sorrelref03_All.f
  have := rfall_l0 s hs s.size 0 k [] (by omega) (by omega) (by simp) (by omega)
  simpa using this
theorem law_reads : sorrellaw03_FrameReads.Pure := by
  intro s _
  refine ⟨100001, ?_⟩
  unfold sorrellaw03_FrameReads.f
  by_cases h1 : (s.size : Int) > 4096
  · rw [if_pos h1, awake_is _ (by omega)]; rfl
  · have hb := (allL_le _ s.data.toList (Nat.le_refl _)).1
    have hl := len_list s
    rw [if_neg h1, fall_is s _ (by omega) (by omega), rfall_is s _ (by omega) (by omega)]
    simp only [Option.bind_some, if_true]
    rw [same_yes _ _ _ rfl (by rw [List.length_map]; omega) (by rw [List.length_map]; omega)]
    simp only [Option.bind_some, if_true]
    rw [awake_is _ (by omega)]; rfl
end Go.Proofs.Ytlgcnpdikchllaa.VaReads
