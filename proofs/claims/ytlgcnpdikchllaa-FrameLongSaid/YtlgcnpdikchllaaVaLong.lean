/- Plain laws on what the functions written out for this seat come to. -/
import Derived.Test.YtlgcnpdikchllaaXAx6
import Derived.Test.YtlgcnpdikchllaaVLib
import Derived.Test.YtlgcnpdikchllaaCLib
import Derived.Test.YtlgcnpdikchllaaVaFrm
namespace Go.Proofs.Ytlgcnpdikchllaa.VaLong
open Go.RowKit Go.Proofs.Ytlgcnpdikchllaa.XA Go.Proofs.Ytlgcnpdikchllaa.VLib Go.Proofs.Ytlgcnpdikchllaa.CLib Go.Proofs.Ytlgcnpdikchllaa.VaFrm Go.Proofs.YtlgcnpdikchllaaW.PrintWords Go.Proofs.YtlgcnpdikchllaaW.PrintLast Go.Proofs.YtlgcnpdikchllaaW.PrintMore
theorem long_is (x : Int) (k : Nat) (hk : 4000000 ≤ k) : sorrellaw03_FrameLong.f k x = some true := by
  obtain ⟨r, hr, e⟩ := and_small x 3 (by decide)
  unfold sorrellaw03_FrameLong.f
  rw [show Go.bits .and .i64 x 3 = (r : Int) from e, w64 (by omega) (by omega), if_pos (by omega), show ((262143 : Int) + (r : Int)).toNat = 262143 + r from by omega, if_pos (by omega)]
  simp only [Option.bind_some]
  have hz : (strOfNums (List.replicate (262143 + r) 0)).size = 262143 + r := by
    rw [nums_bs, bs_size, List.length_map, List.length_replicate]
  generalize strOfNums (List.replicate (262143 + r) 0) = s at hz ⊢
  have hl := len_list s
  by_cases c : 262144 < s.size
  · rw [fput_no s _ c]
    simp only [Option.bind_some]
    rw [if_pos (by omega), if_pos (by rw [toList_data]; rfl), if_pos trivial, awake_is _ (by omega)]; rfl
  · have hf := frm_le s.data.toList (by omega)
    have ht := takeF_frm s.data.toList [] (by omega)
    rw [List.append_nil] at ht
    rw [fput_ok s _ (by omega) (by omega)]
    simp only [Option.bind_some]
    rw [if_neg (by omega), ftake_is _ _ (by rw [bs_size]; omega) (by rw [bs_size]; omega), bs_list, ht]
    simp only [Option.bind_some]
    rw [if_pos trivial, if_pos (show ((0 : Nat) : Int) = 0 from rfl), if_pos (by rw [bs_of]), if_pos (by rw [bs_size]), awake_is _ (by omega)]; rfl
theorem law_long : sorrellaw03_FrameLong.Pure := fun x _ => ⟨4000000, long_is x _ (Nat.le_refl _)⟩
end Go.Proofs.Ytlgcnpdikchllaa.VaLong
