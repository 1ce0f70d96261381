/- Plain laws on what the functions written out for this seat come to. -/
import Derived.Test.YtcfkmcbmambchaaXStatBlockPuts
import Derived.Test.YtcfkmcbmambchaaVLib
import Derived.Test.YtcfkmcbmambchaaCLib
import Derived.Test.YtcfkmcbmambchaaXW
import Derived.Test.YtcfkmcbmambchaaVaB1
import Derived.Test.YtcfkmcbmambchaaVaChk
import Derived.Test.YtcfkmcbmambchaaVaPut
import Derived.Test.YtcfkmcbmambchaaVaB2
import Derived.Test.YtcfkmcbmambchaaVaRPut
namespace Go.Proofs.Ytcfkmcbmambchaa.VaPuts
open Go.RowKit Go.Proofs.Ytcfkmcbmambchaa.XA Go.Proofs.Ytcfkmcbmambchaa.VLib Go.Proofs.Ytcfkmcbmambchaa.CLib Go.Proofs.Ytcfkmcbmambchaa.XW Go.Proofs.Ytcfkmcbmambchaa.VaB1 Go.Proofs.Ytcfkmcbmambchaa.VaChk Go.Proofs.Ytcfkmcbmambchaa.VaPut Go.Proofs.Ytcfkmcbmambchaa.VaB2 Go.Proofs.Ytcfkmcbmambchaa.VaRPut Go.Proofs.YtcfkmcbmambchaaW.PrintWords Go.Proofs.YtcfkmcbmambchaaW.PrintLast Go.Proofs.YtcfkmcbmambchaaW.PrintMore
theorem light_l0 (l : List S36) : ∀ (n i k : Nat), i + n = 61 → n + 1 ≤ k → ∃ b, sorrellaw09_light.l0 k l (i : Int) = some b ∧ (b = true → l.length ≤ 60) := by
  intro n
  induction n with
  | zero =>
    intro i k h hk
    obtain ⟨k, rfl⟩ : ∃ m, k = m + 1 := ⟨k - 1, by omega⟩
    simp only [sorrellaw09_light.l0]
    by_cases c : i < l.length
    · rw [if_pos (by omega), if_neg (by omega)]; exact ⟨_, rfl, fun h => by have := of_decide_eq_true h; omega⟩
    · rw [if_neg (by omega)]; exact ⟨_, rfl, fun h => by have := of_decide_eq_true h; omega⟩
  | succ n ih =>
    intro i k h hk
    obtain ⟨k, rfl⟩ : ∃ m, k = m + 1 := ⟨k - 1, by omega⟩
    simp only [sorrellaw09_light.l0]
    by_cases c : i < l.length
    · rw [if_pos (by omega)]
      by_cases c2 : i < 60
      · rw [if_pos (by omega), if_pos (by omega)]
        split
        · exact ⟨_, rfl, fun h => by cases h⟩
        · split
          · exact ⟨_, rfl, fun h => by cases h⟩
          · rw [w64 (by omega) (by omega), show (i : Int) + 1 = ((i + 1 : Nat) : Int) from by omega]
            exact ih (i + 1) k (by omega) (by omega)
      · rw [if_neg (by omega)]; exact ⟨_, rfl, fun h => by have := of_decide_eq_true h; omega⟩
    · rw [if_neg (by omega)]; exact ⟨_, rfl, fun h => by have := of_decide_eq_true h; omega⟩
theorem light_is (l : List S36) (k : Nat) (hk : 62 ≤ k) : ∃ b, sorrellaw09_light.f k l = some b ∧ (b = true → l.length ≤ 60) := light_l0 l 61 0 k (by omega) hk
theorem awake_300 : sorrellaw09_awake.f 300 = some true := by kernel_rfl
theorem awake_is (k : Nat) (hk : 300 ≤ k) : sorrellaw09_awake.f k = some true := at_rounds (g := fun k => sorrellaw09_awake.f k) sorrellaw09_awake.mono hk awake_300
theorem puts_is (l : List S36) (K : Nat) (hK : 300000 ≤ K) : sorrellaw09_BlockPuts.f K l = some true := by
  obtain ⟨b, hb, hl⟩ := light_is l K (by omega)
  unfold sorrellaw09_BlockPuts.f
  rw [hb, Option.bind_some]
  cases b
  · rw [if_neg (by decide), awake_is K (by omega)]; rfl
  · rw [if_pos rfl]
    have h60 := hl rfl
    cases h : okB l
    · rw [bput_no l K h (by omega), Option.bind_some, rbput_no l K h (by omega), Option.bind_some, if_pos rfl, if_pos rfl, check_is_ l K (by omega), Option.bind_some, rcheck_is_ l K (by omega), Option.bind_some, if_pos rfl, awake_is K (by omega)]; rfl
    · rw [bput_ok l K h (by omega), Option.bind_some, rbput_ok l K h (by omega), Option.bind_some, if_pos rfl, if_pos rfl, check_is_ l K (by omega), Option.bind_some, rcheck_is_ l K (by omega), Option.bind_some, if_pos rfl, awake_is K (by omega)]; rfl
theorem law_puts : sorrellaw09_BlockPuts.Pure := fun l _ => ⟨300000, puts_is l _ (Nat.le_refl _)⟩
end Go.Proofs.Ytcfkmcbmambchaa.VaPuts
