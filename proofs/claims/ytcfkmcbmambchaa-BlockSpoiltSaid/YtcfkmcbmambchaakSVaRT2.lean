import Derived.Test.YtcfkmcbmambchaakSXAx0
import Derived.Test.YtcfkmcbmambchaakSXAx7
import Derived.Test.YtcfkmcbmambchaakSXAx2
import Derived.Test.YtcfkmcbmambchaakSXAx3
import Derived.Test.YtcfkmcbmambchaakSXAx4
import Derived.Test.YtcfkmcbmambchaakSVLib
import Derived.Test.YtcfkmcbmambchaakSCLib
import Derived.Test.YtcfkmcbmambchaakSXW
import Derived.Test.YtcfkmcbmambchaakSVaB1
import Derived.Test.YtcfkmcbmambchaakSVaChk
import Derived.Test.YtcfkmcbmambchaakSVaPut
import Derived.Test.YtcfkmcbmambchaakSVaRT
namespace Go.Proofs.Ytcfkmcbmambchaa.XA
end Go.Proofs.Ytcfkmcbmambchaa.XA
namespace Go.Proofs.Ytcfkmcbmambchaa.VLib
end Go.Proofs.Ytcfkmcbmambchaa.VLib
namespace Go.Proofs.Ytcfkmcbmambchaa.CLib
end Go.Proofs.Ytcfkmcbmambchaa.CLib
namespace Go.Proofs.Ytcfkmcbmambchaa.XW
end Go.Proofs.Ytcfkmcbmambchaa.XW
namespace Go.Proofs.Ytcfkmcbmambchaa.VaB1
end Go.Proofs.Ytcfkmcbmambchaa.VaB1
namespace Go.Proofs.Ytcfkmcbmambchaa.VaB2
end Go.Proofs.Ytcfkmcbmambchaa.VaB2
namespace Go.Proofs.Ytcfkmcbmambchaa.VaB3
end Go.Proofs.Ytcfkmcbmambchaa.VaB3
namespace Go.Proofs.Ytcfkmcbmambchaa.VaChk
end Go.Proofs.Ytcfkmcbmambchaa.VaChk
namespace Go.Proofs.Ytcfkmcbmambchaa.VaPut
end Go.Proofs.Ytcfkmcbmambchaa.VaPut
namespace Go.Proofs.Ytcfkmcbmambchaa.VaRT
end Go.Proofs.Ytcfkmcbmambchaa.VaRT
namespace Go.Proofs.YtcfkmcbmambchaaW.PrintWords
end Go.Proofs.YtcfkmcbmambchaaW.PrintWords
namespace Go.Proofs.YtcfkmcbmambchaaW.PrintLast
end Go.Proofs.YtcfkmcbmambchaaW.PrintLast
namespace Go.Proofs.YtcfkmcbmambchaaW.PrintMore
end Go.Proofs.YtcfkmcbmambchaaW.PrintMore
namespace Go.Proofs.Ytcfkmcbmambchaa.VaRT2
open Go.RowKit Go.Proofs.Ytcfkmcbmambchaa.XA Go.Proofs.Ytcfkmcbmambchaa.VLib Go.Proofs.Ytcfkmcbmambchaa.CLib Go.Proofs.Ytcfkmcbmambchaa.XW Go.Proofs.Ytcfkmcbmambchaa.VaB1 Go.Proofs.Ytcfkmcbmambchaa.VaB2 Go.Proofs.Ytcfkmcbmambchaa.VaB3 Go.Proofs.Ytcfkmcbmambchaa.VaChk Go.Proofs.Ytcfkmcbmambchaa.VaPut Go.Proofs.Ytcfkmcbmambchaa.VaRT Go.Proofs.YtcfkmcbmambchaaW.PrintWords Go.Proofs.YtcfkmcbmambchaaW.PrintLast Go.Proofs.YtcfkmcbmambchaaW.PrintMore
theorem one_len (last s : List UInt8) (e : S36) (m : Nat) (h : oneL last s = some (e, m)) : (kL e).length ≤ last.length + m ∧ m ≤ s.length := by
  have hw := one_ways last s
  rw [h] at hw
  have tn := fun l => takeN_le l
  have tb : ∀ (l t : List UInt8) (b : Nat), takeX l = (t, b, 0) → t.length ≤ b ∧ b ≤ l.length := fun l t b e => by
    obtain ⟨h1, h2, h3, h4⟩ := takeX_back l t b e
    have := congrArg List.length h3
    rw [List.length_append, List.length_take] at this
    omega
  generalize ho : some (e, m) = o at hw
  cases hw with
  | n => cases ho
  | t => cases ho
  | q => cases ho
  | v => cases ho
  | gone n a t b q c h1 h2 h3 h4 h5 h6 =>
    obtain ⟨rfl, rfl⟩ := Prod.mk.inj (Option.some.inj ho)
    obtain ⟨b1, b2⟩ := tb _ _ _ h3
    have n1 := tn s
    have n2 := tn (s.drop (a + b))
    rw [h1] at n1; rw [h4] at n2
    dsimp only at n1 n2
    rw [List.length_drop] at b2 n2
    refine ⟨?_, by omega⟩
    show (last.take n ++ t).length ≤ _
    rw [List.length_append, List.length_take]; omega
  | all n a t b q c v d h1 h2 h3 h4 h5 h6 h7 =>
    obtain ⟨rfl, rfl⟩ := Prod.mk.inj (Option.some.inj ho)
    obtain ⟨b1, b2⟩ := tb _ _ _ h3
    obtain ⟨b3, b4⟩ := tb _ _ _ h7
    have n1 := tn s
    have n2 := tn (s.drop (a + b))
    rw [h1] at n1; rw [h4] at n2
    dsimp only at n1 n2
    rw [List.length_drop] at b2 n2 b4
    refine ⟨?_, by omega⟩
    show (last.take n ++ t).length ≤ _
    rw [List.length_append, List.length_take]; omega
def endB (out : List S36) (left : Nat) (y : Option (List S36 × Nat)) : Option (List S36) := y.bind fun y => if y.2 = left ∧ okB (out ++ y.1) = true then some (out ++ y.1) else none
theorem endB_step (out : List S36) (left : Nat) (n : Nat) (last s : List UInt8) (e : S36) (m : Nat) (h : oneL last s = some (e, m)) (hm : m ≤ left) :
    endB out left (entsL (n + 1) last s) = endB (out ++ [e]) (left - m) (entsL n (kL e) (s.drop m)) := by
  unfold endB
  simp only [entsL]
  rw [h, Option.bind_some]
  cases hy : entsL n (kL e) (s.drop m) with
  | none => rfl
  | some y =>
    simp only [Option.bind_some, List.append_assoc, List.cons_append, List.nil_append]
    by_cases c : y.2 = left - m ∧ okB (out ++ e :: y.1) = true
    · rw [if_pos c, if_pos ⟨by omega, c.2⟩]
    · rw [if_neg c, if_neg (fun x => c ⟨by omega, x.2⟩)]
theorem endB_none (out : List S36) (left : Nat) (n : Nat) (last s : List UInt8) (h : oneL last s = none) : endB out left (entsL (n + 1) last s) = none := by
  unfold endB
  simp only [entsL]
  rw [h]; rfl
theorem blkT_end (s : List UInt8) : blkT s = if chk s = true ∧ (takeN (s.take (s.length - 4))).2.2 = 0 ∧ (takeN (s.take (s.length - 4))).1 ≤ 4096 then
    endB [] ((s.take (s.length - 4)).length - (takeN (s.take (s.length - 4))).2.1) (entsL (takeN (s.take (s.length - 4))).1 [] ((s.take (s.length - 4)).drop (takeN (s.take (s.length - 4))).2.1)) else none := by
  have hn := (takeN_le (s.take (s.length - 4))).1
  unfold blkT endB
  by_cases c : chk s = true ∧ (takeN (s.take (s.length - 4))).2.2 = 0 ∧ (takeN (s.take (s.length - 4))).1 ≤ 4096
  · rw [if_pos c, if_pos c]
    cases entsL (takeN (s.take (s.length - 4))).1 [] ((s.take (s.length - 4)).drop (takeN (s.take (s.length - 4))).2.1) with
    | none => rfl
    | some y =>
      simp only [Option.bind_some, List.nil_append]
      by_cases d : y.2 = (s.take (s.length - 4)).length - (takeN (s.take (s.length - 4))).2.1 ∧ okB y.1 = true
      · rw [if_pos d, if_pos ⟨by omega, d.2⟩]
      · rw [if_neg d, if_neg (fun x => d ⟨by omega, x.2⟩)]
  · rw [if_neg c, if_neg c]
theorem chk_len (s : List UInt8) (h : chk s = true) : 4 ≤ s.length := by
  unfold chk at h
  rw [Bool.and_eq_true, decide_eq_true_eq] at h
  exact h.1
end Go.Proofs.Ytcfkmcbmambchaa.VaRT2
