/- Plain laws on what the functions written out for this seat come to. -/
import Derived.Test.YtcfkmcbmambchaaXAx11
import Derived.Test.YtcfkmcbmambchaaVLib
import Derived.Test.YtcfkmcbmambchaaCLib
import Derived.Test.YtcfkmcbmambchaaXW
import Derived.Test.YtcfkmcbmambchaaVaB1
import Derived.Test.YtcfkmcbmambchaaVaB2
import Derived.Test.YtcfkmcbmambchaaVaB3
import Derived.Test.YtcfkmcbmambchaaVaChk
import Derived.Test.YtcfkmcbmambchaaVaPut
import Derived.Test.YtcfkmcbmambchaaVaRT
namespace Go.Proofs.Ytcfkmcbmambchaa.VaRT2
open Go.RowKit Go.Proofs.Ytcfkmcbmambchaa.XA Go.Proofs.Ytcfkmcbmambchaa.VLib Go.Proofs.Ytcfkmcbmambchaa.CLib Go.Proofs.Ytcfkmcbmambchaa.XW Go.Proofs.Ytcfkmcbmambchaa.VaB1 Go.Proofs.Ytcfkmcbmambchaa.VaB2 Go.Proofs.Ytcfkmcbmambchaa.VaB3 Go.Proofs.Ytcfkmcbmambchaa.VaChk Go.Proofs.Ytcfkmcbmambchaa.VaPut Go.Proofs.Ytcfkmcbmambchaa.VaRT Go.Proofs.YtcfkmcbmambchaaW.PrintWords Go.Proofs.YtcfkmcbmambchaaW.PrintLast Go.Proofs.YtcfkmcbmambchaaW.PrintMore
theorem one_len (last s : List UInt8) (e : S36) (m : Nat) (h : oneL last s = some (e, m)) : (kL e).length ≤ last.length + m ∧ m ≤ s.length := by
  have hw := one_ways last s
  rw [h] at hw
  have tn := fun l => takeN_le l
  have tb : ∀ (l t : List UInt8) (b : Nat), takeX l = (t, b, 0) → t.length ≤ b ∧ b ≤ l.length := fun l t b e => by
    obtain ⟨h1, h2, h3, h4⟩ := takeX_back l t b e
    have := congrArg List.length h3
    rw [List.length_append, List.length_take] at this
    omega
  generalize ho : some (e, m) = o at hw
  cases hw with
  | n => cases ho
  | t => cases ho
  | q => cases ho
  | v => cases ho
  | gone n a t b q c h1 h2 h3 h4 h5 h6 =>
    obtain ⟨rfl, rfl⟩ := Prod.mk.inj (Option.some.inj ho)
    obtain ⟨b1, b2⟩ := tb _ _ _ h3
    have n1 := tn s
    have n2 := tn (s.drop (a + b))
    rw [h1] at n1; rw [h4] at n2
    dsimp only at n1 n2
    rw [List.length_drop] at b2 n2
    refine ⟨?_, by omega⟩
    show (last.take n ++ t).length ≤ _
    rw [List.length_append, List.length_take]; omega
  | all n a t b q c v d h1 h2 h3 h4 h5 h6 h7 =>
    obtain ⟨rfl, rfl⟩ := Prod.mk.inj (Option.some.inj ho)
    obtain ⟨b1, b2⟩ := tb _ _ _ h3
    obtain ⟨b3, b4⟩ := tb _ _ _ h7
    have n1 := tn s
    have n2 := tn (s.drop (a + b))
    rw [h1] at n1; rw [h4] at n2
    dsimp only at n1 n2
    rw [List.length_drop] at b2 n2 b4
    refine ⟨?_, by omega⟩
    show (last.take n ++ t).length ≤ _
    rw [List.length_append, List.length_take]; omega
def endB (out : List S36) (left : Nat) (y : Option (List S36 × Nat)) : Option (List S36) := y.bind fun y => if y.2 = left ∧ okB (out ++ y.1) = true then some (out ++ y.1) else none
theorem endB_step (out : List S36) (left : Nat) (n : Nat) (last s : List UInt8) (e : S36) (m : Nat) (h : oneL last s = some (e, m)) (hm : m ≤ left) :
    endB out left (entsL (n + 1) last s) = endB (out ++ [e]) (left - m) (entsL n (kL e) (s.drop m)) := by
  unfold endB
  simp only [entsL]
  rw [h, Option.bind_some]
  cases hy : entsL n (kL e) (s.drop m) with
  | none => rfl
  | some y =>
    simp only [Option.bind_some, List.append_assoc, List.cons_append, List.nil_append]
    by_cases c : y.2 = left - m ∧ okB (out ++ e :: y.1) = true
    · rw [if_pos c, if_pos ⟨by omega, c.2⟩]
    · rw [if_neg c, if_neg (fun x => c ⟨by omega, x.2⟩)]
theorem endB_none (out : List S36) (left : Nat) (n : Nat) (last s : List UInt8) (h : oneL last s = none) : endB out left (entsL (n + 1) last s) = none := by
  unfold endB
  simp only [entsL]
  rw [h]; rfl
theorem rtk_l0 (S : ByteArray) (hS : S.size ≤ 1099511627776) (N : Nat) (hN : N ≤ 4096) : ∀ (n i k p : Nat) (out : List S36) (last : ByteArray), i + n = N → p ≤ S.size → last.size ≤ p → out.length = i → n + S.size + 5000 ≤ k →
    sorrelref09_Take.l0 k S (N : Int) (p : Int) out last (i : Int) = some (outB (endB out (S.size - p) (entsL n last.data.toList (S.data.toList.drop p)))) := by
  have hlS := len_list S
  intro n
  induction n with
  | zero =>
    intro i k p out last h hp hl ho hk
    obtain ⟨k, rfl⟩ : ∃ m, k = m + 1 := ⟨k - 1, by omega⟩
    simp only [sorrelref09_Take.l0]
    rw [if_neg (by omega)]
    unfold endB
    simp only [entsL, Option.bind_some, List.append_nil]
    by_cases c : p = S.size
    · rw [if_pos (by omega), rcheck_is_ out k (by omega), Option.bind_some]
      cases hb : okB out
      · rw [if_neg (show ¬ (false = true) by decide), if_neg (show ¬ ((1 : Int) = 0) by decide), if_neg (show ¬ (0 = S.size - p ∧ false = true) from fun x => by cases x.2)]; rfl
      · rw [if_pos (show true = true from rfl), if_pos (show (0 : Int) = 0 from rfl), if_pos (show 0 = S.size - p ∧ true = true from ⟨by omega, rfl⟩)]; rfl
    · rw [if_neg (by omega), if_neg (fun x => c (by omega))]; rfl
  | succ n ih =>
    intro i k p out last h hp hl ho hk
    obtain ⟨k, rfl⟩ : ∃ m, k = m + 1 := ⟨k - 1, by omega⟩
    have hx : (S.extract p S.size).data.toList = S.data.toList.drop p := ext_drop S p
    have hz : (S.extract p S.size).size ≤ S.size := by rw [← len_list, hx, List.length_drop]; omega
    obtain ⟨r, hr, hm⟩ := rone_is (S.extract p S.size) last k (by omega) (by omega) (by omega)
    rw [hx] at hm
    simp only [sorrelref09_Take.l0]
    rw [if_pos (by omega), if_pos (by omega), if_pos (by omega), Int.toNat_natCast, hr, Option.bind_some]
    cases ho1 : oneL last.data.toList (S.data.toList.drop p) with
    | none =>
      rw [ho1] at hm
      dsimp only at hm
      rw [hm, if_neg (by decide), endB_none _ _ _ _ _ ho1]; rfl
    | some x =>
      obtain ⟨e, m⟩ := x
      rw [ho1] at hm
      dsimp only at hm
      subst hm
      obtain ⟨l1, l2⟩ := one_len _ _ e m ho1
      rw [List.length_drop] at l2
      rw [len_list] at l1
      dsimp only
      rw [if_pos rfl, if_pos (by omega), w64 (by omega) (by omega), w64 (by omega) (by omega), show (p : Int) + (m : Int) = ((p + m : Nat) : Int) from by omega, show (i : Int) + 1 = ((i + 1 : Nat) : Int) from by omega,
        ih (i + 1) k (p + m) _ e.f0 (by omega) (by omega) (by have : (kL e).length = e.f0.size := len_list _; omega) (by rw [List.length_append, ho]; rfl) (by omega), endB_step _ _ _ _ _ e m ho1 (by omega), List.drop_drop, Nat.sub_sub]
      rfl
theorem blkT_end (s : List UInt8) : blkT s = if chk s = true ∧ (takeN (s.take (s.length - 4))).2.2 = 0 ∧ (takeN (s.take (s.length - 4))).1 ≤ 4096 then
    endB [] ((s.take (s.length - 4)).length - (takeN (s.take (s.length - 4))).2.1) (entsL (takeN (s.take (s.length - 4))).1 [] ((s.take (s.length - 4)).drop (takeN (s.take (s.length - 4))).2.1)) else none := by
  have hn := (takeN_le (s.take (s.length - 4))).1
  unfold blkT endB
  by_cases c : chk s = true ∧ (takeN (s.take (s.length - 4))).2.2 = 0 ∧ (takeN (s.take (s.length - 4))).1 ≤ 4096
  · rw [if_pos c, if_pos c]
    cases entsL (takeN (s.take (s.length - 4))).1 [] ((s.take (s.length - 4)).drop (takeN (s.take (s.length - 4))).2.1) with
    | none => rfl
    | some y =>
      simp only [Option.bind_some, List.nil_append]
      by_cases d : y.2 = (s.take (s.length - 4)).length - (takeN (s.take (s.length - 4))).2.1 ∧ okB y.1 = true
      · rw [if_pos d, if_pos ⟨by omega, d.2⟩]
      · rw [if_neg d, if_neg (fun x => d ⟨by omega, x.2⟩)]
  · rw [if_neg c, if_neg c]
theorem chk_len (s : List UInt8) (h : chk s = true) : 4 ≤ s.length := by
  unfold chk at h
  rw [Bool.and_eq_true, decide_eq_true_eq] at h
  exact h.1
theorem rtk_is (s : ByteArray) (k : Nat) (hs : s.size ≤ 1099511627776) (hk : 10 * s.size + 9200 ≤ k) : sorrelref09_Take.f k s = some (outB (blkT s.data.toList)) := by
  have hls := len_list s
  unfold sorrelref09_Take.f
  rw [rcheck_is s k (by omega) (by omega), Option.bind_some, blkT_end]
  cases hc : chk s.data.toList
  · rw [if_neg (by decide), if_neg (fun x => by cases x.1)]; rfl
  · have h4 := chk_len _ hc
    rw [if_pos rfl, w64 (by omega) (by omega), if_pos (by omega), if_pos (by omega), show ((s.size : Int) - 4).toNat = s.data.toList.length - 4 from by omega]
    have hx : (s.extract 0 (s.data.toList.length - 4)).data.toList = s.data.toList.take (s.data.toList.length - 4) := by rw [extract_list, List.drop_zero]
    have hz : (s.extract 0 (s.data.toList.length - 4)).size = (s.data.toList.take (s.data.toList.length - 4)).length := by rw [← len_list, hx]
    have hz2 : (s.data.toList.take (s.data.toList.length - 4)).length ≤ s.size := by rw [List.length_take]; omega
    have hn := takeN_le (s.data.toList.take (s.data.toList.length - 4))
    rw [rtake_is _ k (by omega), hx, Option.bind_some]
    dsimp only [outI]
    by_cases c : (takeN (s.data.toList.take (s.data.toList.length - 4))).2.2 = 0
    · rw [if_pos (by omega)]
      by_cases d : (takeN (s.data.toList.take (s.data.toList.length - 4))).1 ≤ 4096
      · rw [if_neg (by omega), if_pos ⟨rfl, c, d⟩]
        have := rtk_l0 (s.extract 0 (s.data.toList.length - 4)) (by omega) (takeN (s.data.toList.take (s.data.toList.length - 4))).1 d (takeN (s.data.toList.take (s.data.toList.length - 4))).1 0 k (takeN (s.data.toList.take (s.data.toList.length - 4))).2.1 [] (⟨#[]⟩ : ByteArray) (by omega) (by omega) (Nat.zero_le _) rfl (by omega)
        rw [hx, hz] at this
        exact this
      · rw [if_pos (by omega), if_neg (fun x => d x.2.2)]; rfl
    · rw [if_neg (by omega), if_neg (fun x => c x.2.1)]; rfl
end Go.Proofs.Ytcfkmcbmambchaa.VaRT2
