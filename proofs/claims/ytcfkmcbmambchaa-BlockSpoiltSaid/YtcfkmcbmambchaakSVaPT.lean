import Derived.Test.YtcfkmcbmambchaakSXAx0
import Derived.Test.YtcfkmcbmambchaakSXAx7
import Derived.Test.YtcfkmcbmambchaakSXAx2
import Derived.Test.YtcfkmcbmambchaakSXAx3
import Derived.Test.YtcfkmcbmambchaakSXAx4
import Derived.Test.YtcfkmcbmambchaakSVLib
import Derived.Test.YtcfkmcbmambchaakSCLib
import Derived.Test.YtcfkmcbmambchaakSXW
import Derived.Test.YtcfkmcbmambchaakSVaB1
import Derived.Test.YtcfkmcbmambchaakSVaChk
import Derived.Test.YtcfkmcbmambchaakSVaPut
import Derived.Test.YtcfkmcbmambchaakSVaRT
import Derived.Test.YtcfkmcbmambchaakSVaRT2
namespace Go.Proofs.Ytcfkmcbmambchaa.XA
end Go.Proofs.Ytcfkmcbmambchaa.XA
namespace Go.Proofs.Ytcfkmcbmambchaa.VLib
end Go.Proofs.Ytcfkmcbmambchaa.VLib
namespace Go.Proofs.Ytcfkmcbmambchaa.CLib
end Go.Proofs.Ytcfkmcbmambchaa.CLib
namespace Go.Proofs.Ytcfkmcbmambchaa.XW
end Go.Proofs.Ytcfkmcbmambchaa.XW
namespace Go.Proofs.Ytcfkmcbmambchaa.VaB1
end Go.Proofs.Ytcfkmcbmambchaa.VaB1
namespace Go.Proofs.Ytcfkmcbmambchaa.VaChk
end Go.Proofs.Ytcfkmcbmambchaa.VaChk
namespace Go.Proofs.Ytcfkmcbmambchaa.VaPut
end Go.Proofs.Ytcfkmcbmambchaa.VaPut
namespace Go.Proofs.Ytcfkmcbmambchaa.VaRT
end Go.Proofs.Ytcfkmcbmambchaa.VaRT
namespace Go.Proofs.Ytcfkmcbmambchaa.VaRT2
end Go.Proofs.Ytcfkmcbmambchaa.VaRT2
namespace Go.Proofs.YtcfkmcbmambchaaW.PrintWords
end Go.Proofs.YtcfkmcbmambchaaW.PrintWords
namespace Go.Proofs.YtcfkmcbmambchaaW.PrintLast
end Go.Proofs.YtcfkmcbmambchaaW.PrintLast
namespace Go.Proofs.YtcfkmcbmambchaaW.PrintMore
end Go.Proofs.YtcfkmcbmambchaaW.PrintMore
namespace Go.Proofs.Ytcfkmcbmambchaa.VaPT
open Go.RowKit Go.Proofs.Ytcfkmcbmambchaa.XA Go.Proofs.Ytcfkmcbmambchaa.VLib Go.Proofs.Ytcfkmcbmambchaa.CLib Go.Proofs.Ytcfkmcbmambchaa.XW Go.Proofs.Ytcfkmcbmambchaa.VaB1 Go.Proofs.Ytcfkmcbmambchaa.VaChk Go.Proofs.Ytcfkmcbmambchaa.VaPut Go.Proofs.Ytcfkmcbmambchaa.VaRT Go.Proofs.Ytcfkmcbmambchaa.VaRT2 Go.Proofs.YtcfkmcbmambchaaW.PrintWords Go.Proofs.YtcfkmcbmambchaaW.PrintLast Go.Proofs.YtcfkmcbmambchaaW.PrintMore
theorem bnum (s : ByteArray) (ok : Bool) (k : Nat) (hk : 10 ≤ k) : ∃ S : ByteArray, block_reader_number.f k s ok = some ((((takeN s.data.toList).1 : Nat) : Int), S, ok && decide ((takeN s.data.toList).2.2 = 0)) ∧ S.data.toList = s.data.toList.drop (takeN s.data.toList).2.1 := by
  have h := (takeN_le s.data.toList).1
  have hl := len_list s
  refine ⟨s.extract (takeN s.data.toList).2.1 s.size, ?_, ext_drop _ _⟩
  unfold block_reader_number.f
  rw [take_is s k hk, Option.bind_some]
  dsimp only [outI]
  rw [if_pos (by omega), if_pos (by omega), Int.toNat_natCast]
  refine congrArg some (congrArg (Prod.mk _) (congrArg (Prod.mk _) (congrArg (and ok) ?_)))
  rw [Bool.eq_iff_iff, beq_iff_eq, decide_eq_true_eq]; omega
theorem btxt (s : ByteArray) (ok : Bool) (k : Nat) (hs : s.size ≤ 1099511627776) (hk : 10 ≤ k) : ∃ S : ByteArray, block_reader_text.f k s ok = some (bs (takeX s.data.toList).1, S, ok && decide ((takeX s.data.toList).2.2 = 0)) ∧ S.data.toList = s.data.toList.drop (takeX s.data.toList).2.1 := by
  have h := (takeX_le s.data.toList).1
  have hl := len_list s
  refine ⟨s.extract (takeX s.data.toList).2.1 s.size, ?_, ext_drop _ _⟩
  unfold block_reader_text.f
  rw [ttext_is s k (by omega) hk, Option.bind_some]
  dsimp only [outT]
  rw [if_pos (by omega), if_pos (by omega), Int.toNat_natCast]
  refine congrArg some (congrArg (Prod.mk _) (congrArg (Prod.mk _) (congrArg (and ok) ?_)))
  rw [Bool.eq_iff_iff, beq_iff_eq, decide_eq_true_eq]; omega
theorem drop_size (s S : ByteArray) (a : Nat) (h : S.data.toList = s.data.toList.drop a) : S.size ≤ s.size := by
  rw [← len_list, h, List.length_drop, len_list]; omega
theorem btk_no (N i : Int) (s : ByteArray) (out : List S36) (last : ByteArray) (k : Nat) (hs : s.size ≤ 1099511627776) (hk : 11 ≤ k) : block_Take.l0 k N s false out last i = some ([], 90) := by
  obtain ⟨k, rfl⟩ : ∃ m, k = m + 1 := ⟨k - 1, by omega⟩
  obtain ⟨S1, r1, d1⟩ := bnum s false k (by omega)
  have z1 := drop_size _ _ _ d1
  obtain ⟨S2, r2, d2⟩ := btxt S1 (false && decide ((takeN s.data.toList).2.2 = 0)) k (by omega) (by omega)
  obtain ⟨S3, r3, d3⟩ := bnum S2 ((false && decide ((takeN s.data.toList).2.2 = 0)) && decide ((takeX S1.data.toList).2.2 = 0)) k (by omega)
  simp only [block_Take.l0]
  by_cases c : i < N
  · rw [if_pos c, r1, Option.bind_some]; dsimp only; rw [r2, Option.bind_some]; dsimp only; rw [r3, Option.bind_some]; dsimp only
    rw [if_neg (by simp)]
  · rw [if_neg c, if_neg (by decide)]
theorem btk_l0 (N : Nat) (hN : N ≤ 4096) (Z : Nat) (hZ : Z ≤ 1099511627776) : ∀ (n i k : Nat) (s : ByteArray) (out : List S36) (last : ByteArray), i + n = N → s.size + last.size ≤ Z → out.length = i → n + Z + 5000 ≤ k →
    block_Take.l0 k (N : Int) s true out last (i : Int) = some (outB (endB out s.size (entsL n last.data.toList s.data.toList))) := by
  intro n
  induction n with
  | zero =>
    intro i k s out last h hz ho hk
    obtain ⟨k, rfl⟩ : ∃ m, k = m + 1 := ⟨k - 1, by omega⟩
    simp only [block_Take.l0]
    rw [if_neg (by omega), if_pos trivial]
    unfold endB
    simp only [entsL, Option.bind_some, List.append_nil]
    by_cases c : s.size = 0
    · rw [if_pos ((nil_size s).2 c), check_is_ out k (by omega), Option.bind_some]
      cases hb : okB out
      · rw [if_neg (show ¬ (false = true) by decide), if_neg (show ¬ ((1 : Int) = 0) by decide), if_neg (show ¬ (0 = s.size ∧ false = true) from fun x => by cases x.2)]; rfl
      · rw [if_pos (show true = true from rfl), if_pos (show (0 : Int) = 0 from rfl), if_pos (show 0 = s.size ∧ true = true from ⟨c.symm, rfl⟩)]; rfl
    · rw [if_neg (fun e => c ((nil_size s).1 e)), if_neg (fun x => c x.1.symm)]; rfl
  | succ n ih =>
    intro i k s out last h hz ho hk
    obtain ⟨k, rfl⟩ : ∃ m, k = m + 1 := ⟨k - 1, by omega⟩
    have hls := len_list s
    have hll := len_list last
    have hw := one_ways last.data.toList s.data.toList
    have en := fun hh => endB_none out s.size n last.data.toList s.data.toList hh
    have es := fun e m hh hm => endB_step out s.size n last.data.toList s.data.toList e m hh hm
    have ol := fun e m hh => one_len last.data.toList s.data.toList e m hh
    obtain ⟨S1, r1, d1⟩ := bnum s true k (by omega)
    have z1 := drop_size _ _ _ d1
    simp only [block_Take.l0]
    rw [if_pos (by omega), r1, Option.bind_some]
    dsimp only
    obtain ⟨S2, r2, d2⟩ := btxt S1 (true && decide ((takeN s.data.toList).2.2 = 0)) k (by omega) (by omega)
    have z2 := drop_size _ _ _ d2
    rw [r2, Option.bind_some]
    dsimp only
    obtain ⟨S3, r3, d3⟩ := bnum S2 ((true && decide ((takeN s.data.toList).2.2 = 0)) && decide ((takeX S1.data.toList).2.2 = 0)) k (by omega)
    have z3 := drop_size _ _ _ d3
    rw [r3, Option.bind_some]
    dsimp only
    rw [d2, d1, List.drop_drop] at d3 r3 ⊢
    rw [d1] at d2
    clear r1 r2 r3
    generalize ho1 : oneL last.data.toList s.data.toList = o at hw
    have com : ∀ (m : Nat) (t : List UInt8), m ≤ last.size → block_common.f k last (last.extract 0 m ++ bs t) = some ((lcp last.data.toList (last.data.toList.take m ++ t) : Nat) : Int) := fun m t _ => by
      rw [com_is last _ k (by omega) (by omega), key_form, bs_list]
    cases hw with
    | n a e m h1 h2 =>
      rw [en ho1, h1]; dsimp only
      split
      · next hh =>
        rw [Bool.and_eq_true, Bool.and_eq_true, Bool.and_eq_true, decide_eq_true_eq] at hh
        rw [if_neg (by omega)]; rfl
      · rfl
    | t m a t b f h1 h2 h3 h4 =>
      rw [en ho1, h1]; dsimp only; rw [h3]; dsimp only
      rw [if_neg (by rw [decide_eq_false h4]; simp)]; rfl
    | q m a t b q c g h1 h2 h3 h4 h5 =>
      rw [en ho1, h1]; dsimp only; rw [h3]; dsimp only; rw [h4]; dsimp only
      split
      · next hh =>
        rw [Bool.and_eq_true, decide_eq_true_eq] at hh
        rw [if_pos (by omega), if_pos (by omega), Int.toNat_natCast, if_pos (by
          have e1 := key_form_size last m
          have e2 := takeX_le (s.data.toList.drop a)
          rw [h3] at e2; dsimp only at e2
          rw [bs_size]; omega), com m t (by omega), Option.bind_some, if_neg (by omega)]; rfl
      · rfl
    | gone m a t b q c h1 h2 h3 h4 h5 h6 =>
      obtain ⟨l1, l2⟩ := ol _ _ ho1
      have e2 := takeX_le (s.data.toList.drop a)
      have e3 := takeN_le (s.data.toList.drop (a + b))
      rw [h3] at e2; rw [h4] at e3
      dsimp only at e2 e3
      rw [es _ _ ho1 (by omega), h1]
      rw [h1] at d1 d2 d3
      dsimp only at d1 d2 d3 ⊢
      rw [h3] at d2 d3 ⊢
      dsimp only at d2 d3 ⊢
      simp only [List.drop_drop, h4] at d3
      rw [← Nat.add_assoc] at d3
      rw [h4]
      dsimp only
      rw [if_pos (by simp), if_pos (by omega), if_pos (by omega), Int.toNat_natCast, if_pos (by have e1 := key_form_size last m; rw [bs_size]; omega), com m t (by omega), Option.bind_some, h5, if_pos rfl, if_pos (by omega), and1_i64 q (by omega), if_neg (by omega), w64 (by omega) (by omega), show (i : Int) + 1 = ((i + 1 : Nat) : Int) from by omega]
      have hsz : S3.size = s.size - (a + b + c) := by rw [← len_list, d3, List.length_drop, hls]
      have hk1 : (kL ⟨bs (last.data.toList.take m ++ t), bs [], true, ((q / 2 : Nat) : Int)⟩).length = (bs (last.data.toList.take m ++ t)).size := len_list _
      rw [show ((true && decide ((0 : Nat) = 0)) && decide ((0 : Nat) = 0) && decide ((0 : Nat) = 0)) = true from rfl, show ((q : Int) / 2) = ((q / 2 : Nat) : Int) from by omega, ih (i + 1) k S3 _ _ (by omega) (by rw [key_form]; omega) (by rw [List.length_append, ho]; rfl) (by omega), d3, hsz, key_form]
      rfl
    | v m a t b q c v d h h1 h2 h3 h4 h5 h6 h7 h8 =>
      have e2 := takeX_le (s.data.toList.drop a)
      have e3 := takeN_le (s.data.toList.drop (a + b))
      rw [h3] at e2; rw [h4] at e3
      dsimp only at e2 e3
      rw [en ho1, h1]
      rw [h1] at d1 d2 d3
      dsimp only at d1 d2 d3 ⊢
      rw [h3] at d2 d3 ⊢
      dsimp only at d2 d3 ⊢
      simp only [List.drop_drop, h4] at d3
      rw [← Nat.add_assoc] at d3
      rw [h4]
      dsimp only
      rw [if_pos (by simp), if_pos (by omega), if_pos (by omega), Int.toNat_natCast, if_pos (by have e1 := key_form_size last m; rw [bs_size]; omega), com m t (by omega), Option.bind_some, h5, if_pos rfl, if_pos (by omega), and1_i64 q (by omega), if_pos (by omega)]
      obtain ⟨S4, r4, d4⟩ := btxt S3 ((true && decide ((0 : Nat) = 0)) && decide ((0 : Nat) = 0) && decide ((0 : Nat) = 0)) k (by omega) (by omega)
      have z4 := drop_size _ _ _ d4
      rw [r4, Option.bind_some]
      dsimp only
      rw [d3, h7]
      dsimp only
      rw [decide_eq_false h8, Bool.and_false]
      exact btk_no _ _ _ _ _ k (by omega) (by omega)
    | all m a t b q c v d h1 h2 h3 h4 h5 h6 h7 =>
      obtain ⟨l1, l2⟩ := ol _ _ ho1
      have e2 := takeX_le (s.data.toList.drop a)
      have e3 := takeN_le (s.data.toList.drop (a + b))
      rw [h3] at e2; rw [h4] at e3
      dsimp only at e2 e3
      rw [es _ _ ho1 (by omega), h1]
      rw [h1] at d1 d2 d3
      dsimp only at d1 d2 d3 ⊢
      rw [h3] at d2 d3 ⊢
      dsimp only at d2 d3 ⊢
      simp only [List.drop_drop, h4] at d3
      rw [← Nat.add_assoc] at d3
      rw [h4]
      dsimp only
      rw [if_pos (by simp), if_pos (by omega), if_pos (by omega), Int.toNat_natCast, if_pos (by have e1 := key_form_size last m; rw [bs_size]; omega), com m t (by omega), Option.bind_some, h5, if_pos rfl, if_pos (by omega), and1_i64 q (by omega), if_pos (by omega)]
      obtain ⟨S4, r4, d4⟩ := btxt S3 ((true && decide ((0 : Nat) = 0)) && decide ((0 : Nat) = 0) && decide ((0 : Nat) = 0)) k (by omega) (by omega)
      rw [r4, Option.bind_some]
      dsimp only
      rw [d3, h7] at d4 ⊢
      dsimp only at d4 ⊢
      rw [List.drop_drop] at d4
      have hsz : S4.size = s.size - (a + b + c + d) := by rw [← len_list, d4, List.length_drop, hls]
      have hk1 : (kL ⟨bs (last.data.toList.take m ++ t), bs v, false, ((q / 2 : Nat) : Int)⟩).length = (bs (last.data.toList.take m ++ t)).size := len_list _
      rw [w64 (by omega) (by omega), show (i : Int) + 1 = ((i + 1 : Nat) : Int) from by omega, show ((true && decide ((0 : Nat) = 0)) && decide ((0 : Nat) = 0) && decide ((0 : Nat) = 0) && decide ((0 : Nat) = 0)) = true from rfl, show ((q : Int) / 2) = ((q / 2 : Nat) : Int) from by omega, ih (i + 1) k S4 _ _ (by omega) (by rw [key_form]; omega) (by rw [List.length_append, ho]; rfl) (by omega), d4, hsz, key_form]
      rfl
theorem btk_is (s : ByteArray) (k : Nat) (hs : s.size ≤ 1099511627776) (hk : 10 * s.size + 9200 ≤ k) : block_Take.f k s = some (outB (blkT s.data.toList)) := by
  have hls := len_list s
  unfold block_Take.f
  rw [check_is s k (by omega) (by omega), Option.bind_some, blkT_end]
  cases hc : chk s.data.toList
  · rw [if_neg (by decide), if_neg (fun x => by cases x.1)]; rfl
  · have h4 := chk_len _ hc
    rw [if_pos rfl, w64 (by omega) (by omega), if_pos (by omega), if_pos (by omega), show ((s.size : Int) - 4).toNat = s.data.toList.length - 4 from by omega]
    have hx : (s.extract 0 (s.data.toList.length - 4)).data.toList = s.data.toList.take (s.data.toList.length - 4) := by rw [extract_list, List.drop_zero]
    have hz : (s.extract 0 (s.data.toList.length - 4)).size = (s.data.toList.take (s.data.toList.length - 4)).length := by rw [← len_list, hx]
    have hz2 : (s.data.toList.take (s.data.toList.length - 4)).length ≤ s.size := by rw [List.length_take]; omega
    have hn := takeN_le (s.data.toList.take (s.data.toList.length - 4))
    obtain ⟨S1, r1, d1⟩ := bnum (s.extract 0 (s.data.toList.length - 4)) true k (by omega)
    rw [r1, Option.bind_some, hx]
    dsimp only
    rw [hx] at d1
    have z1 : S1.size = (s.data.toList.take (s.data.toList.length - 4)).length - (takeN (s.data.toList.take (s.data.toList.length - 4))).2.1 := by rw [← len_list, d1, List.length_drop]
    by_cases c : (takeN (s.data.toList.take (s.data.toList.length - 4))).2.2 = 0
    · rw [decide_eq_true c, show (true && true) = true from rfl, if_pos rfl]
      by_cases d : (takeN (s.data.toList.take (s.data.toList.length - 4))).1 ≤ 4096
      · rw [if_neg (by omega), if_pos ⟨rfl, c, d⟩]
        have := btk_l0 (takeN (s.data.toList.take (s.data.toList.length - 4))).1 d s.size hs (takeN (s.data.toList.take (s.data.toList.length - 4))).1 0 k S1 [] (⟨#[]⟩ : ByteArray) (by omega) (by rw [z1]; exact Nat.le_trans (Nat.sub_le _ _) hz2) rfl (by omega)
        rw [d1, z1] at this
        exact this
      · rw [if_pos (by omega), if_neg (fun x => d x.2.2)]; rfl
    · rw [decide_eq_false c, if_neg (by decide), if_neg (fun x => c x.2.1)]; rfl
theorem s36_ext {a b : S36} (h0 : a.f0 = b.f0) (h1 : a.f1 = b.f1) (h2 : a.f2 = b.f2) (h3 : a.f3 = b.f3) : a = b := by
  cases a; cases b; simp only at h0 h1 h2 h3; subst h0; subst h1; subst h2; subst h3; rfl
theorem sameE_l0 (a : List S36) (ha : a.length ≤ 4611686018427387904) : ∀ (n i k : Nat), i + n = a.length → n + 1 ≤ k → sorrelref04_Same.l0 k a a (i : Int) = some true := by
  intro n
  induction n with
  | zero =>
    intro i k h hk
    obtain ⟨k, rfl⟩ : ∃ m, k = m + 1 := ⟨k - 1, by omega⟩
    simp only [sorrelref04_Same.l0]
    rw [if_neg (by omega)]
  | succ n ih =>
    intro i k h hk
    obtain ⟨k, rfl⟩ : ∃ m, k = m + 1 := ⟨k - 1, by omega⟩
    simp only [sorrelref04_Same.l0]
    rw [if_pos (by omega), if_pos (by omega), if_pos (by omega), if_neg (by simp), w64 (by omega) (by omega), show (i : Int) + 1 = ((i + 1 : Nat) : Int) from by omega]
    exact ih (i + 1) k (by omega) (by omega)
theorem sameE_yes (a : List S36) (k : Nat) (ha : a.length ≤ 4611686018427387904) (hk : a.length + 1 ≤ k) : sorrelref04_Same.f k a a = some true := by
  unfold sorrelref04_Same.f
  rw [if_pos rfl]
  exact sameE_l0 a ha a.length 0 k (by omega) hk
end Go.Proofs.Ytcfkmcbmambchaa.VaPT
