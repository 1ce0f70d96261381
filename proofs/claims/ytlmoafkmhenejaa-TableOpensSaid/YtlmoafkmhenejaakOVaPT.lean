import Derived.Test.YtlmoafkmhenejaakOXAx0
import Derived.Test.YtlmoafkmhenejaakOXAx3
import Derived.Test.YtlmoafkmhenejaakOXAx4
import Derived.Test.YtlmoafkmhenejaakOXAx5
import Derived.Test.YtlmoafkmhenejaakOXAx6
import Derived.Test.YtlmoafkmhenejaakOXAx7
import Derived.Test.YtlmoafkmhenejaakOXAx8
import Derived.Test.YtlmoafkmhenejaakOXAx9
import Derived.Test.YtlmoafkmhenejaakOXAx10
import Derived.Test.YtlmoafkmhenejaakOXAx11
import Derived.Test.YtlmoafkmhenejaakOXAx13
import Derived.Test.YtlmoafkmhenejaakOXAx14
import Derived.Test.YtlmoafkmhenejaakOXAx15
import Derived.Test.YtlmoafkmhenejaakOVLib
import Derived.Test.YtlmoafkmhenejaakOMTab10
import Derived.Test.YtlmoafkmhenejaakOOpn
import Derived.Test.YtlmoafkmhenejaakOVaRT
import Derived.Test.YtlmoafkmhenejaakOMTab4
import Derived.Test.YtlmoafkmhenejaakOVaBl
section
namespace Go.Proofs.Ytlmoafkmhenejaa.XA
end Go.Proofs.Ytlmoafkmhenejaa.XA
namespace Go.Proofs.Ytlmoafkmhenejaa.VLib
end Go.Proofs.Ytlmoafkmhenejaa.VLib
namespace Go.Proofs.Ytlmoafkmhenejaa.CLib
end Go.Proofs.Ytlmoafkmhenejaa.CLib
namespace Go.Proofs.Ytlmoafkmhenejaa.XW
end Go.Proofs.Ytlmoafkmhenejaa.XW
namespace Go.Proofs.Ytlmoafkmhenejaa.VaB1
end Go.Proofs.Ytlmoafkmhenejaa.VaB1
namespace Go.Proofs.Ytlmoafkmhenejaa.VaChk
end Go.Proofs.Ytlmoafkmhenejaa.VaChk
namespace Go.Proofs.Ytlmoafkmhenejaa.VaPut
end Go.Proofs.Ytlmoafkmhenejaa.VaPut
namespace Go.Proofs.Ytlmoafkmhenejaa.VaRT
end Go.Proofs.Ytlmoafkmhenejaa.VaRT
namespace Go.Proofs.Ytlmoafkmhenejaa.VaRT2
end Go.Proofs.Ytlmoafkmhenejaa.VaRT2
namespace Go.Proofs.YtlmoafkmhenejaaW.PrintWords
end Go.Proofs.YtlmoafkmhenejaaW.PrintWords
namespace Go.Proofs.YtlmoafkmhenejaaW.PrintLast
end Go.Proofs.YtlmoafkmhenejaaW.PrintLast
namespace Go.Proofs.YtlmoafkmhenejaaW.PrintMore
end Go.Proofs.YtlmoafkmhenejaaW.PrintMore
namespace Go.Proofs.Ytlmoafkmhenejaa.VaPT
open Go.RowKit Go.Proofs.Ytlmoafkmhenejaa.XA Go.Proofs.Ytlmoafkmhenejaa.VLib Go.Proofs.Ytlmoafkmhenejaa.CLib Go.Proofs.Ytlmoafkmhenejaa.XW Go.Proofs.Ytlmoafkmhenejaa.VaB1 Go.Proofs.Ytlmoafkmhenejaa.VaChk Go.Proofs.Ytlmoafkmhenejaa.VaPut Go.Proofs.Ytlmoafkmhenejaa.VaRT Go.Proofs.Ytlmoafkmhenejaa.VaRT2 Go.Proofs.YtlmoafkmhenejaaW.PrintWords Go.Proofs.YtlmoafkmhenejaaW.PrintLast Go.Proofs.YtlmoafkmhenejaaW.PrintMore
theorem bnum (s : ByteArray) (ok : Bool) (k : Nat) (hk : 10 ≤ k) : ∃ S : ByteArray, block_reader_number.f k s ok = some ((((takeN s.data.toList).1 : Nat) : Int), S, ok && decide ((takeN s.data.toList).2.2 = 0)) ∧ S.data.toList = s.data.toList.drop (takeN s.data.toList).2.1 := by
  have h := (takeN_le s.data.toList).1
  have hl := len_list s
  refine ⟨s.extract (takeN s.data.toList).2.1 s.size, ?_, ext_drop _ _⟩
  unfold block_reader_number.f
  rw [take_is s k hk, Option.bind_some]
  dsimp only [outI]
  rw [if_pos (by omega), if_pos (by omega), Int.toNat_natCast]
  refine congrArg some (congrArg (Prod.mk _) (congrArg (Prod.mk _) (congrArg (and ok) ?_)))
  rw [Bool.eq_iff_iff, beq_iff_eq, decide_eq_true_eq]; omega
theorem btxt (s : ByteArray) (ok : Bool) (k : Nat) (hs : s.size ≤ 1099511627776) (hk : 10 ≤ k) : ∃ S : ByteArray, block_reader_text.f k s ok = some (bs (takeX s.data.toList).1, S, ok && decide ((takeX s.data.toList).2.2 = 0)) ∧ S.data.toList = s.data.toList.drop (takeX s.data.toList).2.1 := by
  have h := (takeX_le s.data.toList).1
  have hl := len_list s
  refine ⟨s.extract (takeX s.data.toList).2.1 s.size, ?_, ext_drop _ _⟩
  unfold block_reader_text.f
  rw [ttext_is s k (by omega) hk, Option.bind_some]
  dsimp only [outT]
  rw [if_pos (by omega), if_pos (by omega), Int.toNat_natCast]
  refine congrArg some (congrArg (Prod.mk _) (congrArg (Prod.mk _) (congrArg (and ok) ?_)))
  rw [Bool.eq_iff_iff, beq_iff_eq, decide_eq_true_eq]; omega
theorem drop_size (s S : ByteArray) (a : Nat) (h : S.data.toList = s.data.toList.drop a) : S.size ≤ s.size := by
  rw [← len_list, h, List.length_drop, len_list]; omega
theorem btk_no (N i : Int) (s : ByteArray) (out : List S43) (last : ByteArray) (k : Nat) (hs : s.size ≤ 1099511627776) (hk : 11 ≤ k) : block_Take.l0 k N s false out last i = some ([], 90) := by
  obtain ⟨k, rfl⟩ : ∃ m, k = m + 1 := ⟨k - 1, by omega⟩
  obtain ⟨S1, r1, d1⟩ := bnum s false k (by omega)
  have z1 := drop_size _ _ _ d1
  obtain ⟨S2, r2, d2⟩ := btxt S1 (false && decide ((takeN s.data.toList).2.2 = 0)) k (by omega) (by omega)
  obtain ⟨S3, r3, d3⟩ := bnum S2 ((false && decide ((takeN s.data.toList).2.2 = 0)) && decide ((takeX S1.data.toList).2.2 = 0)) k (by omega)
  simp only [block_Take.l0]
  by_cases c : i < N
  · rw [if_pos c, r1, Option.bind_some]; dsimp only; rw [r2, Option.bind_some]; dsimp only; rw [r3, Option.bind_some]; dsimp only; rw [if_neg (by simp)]
  · rw [if_neg c, if_neg (by decide)]
theorem btk_l0 (N : Nat) (hN : N ≤ 4096) (Z : Nat) (hZ : Z ≤ 1099511627776) : ∀ (n i k : Nat) (s : ByteArray) (out : List S43) (last : ByteArray), i + n = N → s.size + last.size ≤ Z → out.length = i → n + Z + 5000 ≤ k →
    block_Take.l0 k (N : Int) s true out last (i : Int) = some (outB (endB out s.size (entsL n last.data.toList s.data.toList))) := by
  intro n
  induction n with
  | zero =>
    intro i k s out last h hz ho hk; obtain ⟨k, rfl⟩ : ∃ m, k = m + 1 := ⟨k - 1, by omega⟩; simp only [block_Take.l0]; rw [if_neg (by omega), if_pos trivial]
    unfold endB
    simp only [entsL, Option.bind_some, List.append_nil]
    by_cases c : s.size = 0
    · rw [if_pos ((nil_size s).2 c), check_is_ out k (by omega), Option.bind_some]
      cases hb : okB out
      · rw [if_neg (show ¬ (false = true) by decide), if_neg (show ¬ ((1 : Int) = 0) by decide), if_neg (show ¬ (0 = s.size ∧ false = true) from fun x => by cases x.2)]; rfl
      · rw [if_pos (show true = true from rfl), if_pos (show (0 : Int) = 0 from rfl), if_pos (show 0 = s.size ∧ true = true from ⟨c.symm, rfl⟩)]; rfl
    · rw [if_neg (fun e => c ((nil_size s).1 e)), if_neg (fun x => c x.1.symm)]; rfl
  | succ n ih =>
    intro i k s out last h hz ho hk; obtain ⟨k, rfl⟩ : ∃ m, k = m + 1 := ⟨k - 1, by omega⟩; have hls := len_list s; have hll := len_list last; have hw := one_ways last.data.toList s.data.toList; have en := fun hh => endB_none out s.size n last.data.toList s.data.toList hh
    have es := fun e m hh hm => endB_step out s.size n last.data.toList s.data.toList e m hh hm
    have ol := fun e m hh => one_len last.data.toList s.data.toList e m hh
    obtain ⟨S1, r1, d1⟩ := bnum s true k (by omega); have z1 := drop_size _ _ _ d1; simp only [block_Take.l0]; rw [if_pos (by omega), r1, Option.bind_some]; dsimp only; obtain ⟨S2, r2, d2⟩ := btxt S1 (true && decide ((takeN s.data.toList).2.2 = 0)) k (by omega) (by omega); have z2 := drop_size _ _ _ d2; rw [r2, Option.bind_some]; dsimp only; obtain ⟨S3, r3, d3⟩ := bnum S2 ((true && decide ((takeN s.data.toList).2.2 = 0)) && decide ((takeX S1.data.toList).2.2 = 0)) k (by omega); have z3 := drop_size _ _ _ d3; rw [r3, Option.bind_some]; dsimp only; rw [d2, d1, List.drop_drop] at d3 r3 ⊢; rw [d1] at d2; clear r1 r2 r3
    generalize ho1 : oneL last.data.toList s.data.toList = o at hw
    have com : ∀ (m : Nat) (t : List UInt8), m ≤ last.size → block_common.f k last (last.extract 0 m ++ bs t) = some ((lcp last.data.toList (last.data.toList.take m ++ t) : Nat) : Int) := fun m t _ => by
      rw [com_is last _ k (by omega) (by omega), key_form, bs_list]
    cases hw with
    | n a e m h1 h2 =>
      rw [en ho1, h1]; dsimp only
      split
      · next hh =>
        rw [Bool.and_eq_true, Bool.and_eq_true, Bool.and_eq_true, decide_eq_true_eq] at hh; rw [if_neg (by omega)]; rfl
      · rfl
    | t m a t b f h1 h2 h3 h4 =>
      rw [en ho1, h1]; dsimp only; rw [h3]; dsimp only; rw [if_neg (by rw [decide_eq_false h4]; simp)]; rfl
    | q m a t b q c g h1 h2 h3 h4 h5 =>
      rw [en ho1, h1]; dsimp only; rw [h3]; dsimp only; rw [h4]; dsimp only
      split
      · next hh =>
        rw [Bool.and_eq_true, decide_eq_true_eq] at hh
        rw [if_pos (by omega), if_pos (by omega), Int.toNat_natCast, if_pos (by
          have e1 := key_form_size last m; have e2 := takeX_le (s.data.toList.drop a); rw [h3] at e2; dsimp only at e2; rw [bs_size]; omega), com m t (by omega), Option.bind_some, if_neg (by omega)]; rfl
      · rfl
    | gone m a t b q c h1 h2 h3 h4 h5 h6 =>
      obtain ⟨l1, l2⟩ := ol _ _ ho1; have e2 := takeX_le (s.data.toList.drop a); have e3 := takeN_le (s.data.toList.drop (a + b)); rw [h3] at e2; rw [h4] at e3; dsimp only at e2 e3; rw [es _ _ ho1 (by omega), h1]; rw [h1] at d1 d2 d3; dsimp only at d1 d2 d3 ⊢; rw [h3] at d2 d3 ⊢; dsimp only at d2 d3 ⊢; simp only [List.drop_drop, h4] at d3; rw [← Nat.add_assoc] at d3; rw [h4]; dsimp only; rw [if_pos (by simp), if_pos (by omega), if_pos (by omega), Int.toNat_natCast, if_pos (by have e1 := key_form_size last m; rw [bs_size]; omega), com m t (by omega), Option.bind_some, h5, if_pos rfl, if_pos (by omega), and1_i64 q (by omega), if_neg (by omega), w64 (by omega) (by omega), show (i : Int) + 1 = ((i + 1 : Nat) : Int) from by omega]; have hsz : S3.size = s.size - (a + b + c) := by rw [← len_list, d3, List.length_drop, hls]
      have hk1 : (kL ⟨bs (last.data.toList.take m ++ t), bs [], true, ((q / 2 : Nat) : Int)⟩).length = (bs (last.data.toList.take m ++ t)).size := len_list _; rw [show ((true && decide ((0 : Nat) = 0)) && decide ((0 : Nat) = 0) && decide ((0 : Nat) = 0)) = true from rfl, show ((q : Int) / 2) = ((q / 2 : Nat) : Int) from by omega, ih (i + 1) k S3 _ _ (by omega) (by rw [key_form]; omega) (by rw [List.length_append, ho]; rfl) (by omega), d3, hsz, key_form]
      rfl
    | v m a t b q c v d h h1 h2 h3 h4 h5 h6 h7 h8 =>
      have e2 := takeX_le (s.data.toList.drop a); have e3 := takeN_le (s.data.toList.drop (a + b)); rw [h3] at e2; rw [h4] at e3; dsimp only at e2 e3; rw [en ho1, h1]; rw [h1] at d1 d2 d3; dsimp only at d1 d2 d3 ⊢; rw [h3] at d2 d3 ⊢; dsimp only at d2 d3 ⊢; simp only [List.drop_drop, h4] at d3; rw [← Nat.add_assoc] at d3; rw [h4]; dsimp only; rw [if_pos (by simp), if_pos (by omega), if_pos (by omega), Int.toNat_natCast, if_pos (by have e1 := key_form_size last m; rw [bs_size]; omega), com m t (by omega), Option.bind_some, h5, if_pos rfl, if_pos (by omega), and1_i64 q (by omega), if_pos (by omega)]; obtain ⟨S4, r4, d4⟩ := btxt S3 ((true && decide ((0 : Nat) = 0)) && decide ((0 : Nat) = 0) && decide ((0 : Nat) = 0)) k (by omega) (by omega); have z4 := drop_size _ _ _ d4; rw [r4, Option.bind_some]; dsimp only; rw [d3, h7]; dsimp only; rw [decide_eq_false h8, Bool.and_false]; exact btk_no _ _ _ _ _ k (by omega) (by omega)
    | all m a t b q c v d h1 h2 h3 h4 h5 h6 h7 =>
      obtain ⟨l1, l2⟩ := ol _ _ ho1; have e2 := takeX_le (s.data.toList.drop a); have e3 := takeN_le (s.data.toList.drop (a + b)); rw [h3] at e2; rw [h4] at e3; dsimp only at e2 e3; rw [es _ _ ho1 (by omega), h1]; rw [h1] at d1 d2 d3; dsimp only at d1 d2 d3 ⊢; rw [h3] at d2 d3 ⊢; dsimp only at d2 d3 ⊢; simp only [List.drop_drop, h4] at d3; rw [← Nat.add_assoc] at d3; rw [h4]; dsimp only; rw [if_pos (by simp), if_pos (by omega), if_pos (by omega), Int.toNat_natCast, if_pos (by have e1 := key_form_size last m; rw [bs_size]; omega), com m t (by omega), Option.bind_some, h5, if_pos rfl, if_pos (by omega), and1_i64 q (by omega), if_pos (by omega)]; obtain ⟨S4, r4, d4⟩ := btxt S3 ((true && decide ((0 : Nat) = 0)) && decide ((0 : Nat) = 0) && decide ((0 : Nat) = 0)) k (by omega) (by omega); rw [r4, Option.bind_some]; dsimp only; rw [d3, h7] at d4 ⊢; dsimp only at d4 ⊢; rw [List.drop_drop] at d4; have hsz : S4.size = s.size - (a + b + c + d) := by rw [← len_list, d4, List.length_drop, hls]
      have hk1 : (kL ⟨bs (last.data.toList.take m ++ t), bs v, false, ((q / 2 : Nat) : Int)⟩).length = (bs (last.data.toList.take m ++ t)).size := len_list _; rw [w64 (by omega) (by omega), show (i : Int) + 1 = ((i + 1 : Nat) : Int) from by omega, show ((true && decide ((0 : Nat) = 0)) && decide ((0 : Nat) = 0) && decide ((0 : Nat) = 0) && decide ((0 : Nat) = 0)) = true from rfl, show ((q : Int) / 2) = ((q / 2 : Nat) : Int) from by omega, ih (i + 1) k S4 _ _ (by omega) (by rw [key_form]; omega) (by rw [List.length_append, ho]; rfl) (by omega), d4, hsz, key_form]
      rfl
theorem btk_is (s : ByteArray) (k : Nat) (hs : s.size ≤ 1099511627776) (hk : 10 * s.size + 9200 ≤ k) : block_Take.f k s = some (outB (blkT s.data.toList)) := by
  have hls := len_list s
  unfold block_Take.f
  rw [check_is s k (by omega) (by omega), Option.bind_some, blkT_end]
  cases hc : chk s.data.toList
  · rw [if_neg (by decide), if_neg (fun x => by cases x.1)]; rfl
  · have h4 := chk_len _ hc; rw [if_pos rfl, w64 (by omega) (by omega), if_pos (by omega), if_pos (by omega), show ((s.size : Int) - 4).toNat = s.data.toList.length - 4 from by omega]; have hx : (s.extract 0 (s.data.toList.length - 4)).data.toList = s.data.toList.take (s.data.toList.length - 4) := by rw [extract_list, List.drop_zero]
    have hz : (s.extract 0 (s.data.toList.length - 4)).size = (s.data.toList.take (s.data.toList.length - 4)).length := by rw [← len_list, hx]
    have hz2 : (s.data.toList.take (s.data.toList.length - 4)).length ≤ s.size := by rw [List.length_take]; omega
    have hn := takeN_le (s.data.toList.take (s.data.toList.length - 4)); obtain ⟨S1, r1, d1⟩ := bnum (s.extract 0 (s.data.toList.length - 4)) true k (by omega); rw [r1, Option.bind_some, hx]; dsimp only; rw [hx] at d1; have z1 : S1.size = (s.data.toList.take (s.data.toList.length - 4)).length - (takeN (s.data.toList.take (s.data.toList.length - 4))).2.1 := by rw [← len_list, d1, List.length_drop]
    by_cases c : (takeN (s.data.toList.take (s.data.toList.length - 4))).2.2 = 0
    · rw [decide_eq_true c, show (true && true) = true from rfl, if_pos rfl]
      by_cases d : (takeN (s.data.toList.take (s.data.toList.length - 4))).1 ≤ 4096
      · rw [if_neg (by omega), if_pos ⟨rfl, c, d⟩]; have := btk_l0 (takeN (s.data.toList.take (s.data.toList.length - 4))).1 d s.size hs (takeN (s.data.toList.take (s.data.toList.length - 4))).1 0 k S1 [] (⟨#[]⟩ : ByteArray) (by omega) (by rw [z1]; exact Nat.le_trans (Nat.sub_le _ _) hz2) rfl (by omega); rw [d1, z1] at this; exact this
      · rw [if_pos (by omega), if_neg (fun x => d x.2.2)]; rfl
    · rw [decide_eq_false c, if_neg (by decide), if_neg (fun x => c x.2.1)]; rfl
theorem blkT_ok (s : List UInt8) (l : List S43) (h : blkT s = some l) : okB l = true := by
  unfold blkT at h
  split at h
  · rw [Option.bind_eq_some_iff] at h; obtain ⟨y, h1, h2⟩ := h
    split at h2
    · next c => rw [← Option.some.inj h2]; exact c.2
    · cases h2
  · cases h
theorem sameE_l0 (a : List S43) (ha : a.length ≤ 4611686018427387904) : ∀ (n i k : Nat), i + n = a.length → n + 1 ≤ k → sorrelref04_Same.l0 k a a (i : Int) = some true := by
  intro n
  induction n with
  | zero =>
    intro i k h hk; obtain ⟨k, rfl⟩ : ∃ m, k = m + 1 := ⟨k - 1, by omega⟩; simp only [sorrelref04_Same.l0]; rw [if_neg (by omega)]
  | succ n ih =>
    intro i k h hk; obtain ⟨k, rfl⟩ : ∃ m, k = m + 1 := ⟨k - 1, by omega⟩; simp only [sorrelref04_Same.l0]; rw [if_pos (by omega), if_pos (by omega), if_pos (by omega), if_neg (by simp), w64 (by omega) (by omega), show (i : Int) + 1 = ((i + 1 : Nat) : Int) from by omega]; exact ih (i + 1) k (by omega) (by omega)
theorem sameE_yes (a : List S43) (k : Nat) (ha : a.length ≤ 4611686018427387904) (hk : a.length + 1 ≤ k) : sorrelref04_Same.f k a a = some true := by
  unfold sorrelref04_Same.f
  rw [if_pos rfl]
  exact sameE_l0 a ha a.length 0 k (by omega) hk
end Go.Proofs.Ytlmoafkmhenejaa.VaPT
end
section
namespace Go.Proofs.Ytlmoafkmhenejaa.XA
end Go.Proofs.Ytlmoafkmhenejaa.XA
namespace Go.Proofs.Ytlmoafkmhenejaa.VLib
end Go.Proofs.Ytlmoafkmhenejaa.VLib
namespace Go.Proofs.Ytlmoafkmhenejaa.CLib
end Go.Proofs.Ytlmoafkmhenejaa.CLib
namespace Go.Proofs.Ytlmoafkmhenejaa.XW
end Go.Proofs.Ytlmoafkmhenejaa.XW
namespace Go.Proofs.Ytlmoafkmhenejaa.VaB1
end Go.Proofs.Ytlmoafkmhenejaa.VaB1
namespace Go.Proofs.Ytlmoafkmhenejaa.VaChk
end Go.Proofs.Ytlmoafkmhenejaa.VaChk
namespace Go.Proofs.Ytlmoafkmhenejaa.VaPut
end Go.Proofs.Ytlmoafkmhenejaa.VaPut
namespace Go.Proofs.Ytlmoafkmhenejaa.VaRT
end Go.Proofs.Ytlmoafkmhenejaa.VaRT
namespace Go.Proofs.Ytlmoafkmhenejaa.VaRT2
end Go.Proofs.Ytlmoafkmhenejaa.VaRT2
namespace Go.Proofs.Ytlmoafkmhenejaa.VaPT
end Go.Proofs.Ytlmoafkmhenejaa.VaPT
namespace Go.Proofs.YtlmoafkmhenejaaW.PrintWords
end Go.Proofs.YtlmoafkmhenejaaW.PrintWords
namespace Go.Proofs.YtlmoafkmhenejaaW.PrintLast
end Go.Proofs.YtlmoafkmhenejaaW.PrintLast
namespace Go.Proofs.YtlmoafkmhenejaaW.PrintMore
end Go.Proofs.YtlmoafkmhenejaaW.PrintMore
namespace Go.Proofs.Ytlmoafkmhenejaa.VaBack
open Go.RowKit Go.Proofs.Ytlmoafkmhenejaa.XA Go.Proofs.Ytlmoafkmhenejaa.VLib Go.Proofs.Ytlmoafkmhenejaa.CLib Go.Proofs.Ytlmoafkmhenejaa.XW Go.Proofs.Ytlmoafkmhenejaa.VaB1 Go.Proofs.Ytlmoafkmhenejaa.VaChk Go.Proofs.Ytlmoafkmhenejaa.VaPut Go.Proofs.Ytlmoafkmhenejaa.VaRT Go.Proofs.Ytlmoafkmhenejaa.VaRT2 Go.Proofs.Ytlmoafkmhenejaa.VaPT Go.Proofs.YtlmoafkmhenejaaW.PrintWords Go.Proofs.YtlmoafkmhenejaaW.PrintLast Go.Proofs.YtlmoafkmhenejaaW.PrintMore
theorem chk_back (s : List UInt8) (h : chk s = true) : s = sealL (s.take (s.length - 4)) := by
  unfold chk at h
  rw [Bool.and_eq_true, beq_iff_eq] at h
  unfold sealL
  rw [← h.2, List.take_append_drop]
theorem take_split (s : List UInt8) (a b : Nat) : s.take a ++ (s.drop a).take b = s.take (a + b) := (List.take_add).symm
theorem lcp_cut (last t : List UInt8) (n : Nat) (h : n ≤ last.length) : (last.take n ++ t).drop n = t := by
  have e : (last.take n).length = n := by rw [List.length_take]; omega
  rw [List.drop_append, e, Nat.sub_self, List.drop_zero, List.drop_of_length_le (by omega), List.nil_append]
theorem one_back (last s : List UInt8) (e : S43) (m : Nat) (h : oneL last s = some (e, m)) : entL last e = s.take m ∧ m ≤ s.length := by
  refine ⟨?_, (one_len last s e m h).2⟩
  have hw := one_ways last s
  rw [h] at hw
  generalize ho : some (e, m) = o at hw
  cases hw with
  | n => cases ho
  | t => cases ho
  | q => cases ho
  | v => cases ho
  | gone n a t b q c h1 h2 h3 h4 h5 h6 =>
    obtain ⟨rfl, rfl⟩ := Prod.mk.inj (Option.some.inj ho); have e1 := (takeN_back _ _ _ h1).2.2.2.1; have e3 := (takeX_back _ _ _ h3).2.2.1; have e4 := (takeN_back _ _ _ h4).2.2.2.1
    unfold entL
    dsimp only; rw [if_pos rfl, show kL ⟨bs (last.take n ++ t), bs [], true, ((q / 2 : Nat) : Int)⟩ = last.take n ++ t from rfl, h5, lcp_cut last t n h2, Int.toNat_natCast, show 2 * (q / 2) + 1 = q from by omega, e1]
    unfold txtL
    rw [e3, e4, ← List.append_assoc, take_split, take_split]
  | all n a t b q c v d h1 h2 h3 h4 h5 h6 h7 =>
    obtain ⟨rfl, rfl⟩ := Prod.mk.inj (Option.some.inj ho); have e1 := (takeN_back _ _ _ h1).2.2.2.1; have e3 := (takeX_back _ _ _ h3).2.2.1; have e4 := (takeN_back _ _ _ h4).2.2.2.1; have e7 := (takeX_back _ _ _ h7).2.2.1
    unfold entL
    dsimp only; rw [if_neg (by decide), show kL ⟨bs (last.take n ++ t), bs v, false, ((q / 2 : Nat) : Int)⟩ = last.take n ++ t from rfl, show vL ⟨bs (last.take n ++ t), bs v, false, ((q / 2 : Nat) : Int)⟩ = v from rfl, h5, lcp_cut last t n h2, Int.toNat_natCast, show 2 * (q / 2) = q from by omega, e1]
    unfold txtL
    rw [e3, e4, e7, ← List.append_assoc, ← List.append_assoc, take_split, take_split, take_split]
theorem ents_back : ∀ (n : Nat) (last s : List UInt8) (l : List S43) (m : Nat), entsL n last s = some (l, m) → l.length = n ∧ bodyL last l = s.take m ∧ m ≤ s.length
  | 0, last, s, l, m, h => by
    simp only [entsL] at h; obtain ⟨rfl, rfl⟩ := Prod.mk.inj (Option.some.inj h); exact ⟨rfl, by simp [bodyL], Nat.zero_le _⟩
  | n + 1, last, s, l, m, h => by
    simp only [entsL] at h; rw [Option.bind_eq_some_iff] at h; obtain ⟨⟨e, a⟩, h1, h2⟩ := h; rw [Option.bind_eq_some_iff] at h2; obtain ⟨⟨r, b⟩, h3, h4⟩ := h2; dsimp only at h3 h4; obtain ⟨rfl, rfl⟩ := Prod.mk.inj (Option.some.inj h4); obtain ⟨i1, i2, i3⟩ := ents_back n (kL e) (s.drop a) r b h3; obtain ⟨j1, j2⟩ := one_back last s e a h1; rw [List.length_drop] at i3; refine ⟨by rw [List.length_cons, i1], ?_, by omega⟩; simp only [bodyL]; rw [i2, j1, take_split]
theorem put_blkT (s : List UInt8) (l : List S43) (h : blkT s = some l) : putL l = s := by
  unfold blkT at h
  split at h
  · next c =>
    rw [Option.bind_eq_some_iff] at h; obtain ⟨⟨y, m⟩, h1, h2⟩ := h; dsimp only at h2
    split at h2
    · next d =>
      have hl := Option.some.inj h2; subst hl; obtain ⟨i1, i2, i3⟩ := ents_back _ _ _ _ _ h1; obtain ⟨j1, j2, j3, j4, j5⟩ := takeN_back (s.take (s.length - 4)) (takeN (s.take (s.length - 4))).1 (takeN (s.take (s.length - 4))).2.1 (by rw [← c.2.1])
      unfold putL
      rw [i1, i2, j4, take_split, d.1, List.take_length]; exact (chk_back s c.1).symm
    · cases h2
  · cases h
end Go.Proofs.Ytlmoafkmhenejaa.VaBack
end
section
namespace Go.Proofs.Ytlmoafkmhenejaa.XA
end Go.Proofs.Ytlmoafkmhenejaa.XA
namespace Go.Proofs.Ytlmoafkmhenejaa.VLib
end Go.Proofs.Ytlmoafkmhenejaa.VLib
namespace Go.Proofs.Ytlmoafkmhenejaa.CLib
end Go.Proofs.Ytlmoafkmhenejaa.CLib
namespace Go.Proofs.Ytlmoafkmhenejaa.XW
end Go.Proofs.Ytlmoafkmhenejaa.XW
namespace Go.Proofs.Ytlmoafkmhenejaa.VaB1
end Go.Proofs.Ytlmoafkmhenejaa.VaB1
namespace Go.Proofs.Ytlmoafkmhenejaa.VaChk
end Go.Proofs.Ytlmoafkmhenejaa.VaChk
namespace Go.Proofs.Ytlmoafkmhenejaa.VaPut
end Go.Proofs.Ytlmoafkmhenejaa.VaPut
namespace Go.Proofs.Ytlmoafkmhenejaa.VaBl
end Go.Proofs.Ytlmoafkmhenejaa.VaBl
namespace Go.Proofs.Ytlmoafkmhenejaa.VaBits
end Go.Proofs.Ytlmoafkmhenejaa.VaBits
namespace Go.Proofs.Ytlmoafkmhenejaa.VaFix
end Go.Proofs.Ytlmoafkmhenejaa.VaFix
namespace Go.Proofs.YtlmoafkmhenejaaW.PrintWords
end Go.Proofs.YtlmoafkmhenejaaW.PrintWords
namespace Go.Proofs.YtlmoafkmhenejaaW.PrintLast
end Go.Proofs.YtlmoafkmhenejaaW.PrintLast
namespace Go.Proofs.YtlmoafkmhenejaaW.PrintMore
end Go.Proofs.YtlmoafkmhenejaaW.PrintMore
namespace Go.Proofs.Ytlmoafkmhenejaa.VaTb
open Go.RowKit Go.Proofs.Ytlmoafkmhenejaa.XA Go.Proofs.Ytlmoafkmhenejaa.VLib Go.Proofs.Ytlmoafkmhenejaa.CLib Go.Proofs.Ytlmoafkmhenejaa.XW Go.Proofs.Ytlmoafkmhenejaa.VaB1 Go.Proofs.Ytlmoafkmhenejaa.VaChk Go.Proofs.Ytlmoafkmhenejaa.VaPut Go.Proofs.Ytlmoafkmhenejaa.VaBl Go.Proofs.Ytlmoafkmhenejaa.VaBits Go.Proofs.Ytlmoafkmhenejaa.VaFix Go.Proofs.YtlmoafkmhenejaaW.PrintWords Go.Proofs.YtlmoafkmhenejaaW.PrintLast Go.Proofs.YtlmoafkmhenejaaW.PrintMore
theorem okF_one (p : Option S43) (e : S43) (r : List S43) : okFrom p (e :: r) = true ↔ mayE e = true ∧ (∀ a, p = some a → LE a e = true) ∧ okFrom (some e) r = true := by
  cases p with
  | none => simp [okFrom]
  | some a => simp [okFrom, and_assoc]
theorem okF_nil (p : Option S43) : okFrom p [] = true := by cases p <;> rfl
theorem okF_none {p : Option S43} {l : List S43} (h : okFrom p l = true) : okFrom none l = true := by
  cases l with
  | nil => rfl
  | cons e r => have g := (okF_one p e r).1 h; exact (okF_one none e r).2 ⟨g.1, (fun _ x => by cases x), g.2.2⟩
theorem okF_take : ∀ (n : Nat) (l : List S43) (p : Option S43), okFrom p l = true → okFrom p (l.take n) = true
  | 0, _, p, _ => by rw [List.take_zero]; exact okF_nil p
  | _ + 1, [], p, _ => by rw [List.take_nil]; exact okF_nil p
  | n + 1, e :: r, p, h => by
    have g := (okF_one p e r).1 h; rw [List.take_succ_cons]; exact (okF_one p e _).2 ⟨g.1, g.2.1, okF_take n r _ g.2.2⟩
theorem okF_drop : ∀ (n : Nat) (l : List S43), okFrom none l = true → okFrom none (l.drop n) = true
  | 0, l, h => by rw [List.drop_zero]; exact h
  | _ + 1, [], _ => rfl
  | n + 1, e :: r, h => by rw [List.drop_succ_cons]; exact okF_drop n r (okF_none ((okF_one none e r).1 h).2.2)
theorem okB_of {l : List S43} (h : okFrom none l = true) (hl : l.length ≤ 4096) : okB l = true := (okB_iff l).2 ⟨hl, h⟩
theorem putL_le (l : List S43) (h : okB l = true) : (putL l).length ≤ 400 * l.length + 13 := by
  have hb := (okB_iff l).1 h
  have h1 := bodyL_le l [] (ok_may l none hb.2)
  have h2 := enc9 (n := l.length) (by omega)
  unfold putL sealL
  rw [List.length_append, fix4_len, List.length_append]; omega
def headK (l : List S43) : List UInt8 := (rd_T43 l 0).f0.data.toList
def bodyT : Nat → List S43 → List UInt8
  | 0, _ => []
  | n + 1, l => if l.length = 0 then [] else putL (l.take 16) ++ bodyT n (l.drop 16)
def footT : Nat → List S43 → List UInt8
  | 0, _ => []
  | n + 1, l => if l.length = 0 then [] else txtL (headK (l.take 16)) ++ (enc (putL (l.take 16)).length ++ footT n (l.drop 16))
def szT : Nat → List S43 → List Nat
  | 0, _ => []
  | n + 1, l => if l.length = 0 then [] else (putL (l.take 16)).length :: szT n (l.drop 16)
theorem take16 (l : List S43) (h : ¬ l.length = 0) : (l.take 16).length ≤ 16 ∧ 1 ≤ (l.take 16).length ∧ (l.take 16).length ≤ l.length ∧ (l.drop 16).length = l.length - 16 := by
  rw [List.length_take, List.length_drop]; omega
theorem head_le (l : List S43) (h : okFrom none l = true) (hl : 1 ≤ l.length) : (rd_T43 l 0).f0.size ≤ 64 := by
  have e : rd_T43 l 0 = l[0] := rdT l 0 (by omega)
  rw [e]
  exact (ok_may l none h _ (List.getElem_mem _)).k64
theorem chunk_is (kk : Nat) (hk : 80000 ≤ kk) : ∀ (n : Nat) (l : List S43) (fs b : List UInt8), l.length + 16 ≤ 16 * n → okFrom none l = true → fs.length + 90 * l.length ≤ 1000000000 → b.length + 7000 * l.length ≤ 1000000000 → chunkF kk n l fs b = some (fs ++ footT n l, b ++ bodyT n l) := by
  intro n
  induction n with
  | zero => intro l fs b h; omega
  | succ n ih =>
    intro l fs b h ho hf hb; simp only [chunkF, footT, bodyT]
    by_cases q : l.length = 0
    · rw [if_pos q, if_pos q, if_pos q, List.append_nil, List.append_nil]
    · rw [if_neg q, if_neg q, if_neg q]; obtain ⟨t1, t2, t3, t4⟩ := take16 l q; have o16 := okF_take 16 l none ho; have ok := okB_of o16 (by omega); have hp := putL_le _ ok; have hh := head_le _ o16 t2; have hz : (bs (putL (l.take 16))).size = (putL (l.take 16)).length := bs_size _; have e1 := enc9 (n := (headK (l.take 16)).length) (by unfold headK; rw [len_list]; omega); have e2 := enc9 (n := (putL (l.take 16)).length) (by omega); have hd : (headK (l.take 16)).length ≤ 64 := by unfold headK; rw [len_list]; exact hh
      rw [bput_ok _ kk ok (by omega), Option.bind_some]; dsimp only; rw [hz, text_ok _ kk (by omega) (by omega), Option.bind_some, put_ok _ kk (by omega) (by omega), Option.bind_some]; dsimp only; rw [bs_list, bs_list, bs_list, bs_size, bs_size]; rw [show enc (rd_T43 (l.take 16) 0).f0.data.toList.length ++ (rd_T43 (l.take 16) 0).f0.data.toList = txtL (headK (l.take 16)) from rfl]; have z : (txtL (headK (l.take 16))).length ≤ 73 := by unfold txtL; rw [List.length_append]; omega
      rw [if_pos ⟨by omega, by omega⟩, ih _ _ _ (by omega) (okF_drop 16 l ho) (by simp only [List.length_append]; omega) (by simp only [List.length_append]; omega)]; simp only [List.append_assoc]
theorem foot_le : ∀ (n : Nat) (l : List S43), okFrom none l = true → (footT n l).length ≤ 90 * l.length ∧ (bodyT n l).length ≤ 7000 * l.length ∧ (szT n l).length = min n ((l.length + 15) / 16) := by
  intro n
  induction n with
  | zero => intro l _; simp [footT, bodyT, szT]
  | succ n ih =>
    intro l ho; simp only [footT, bodyT, szT]
    by_cases q : l.length = 0
    · rw [if_pos q, if_pos q, if_pos q, q]; simp
    · rw [if_neg q, if_neg q, if_neg q]; obtain ⟨t1, t2, t3, t4⟩ := take16 l q; have o16 := okF_take 16 l none ho; have ok := okB_of o16 (by omega); have hp := putL_le _ ok; have hh := head_le _ o16 t2; have e1 := enc9 (n := (headK (l.take 16)).length) (by unfold headK; rw [len_list]; omega); have e2 := enc9 (n := (putL (l.take 16)).length) (by omega); have hd : (headK (l.take 16)).length ≤ 64 := by unfold headK; rw [len_list]; exact hh
      obtain ⟨i1, i2, i3⟩ := ih _ (okF_drop 16 l ho)
      unfold txtL
      simp only [List.length_append, List.length_cons]; refine ⟨by omega, by omega, ?_⟩; rw [i3, t4]
      omega
theorem cmp_mem (x : ByteArray) : ∀ xs : List ByteArray, x ∈ cmpL xs ↔ x ∈ xs := by
  intro xs
  induction xs with
  | nil => simp [cmpL]
  | cons a t ih =>
    cases t with
    | nil => simp [cmpL]
    | cons b t =>
      simp only [cmpL]
      split
      · next h => rw [ih, h]; simp
      · rw [List.mem_cons, ih]; simp
theorem cmp_len : ∀ xs : List ByteArray, (cmpL xs).length ≤ xs.length := by
  intro xs
  induction xs with
  | nil => simp [cmpL]
  | cons a t ih =>
    cases t with
    | nil => simp [cmpL]
    | cons b t =>
      simp only [cmpL]; simp only [List.length_cons] at ih ⊢
      split
      · omega
      · rw [List.length_cons]; omega
theorem keys_len (l : List S43) : (keysL l).length ≤ l.length := by
  have := cmp_len (l.map (·.f0))
  rw [List.length_map] at this
  exact this
theorem keys_mem (l : List S43) (x : ByteArray) : x ∈ keysL l ↔ ∃ e ∈ l, e.f0 = x := by
  unfold keysL
  rw [cmp_mem, List.mem_map]
def bitsT (l : List S43) : ByteArray := bitsOf (keysL l)
theorem bits_make (l : List S43) (h : okB l = true) (kk : Nat) (hk : 80000 ≤ kk) : bloom_Make.f kk (keysL l) = some (bitsT l, 0) := by
  have hb := (okB_iff l).1 h
  have h1 := keys_len l
  exact make_bits (keysL l) kk 64 (by omega) (by omega) (fun t ht => by
    obtain ⟨e, he, rfl⟩ := (keys_mem l t).1 ht; exact (ok_may l none hb.2 e he).k64) (by omega)
theorem bitsT_size (l : List S43) : 8 ≤ (bitsT l).size ∧ (bitsT l).size ≤ 6000 := by
  unfold bitsT
  rw [bitsOf_size]
  exact bytesN_pos _
def footL (l : List S43) : List UInt8 := enc ((l.length + 15) / 16) ++ (footT 300 l ++ txtL (bitsT l).data.toList)
def sfootL (l : List S43) : List UInt8 := sealL (footL l)
def tabL (l : List S43) : List UInt8 := bodyT 300 l ++ (sfootL l ++ fix4 (sfootL l).length)
theorem sfoot_len (l : List S43) : (sfootL l).length = (footL l).length + 4 := by unfold sfootL sealL; rw [List.length_append, fix4_len]
theorem footL_le (l : List S43) (h : okB l = true) : (footL l).length ≤ 400000 ∧ (bodyT 300 l).length ≤ 30000000 := by
  have hb := (okB_iff l).1 h
  have h1 := foot_le 300 l hb.2
  have h2 := bitsT_size l
  have h3 := len_list (bitsT l)
  have h4 := enc9 (n := (l.length + 15) / 16) (by omega)
  have h5 := enc9 (n := (bitsT l).data.toList.length) (by omega)
  unfold footL txtL
  simp only [List.length_append]
  omega
theorem bodyT_succ (n : Nat) (l : List S43) : bodyT (n + 1) l = if l.length = 0 then [] else putL (l.take 16) ++ bodyT n (l.drop 16) := rfl
theorem body_ne_ (n : Nat) (l : List S43) (h : ¬ l.length = 0) : bodyT (n + 1) l ≠ [] := by
  intro e
  have e := congrArg List.length e
  rw [bodyT_succ, if_neg h] at e
  unfold putL sealL at e
  simp only [List.length_append, fix4_len, List.length_nil] at e
  omega
theorem body_ne (l : List S43) (h : ¬ l.length = 0) : bodyT 300 l ≠ [] := body_ne_ 299 l h
theorem build_ok (l : List S43) (kk : Nat) (hk : 10000000 ≤ kk) (hl : ¬ l.length = 0) (h : okB l = true) : buildF kk 300 l = some (bs (tabL l), 0) := by
  have hb := (okB_iff l).1 h
  have hf := footL_le l h
  have ht := foot_le 300 l hb.2
  have hs := sfoot_len l
  have hz := bitsT_size l
  have hy := len_list (bitsT l)
  have e0 := enc_pos ((l.length + 15) / 16)
  have e9 := enc9 (n := (l.length + 15) / 16) (by omega)
  have ez := enc9 (n := (bitsT l).data.toList.length) (by omega)
  unfold buildF
  rw [if_neg hl, check_is_ l kk (by omega), if_pos h, Option.bind_some, if_pos rfl, put_ok _ kk (by omega) (by omega), Option.bind_some]
  dsimp only
  rw [bs_list, chunk_is kk (by omega) 300 l _ [] (by omega) hb.2 (by omega) (by rw [List.length_nil]; omega), Option.bind_some, bits_make l h kk (by omega), Option.bind_some]
  dsimp only
  rw [text_ok _ kk (by omega) (by omega), Option.bind_some]
  dsimp only
  rw [bs_list, List.nil_append]
  rw [show (⟨(enc ((l.length + 15) / 16) ++ footT 300 l ++ (enc (bitsT l).data.toList.length ++ (bitsT l).data.toList)).toArray⟩ : ByteArray) = bs (footL l) from by unfold footL txtL bs; rw [List.append_assoc]]
  rw [seal_is _ kk (by rw [bs_size]; omega) (by rw [bs_size]; omega), Option.bind_some, bs_list]
  rw [show sealL (footL l) = sfootL l from rfl, bs_size, fix_is _ (by omega), Option.bind_some]
  dsimp only
  rw [if_pos ⟨by rw [bs_size]; omega, by rw [bs_size]; simp only [List.length_append]; omega, fun e => by
    have e := congrArg List.length e; simp only [List.length_append, List.length_nil] at e
    omega, body_ne l hl, by omega, by rw [bs_size, fix4_len]; omega⟩]
  rw [show (⟨(bodyT 300 l).toArray⟩ : ByteArray) = bs (bodyT 300 l) from rfl, bs_append, bs_append, List.append_assoc]
  rfl
theorem build_no (l : List S43) (kk : Nat) (hk : 10000000 ≤ kk) (h : l.length = 0 ∨ okB l = false) : buildF kk 300 l = some (⟨#[]⟩, 1) := by
  unfold buildF
  by_cases q : l.length = 0
  · rw [if_pos q]
  · rw [if_neg q, check_is_ l kk (by omega)]
    rcases h with h | h
    · exact absurd h q
    · rw [h, if_neg (by decide), Option.bind_some, if_neg (by decide)]
end Go.Proofs.Ytlmoafkmhenejaa.VaTb
end
