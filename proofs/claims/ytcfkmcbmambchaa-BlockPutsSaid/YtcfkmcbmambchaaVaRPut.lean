/- Plain laws on what the functions written out for this seat come to. -/
import Derived.Test.YtcfkmcbmambchaaXAx10
import Derived.Test.YtcfkmcbmambchaaVLib
import Derived.Test.YtcfkmcbmambchaaCLib
import Derived.Test.YtcfkmcbmambchaaXW
import Derived.Test.YtcfkmcbmambchaaVaB1
import Derived.Test.YtcfkmcbmambchaaVaChk
import Derived.Test.YtcfkmcbmambchaaVaPut
import Derived.Test.YtcfkmcbmambchaaVaB2
namespace Go.Proofs.Ytcfkmcbmambchaa.VaRPut
open Go.RowKit Go.Proofs.Ytcfkmcbmambchaa.XA Go.Proofs.Ytcfkmcbmambchaa.VLib Go.Proofs.Ytcfkmcbmambchaa.CLib Go.Proofs.Ytcfkmcbmambchaa.XW Go.Proofs.Ytcfkmcbmambchaa.VaB1 Go.Proofs.Ytcfkmcbmambchaa.VaChk Go.Proofs.Ytcfkmcbmambchaa.VaPut Go.Proofs.Ytcfkmcbmambchaa.VaB2 Go.Proofs.YtcfkmcbmambchaaW.PrintWords Go.Proofs.YtcfkmcbmambchaaW.PrintLast Go.Proofs.YtcfkmcbmambchaaW.PrintMore
def nat8 (l : List UInt8) : List Int := List.map (fun (b : UInt8) => ((b.toNat : Nat) : Int)) l
theorem nat8_app (a b : List UInt8) : nat8 (a ++ b) = nat8 a ++ nat8 b := List.map_append
theorem nat8_len (a : List UInt8) : (nat8 a).length = a.length := List.length_map _
theorem nat8_bs (a : List UInt8) : bytesOf (bs a) = nat8 a := rfl
theorem nat8_text (l : List UInt8) : strOfNums (nat8 l) = bs l := by
  rw [nums_bs]; unfold nat8
  rw [List.map_map]
  refine congrArg bs ((List.map_congr_left (fun b _ => ?_)).trans (List.map_id l))
  show UInt8.ofNat (((b.toNat : Nat) : Int).toNat) = b
  rw [Int.toNat_natCast, u8_eta]
theorem rnum_ok (n k : Nat) (h : n ≤ 4611686018427387904) (hk : 11 ≤ k) : sorrelref09_number.f k (n : Int) = some (bs (enc n)) := by
  unfold sorrelref09_number.f; rw [rput_ok n k h hk]; rfl
theorem rtxt_ok (s : ByteArray) (k : Nat) (h : s.size ≤ 262144) (hk : 11 ≤ k) : sorrelref09_text.f k s = some (bs (enc s.data.toList.length ++ s.data.toList)) := by
  unfold sorrelref09_text.f; rw [rtext_ok s k h hk]; rfl
theorem rbput_l0 (l : List S36) (hm : ∀ e ∈ l, MayE e) (hl : l.length ≤ 4096) : ∀ (n i k : Nat) (acc : List UInt8) (last : ByteArray), i + n = l.length → last.size ≤ 64 → acc.length ≤ 400 * i + 9 → 10 * (400 * l.length + 9) + n + 400 ≤ k →
    sorrelref09_Put.l0 k l (nat8 acc) last (i : Int) = some (bs (sealL (acc ++ bodyL last.data.toList (l.drop i))), 0) := by
  intro n
  induction n with
  | zero =>
    intro i k acc last h hz hb hk
    obtain ⟨k, rfl⟩ : ∃ m, k = m + 1 := ⟨k - 1, by omega⟩
    simp only [sorrelref09_Put.l0]
    rw [if_neg (by omega), List.drop_eq_nil_of_le (by omega), nat8_text, rseal_is _ k (by rw [bs_size]; omega) (by rw [bs_size]; omega)]
    simp only [Option.bind_some, bodyL, List.append_nil]; rfl
  | succ n ih =>
    intro i k acc last h hz hb hk
    obtain ⟨k, rfl⟩ : ∃ m, k = m + 1 := ⟨k - 1, by omega⟩
    have hi : i < l.length := by omega
    obtain ⟨m1, m2, m3, m4, m5, m6⟩ := hm l[i] (List.getElem_mem hi)
    have hle := entL_le last.data.toList l[i] (hm l[i] (List.getElem_mem hi))
    have hk0 : (kL l[i]).length = (l[i]).f0.size := len_list _
    have hcl := lcp_le last.data.toList (kL l[i])
    have hdl : ((kL l[i]).drop (lcp last.data.toList (kL l[i]))).length = (kL l[i]).length - lcp last.data.toList (kL l[i]) := List.length_drop
    have e0 : l.drop i = l[i] :: l.drop (i + 1) := (List.getElem_cons_drop hi).symm
    have hxd : ((l[i]).f0.extract (lcp last.data.toList (kL l[i])) (l[i]).f0.size).data.toList = (kL l[i]).drop (lcp last.data.toList (kL l[i])) := ext_drop _ _
    have hxs : ((l[i]).f0.extract (lcp last.data.toList (kL l[i])) (l[i]).f0.size).size ≤ 64 := by rw [← len_list, hxd]; omega
    have hn1 : lcp last.data.toList (kL l[i]) ≤ 4611686018427387904 := by omega
    have s1 : (enc (lcp last.data.toList (kL l[i]))).length ≤ 9 := enc9 hn1
    have s2 : (enc ((kL l[i]).drop (lcp last.data.toList (kL l[i]))).length).length ≤ 9 := enc9 (by omega)
    simp only [sorrelref09_Put.l0]
    rw [if_pos (by omega), if_pos (by omega), rdT l i hi, rcom_is last (l[i]).f0 k (by omega) (by omega)]
    simp only [Option.bind_some]
    rw [show (l[i]).f0.data.toList = kL l[i] from rfl, rnum_ok _ k hn1 (by omega)]
    simp only [Option.bind_some]
    rw [if_pos (by rw [nat8_len, bs_size]; omega), if_pos (by omega), if_pos (by omega), Int.toNat_natCast, rtxt_ok _ k (by omega) (by omega)]
    simp only [Option.bind_some]
    rw [hxd, nat8_bs, ← nat8_app, if_pos (by rw [nat8_len, bs_size, List.length_append, List.length_append]; omega), nat8_bs, ← nat8_app]
    by_cases hg : (l[i]).f2 = true
    · have s3 : (enc (2 * (l[i]).f3.toNat + 1)).length ≤ 9 := enc9 (by omega)
      rw [if_pos hg, w64 (n := 2 * (l[i]).f3) (by omega) (by omega), w64 (n := 2 * (l[i]).f3 + 1) (by omega) (by omega), show 2 * (l[i]).f3 + 1 = ((2 * (l[i]).f3.toNat + 1 : Nat) : Int) from by omega, rnum_ok _ k (by omega) (by omega)]
      simp only [Option.bind_some]
      rw [if_pos (by rw [nat8_len, bs_size]; simp only [List.length_append]; omega), nat8_bs, ← nat8_app, w64 (by omega) (by omega), show (i : Int) + 1 = ((i + 1 : Nat) : Int) from by omega]
      have hel : entL last.data.toList l[i] = enc (lcp last.data.toList (kL l[i])) ++ ((enc ((kL l[i]).drop (lcp last.data.toList (kL l[i]))).length ++ (kL l[i]).drop (lcp last.data.toList (kL l[i]))) ++ enc (2 * (l[i]).f3.toNat + 1)) := by unfold entL txtL; rw [if_pos hg]
      rw [ih (i + 1) k _ _ (by omega) m2 (by rw [hel] at hle; simp only [List.length_append] at hle ⊢; omega) (by omega), e0, bodyL, hel]
      simp only [List.append_assoc]; rfl
    · have s3 : (enc (2 * (l[i]).f3.toNat)).length ≤ 9 := enc9 (by omega)
      have hv0 : (l[i]).f1.data.toList.length = (l[i]).f1.size := len_list _
      have s4 : (enc (l[i]).f1.data.toList.length).length ≤ 9 := enc9 (by omega)
      rw [if_neg hg, w64 (n := 2 * (l[i]).f3) (by omega) (by omega), show 2 * (l[i]).f3 = ((2 * (l[i]).f3.toNat : Nat) : Int) from by omega, rnum_ok _ k (by omega) (by omega)]
      simp only [Option.bind_some]
      rw [if_pos (by rw [nat8_len, bs_size]; simp only [List.length_append]; omega), nat8_bs, ← nat8_app, rtxt_ok _ k (by omega) (by omega)]
      simp only [Option.bind_some]
      rw [if_pos (by rw [nat8_len, bs_size]; simp only [List.length_append]; omega), nat8_bs, ← nat8_app, w64 (by omega) (by omega), show (i : Int) + 1 = ((i + 1 : Nat) : Int) from by omega]
      have hel : entL last.data.toList l[i] = enc (lcp last.data.toList (kL l[i])) ++ ((enc ((kL l[i]).drop (lcp last.data.toList (kL l[i]))).length ++ (kL l[i]).drop (lcp last.data.toList (kL l[i]))) ++ (enc (2 * (l[i]).f3.toNat) ++ (enc (l[i]).f1.data.toList.length ++ (l[i]).f1.data.toList))) := by unfold entL txtL; rw [if_neg hg]; rfl
      rw [ih (i + 1) k _ _ (by omega) m2 (by rw [hel] at hle; simp only [List.length_append] at hle ⊢; omega) (by omega), e0, bodyL, hel]
      simp only [List.append_assoc]; rfl
theorem rbput_ok (l : List S36) (k : Nat) (h : okB l = true) (hk : 4000 * l.length + 9000 ≤ k) : sorrelref09_Put.f k l = some (bs (putL l), 0) := by
  obtain ⟨h1, h2⟩ := (okB_iff l).1 h
  have s1 : (enc l.length).length ≤ 9 := enc9 (by omega)
  unfold sorrelref09_Put.f
  rw [rcheck_is_ l k (by omega), Option.bind_some, h, if_pos rfl, if_pos rfl, rnum_ok _ k (by omega) (by omega)]
  simp only [Option.bind_some]
  rw [if_pos (by rw [bs_size]; simp only [List.length_nil]; omega), List.nil_append, nat8_bs]
  have := rbput_l0 l (ok_may l none h2) h1 l.length 0 k (enc l.length) (⟨#[]⟩ : ByteArray) (by omega) (by decide) (by omega) (by omega)
  rw [List.drop_zero] at this
  exact this
theorem rbput_no (l : List S36) (k : Nat) (h : okB l = false) (hk : 4098 ≤ k) : sorrelref09_Put.f k l = some (bs [], 1) := by
  unfold sorrelref09_Put.f
  rw [rcheck_is_ l k hk, Option.bind_some, h, if_neg (by decide), if_neg (by decide)]; rfl
end Go.Proofs.Ytcfkmcbmambchaa.VaRPut
