import Derived.Test.YtcfkmcbmambchaakSXAx6
import Derived.Test.YtcfkmcbmambchaakSXAx0
import Derived.Test.YtcfkmcbmambchaakSXAx7
import Derived.Test.YtcfkmcbmambchaakSVLib
import Derived.Test.YtcfkmcbmambchaakSCLib
import Derived.Test.YtcfkmcbmambchaakSXW
import Derived.Test.YtcfkmcbmambchaakSVaB1
import Derived.Test.YtcfkmcbmambchaakSVaChk
namespace Go.Proofs.Ytcfkmcbmambchaa.XA
end Go.Proofs.Ytcfkmcbmambchaa.XA
namespace Go.Proofs.Ytcfkmcbmambchaa.VLib
end Go.Proofs.Ytcfkmcbmambchaa.VLib
namespace Go.Proofs.Ytcfkmcbmambchaa.CLib
end Go.Proofs.Ytcfkmcbmambchaa.CLib
namespace Go.Proofs.Ytcfkmcbmambchaa.XW
end Go.Proofs.Ytcfkmcbmambchaa.XW
namespace Go.Proofs.Ytcfkmcbmambchaa.VaB1
end Go.Proofs.Ytcfkmcbmambchaa.VaB1
namespace Go.Proofs.Ytcfkmcbmambchaa.VaChk
end Go.Proofs.Ytcfkmcbmambchaa.VaChk
namespace Go.Proofs.YtcfkmcbmambchaaW.PrintWords
end Go.Proofs.YtcfkmcbmambchaaW.PrintWords
namespace Go.Proofs.YtcfkmcbmambchaaW.PrintLast
end Go.Proofs.YtcfkmcbmambchaaW.PrintLast
namespace Go.Proofs.YtcfkmcbmambchaaW.PrintMore
end Go.Proofs.YtcfkmcbmambchaaW.PrintMore
namespace Go.Proofs.Ytcfkmcbmambchaa.VaPut
open Go.RowKit Go.Proofs.Ytcfkmcbmambchaa.XA Go.Proofs.Ytcfkmcbmambchaa.VLib Go.Proofs.Ytcfkmcbmambchaa.CLib Go.Proofs.Ytcfkmcbmambchaa.XW Go.Proofs.Ytcfkmcbmambchaa.VaB1 Go.Proofs.Ytcfkmcbmambchaa.VaChk Go.Proofs.YtcfkmcbmambchaaW.PrintWords Go.Proofs.YtcfkmcbmambchaaW.PrintLast Go.Proofs.YtcfkmcbmambchaaW.PrintMore
def kL (e : S36) : List UInt8 := e.f0.data.toList
def vL (e : S36) : List UInt8 := e.f1.data.toList
def txtL (t : List UInt8) : List UInt8 := enc t.length ++ t
def entL (last : List UInt8) (e : S36) : List UInt8 :=
  enc (lcp last (kL e)) ++ (txtL ((kL e).drop (lcp last (kL e))) ++ (if e.f2 = true then enc (2 * e.f3.toNat + 1) else enc (2 * e.f3.toNat) ++ txtL (vL e)))
def bodyL : List UInt8 → List S36 → List UInt8
  | _, [] => []
  | last, e :: r => entL last e ++ bodyL (kL e) r
def putL (l : List S36) : List UInt8 := sealL (enc l.length ++ bodyL [] l)
structure MayE (e : S36) : Prop where
  k1 : 1 ≤ e.f0.size
  k64 : e.f0.size ≤ 64
  v : e.f1.size ≤ 256
  g : e.f2 = true → e.f1.size = 0
  s1 : 1 ≤ e.f3
  sm : e.f3 ≤ 1099511627775
theorem mayE_iff (e_ : S36) : mayE e_ = true ↔ MayE e_ := by
  unfold mayE
  simp only [Bool.and_eq_true, Bool.or_eq_true, decide_eq_true_eq, Bool.not_eq_true']
  constructor
  · rintro ⟨⟨⟨⟨⟨a, b⟩, c⟩, d⟩, e⟩, f⟩
    exact ⟨a, b, c, fun h => by rcases d with d | d; · rw [h] at d; cases d
                                · exact d, e, f⟩
  · rintro ⟨a, b, c, d, e, f⟩
    refine ⟨⟨⟨⟨⟨a, b⟩, c⟩, ?_⟩, e⟩, f⟩
    cases h : e_.f2
    · exact .inl rfl
    · exact .inr (d h)
theorem ok_may : ∀ (l : List S36) (p : Option S36), okFrom p l = true → ∀ e ∈ l, MayE e
  | [], _, _ => fun _ h => by cases h
  | e :: r, p, h => by
    intro x hx
    have h2 : mayE e = true ∧ okFrom (some e) r = true := by
      cases p <;> simp only [okFrom, Bool.and_eq_true] at h
      · exact h
      · exact ⟨h.1.1, h.2⟩
    rcases List.mem_cons.1 hx with rfl | hx
    · exact (mayE_iff _).1 h2.1
    · exact ok_may r _ h2.2 x hx
theorem okB_iff (l : List S36) : okB l = true ↔ l.length ≤ 4096 ∧ okFrom none l = true := by unfold okB; rw [Bool.and_eq_true, decide_eq_true_eq]
theorem entL_le (last : List UInt8) (e : S36) (h : MayE e) : 3 ≤ (entL last e).length ∧ (entL last e).length ≤ 400 := by
  obtain ⟨a, b, c, d, f, g⟩ := h
  have hk : (kL e).length = e.f0.size := len_list e.f0
  have hv : (vL e).length = e.f1.size := len_list e.f1
  have hl := lcp_le last (kL e)
  have h1 := enc9 (n := lcp last (kL e)) (by omega)
  have h2 := enc9 (n := ((kL e).drop (lcp last (kL e))).length) (by rw [List.length_drop]; omega)
  have h3 := enc9 (n := 2 * e.f3.toNat + 1) (by omega)
  have h4 := enc9 (n := 2 * e.f3.toNat) (by omega)
  have h5 := enc9 (n := (vL e).length) (by omega)
  have p1 := enc_pos (lcp last (kL e))
  have p2 := enc_pos ((kL e).drop (lcp last (kL e))).length
  have p3 := enc_pos (2 * e.f3.toNat + 1)
  have p4 := enc_pos (2 * e.f3.toNat)
  have hd : ((kL e).drop (lcp last (kL e))).length = (kL e).length - lcp last (kL e) := List.length_drop
  unfold entL txtL
  split <;> simp only [List.length_append] <;> omega
theorem bodyL_le : ∀ (l : List S36) (last : List UInt8), (∀ e ∈ l, MayE e) → (bodyL last l).length ≤ 400 * l.length
  | [], _, _ => by simp [bodyL]
  | e :: r, last, h => by
    have h1 := entL_le last e (h e List.mem_cons_self)
    have h2 := bodyL_le r (kL e) (fun x hx => h x (List.mem_cons_of_mem _ hx))
    simp only [bodyL, List.length_append, List.length_cons]; omega
theorem ext_drop (s : ByteArray) (n : Nat) : (s.extract n s.size).data.toList = s.data.toList.drop n := by
  rw [extract_list, List.take_of_length_le (by rw [len_list]; exact Nat.le_refl _)]
theorem bput_l0 (l : List S36) (hm : ∀ e ∈ l, MayE e) (hl : l.length ≤ 4096) : ∀ (n i k : Nat) (acc : List UInt8) (last : ByteArray), i + n = l.length → last.size ≤ 64 → acc ≠ [] → acc.length ≤ 400 * i + 9 → 10 * (400 * l.length + 9) + n + 400 ≤ k →
    block_Put.l0 k l acc last (i : Int) = some (bs (sealL (acc ++ bodyL last.data.toList (l.drop i))), 0) := by
  intro n
  induction n with
  | zero =>
    intro i k acc last h hz ha hb hk
    obtain ⟨k, rfl⟩ : ∃ m, k = m + 1 := ⟨k - 1, by omega⟩
    simp only [block_Put.l0]
    rw [if_neg (by omega), if_neg ha, List.drop_eq_nil_of_le (by omega)]
    have := seal_is (bs acc) k (by rw [bs_size]; omega) (by rw [bs_size]; omega)
    rw [show (⟨acc.toArray⟩ : ByteArray) = bs acc from rfl, this]
    simp only [Option.bind_some, bodyL, List.append_nil]; rfl
  | succ n ih =>
    intro i k acc last h hz ha hb hk
    obtain ⟨k, rfl⟩ : ∃ m, k = m + 1 := ⟨k - 1, by omega⟩
    have hi : i < l.length := by omega
    obtain ⟨m1, m2, m3, m4, m5, m6⟩ := hm l[i] (List.getElem_mem hi)
    have hle := entL_le last.data.toList l[i] (hm l[i] (List.getElem_mem hi))
    have hk0 : (kL l[i]).length = (l[i]).f0.size := len_list _
    have hcl := lcp_le last.data.toList (kL l[i])
    have hq : (l[i]).f3 = ((l[i]).f3.toNat : Int) := by omega
    have hdl : ((kL l[i]).drop (lcp last.data.toList (kL l[i]))).length = (kL l[i]).length - lcp last.data.toList (kL l[i]) := List.length_drop
    have e0 : l.drop i = l[i] :: l.drop (i + 1) := (List.getElem_cons_drop hi).symm
    have hxd : ((l[i]).f0.extract (lcp last.data.toList (kL l[i])) (l[i]).f0.size).data.toList = (kL l[i]).drop (lcp last.data.toList (kL l[i])) := ext_drop _ _
    have hxs : ((l[i]).f0.extract (lcp last.data.toList (kL l[i])) (l[i]).f0.size).size ≤ 64 := by rw [← len_list, hxd]; omega
    have hn1 : lcp last.data.toList (kL l[i]) ≤ 4611686018427387904 := by omega
    simp only [block_Put.l0]
    rw [if_pos (by omega), if_pos (by omega), rdT l i hi, com_is last (l[i]).f0 k (by omega) (by omega)]
    simp only [Option.bind_some]
    rw [show (l[i]).f0.data.toList = kL l[i] from rfl, put_ok _ k hn1 (by omega)]
    simp only [Option.bind_some]
    rw [if_pos (by omega), if_pos (by omega), Int.toNat_natCast, text_ok _ k (by omega) (by omega)]
    simp only [Option.bind_some]
    rw [hxd]
    have s1 : (bs (enc (lcp last.data.toList (kL l[i])))).size ≤ 9 := by rw [bs_size]; exact enc9 hn1
    have s2 : (bs (enc ((kL l[i]).drop (lcp last.data.toList (kL l[i]))).length ++ (kL l[i]).drop (lcp last.data.toList (kL l[i])))).size ≤ 73 := by
      have := enc9 (n := ((kL l[i]).drop (lcp last.data.toList (kL l[i]))).length) (by omega)
      rw [bs_size, List.length_append]; omega
    rw [if_pos (by omega)]
    by_cases hg : (l[i]).f2 = true
    · have s3 : (bs (enc (2 * (l[i]).f3.toNat + 1))).size ≤ 9 := by rw [bs_size]; exact enc9 (by omega)
      rw [if_pos hg, w64 (n := 2 * (l[i]).f3) (by omega) (by omega), w64 (n := 2 * (l[i]).f3 + 1) (by omega) (by omega), show 2 * (l[i]).f3 + 1 = ((2 * (l[i]).f3.toNat + 1 : Nat) : Int) from by omega, put_ok _ k (by omega) (by omega)]
      simp only [Option.bind_some]
      rw [if_pos (by omega), w64 (by omega) (by omega), show (i : Int) + 1 = ((i + 1 : Nat) : Int) from by omega, bs_list, bs_list, bs_list]
      have hel : entL last.data.toList l[i] = enc (lcp last.data.toList (kL l[i])) ++ ((enc ((kL l[i]).drop (lcp last.data.toList (kL l[i]))).length ++ (kL l[i]).drop (lcp last.data.toList (kL l[i]))) ++ enc (2 * (l[i]).f3.toNat + 1)) := by unfold entL txtL; rw [if_pos hg]
      rw [ih (i + 1) k _ _ (by omega) m2 (by simp [ha]) (by rw [hel] at hle; simp only [List.length_append] at hle ⊢; omega) (by omega), e0, bodyL, hel]
      simp only [List.append_assoc]; rfl
    · have s3 : (bs (enc (2 * (l[i]).f3.toNat))).size ≤ 9 := by rw [bs_size]; exact enc9 (by omega)
      have hv0 : (vL l[i]).length = (l[i]).f1.size := len_list _
      have s4 : (bs (enc (l[i]).f1.data.toList.length ++ (l[i]).f1.data.toList)).size ≤ 265 := by
        have := enc9 (n := (vL l[i]).length) (by omega)
        rw [bs_size, List.length_append]; unfold vL at *; omega
      rw [if_neg hg, w64 (by omega) (by omega), show 2 * (l[i]).f3 = ((2 * (l[i]).f3.toNat : Nat) : Int) from by omega, put_ok _ k (by omega) (by omega)]
      simp only [Option.bind_some]
      rw [text_ok _ k (by omega) (by omega)]
      simp only [Option.bind_some]
      rw [if_pos (by omega), w64 (by omega) (by omega), show (i : Int) + 1 = ((i + 1 : Nat) : Int) from by omega, bs_list, bs_list, bs_list, bs_list]
      have hel : entL last.data.toList l[i] = enc (lcp last.data.toList (kL l[i])) ++ ((enc ((kL l[i]).drop (lcp last.data.toList (kL l[i]))).length ++ (kL l[i]).drop (lcp last.data.toList (kL l[i]))) ++ (enc (2 * (l[i]).f3.toNat) ++ (enc (l[i]).f1.data.toList.length ++ (l[i]).f1.data.toList))) := by unfold entL txtL; rw [if_neg hg]; rfl
      rw [ih (i + 1) k _ _ (by omega) m2 (by simp [ha]) (by rw [hel] at hle; simp only [List.length_append] at hle ⊢; omega) (by omega), e0, bodyL, hel]
      simp only [List.append_assoc]; rfl
theorem bput_ok (l : List S36) (k : Nat) (h : okB l = true) (hk : 4000 * l.length + 9000 ≤ k) : block_Put.f k l = some (bs (putL l), 0) := by
  obtain ⟨h1, h2⟩ := (okB_iff l).1 h
  have s1 : (bs (enc l.length)).size ≤ 9 := by rw [bs_size]; exact enc9 (by omega)
  unfold block_Put.f
  rw [check_is_ l k (by omega), Option.bind_some, h, if_pos rfl, if_pos rfl, put_ok _ k (by omega) (by omega)]
  simp only [Option.bind_some]
  rw [if_pos (by omega)]
  have hp := enc_pos l.length
  rw [bs_size] at s1
  have := bput_l0 l (ok_may l none h2) h1 l.length 0 k (enc l.length) (⟨#[]⟩ : ByteArray) (by omega) (by decide) (by intro e; rw [e] at hp; simp at hp) (by omega) (by omega)
  rw [List.drop_zero] at this
  exact this
end Go.Proofs.Ytcfkmcbmambchaa.VaPut
