/- Plain laws on what the functions written out for this seat come to. -/
import Derived.Test.YtffmndbgbooedaaXStatSpanKeys
import Derived.Test.YtffmndbgbooedaaVLib
import Derived.Test.YtffmndbgbooedaaXW
namespace Go.Proofs.Ytffmndbgbooedaa.VaKeys
open Go.RowKit Go.Proofs.Ytffmndbgbooedaa.XA Go.Proofs.Ytffmndbgbooedaa.VLib Go.Proofs.Ytffmndbgbooedaa.XW Go.Proofs.YtffmndbgbooedaaW.PrintWords Go.Proofs.YtffmndbgbooedaaW.PrintLast Go.Proofs.YtffmndbgbooedaaW.PrintMore
/-! ### the order of texts -/
theorem less_irrefl : ∀ a : List UInt8, Op.bytesLess a a = false
  | [] => rfl
  | x :: a => by
    have := less_irrefl a
    simp only [Op.bytesLess, this, Bool.and_false, Bool.or_false, decide_eq_false_iff_not, UInt8.lt_iff_toNat_lt]
    omega
theorem less_trans : ∀ a b c : List UInt8, Op.bytesLess a b = true → Op.bytesLess b c = true → Op.bytesLess a c = true
  | [], [], _, h, _ => by simp [Op.bytesLess] at h
  | [], _ :: _, [], _, h => by simp [Op.bytesLess] at h
  | [], _ :: _, _ :: _, _, _ => rfl
  | _ :: _, [], _, h, _ => by simp [Op.bytesLess] at h
  | _ :: _, _ :: _, [], _, h => by simp [Op.bytesLess] at h
  | x :: a, y :: b, z :: c, h1, h2 => by
    have ih := less_trans a b c
    simp only [Op.bytesLess, Bool.or_eq_true, Bool.and_eq_true, decide_eq_true_eq, beq_iff_eq, UInt8.lt_iff_toNat_lt] at h1 h2 ⊢
    rcases h1 with h1 | ⟨rfl, h1⟩
    · rcases h2 with h2 | ⟨rfl, h2⟩
      · exact .inl (by omega)
      · exact .inl h1
    · rcases h2 with h2 | ⟨rfl, h2⟩
      · exact .inl h2
      · exact .inr ⟨rfl, ih h1 h2⟩
def lt (a b : ByteArray) : Bool := Op.bytesLess a.toList b.toList
theorem lt_irrefl (a : ByteArray) : lt a a = false := less_irrefl _
theorem lt_trans {a b c : ByteArray} (h1 : lt a b = true) (h2 : lt b c = true) : lt a c = true := less_trans _ _ _ h1 h2
theorem lt_tri (a b : ByteArray) : lt a b = true ∨ a = b ∨ lt b a = true := by
  have h := less_total a.toList b.toList
  cases h1 : lt a b
  · cases h2 : lt b a
    · refine .inr (.inl ?_)
      have e1 : Op.bytesLess a.toList b.toList = false := h1
      have e2 : Op.bytesLess b.toList a.toList = false := h2
      rw [e1, e2] at h
      simp only [Bool.false_or, Bool.not_false, beq_iff_eq] at h
      exact toList_inj.1 h
    · exact .inr (.inr rfl)
  · exact .inl rfl
theorem lt_asymm {a b : ByteArray} (h : lt a b = true) : lt b a = false := by
  cases h2 : lt b a
  · rfl
  · have := lt_trans h h2; rw [lt_irrefl] at this; cases this
theorem nlt_trans {a b c : ByteArray} (h1 : lt a b = true) (h2 : lt c b = false) : lt c a = false := by
  cases h : lt c a
  · rfl
  · have := lt_trans h h1; rw [this] at h2; cases h2
theorem le_lt {a b c : ByteArray} (h1 : lt b a = false) (h2 : lt b c = true) : lt a c = true := by
  rcases lt_tri a b with h | rfl | h
  · exact lt_trans h h2
  · exact h2
  · rw [h] at h1; cases h1

/-! ### keys, and ranges of keys -/
def emp (a : ByteArray) : Bool := a.toList == []
theorem emp_iff {a : ByteArray} : emp a = true ↔ a.toList = [] := by unfold emp; exact beq_iff_eq
theorem emp_size (a : ByteArray) : emp a = decide (a.size = 0) := by
  rw [Bool.eq_iff_iff, emp_iff, toList_data, decide_eq_true_eq, ← len_list, List.length_eq_zero_iff]
theorem emp_eq {a b : ByteArray} (h1 : emp a = true) (h2 : emp b = true) : a = b := toList_inj.1 ((emp_iff.1 h1).trans (emp_iff.1 h2).symm)
theorem lt_emp {a b : ByteArray} (h : emp b = true) : lt a b = false := by
  unfold lt; rw [emp_iff.1 h]; cases a.toList <;> rfl
theorem emp_lt {a b : ByteArray} (h : emp a = true) (h2 : emp b = false) : lt a b = true := by
  rcases lt_tri a b with h3 | rfl | h3
  · exact h3
  · rw [h] at h2; cases h2
  · rw [lt_emp h] at h3; cases h3
def keyB (s : ByteArray) : Bool := !emp s && decide (s.size ≤ 64)
def aheadB (s hi : ByteArray) : Bool := emp hi || lt s hi
def mayB (lo hi : ByteArray) : Bool := decide (lo.size ≤ 64) && decide (hi.size ≤ 64) && aheadB lo hi
def hasB (lo hi key : ByteArray) : Bool := mayB lo hi && keyB key && !lt key lo && aheadB key hi

theorem key_is (s : ByteArray) : span_Key.f s = some (keyB s) := by
  unfold span_Key.f keyB
  by_cases h : s.toList = []
  · rw [if_pos h, emp_iff.2 h]; rfl
  · have e : emp s = false := by cases h2 : emp s; rfl; exact absurd (emp_iff.1 h2) h
    rw [if_neg h, e]
    simp only [Bool.not_false, Bool.true_and, Option.some.injEq]
    exact decide_eq_decide.2 (by omega)
theorem ahead_is (s hi : ByteArray) : span_ahead.f s hi = some (aheadB s hi) := by
  unfold span_ahead.f aheadB
  by_cases h : hi.toList = []
  · rw [if_pos h, emp_iff.2 h]; rfl
  · have e : emp hi = false := by cases h2 : emp hi; rfl; exact absurd (emp_iff.1 h2) h
    rw [if_neg h, e]; rfl
theorem may_is (lo hi : ByteArray) : span_may.f lo hi = some (mayB lo hi) := by
  unfold span_may.f mayB
  rw [ahead_is]
  by_cases h1 : lo.size ≤ 64
  · rw [if_pos (by omega), decide_eq_true h1]
    by_cases h2 : hi.size ≤ 64
    · rw [if_pos (by omega), decide_eq_true h2]; rfl
    · rw [if_neg (by omega), decide_eq_false h2]; rfl
  · rw [if_neg (by omega), decide_eq_false h1]; rfl
theorem check_is (lo hi : ByteArray) : span_Check.f lo hi = some (if mayB lo hi = true then 0 else 1) := by
  unfold span_Check.f
  rw [may_is]
  simp only [Option.bind_some]
  split <;> rfl
theorem has_is (lo hi key : ByteArray) : span_Has.f lo hi key = some (hasB lo hi key) := by
  unfold span_Has.f hasB
  rw [may_is, key_is, ahead_is]
  have e : Op.bytesLess key.toList lo.toList = lt key lo := rfl
  simp only [Option.bind_some, e]
  cases mayB lo hi <;> cases keyB key <;> cases lt key lo <;> simp
def cutB (lo hi key : ByteArray) : Bool := hasB lo hi key && !(key.toList == lo.toList)
theorem cut_is (lo hi key : ByteArray) : span_Cut.f lo hi key = some (if cutB lo hi key = true then (lo, key, key, hi, 0) else ((⟨#[]⟩ : ByteArray), (⟨#[]⟩ : ByteArray), (⟨#[]⟩ : ByteArray), (⟨#[]⟩ : ByteArray), 1)) := by
  unfold span_Cut.f cutB
  rw [has_is]
  by_cases h : key.toList = lo.toList
  · rw [if_pos h, h]; simp
  · rw [if_neg h, beq_false_of_ne h]
    simp only [Option.bind_some, Bool.not_false, Bool.and_true]
    split <;> rfl
def joinB (alo ahi blo bhi : ByteArray) : Bool := mayB alo ahi && mayB blo bhi && !emp ahi && (blo.toList == ahi.toList)
theorem join_is (alo ahi blo bhi : ByteArray) (k : Nat) (hk : 1 ≤ k) : span_Join.f k alo ahi blo bhi = some (if joinB alo ahi blo bhi = true then (alo, bhi, 0) else ((⟨#[]⟩ : ByteArray), (⟨#[]⟩ : ByteArray), 1)) := by
  obtain ⟨k, rfl⟩ : ∃ m, k = m + 1 := ⟨k - 1, by omega⟩
  unfold span_Join.f joinB
  rw [may_is, may_is]
  simp only [Option.bind_some, span_Join.j0]
  have e : (blo.toList != ahi.toList) = !(blo.toList == ahi.toList) := rfl
  by_cases h : ahi.toList = []
  · rw [emp_iff.2 h]
    cases mayB alo ahi <;> cases mayB blo bhi <;> simp [h]
  · have e2 : emp ahi = false := by cases h2 : emp ahi; rfl; exact absurd (emp_iff.1 h2) h
    rw [e2, if_neg h, e]
    cases mayB alo ahi <;> cases mayB blo bhi <;> cases (blo.toList == ahi.toList) <;> simp
theorem awake_is (k : Nat) (hk : 1 ≤ k) : sorrellaw04_awake.f k = some true := by
  unfold sorrellaw04_awake.f
  have e1 : cutB (⟨#[98]⟩ : ByteArray) (⟨#[109]⟩ : ByteArray) (⟨#[102]⟩ : ByteArray) = true := by decide +kernel
  have e2 : joinB (⟨#[98]⟩ : ByteArray) (⟨#[102]⟩ : ByteArray) (⟨#[102]⟩ : ByteArray) (⟨#[109]⟩ : ByteArray) = true := by decide +kernel
  have e3 : hasB (⟨#[98]⟩ : ByteArray) (⟨#[102]⟩ : ByteArray) (⟨#[101]⟩ : ByteArray) = true := by decide +kernel
  have e4 : hasB (⟨#[98]⟩ : ByteArray) (⟨#[102]⟩ : ByteArray) (⟨#[102]⟩ : ByteArray) = false := by decide +kernel
  have e5 : keyB (⟨#[120]⟩ : ByteArray) = true := by decide +kernel
  rw [cut_is, e1]
  simp only [Option.bind_some, if_true]
  rw [join_is _ _ _ _ k hk, e2]
  simp only [Option.bind_some, if_true, has_is, key_is, e3, e4, e5, toList_data]
  rfl
theorem rkey_is (s : ByteArray) : sorrelref04_Key.f s = some (keyB s) := by
  unfold sorrelref04_Key.f keyB
  rw [emp_size]
  by_cases h : s.size = 0
  · rw [if_neg (by omega), decide_eq_true h]; rfl
  · rw [if_pos (by omega), decide_eq_false h]
    simp only [Bool.not_false, Bool.true_and, Option.some.injEq]
    exact decide_eq_decide.2 (by omega)
theorem rmay_is (lo hi : ByteArray) : sorrelref04_May.f lo hi = some (mayB lo hi) := by
  have h := may_is lo hi
  unfold span_may.f at h
  rw [← h]
  unfold sorrelref04_May.f span_ahead.f
  split
  · split
    · split <;> rfl
    · rfl
  · rfl
theorem rcheck_is (lo hi : ByteArray) : sorrelref04_Check.f lo hi = some (if mayB lo hi = true then 0 else 1) := by
  unfold sorrelref04_Check.f
  rw [rmay_is]
  simp only [Option.bind_some]
  split <;> rfl
theorem rhas_is (lo hi key : ByteArray) : sorrelref04_Has.f lo hi key = some (hasB lo hi key) := by
  have h := has_is lo hi key
  unfold span_Has.f at h
  rw [may_is, key_is] at h
  rw [← h]
  unfold sorrelref04_Has.f span_ahead.f
  rw [rmay_is, rkey_is]
  simp only [Option.bind_some]
  cases mayB lo hi <;> cases keyB key <;> simp
theorem law_keys : sorrellaw04_SpanKeys.Pure := by
  intro x key _ _
  refine ⟨1, ?_⟩
  unfold sorrellaw04_SpanKeys.f
  rw [key_is, rkey_is, check_is, rcheck_is, has_is, rhas_is, awake_is 1 (by omega)]
  simp
end Go.Proofs.Ytffmndbgbooedaa.VaKeys
