/- Plain laws on what the functions written out for this seat come to. -/
import Derived.Test.YtffmndbgbooedaaXStatSpanMeets
import Derived.Test.YtffmndbgbooedaaVLib
import Derived.Test.YtffmndbgbooedaaXW
namespace Go.Proofs.Ytffmndbgbooedaa.VaMeets
open Go.RowKit Go.Proofs.Ytffmndbgbooedaa.XA Go.Proofs.Ytffmndbgbooedaa.VLib Go.Proofs.Ytffmndbgbooedaa.XW Go.Proofs.YtffmndbgbooedaaW.PrintWords Go.Proofs.YtffmndbgbooedaaW.PrintLast Go.Proofs.YtffmndbgbooedaaW.PrintMore
/-! ### the order of texts -/
theorem less_irrefl : ∀ a : List UInt8, Op.bytesLess a a = false
  | [] => rfl
  | x :: a => by
    have := less_irrefl a
    simp only [Op.bytesLess, this, Bool.and_false, Bool.or_false, decide_eq_false_iff_not, UInt8.lt_iff_toNat_lt]
    omega
theorem less_trans : ∀ a b c : List UInt8, Op.bytesLess a b = true → Op.bytesLess b c = true → Op.bytesLess a c = true
  | [], [], _, h, _ => by simp [Op.bytesLess] at h
  | [], _ :: _, [], _, h => by simp [Op.bytesLess] at h
  | [], _ :: _, _ :: _, _, _ => rfl
  | _ :: _, [], _, h, _ => by simp [Op.bytesLess] at h
  | _ :: _, _ :: _, [], _, h => by simp [Op.bytesLess] at h
  | x :: a, y :: b, z :: c, h1, h2 => by
    have ih := less_trans a b c
    simp only [Op.bytesLess, Bool.or_eq_true, Bool.and_eq_true, decide_eq_true_eq, beq_iff_eq, UInt8.lt_iff_toNat_lt] at h1 h2 ⊢
    rcases h1 with h1 | ⟨rfl, h1⟩
    · rcases h2 with h2 | ⟨rfl, h2⟩
      · exact .inl (by omega)
      · exact .inl h1
    · rcases h2 with h2 | ⟨rfl, h2⟩
      · exact .inl h2
      · exact .inr ⟨rfl, ih h1 h2⟩
def lt (a b : ByteArray) : Bool := Op.bytesLess a.toList b.toList
theorem lt_irrefl (a : ByteArray) : lt a a = false := less_irrefl _
theorem lt_trans {a b c : ByteArray} (h1 : lt a b = true) (h2 : lt b c = true) : lt a c = true := less_trans _ _ _ h1 h2
theorem lt_tri (a b : ByteArray) : lt a b = true ∨ a = b ∨ lt b a = true := by
  have h := less_total a.toList b.toList
  cases h1 : lt a b
  · cases h2 : lt b a
    · refine .inr (.inl ?_)
      have e1 : Op.bytesLess a.toList b.toList = false := h1
      have e2 : Op.bytesLess b.toList a.toList = false := h2
      rw [e1, e2] at h
      simp only [Bool.false_or, Bool.not_false, beq_iff_eq] at h
      exact toList_inj.1 h
    · exact .inr (.inr rfl)
  · exact .inl rfl
theorem lt_asymm {a b : ByteArray} (h : lt a b = true) : lt b a = false := by
  cases h2 : lt b a
  · rfl
  · have := lt_trans h h2; rw [lt_irrefl] at this; cases this
theorem nlt_trans {a b c : ByteArray} (h1 : lt a b = true) (h2 : lt c b = false) : lt c a = false := by
  cases h : lt c a
  · rfl
  · have := lt_trans h h1; rw [this] at h2; cases h2
theorem le_lt {a b c : ByteArray} (h1 : lt b a = false) (h2 : lt b c = true) : lt a c = true := by
  rcases lt_tri a b with h | rfl | h
  · exact lt_trans h h2
  · exact h2
  · rw [h] at h1; cases h1

/-! ### keys, and ranges of keys -/
def emp (a : ByteArray) : Bool := a.toList == []
theorem emp_iff {a : ByteArray} : emp a = true ↔ a.toList = [] := by unfold emp; exact beq_iff_eq
theorem emp_size (a : ByteArray) : emp a = decide (a.size = 0) := by
  rw [Bool.eq_iff_iff, emp_iff, toList_data, decide_eq_true_eq, ← len_list, List.length_eq_zero_iff]
theorem emp_eq {a b : ByteArray} (h1 : emp a = true) (h2 : emp b = true) : a = b := toList_inj.1 ((emp_iff.1 h1).trans (emp_iff.1 h2).symm)
theorem lt_emp {a b : ByteArray} (h : emp b = true) : lt a b = false := by
  unfold lt; rw [emp_iff.1 h]; cases a.toList <;> rfl
theorem emp_lt {a b : ByteArray} (h : emp a = true) (h2 : emp b = false) : lt a b = true := by
  rcases lt_tri a b with h3 | rfl | h3
  · exact h3
  · rw [h] at h2; cases h2
  · rw [lt_emp h] at h3; cases h3
def keyB (s : ByteArray) : Bool := !emp s && decide (s.size ≤ 64)
def aheadB (s hi : ByteArray) : Bool := emp hi || lt s hi
def mayB (lo hi : ByteArray) : Bool := decide (lo.size ≤ 64) && decide (hi.size ≤ 64) && aheadB lo hi
def hasB (lo hi key : ByteArray) : Bool := mayB lo hi && keyB key && !lt key lo && aheadB key hi

theorem key_is (s : ByteArray) : span_Key.f s = some (keyB s) := by
  unfold span_Key.f keyB
  by_cases h : s.toList = []
  · rw [if_pos h, emp_iff.2 h]; rfl
  · have e : emp s = false := by cases h2 : emp s; rfl; exact absurd (emp_iff.1 h2) h
    rw [if_neg h, e]
    simp only [Bool.not_false, Bool.true_and, Option.some.injEq]
    exact decide_eq_decide.2 (by omega)
theorem ahead_is (s hi : ByteArray) : span_ahead.f s hi = some (aheadB s hi) := by
  unfold span_ahead.f aheadB
  by_cases h : hi.toList = []
  · rw [if_pos h, emp_iff.2 h]; rfl
  · have e : emp hi = false := by cases h2 : emp hi; rfl; exact absurd (emp_iff.1 h2) h
    rw [if_neg h, e]; rfl
theorem may_is (lo hi : ByteArray) : span_may.f lo hi = some (mayB lo hi) := by
  unfold span_may.f mayB
  rw [ahead_is]
  by_cases h1 : lo.size ≤ 64
  · rw [if_pos (by omega), decide_eq_true h1]
    by_cases h2 : hi.size ≤ 64
    · rw [if_pos (by omega), decide_eq_true h2]; rfl
    · rw [if_neg (by omega), decide_eq_false h2]; rfl
  · rw [if_neg (by omega), decide_eq_false h1]; rfl
theorem check_is (lo hi : ByteArray) : span_Check.f lo hi = some (if mayB lo hi = true then 0 else 1) := by
  unfold span_Check.f
  rw [may_is]
  simp only [Option.bind_some]
  split <;> rfl
theorem has_is (lo hi key : ByteArray) : span_Has.f lo hi key = some (hasB lo hi key) := by
  unfold span_Has.f hasB
  rw [may_is, key_is, ahead_is]
  have e : Op.bytesLess key.toList lo.toList = lt key lo := rfl
  simp only [Option.bind_some, e]
  cases mayB lo hi <;> cases keyB key <;> cases lt key lo <;> simp
def cutB (lo hi key : ByteArray) : Bool := hasB lo hi key && !(key.toList == lo.toList)
theorem cut_is (lo hi key : ByteArray) : span_Cut.f lo hi key = some (if cutB lo hi key = true then (lo, key, key, hi, 0) else ((⟨#[]⟩ : ByteArray), (⟨#[]⟩ : ByteArray), (⟨#[]⟩ : ByteArray), (⟨#[]⟩ : ByteArray), 1)) := by
  unfold span_Cut.f cutB
  rw [has_is]
  by_cases h : key.toList = lo.toList
  · rw [if_pos h, h]; simp
  · rw [if_neg h, beq_false_of_ne h]
    simp only [Option.bind_some, Bool.not_false, Bool.and_true]
    split <;> rfl
def joinB (alo ahi blo bhi : ByteArray) : Bool := mayB alo ahi && mayB blo bhi && !emp ahi && (blo.toList == ahi.toList)
theorem join_is (alo ahi blo bhi : ByteArray) (k : Nat) (hk : 1 ≤ k) : span_Join.f k alo ahi blo bhi = some (if joinB alo ahi blo bhi = true then (alo, bhi, 0) else ((⟨#[]⟩ : ByteArray), (⟨#[]⟩ : ByteArray), 1)) := by
  obtain ⟨k, rfl⟩ : ∃ m, k = m + 1 := ⟨k - 1, by omega⟩
  unfold span_Join.f joinB
  rw [may_is, may_is]
  simp only [Option.bind_some, span_Join.j0]
  have e : (blo.toList != ahi.toList) = !(blo.toList == ahi.toList) := rfl
  by_cases h : ahi.toList = []
  · rw [emp_iff.2 h]
    cases mayB alo ahi <;> cases mayB blo bhi <;> simp [h]
  · have e2 : emp ahi = false := by cases h2 : emp ahi; rfl; exact absurd (emp_iff.1 h2) h
    rw [e2, if_neg h, e]
    cases mayB alo ahi <;> cases mayB blo bhi <;> cases (blo.toList == ahi.toList) <;> simp
theorem awake_is (k : Nat) (hk : 1 ≤ k) : sorrellaw04_awake.f k = some true := by
  unfold sorrellaw04_awake.f
  have e1 : cutB (⟨#[98]⟩ : ByteArray) (⟨#[109]⟩ : ByteArray) (⟨#[102]⟩ : ByteArray) = true := by decide +kernel
  have e2 : joinB (⟨#[98]⟩ : ByteArray) (⟨#[102]⟩ : ByteArray) (⟨#[102]⟩ : ByteArray) (⟨#[109]⟩ : ByteArray) = true := by decide +kernel
  have e3 : hasB (⟨#[98]⟩ : ByteArray) (⟨#[102]⟩ : ByteArray) (⟨#[101]⟩ : ByteArray) = true := by decide +kernel
  have e4 : hasB (⟨#[98]⟩ : ByteArray) (⟨#[102]⟩ : ByteArray) (⟨#[102]⟩ : ByteArray) = false := by decide +kernel
  have e5 : keyB (⟨#[120]⟩ : ByteArray) = true := by decide +kernel
  rw [cut_is, e1]
  simp only [Option.bind_some, if_true]
  rw [join_is _ _ _ _ k hk, e2]
  simp only [Option.bind_some, if_true, has_is, key_is, e3, e4, e5, toList_data]
  rfl
theorem band {a b : Bool} (h : (a && b) = true) : a = true ∧ b = true := by simpa using h
theorem hasB_iff {lo hi key : ByteArray} : hasB lo hi key = true ↔ mayB lo hi = true ∧ keyB key = true ∧ lt key lo = false ∧ aheadB key hi = true := by
  unfold hasB; simp [and_assoc]
theorem aheadB_iff {s hi : ByteArray} : aheadB s hi = true ↔ emp hi = true ∨ lt s hi = true := by unfold aheadB; simp
theorem mayB_iff {lo hi : ByteArray} : mayB lo hi = true ↔ lo.size ≤ 64 ∧ hi.size ≤ 64 ∧ aheadB lo hi = true := by unfold mayB; simp [and_assoc]
theorem keyB_iff {s : ByteArray} : keyB s = true ↔ emp s = false ∧ s.size ≤ 64 := by unfold keyB; simp
theorem ahead_trans {a b c : ByteArray} (h : lt a b = true) (h2 : aheadB b c = true) : aheadB a c = true := by
  rcases aheadB_iff.1 h2 with h3 | h3
  · exact aheadB_iff.2 (.inl h3)
  · exact aheadB_iff.2 (.inr (lt_trans h h3))
structure CutOk (lo hi key : ByteArray) : Prop where
  low : lt lo key = true
  full : emp key = false
  size : key.size ≤ 64
  losize : lo.size ≤ 64
  hisize : hi.size ≤ 64
  up : aheadB key hi = true
theorem cut_ok {lo hi key : ByteArray} (h : cutB lo hi key = true) : CutOk lo hi key := by
  unfold cutB at h
  obtain ⟨h1, h2⟩ := band h
  obtain ⟨m, kk, l, u⟩ := hasB_iff.1 h1
  obtain ⟨m1, m2, _⟩ := mayB_iff.1 m
  obtain ⟨k1, k2⟩ := keyB_iff.1 kk
  refine ⟨?_, k1, k2, m1, m2, u⟩
  rcases lt_tri lo key with h3 | rfl | h3
  · exact h3
  · simp at h2
  · rw [h3] at l; cases l
theorem CutOk.left {lo hi key : ByteArray} (h : CutOk lo hi key) : mayB lo key = true := mayB_iff.2 ⟨h.losize, h.size, aheadB_iff.2 (.inr h.low)⟩
theorem CutOk.right {lo hi key : ByteArray} (h : CutOk lo hi key) : mayB key hi = true := mayB_iff.2 ⟨h.size, h.hisize, h.up⟩
theorem CutOk.whole {lo hi key : ByteArray} (h : CutOk lo hi key) : mayB lo hi = true := mayB_iff.2 ⟨h.losize, h.hisize, ahead_trans h.low h.up⟩
theorem CutOk.has {lo hi key : ByteArray} (h : CutOk lo hi key) (o : ByteArray) : hasB lo hi o = (hasB lo key o || hasB key hi o) ∧ (hasB lo key o && hasB key hi o) = false := by
  have e : aheadB o key = lt o key := by unfold aheadB; rw [h.full]; rfl
  unfold hasB
  rw [h.left, h.right, h.whole, e]
  cases hl : lt o key
  · have h1 : lt o lo = false := nlt_trans h.low hl
    rw [h1]; cases keyB o <;> cases aheadB o hi <;> simp
  · have h1 : aheadB o hi = true := ahead_trans hl h.up
    rw [h1]; cases keyB o <;> cases lt o lo <;> simp
/-! ### what two ranges have in common -/
def loB (xl yl : ByteArray) : ByteArray := smx xl yl
def hiB (xh yh : ByteArray) : ByteArray := if emp yh = false ∧ aheadB yh xh = true then yh else xh
def meetB (xl xh yl yh : ByteArray) : Bool := mayB xl xh && mayB yl yh && mayB (loB xl yl) (hiB xh yh)
theorem meet_is (xl xh yl yh : ByteArray) (k : Nat) (hk : 3 ≤ k) : span_Meet.f k xl xh yl yh = some (if meetB xl xh yl yh = true then (loB xl yl, hiB xh yh, true) else ((⟨#[]⟩ : ByteArray), (⟨#[]⟩ : ByteArray), false)) := by
  obtain ⟨k, rfl⟩ : ∃ m, k = m + 3 := ⟨k - 3, by omega⟩
  have j2 : ∀ (b : Bool) (p q : ByteArray), span_Meet.j2 (k + 1) b p q = some (if b = true then ((⟨#[]⟩ : ByteArray), (⟨#[]⟩ : ByteArray), false) else (p, q, true)) := by
    intro b p q
    simp only [span_Meet.j2]
    cases b <;> rfl
  have j1 : ∀ h, span_Meet.j1 (k + 2) xl xh yl yh (smx xl yl) h = some (if (mayB xl xh && mayB yl yh && mayB (smx xl yl) h) = true then (smx xl yl, h, true) else ((⟨#[]⟩ : ByteArray), (⟨#[]⟩ : ByteArray), false)) := by
    intro h
    simp only [span_Meet.j1]
    rw [may_is, may_is, may_is]
    simp only [Option.bind_some, j2]
    cases mayB xl xh <;> cases mayB yl yh <;> cases mayB (smx xl yl) h <;> rfl
  unfold span_Meet.f meetB hiB loB
  by_cases h : yh.toList = []
  · rw [if_pos h, emp_iff.2 h]
    simp only [span_Meet.j0, j1]
    rfl
  · have e2 : emp yh = false := by cases h2 : emp yh; rfl; exact absurd (emp_iff.1 h2) h
    rw [if_neg h, e2, ahead_is]
    simp only [Option.bind_some, span_Meet.j0, j1, true_and]
    cases aheadB yh xh <;> rfl
theorem loB_comm (a b : ByteArray) : loB a b = loB b a := by
  unfold loB smx
  have h : ∀ p q : ByteArray, Op.bytesLess p.toList q.toList = lt p q := fun _ _ => rfl
  rw [h, h]
  rcases lt_tri a b with h1 | rfl | h1
  · rw [h1, lt_asymm h1]; simp
  · rfl
  · rw [h1, lt_asymm h1]; simp
theorem hiB_comm (a b : ByteArray) : hiB a b = hiB b a := by
  unfold hiB aheadB
  cases ha : emp a <;> cases hb : emp b <;> simp
  · rcases lt_tri a b with h1 | rfl | h1
    · rw [h1, lt_asymm h1]; simp
    · rfl
    · rw [h1, lt_asymm h1]; simp
  · exact emp_eq ha hb
theorem meetB_comm (xl xh yl yh : ByteArray) : meetB xl xh yl yh = meetB yl yh xl xh := by
  unfold meetB
  rw [loB_comm yl xl, hiB_comm yh xh, Bool.and_comm (mayB xl xh)]
theorem lo_lt (k a b : ByteArray) : (lt k (loB a b) = false) ↔ (lt k a = false ∧ lt k b = false) := by
  have h : ∀ p q : ByteArray, Op.bytesLess p.toList q.toList = lt p q := fun _ _ => rfl
  unfold loB smx
  rw [h]
  cases hab : lt a b
  · simp only [Bool.false_eq_true, if_false]
    refine ⟨fun h1 => ⟨h1, ?_⟩, fun h1 => h1.1⟩
    cases hk : lt k b
    · rfl
    · have : lt k a = true := by
        rcases lt_tri a b with h2 | rfl | h2
        · rw [h2] at hab; cases hab
        · exact hk
        · exact lt_trans hk h2
      rw [this] at h1; cases h1
  · simp only [if_true]
    exact ⟨fun h1 => ⟨nlt_trans hab h1, h1⟩, fun h1 => h1.2⟩
theorem hi_ahead (k a b : ByteArray) : aheadB k (hiB a b) = true ↔ (aheadB k a = true ∧ aheadB k b = true) := by
  unfold hiB
  cases hb : emp b
  · cases hab : aheadB b a
    · simp only [Bool.false_eq_true, and_false, if_false]
      refine ⟨fun h => ⟨h, ?_⟩, fun h => h.1⟩
      unfold aheadB at hab
      cases ha : emp a
      · rw [ha] at hab
        simp only [Bool.false_or] at hab
        unfold aheadB at h ⊢
        rw [ha] at h
        simp only [Bool.false_or] at h
        rw [hb]; simp only [Bool.false_or]
        rcases lt_tri a b with h2 | rfl | h2
        · exact lt_trans h h2
        · exact h
        · rw [h2] at hab; cases hab
      · rw [ha] at hab; simp at hab
    · simp only [and_self, if_true]
      refine ⟨fun h => ⟨?_, h⟩, fun h => h.2⟩
      have h' : lt k b = true := by unfold aheadB at h; rw [hb] at h; simpa using h
      exact ahead_trans h' hab
  · simp only [Bool.true_eq_false, false_and, if_false]
    refine ⟨fun h => ⟨h, ?_⟩, fun h => h.1⟩
    unfold aheadB; rw [hb]; rfl
theorem meet_has (xl xh yl yh k : ByteArray) : (meetB xl xh yl yh && hasB (loB xl yl) (hiB xh yh) k) = (hasB xl xh k && hasB yl yh k) := by
  rw [Bool.eq_iff_iff]
  simp only [Bool.and_eq_true]
  unfold meetB
  simp only [Bool.and_eq_true, hasB_iff, lo_lt, hi_ahead]
  constructor
  · rintro ⟨⟨⟨h1, h2⟩, h3⟩, _, h4, ⟨h5, h6⟩, h7, h8⟩
    exact ⟨⟨h1, h4, h5, h7⟩, h2, h4, h6, h8⟩
  · rintro ⟨⟨h1, h4, h5, h7⟩, h2, _, h6, h8⟩
    have hm : mayB (loB xl yl) (hiB xh yh) = true := by
      obtain ⟨a1, a2, _⟩ := mayB_iff.1 h1
      obtain ⟨b1, b2, _⟩ := mayB_iff.1 h2
      refine mayB_iff.2 ⟨?_, ?_, ?_⟩
      · unfold loB smx; split <;> assumption
      · unfold hiB; split <;> assumption
      · have hl := (lo_lt k xl yl).2 ⟨h5, h6⟩
        rcases aheadB_iff.1 ((hi_ahead k xh yh).2 ⟨h7, h8⟩) with h9 | h9
        · exact aheadB_iff.2 (.inl h9)
        · exact aheadB_iff.2 (.inr (le_lt hl h9))
    exact ⟨⟨⟨h1, h2⟩, hm⟩, hm, h4, ⟨h5, h6⟩, h7, h8⟩
theorem law_meets : sorrellaw04_SpanMeets.Pure := by
  intro x y key _ _ _
  refine ⟨5, ?_⟩
  unfold sorrellaw04_SpanMeets.f
  rw [meet_is _ _ _ _ 5 (by omega), meet_is _ _ _ _ 5 (by omega), meetB_comm y.f0, loB_comm y.f0, hiB_comm y.f1]
  have h := meet_has x.f0 x.f1 y.f0 y.f1 key
  simp only [Option.bind_some, beq_self_eq_true, Bool.not_true, Bool.or_false, Bool.false_eq_true, if_false, bne_self_eq_false, sorrellaw04_SpanMeets.j0, has_is, awake_is 4 (by omega)]
  revert h
  cases meetB x.f0 x.f1 y.f0 y.f1 <;> cases hasB x.f0 x.f1 key <;> cases hasB y.f0 y.f1 key <;> simp
  all_goals intro h; simp [h]
end Go.Proofs.Ytffmndbgbooedaa.VaMeets
