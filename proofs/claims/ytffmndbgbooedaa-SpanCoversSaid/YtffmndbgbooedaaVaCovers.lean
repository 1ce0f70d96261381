/- Plain laws on what the functions written out for this seat come to. -/
import Derived.Test.YtffmndbgbooedaaXStatSpanCovers
import Derived.Test.YtffmndbgbooedaaVLib
import Derived.Test.YtffmndbgbooedaaXW
namespace Go.Proofs.Ytffmndbgbooedaa.VaCovers
open Go.RowKit Go.Proofs.Ytffmndbgbooedaa.XA Go.Proofs.Ytffmndbgbooedaa.VLib Go.Proofs.Ytffmndbgbooedaa.XW Go.Proofs.YtffmndbgbooedaaW.PrintWords Go.Proofs.YtffmndbgbooedaaW.PrintLast Go.Proofs.YtffmndbgbooedaaW.PrintMore
/-! ### the order of texts -/
theorem less_irrefl : ∀ a : List UInt8, Op.bytesLess a a = false
  | [] => rfl
  | x :: a => by
    have := less_irrefl a
    simp only [Op.bytesLess, this, Bool.and_false, Bool.or_false, decide_eq_false_iff_not, UInt8.lt_iff_toNat_lt]
    omega
theorem less_trans : ∀ a b c : List UInt8, Op.bytesLess a b = true → Op.bytesLess b c = true → Op.bytesLess a c = true
  | [], [], _, h, _ => by simp [Op.bytesLess] at h
  | [], _ :: _, [], _, h => by simp [Op.bytesLess] at h
  | [], _ :: _, _ :: _, _, _ => rfl
  | _ :: _, [], _, h, _ => by simp [Op.bytesLess] at h
  | _ :: _, _ :: _, [], _, h => by simp [Op.bytesLess] at h
  | x :: a, y :: b, z :: c, h1, h2 => by
    have ih := less_trans a b c
    simp only [Op.bytesLess, Bool.or_eq_true, Bool.and_eq_true, decide_eq_true_eq, beq_iff_eq, UInt8.lt_iff_toNat_lt] at h1 h2 ⊢
    rcases h1 with h1 | ⟨rfl, h1⟩
    · rcases h2 with h2 | ⟨rfl, h2⟩
      · exact .inl (by omega)
      · exact .inl h1
    · rcases h2 with h2 | ⟨rfl, h2⟩
      · exact .inl h2
      · exact .inr ⟨rfl, ih h1 h2⟩
def lt (a b : ByteArray) : Bool := Op.bytesLess a.toList b.toList
theorem lt_irrefl (a : ByteArray) : lt a a = false := less_irrefl _
theorem lt_trans {a b c : ByteArray} (h1 : lt a b = true) (h2 : lt b c = true) : lt a c = true := less_trans _ _ _ h1 h2
theorem lt_tri (a b : ByteArray) : lt a b = true ∨ a = b ∨ lt b a = true := by
  have h := less_total a.toList b.toList
  cases h1 : lt a b
  · cases h2 : lt b a
    · refine .inr (.inl ?_)
      have e1 : Op.bytesLess a.toList b.toList = false := h1
      have e2 : Op.bytesLess b.toList a.toList = false := h2
      rw [e1, e2] at h
      simp only [Bool.false_or, Bool.not_false, beq_iff_eq] at h
      exact toList_inj.1 h
    · exact .inr (.inr rfl)
  · exact .inl rfl
theorem lt_asymm {a b : ByteArray} (h : lt a b = true) : lt b a = false := by
  cases h2 : lt b a
  · rfl
  · have := lt_trans h h2; rw [lt_irrefl] at this; cases this
theorem nlt_trans {a b c : ByteArray} (h1 : lt a b = true) (h2 : lt c b = false) : lt c a = false := by
  cases h : lt c a
  · rfl
  · have := lt_trans h h1; rw [this] at h2; cases h2
theorem le_lt {a b c : ByteArray} (h1 : lt b a = false) (h2 : lt b c = true) : lt a c = true := by
  rcases lt_tri a b with h | rfl | h
  · exact lt_trans h h2
  · exact h2
  · rw [h] at h1; cases h1

/-! ### keys, and ranges of keys -/
def emp (a : ByteArray) : Bool := a.toList == []
theorem emp_iff {a : ByteArray} : emp a = true ↔ a.toList = [] := by unfold emp; exact beq_iff_eq
theorem emp_size (a : ByteArray) : emp a = decide (a.size = 0) := by
  rw [Bool.eq_iff_iff, emp_iff, toList_data, decide_eq_true_eq, ← len_list, List.length_eq_zero_iff]
theorem emp_eq {a b : ByteArray} (h1 : emp a = true) (h2 : emp b = true) : a = b := toList_inj.1 ((emp_iff.1 h1).trans (emp_iff.1 h2).symm)
theorem lt_emp {a b : ByteArray} (h : emp b = true) : lt a b = false := by
  unfold lt; rw [emp_iff.1 h]; cases a.toList <;> rfl
theorem emp_lt {a b : ByteArray} (h : emp a = true) (h2 : emp b = false) : lt a b = true := by
  rcases lt_tri a b with h3 | rfl | h3
  · exact h3
  · rw [h] at h2; cases h2
  · rw [lt_emp h] at h3; cases h3
def keyB (s : ByteArray) : Bool := !emp s && decide (s.size ≤ 64)
def aheadB (s hi : ByteArray) : Bool := emp hi || lt s hi
def mayB (lo hi : ByteArray) : Bool := decide (lo.size ≤ 64) && decide (hi.size ≤ 64) && aheadB lo hi
def hasB (lo hi key : ByteArray) : Bool := mayB lo hi && keyB key && !lt key lo && aheadB key hi

theorem key_is (s : ByteArray) : span_Key.f s = some (keyB s) := by
  unfold span_Key.f keyB
  by_cases h : s.toList = []
  · rw [if_pos h, emp_iff.2 h]; rfl
  · have e : emp s = false := by cases h2 : emp s; rfl; exact absurd (emp_iff.1 h2) h
    rw [if_neg h, e]
    simp only [Bool.not_false, Bool.true_and, Option.some.injEq]
    exact decide_eq_decide.2 (by omega)
theorem ahead_is (s hi : ByteArray) : span_ahead.f s hi = some (aheadB s hi) := by
  unfold span_ahead.f aheadB
  by_cases h : hi.toList = []
  · rw [if_pos h, emp_iff.2 h]; rfl
  · have e : emp hi = false := by cases h2 : emp hi; rfl; exact absurd (emp_iff.1 h2) h
    rw [if_neg h, e]; rfl
theorem may_is (lo hi : ByteArray) : span_may.f lo hi = some (mayB lo hi) := by
  unfold span_may.f mayB
  rw [ahead_is]
  by_cases h1 : lo.size ≤ 64
  · rw [if_pos (by omega), decide_eq_true h1]
    by_cases h2 : hi.size ≤ 64
    · rw [if_pos (by omega), decide_eq_true h2]; rfl
    · rw [if_neg (by omega), decide_eq_false h2]; rfl
  · rw [if_neg (by omega), decide_eq_false h1]; rfl
theorem check_is (lo hi : ByteArray) : span_Check.f lo hi = some (if mayB lo hi = true then 0 else 1) := by
  unfold span_Check.f
  rw [may_is]
  simp only [Option.bind_some]
  split <;> rfl
theorem has_is (lo hi key : ByteArray) : span_Has.f lo hi key = some (hasB lo hi key) := by
  unfold span_Has.f hasB
  rw [may_is, key_is, ahead_is]
  have e : Op.bytesLess key.toList lo.toList = lt key lo := rfl
  simp only [Option.bind_some, e]
  cases mayB lo hi <;> cases keyB key <;> cases lt key lo <;> simp
def cutB (lo hi key : ByteArray) : Bool := hasB lo hi key && !(key.toList == lo.toList)
theorem cut_is (lo hi key : ByteArray) : span_Cut.f lo hi key = some (if cutB lo hi key = true then (lo, key, key, hi, 0) else ((⟨#[]⟩ : ByteArray), (⟨#[]⟩ : ByteArray), (⟨#[]⟩ : ByteArray), (⟨#[]⟩ : ByteArray), 1)) := by
  unfold span_Cut.f cutB
  rw [has_is]
  by_cases h : key.toList = lo.toList
  · rw [if_pos h, h]; simp
  · rw [if_neg h, beq_false_of_ne h]
    simp only [Option.bind_some, Bool.not_false, Bool.and_true]
    split <;> rfl
def joinB (alo ahi blo bhi : ByteArray) : Bool := mayB alo ahi && mayB blo bhi && !emp ahi && (blo.toList == ahi.toList)
theorem join_is (alo ahi blo bhi : ByteArray) (k : Nat) (hk : 1 ≤ k) : span_Join.f k alo ahi blo bhi = some (if joinB alo ahi blo bhi = true then (alo, bhi, 0) else ((⟨#[]⟩ : ByteArray), (⟨#[]⟩ : ByteArray), 1)) := by
  obtain ⟨k, rfl⟩ : ∃ m, k = m + 1 := ⟨k - 1, by omega⟩
  unfold span_Join.f joinB
  rw [may_is, may_is]
  simp only [Option.bind_some, span_Join.j0]
  have e : (blo.toList != ahi.toList) = !(blo.toList == ahi.toList) := rfl
  by_cases h : ahi.toList = []
  · rw [emp_iff.2 h]
    cases mayB alo ahi <;> cases mayB blo bhi <;> simp [h]
  · have e2 : emp ahi = false := by cases h2 : emp ahi; rfl; exact absurd (emp_iff.1 h2) h
    rw [e2, if_neg h, e]
    cases mayB alo ahi <;> cases mayB blo bhi <;> cases (blo.toList == ahi.toList) <;> simp
theorem awake_is (k : Nat) (hk : 1 ≤ k) : sorrellaw04_awake.f k = some true := by
  unfold sorrellaw04_awake.f
  have e1 : cutB (⟨#[98]⟩ : ByteArray) (⟨#[109]⟩ : ByteArray) (⟨#[102]⟩ : ByteArray) = true := by decide +kernel
  have e2 : joinB (⟨#[98]⟩ : ByteArray) (⟨#[102]⟩ : ByteArray) (⟨#[102]⟩ : ByteArray) (⟨#[109]⟩ : ByteArray) = true := by decide +kernel
  have e3 : hasB (⟨#[98]⟩ : ByteArray) (⟨#[102]⟩ : ByteArray) (⟨#[101]⟩ : ByteArray) = true := by decide +kernel
  have e4 : hasB (⟨#[98]⟩ : ByteArray) (⟨#[102]⟩ : ByteArray) (⟨#[102]⟩ : ByteArray) = false := by decide +kernel
  have e5 : keyB (⟨#[120]⟩ : ByteArray) = true := by decide +kernel
  rw [cut_is, e1]
  simp only [Option.bind_some, if_true]
  rw [join_is _ _ _ _ k hk, e2]
  simp only [Option.bind_some, if_true, has_is, key_is, e3, e4, e5, toList_data]
  rfl
theorem rkey_is (s : ByteArray) : sorrelref04_Key.f s = some (keyB s) := by
  unfold sorrelref04_Key.f keyB
  rw [emp_size]
  by_cases h : s.size = 0
  · rw [if_neg (by omega), decide_eq_true h]; rfl
  · rw [if_pos (by omega), decide_eq_false h]
    simp only [Bool.not_false, Bool.true_and, Option.some.injEq]
    exact decide_eq_decide.2 (by omega)
theorem rmay_is (lo hi : ByteArray) : sorrelref04_May.f lo hi = some (mayB lo hi) := by
  have h := may_is lo hi
  unfold span_may.f at h
  rw [← h]
  unfold sorrelref04_May.f span_ahead.f
  split
  · split
    · split <;> rfl
    · rfl
  · rfl
theorem rcheck_is (lo hi : ByteArray) : sorrelref04_Check.f lo hi = some (if mayB lo hi = true then 0 else 1) := by
  unfold sorrelref04_Check.f
  rw [rmay_is]
  simp only [Option.bind_some]
  split <;> rfl
theorem rhas_is (lo hi key : ByteArray) : sorrelref04_Has.f lo hi key = some (hasB lo hi key) := by
  have h := has_is lo hi key
  unfold span_Has.f at h
  rw [may_is, key_is] at h
  rw [← h]
  unfold sorrelref04_Has.f span_ahead.f
  rw [rmay_is, rkey_is]
  simp only [Option.bind_some]
  cases mayB lo hi <;> cases keyB key <;> simp
theorem band {a b : Bool} (h : (a && b) = true) : a = true ∧ b = true := by simpa using h
theorem hasB_iff {lo hi key : ByteArray} : hasB lo hi key = true ↔ mayB lo hi = true ∧ keyB key = true ∧ lt key lo = false ∧ aheadB key hi = true := by
  unfold hasB; simp [and_assoc]
theorem aheadB_iff {s hi : ByteArray} : aheadB s hi = true ↔ emp hi = true ∨ lt s hi = true := by unfold aheadB; simp
theorem mayB_iff {lo hi : ByteArray} : mayB lo hi = true ↔ lo.size ≤ 64 ∧ hi.size ≤ 64 ∧ aheadB lo hi = true := by unfold mayB; simp [and_assoc]
theorem keyB_iff {s : ByteArray} : keyB s = true ↔ emp s = false ∧ s.size ≤ 64 := by unfold keyB; simp
theorem ahead_trans {a b c : ByteArray} (h : lt a b = true) (h2 : aheadB b c = true) : aheadB a c = true := by
  rcases aheadB_iff.1 h2 with h3 | h3
  · exact aheadB_iff.2 (.inl h3)
  · exact aheadB_iff.2 (.inr (lt_trans h h3))
structure CutOk (lo hi key : ByteArray) : Prop where
  low : lt lo key = true
  full : emp key = false
  size : key.size ≤ 64
  losize : lo.size ≤ 64
  hisize : hi.size ≤ 64
  up : aheadB key hi = true
theorem cut_ok {lo hi key : ByteArray} (h : cutB lo hi key = true) : CutOk lo hi key := by
  unfold cutB at h
  obtain ⟨h1, h2⟩ := band h
  obtain ⟨m, kk, l, u⟩ := hasB_iff.1 h1
  obtain ⟨m1, m2, _⟩ := mayB_iff.1 m
  obtain ⟨k1, k2⟩ := keyB_iff.1 kk
  refine ⟨?_, k1, k2, m1, m2, u⟩
  rcases lt_tri lo key with h3 | rfl | h3
  · exact h3
  · simp at h2
  · rw [h3] at l; cases l
theorem CutOk.left {lo hi key : ByteArray} (h : CutOk lo hi key) : mayB lo key = true := mayB_iff.2 ⟨h.losize, h.size, aheadB_iff.2 (.inr h.low)⟩
theorem CutOk.right {lo hi key : ByteArray} (h : CutOk lo hi key) : mayB key hi = true := mayB_iff.2 ⟨h.size, h.hisize, h.up⟩
theorem CutOk.whole {lo hi key : ByteArray} (h : CutOk lo hi key) : mayB lo hi = true := mayB_iff.2 ⟨h.losize, h.hisize, ahead_trans h.low h.up⟩
theorem CutOk.has {lo hi key : ByteArray} (h : CutOk lo hi key) (o : ByteArray) : hasB lo hi o = (hasB lo key o || hasB key hi o) ∧ (hasB lo key o && hasB key hi o) = false := by
  have e : aheadB o key = lt o key := by unfold aheadB; rw [h.full]; rfl
  unfold hasB
  rw [h.left, h.right, h.whole, e]
  cases hl : lt o key
  · have h1 : lt o lo = false := nlt_trans h.low hl
    rw [h1]; cases keyB o <;> cases aheadB o hi <;> simp
  · have h1 : aheadB o hi = true := ahead_trans hl h.up
    rw [h1]; cases keyB o <;> cases lt o lo <;> simp
/-! ### ranges, one behind the other, that have each key once -/
/-- What is left of a list of ranges, from an end on: covers it all to the end. -/
def covB : ByteArray → Bool → List S23 → Bool
  | _, over, [] => over
  | lo, over, x :: r => mayB x.f0 x.f1 && !over && (x.f0.toList == lo.toList) && covB x.f1 (emp x.f1) r
theorem rd23 (l : List S23) (i : Nat) (h : i < l.length) : rd_T23 l (i : Int) = l[i] := by
  unfold rd_T23; rw [Int.toNat_natCast, List.getD_eq_getElem?_getD, List.getElem?_eq_getElem h]; rfl
theorem covers_l0 : ∀ (d i k : Nat) (lo : ByteArray) (over : Bool) (l : List S23), i + d = l.length → l.length ≤ 1000000 → 2 * d < k →
    span_Covers.l0 k lo over l (l.length : Int) (i : Int) = some (covB lo over (l.drop i)) := by
  intro d
  induction d with
  | zero =>
    intro i k lo over l h hl hk
    obtain ⟨k, rfl⟩ : ∃ m, k = m + 1 := ⟨k - 1, by omega⟩
    simp only [span_Covers.l0]
    rw [if_neg (by omega), List.drop_eq_nil_of_le (by omega)]
    rfl
  | succ d ih =>
    intro i k lo over l h hl hk
    obtain ⟨k, rfl⟩ : ∃ m, k = m + 2 := ⟨k - 2, by omega⟩
    have hlt : i < l.length := by omega
    have hd : l.drop i = l[i] :: l.drop (i + 1) := (List.getElem_cons_drop hlt).symm
    simp only [span_Covers.l0]
    rw [if_pos (by omega), if_pos (by omega), if_pos (by omega), rd23 l i hlt, may_is, hd]
    simp only [Option.bind_some, span_Covers.j1, covB]
    rw [w64 (by omega) (by omega)]
    have hr := ih (i + 1) k l[i].f1 (emp l[i].f1) l (by omega) hl (by omega)
    have e : (l[i].f1.toList == ([] : List UInt8)) = emp l[i].f1 := rfl
    have e2 : (l[i].f0.toList != lo.toList) = !(l[i].f0.toList == lo.toList) := rfl
    have hr' : span_Covers.l0 k l[i].f1 (emp l[i].f1) l (l.length : Int) ((i : Int) + 1) = some (covB l[i].f1 (emp l[i].f1) (l.drop (i + 1))) := hr
    rw [e, e2, hr']
    cases mayB l[i].f0 l[i].f1 <;> cases over <;> cases (l[i].f0.toList == lo.toList) <;> simp
theorem covers_is (l : List S23) (k : Nat) (hl : l.length ≤ 1000000) (hk : 2 * l.length < k) : span_Covers.f k l = some (covB (⟨#[]⟩ : ByteArray) false l) := by
  unfold span_Covers.f
  have h := covers_l0 l.length 0 k (⟨#[]⟩ : ByteArray) false l (by omega) hl hk
  exact h
/-- How many of the ranges have a key. -/
def cntB (key : ByteArray) : List S23 → Nat
  | [] => 0
  | x :: r => (if hasB x.f0 x.f1 key = true then 1 else 0) + cntB key r
theorem cnt_cov (key : ByteArray) (hk : keyB key = true) : ∀ (l : List S23) (lo : ByteArray) (over : Bool), covB lo over l = true → cntB key l = if over = false ∧ lt key lo = false then 1 else 0 := by
  intro l
  induction l with
  | nil => intro lo over h; simp only [covB] at h; subst h; simp [cntB]
  | cons x r ih =>
    intro lo over h
    simp only [covB] at h
    obtain ⟨g1, h2⟩ := band h
    obtain ⟨g2, h3⟩ := band g1
    obtain ⟨h1, h4⟩ := band g2
    clear g1 g2
    have e : x.f0 = lo := toList_inj.1 (beq_iff_eq.1 h3)
    subst e
    have ho : over = false := by cases over; rfl; simp at h4
    subst ho
    have hr := ih x.f1 (emp x.f1) h2
    simp only [cntB]
    rw [hr]
    obtain ⟨_, _, ha⟩ := mayB_iff.1 h1
    have hh : hasB x.f0 x.f1 key = (!lt key x.f0 && aheadB key x.f1) := by unfold hasB; rw [h1, hk]; simp
    rw [hh]
    unfold aheadB
    cases he : emp x.f1
    · have hlt : lt x.f0 x.f1 = true := by rcases aheadB_iff.1 ha with h5 | h5; rw [he] at h5; cases h5; exact h5
      cases hu : lt key x.f1
      · have hl : lt key x.f0 = false := nlt_trans hlt hu
        rw [hl]; simp
      · cases lt key x.f0 <;> simp
    · cases lt key x.f0 <;> simp
theorem cnt_none (key : ByteArray) (hk : keyB key = false) : ∀ l : List S23, cntB key l = 0 := by
  intro l
  induction l with
  | nil => rfl
  | cons x r ih => simp only [cntB]; rw [ih]; unfold hasB; rw [hk]; simp
theorem cnt_le (key : ByteArray) : ∀ l : List S23, cntB key l ≤ l.length := by
  intro l
  induction l with
  | nil => simp [cntB]
  | cons x r ih => simp only [cntB, List.length_cons]; split <;> omega
/-- The reference's look: from place i on. -/
theorem rcovers_l0 : ∀ (d i k : Nat) (lo : ByteArray) (over : Bool) (l : List S23), i + d = l.length → l.length ≤ 1000000 → 2 * d < k →
    (i = 0 → lo.toList = [] ∧ over = false) → (∀ _ : 0 < i, ∃ h2 : i - 1 < l.length, l[i - 1].f1 = lo ∧ over = emp lo) →
    sorrelref04_Covers.l0 k l (i : Int) = some (covB lo over (l.drop i)) := by
  intro d
  induction d with
  | zero =>
    intro i k lo over l h hl hk h0 h1
    obtain ⟨k, rfl⟩ : ∃ m, k = m + 1 := ⟨k - 1, by omega⟩
    simp only [sorrelref04_Covers.l0]
    rw [if_neg (by omega), List.drop_eq_nil_of_le (by omega)]
    by_cases z : i = 0
    · rw [if_neg (by omega), (h0 z).2]; rfl
    · obtain ⟨h2, e1, e2⟩ := h1 (by omega)
      rw [if_pos (by omega), w64 (by omega) (by omega), if_pos (by omega), if_pos (by omega)]
      rw [show (l.length : Int) - 1 = ((i - 1 : Nat) : Int) from by omega, rd23 l (i - 1) h2, e1, e2]
      rfl
  | succ d ih =>
    intro i k lo over l h hl hk h0 h1
    obtain ⟨k, rfl⟩ : ∃ m, k = m + 2 := ⟨k - 2, by omega⟩
    have hlt : i < l.length := by omega
    have hd : l.drop i = l[i] :: l.drop (i + 1) := (List.getElem_cons_drop hlt).symm
    have hr := ih (i + 1) k l[i].f1 (emp l[i].f1) l (by omega) hl (by omega) (fun h => by omega) (fun _ => ⟨by omega, by simp⟩)
    have hr' : sorrelref04_Covers.l0 k l ((i : Int) + 1) = some (covB l[i].f1 (emp l[i].f1) (l.drop (i + 1))) := hr
    simp only [sorrelref04_Covers.l0]
    rw [if_pos (by omega), if_pos (by omega), rd23 l i hlt, rmay_is, hd]
    simp only [Option.bind_some, sorrelref04_Covers.j1, covB, w64 (n := (i : Int) + 1) (by omega) (by omega), hr']
    cases hm : mayB l[i].f0 l[i].f1
    · simp
    · simp only [if_true, Bool.true_and]
      by_cases z : i = 0
      · obtain ⟨g1, g2⟩ := h0 z
        subst g2
        have e : (l[i].f0.toList == lo.toList) = decide (l[i].f0.toList = []) := by rw [g1, Bool.eq_iff_iff]; simp
        have hn0 : ¬ ((i : Int) > 0) := by omega
        rw [if_pos (show (i : Int) = 0 by omega), if_neg hn0, e]
        by_cases f : l[i].f0.toList = []
        · rw [if_pos f, decide_eq_true f]; simp
        · rw [if_neg f, decide_eq_false f]; simp
      · obtain ⟨h2, e1, e2⟩ := h1 (by omega)
        have hz : ¬ ((i : Int) = 0) := by omega
        have hp : (i : Int) > 0 := by omega
        rw [if_neg hz, if_pos hp, w64 (n := (i : Int) - 1) (by omega) (by omega), if_pos (show (0 : Int) ≤ (i : Int) - 1 by omega), if_pos (show (i : Int) - 1 < (l.length : Int) by omega)]
        rw [show (i : Int) - 1 = ((i - 1 : Nat) : Int) from by omega, rd23 l (i - 1) h2, e1, e2]
        have e3 : (lo.toList != l[i].f0.toList) = !(lo.toList == l[i].f0.toList) := rfl
        rw [e3]
        by_cases f : l[i].f0.toList = []
        · rw [if_pos f, f]
          have e4 : emp lo = (([] : List UInt8) == lo.toList) := by rw [Bool.eq_iff_iff, emp_iff, beq_iff_eq]; exact ⟨Eq.symm, Eq.symm⟩
          rw [e4]
          cases (([] : List UInt8) == lo.toList) <;> simp
        · rw [if_neg f]
          have e5 : (lo.toList == l[i].f0.toList) = (l[i].f0.toList == lo.toList) := by rw [Bool.eq_iff_iff, beq_iff_eq, beq_iff_eq]; exact ⟨Eq.symm, Eq.symm⟩
          rw [e5]
          cases hq : (l[i].f0.toList == lo.toList)
          · simp
          · have : emp lo = false := by
              cases hz : emp lo
              · rfl
              · rw [beq_iff_eq, emp_iff.1 hz] at hq; exact absurd hq f
            rw [this]; simp
theorem cov_l0 (key : ByteArray) (cov : Bool) (l : List S23) (hl : l.length ≤ 40) (hc : cov = true → keyB key = true → cntB key l = 1) : ∀ (d i n k : Nat), i + d = l.length → n + cntB key (l.drop i) = cntB key l → n ≤ i → d < k →
    sorrellaw04_SpanCovers.l0 (k + 1) l key cov (n : Int) (i : Int) = some true := by
  intro d
  induction d with
  | zero =>
    intro i n k h hn hi hk
    simp only [sorrellaw04_SpanCovers.l0]
    rw [if_neg (by omega), key_is, awake_is k (by omega)]
    rw [List.drop_eq_nil_of_le (by omega)] at hn
    simp only [cntB, Nat.add_zero] at hn
    simp only [Option.bind_some]
    cases cov
    · rfl
    · cases hb : keyB key
      · rfl
      · have := hc rfl hb
        simp only [if_true]
        rw [if_pos (by omega)]
  | succ d ih =>
    intro i n k h hn hi hk
    obtain ⟨k, rfl⟩ : ∃ m, k = m + 1 := ⟨k - 1, by omega⟩
    have hlt : i < l.length := by omega
    have hd : l.drop i = l[i] :: l.drop (i + 1) := (List.getElem_cons_drop hlt).symm
    rw [hd] at hn
    simp only [cntB] at hn
    simp only [sorrellaw04_SpanCovers.l0]
    rw [if_pos (by omega), if_pos (by omega), rd23 l i hlt, has_is, w64 (n := (i : Int) + 1) (by omega) (by omega)]
    simp only [Option.bind_some]
    cases hb : hasB l[i].f0 l[i].f1 key
    · rw [hb] at hn
      simp only [Bool.false_eq_true, if_false] at hn ⊢
      exact ih (i + 1) n k (by omega) (by omega) (by omega) (by omega)
    · rw [hb] at hn
      simp only [if_true] at hn ⊢
      rw [w64 (n := (n : Int) + 1) (by omega) (by omega)]
      exact ih (i + 1) (n + 1) k (by omega) (by omega) (by omega) (by omega)
theorem law_covers : sorrellaw04_SpanCovers.Pure := by
  intro l key _ _
  refine ⟨100, ?_⟩
  unfold sorrellaw04_SpanCovers.f
  by_cases c : l.length ≤ 40
  · have hr := rcovers_l0 l.length 0 100 (⟨#[]⟩ : ByteArray) false l (by omega) (by omega) (by omega) (fun _ => ⟨by decide +kernel, rfl⟩) (fun h => by omega)
    have hr' : sorrelref04_Covers.f 100 l = some (covB (⟨#[]⟩ : ByteArray) false l) := hr
    rw [if_neg (by omega), covers_is l 100 (by omega) (by omega), hr']
    simp only [Option.bind_some, bne_self_eq_false, Bool.false_eq_true, if_false]
    refine cov_l0 key _ l c (fun h1 h2 => ?_) l.length 0 0 99 (by omega) (by simp) (by omega) (by omega)
    rw [cnt_cov key h2 l _ _ h1, if_pos ⟨rfl, lt_emp (by decide +kernel)⟩]
  · rw [if_pos (by omega), awake_is 100 (by omega)]; rfl
end Go.Proofs.Ytffmndbgbooedaa.VaCovers
