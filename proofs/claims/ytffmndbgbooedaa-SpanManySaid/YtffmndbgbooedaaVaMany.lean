/- Plain laws on what the functions written out for this seat come to. -/
import Derived.Test.YtffmndbgbooedaaXStatSpanMany
import Derived.Test.YtffmndbgbooedaaVLib
import Derived.Test.YtffmndbgbooedaaXW
namespace Go.Proofs.Ytffmndbgbooedaa.VaMany
open Go.RowKit Go.Proofs.Ytffmndbgbooedaa.XA Go.Proofs.Ytffmndbgbooedaa.VLib Go.Proofs.Ytffmndbgbooedaa.XW Go.Proofs.YtffmndbgbooedaaW.PrintWords Go.Proofs.YtffmndbgbooedaaW.PrintLast Go.Proofs.YtffmndbgbooedaaW.PrintMore
/-! ### the order of texts -/
theorem less_irrefl : ∀ a : List UInt8, Op.bytesLess a a = false
  | [] => rfl
  | x :: a => by
    have := less_irrefl a
    simp only [Op.bytesLess, this, Bool.and_false, Bool.or_false, decide_eq_false_iff_not, UInt8.lt_iff_toNat_lt]
    omega
theorem less_trans : ∀ a b c : List UInt8, Op.bytesLess a b = true → Op.bytesLess b c = true → Op.bytesLess a c = true
  | [], [], _, h, _ => by simp [Op.bytesLess] at h
  | [], _ :: _, [], _, h => by simp [Op.bytesLess] at h
  | [], _ :: _, _ :: _, _, _ => rfl
  | _ :: _, [], _, h, _ => by simp [Op.bytesLess] at h
  | _ :: _, _ :: _, [], _, h => by simp [Op.bytesLess] at h
  | x :: a, y :: b, z :: c, h1, h2 => by
    have ih := less_trans a b c
    simp only [Op.bytesLess, Bool.or_eq_true, Bool.and_eq_true, decide_eq_true_eq, beq_iff_eq, UInt8.lt_iff_toNat_lt] at h1 h2 ⊢
    rcases h1 with h1 | ⟨rfl, h1⟩
    · rcases h2 with h2 | ⟨rfl, h2⟩
      · exact .inl (by omega)
      · exact .inl h1
    · rcases h2 with h2 | ⟨rfl, h2⟩
      · exact .inl h2
      · exact .inr ⟨rfl, ih h1 h2⟩
def lt (a b : ByteArray) : Bool := Op.bytesLess a.toList b.toList
theorem lt_irrefl (a : ByteArray) : lt a a = false := less_irrefl _
theorem lt_trans {a b c : ByteArray} (h1 : lt a b = true) (h2 : lt b c = true) : lt a c = true := less_trans _ _ _ h1 h2
theorem lt_tri (a b : ByteArray) : lt a b = true ∨ a = b ∨ lt b a = true := by
  have h := less_total a.toList b.toList
  cases h1 : lt a b
  · cases h2 : lt b a
    · refine .inr (.inl ?_)
      have e1 : Op.bytesLess a.toList b.toList = false := h1
      have e2 : Op.bytesLess b.toList a.toList = false := h2
      rw [e1, e2] at h
      simp only [Bool.false_or, Bool.not_false, beq_iff_eq] at h
      exact toList_inj.1 h
    · exact .inr (.inr rfl)
  · exact .inl rfl
theorem lt_asymm {a b : ByteArray} (h : lt a b = true) : lt b a = false := by
  cases h2 : lt b a
  · rfl
  · have := lt_trans h h2; rw [lt_irrefl] at this; cases this
theorem nlt_trans {a b c : ByteArray} (h1 : lt a b = true) (h2 : lt c b = false) : lt c a = false := by
  cases h : lt c a
  · rfl
  · have := lt_trans h h1; rw [this] at h2; cases h2
theorem le_lt {a b c : ByteArray} (h1 : lt b a = false) (h2 : lt b c = true) : lt a c = true := by
  rcases lt_tri a b with h | rfl | h
  · exact lt_trans h h2
  · exact h2
  · rw [h] at h1; cases h1

/-! ### keys, and ranges of keys -/
def emp (a : ByteArray) : Bool := a.toList == []
theorem emp_iff {a : ByteArray} : emp a = true ↔ a.toList = [] := by unfold emp; exact beq_iff_eq
theorem emp_size (a : ByteArray) : emp a = decide (a.size = 0) := by
  rw [Bool.eq_iff_iff, emp_iff, toList_data, decide_eq_true_eq, ← len_list, List.length_eq_zero_iff]
theorem emp_eq {a b : ByteArray} (h1 : emp a = true) (h2 : emp b = true) : a = b := toList_inj.1 ((emp_iff.1 h1).trans (emp_iff.1 h2).symm)
theorem lt_emp {a b : ByteArray} (h : emp b = true) : lt a b = false := by
  unfold lt; rw [emp_iff.1 h]; cases a.toList <;> rfl
theorem emp_lt {a b : ByteArray} (h : emp a = true) (h2 : emp b = false) : lt a b = true := by
  rcases lt_tri a b with h3 | rfl | h3
  · exact h3
  · rw [h] at h2; cases h2
  · rw [lt_emp h] at h3; cases h3
def keyB (s : ByteArray) : Bool := !emp s && decide (s.size ≤ 64)
def aheadB (s hi : ByteArray) : Bool := emp hi || lt s hi
def mayB (lo hi : ByteArray) : Bool := decide (lo.size ≤ 64) && decide (hi.size ≤ 64) && aheadB lo hi
def hasB (lo hi key : ByteArray) : Bool := mayB lo hi && keyB key && !lt key lo && aheadB key hi

theorem key_is (s : ByteArray) : span_Key.f s = some (keyB s) := by
  unfold span_Key.f keyB
  by_cases h : s.toList = []
  · rw [if_pos h, emp_iff.2 h]; rfl
  · have e : emp s = false := by cases h2 : emp s; rfl; exact absurd (emp_iff.1 h2) h
    rw [if_neg h, e]
    simp only [Bool.not_false, Bool.true_and, Option.some.injEq]
    exact decide_eq_decide.2 (by omega)
theorem ahead_is (s hi : ByteArray) : span_ahead.f s hi = some (aheadB s hi) := by
  unfold span_ahead.f aheadB
  by_cases h : hi.toList = []
  · rw [if_pos h, emp_iff.2 h]; rfl
  · have e : emp hi = false := by cases h2 : emp hi; rfl; exact absurd (emp_iff.1 h2) h
    rw [if_neg h, e]; rfl
theorem may_is (lo hi : ByteArray) : span_may.f lo hi = some (mayB lo hi) := by
  unfold span_may.f mayB
  rw [ahead_is]
  by_cases h1 : lo.size ≤ 64
  · rw [if_pos (by omega), decide_eq_true h1]
    by_cases h2 : hi.size ≤ 64
    · rw [if_pos (by omega), decide_eq_true h2]; rfl
    · rw [if_neg (by omega), decide_eq_false h2]; rfl
  · rw [if_neg (by omega), decide_eq_false h1]; rfl
theorem check_is (lo hi : ByteArray) : span_Check.f lo hi = some (if mayB lo hi = true then 0 else 1) := by
  unfold span_Check.f
  rw [may_is]
  simp only [Option.bind_some]
  split <;> rfl
theorem has_is (lo hi key : ByteArray) : span_Has.f lo hi key = some (hasB lo hi key) := by
  unfold span_Has.f hasB
  rw [may_is, key_is, ahead_is]
  have e : Op.bytesLess key.toList lo.toList = lt key lo := rfl
  simp only [Option.bind_some, e]
  cases mayB lo hi <;> cases keyB key <;> cases lt key lo <;> simp
def cutB (lo hi key : ByteArray) : Bool := hasB lo hi key && !(key.toList == lo.toList)
theorem cut_is (lo hi key : ByteArray) : span_Cut.f lo hi key = some (if cutB lo hi key = true then (lo, key, key, hi, 0) else ((⟨#[]⟩ : ByteArray), (⟨#[]⟩ : ByteArray), (⟨#[]⟩ : ByteArray), (⟨#[]⟩ : ByteArray), 1)) := by
  unfold span_Cut.f cutB
  rw [has_is]
  by_cases h : key.toList = lo.toList
  · rw [if_pos h, h]; simp
  · rw [if_neg h, beq_false_of_ne h]
    simp only [Option.bind_some, Bool.not_false, Bool.and_true]
    split <;> rfl
def joinB (alo ahi blo bhi : ByteArray) : Bool := mayB alo ahi && mayB blo bhi && !emp ahi && (blo.toList == ahi.toList)
theorem join_is (alo ahi blo bhi : ByteArray) (k : Nat) (hk : 1 ≤ k) : span_Join.f k alo ahi blo bhi = some (if joinB alo ahi blo bhi = true then (alo, bhi, 0) else ((⟨#[]⟩ : ByteArray), (⟨#[]⟩ : ByteArray), 1)) := by
  obtain ⟨k, rfl⟩ : ∃ m, k = m + 1 := ⟨k - 1, by omega⟩
  unfold span_Join.f joinB
  rw [may_is, may_is]
  simp only [Option.bind_some, span_Join.j0]
  have e : (blo.toList != ahi.toList) = !(blo.toList == ahi.toList) := rfl
  by_cases h : ahi.toList = []
  · rw [emp_iff.2 h]
    cases mayB alo ahi <;> cases mayB blo bhi <;> simp [h]
  · have e2 : emp ahi = false := by cases h2 : emp ahi; rfl; exact absurd (emp_iff.1 h2) h
    rw [e2, if_neg h, e]
    cases mayB alo ahi <;> cases mayB blo bhi <;> cases (blo.toList == ahi.toList) <;> simp
theorem awake_is (k : Nat) (hk : 1 ≤ k) : sorrellaw04_awake.f k = some true := by
  unfold sorrellaw04_awake.f
  have e1 : cutB (⟨#[98]⟩ : ByteArray) (⟨#[109]⟩ : ByteArray) (⟨#[102]⟩ : ByteArray) = true := by decide +kernel
  have e2 : joinB (⟨#[98]⟩ : ByteArray) (⟨#[102]⟩ : ByteArray) (⟨#[102]⟩ : ByteArray) (⟨#[109]⟩ : ByteArray) = true := by decide +kernel
  have e3 : hasB (⟨#[98]⟩ : ByteArray) (⟨#[102]⟩ : ByteArray) (⟨#[101]⟩ : ByteArray) = true := by decide +kernel
  have e4 : hasB (⟨#[98]⟩ : ByteArray) (⟨#[102]⟩ : ByteArray) (⟨#[102]⟩ : ByteArray) = false := by decide +kernel
  have e5 : keyB (⟨#[120]⟩ : ByteArray) = true := by decide +kernel
  rw [cut_is, e1]
  simp only [Option.bind_some, if_true]
  rw [join_is _ _ _ _ k hk, e2]
  simp only [Option.bind_some, if_true, has_is, key_is, e3, e4, e5, toList_data]
  rfl
theorem band {a b : Bool} (h : (a && b) = true) : a = true ∧ b = true := by simpa using h
theorem hasB_iff {lo hi key : ByteArray} : hasB lo hi key = true ↔ mayB lo hi = true ∧ keyB key = true ∧ lt key lo = false ∧ aheadB key hi = true := by
  unfold hasB; simp [and_assoc]
theorem aheadB_iff {s hi : ByteArray} : aheadB s hi = true ↔ emp hi = true ∨ lt s hi = true := by unfold aheadB; simp
theorem mayB_iff {lo hi : ByteArray} : mayB lo hi = true ↔ lo.size ≤ 64 ∧ hi.size ≤ 64 ∧ aheadB lo hi = true := by unfold mayB; simp [and_assoc]
theorem keyB_iff {s : ByteArray} : keyB s = true ↔ emp s = false ∧ s.size ≤ 64 := by unfold keyB; simp
theorem ahead_trans {a b c : ByteArray} (h : lt a b = true) (h2 : aheadB b c = true) : aheadB a c = true := by
  rcases aheadB_iff.1 h2 with h3 | h3
  · exact aheadB_iff.2 (.inl h3)
  · exact aheadB_iff.2 (.inr (lt_trans h h3))
structure CutOk (lo hi key : ByteArray) : Prop where
  low : lt lo key = true
  full : emp key = false
  size : key.size ≤ 64
  losize : lo.size ≤ 64
  hisize : hi.size ≤ 64
  up : aheadB key hi = true
theorem cut_ok {lo hi key : ByteArray} (h : cutB lo hi key = true) : CutOk lo hi key := by
  unfold cutB at h
  obtain ⟨h1, h2⟩ := band h
  obtain ⟨m, kk, l, u⟩ := hasB_iff.1 h1
  obtain ⟨m1, m2, _⟩ := mayB_iff.1 m
  obtain ⟨k1, k2⟩ := keyB_iff.1 kk
  refine ⟨?_, k1, k2, m1, m2, u⟩
  rcases lt_tri lo key with h3 | rfl | h3
  · exact h3
  · simp at h2
  · rw [h3] at l; cases l
theorem CutOk.left {lo hi key : ByteArray} (h : CutOk lo hi key) : mayB lo key = true := mayB_iff.2 ⟨h.losize, h.size, aheadB_iff.2 (.inr h.low)⟩
theorem CutOk.right {lo hi key : ByteArray} (h : CutOk lo hi key) : mayB key hi = true := mayB_iff.2 ⟨h.size, h.hisize, h.up⟩
theorem CutOk.whole {lo hi key : ByteArray} (h : CutOk lo hi key) : mayB lo hi = true := mayB_iff.2 ⟨h.losize, h.hisize, ahead_trans h.low h.up⟩
theorem CutOk.has {lo hi key : ByteArray} (h : CutOk lo hi key) (o : ByteArray) : hasB lo hi o = (hasB lo key o || hasB key hi o) ∧ (hasB lo key o && hasB key hi o) = false := by
  have e : aheadB o key = lt o key := by unfold aheadB; rw [h.full]; rfl
  unfold hasB
  rw [h.left, h.right, h.whole, e]
  cases hl : lt o key
  · have h1 : lt o lo = false := nlt_trans h.low hl
    rw [h1]; cases keyB o <;> cases aheadB o hi <;> simp
  · have h1 : aheadB o hi = true := ahead_trans hl h.up
    rw [h1]; cases keyB o <;> cases lt o lo <;> simp
/-! ### ranges, one behind the other, that have each key once -/
/-- What is left of a list of ranges, from an end on: covers it all to the end. -/
def covB : ByteArray → Bool → List S23 → Bool
  | _, over, [] => over
  | lo, over, x :: r => mayB x.f0 x.f1 && !over && (x.f0.toList == lo.toList) && covB x.f1 (emp x.f1) r
theorem rd23 (l : List S23) (i : Nat) (h : i < l.length) : rd_T23 l (i : Int) = l[i] := by
  unfold rd_T23; rw [Int.toNat_natCast, List.getD_eq_getElem?_getD, List.getElem?_eq_getElem h]; rfl
theorem covers_l0 : ∀ (d i k : Nat) (lo : ByteArray) (over : Bool) (l : List S23), i + d = l.length → l.length ≤ 1000000 → 2 * d < k →
    span_Covers.l0 k lo over l (l.length : Int) (i : Int) = some (covB lo over (l.drop i)) := by
  intro d
  induction d with
  | zero =>
    intro i k lo over l h hl hk
    obtain ⟨k, rfl⟩ : ∃ m, k = m + 1 := ⟨k - 1, by omega⟩
    simp only [span_Covers.l0]
    rw [if_neg (by omega), List.drop_eq_nil_of_le (by omega)]
    rfl
  | succ d ih =>
    intro i k lo over l h hl hk
    obtain ⟨k, rfl⟩ : ∃ m, k = m + 2 := ⟨k - 2, by omega⟩
    have hlt : i < l.length := by omega
    have hd : l.drop i = l[i] :: l.drop (i + 1) := (List.getElem_cons_drop hlt).symm
    simp only [span_Covers.l0]
    rw [if_pos (by omega), if_pos (by omega), if_pos (by omega), rd23 l i hlt, may_is, hd]
    simp only [Option.bind_some, span_Covers.j1, covB]
    rw [w64 (by omega) (by omega)]
    have hr := ih (i + 1) k l[i].f1 (emp l[i].f1) l (by omega) hl (by omega)
    have e : (l[i].f1.toList == ([] : List UInt8)) = emp l[i].f1 := rfl
    have e2 : (l[i].f0.toList != lo.toList) = !(l[i].f0.toList == lo.toList) := rfl
    have hr' : span_Covers.l0 k l[i].f1 (emp l[i].f1) l (l.length : Int) ((i : Int) + 1) = some (covB l[i].f1 (emp l[i].f1) (l.drop (i + 1))) := hr
    rw [e, e2, hr']
    cases mayB l[i].f0 l[i].f1 <;> cases over <;> cases (l[i].f0.toList == lo.toList) <;> simp
theorem covers_is (l : List S23) (k : Nat) (hl : l.length ≤ 1000000) (hk : 2 * l.length < k) : span_Covers.f k l = some (covB (⟨#[]⟩ : ByteArray) false l) := by
  unfold span_Covers.f
  have h := covers_l0 l.length 0 k (⟨#[]⟩ : ByteArray) false l (by omega) hl hk
  exact h
/-- How many of the ranges have a key. -/
def cntB (key : ByteArray) : List S23 → Nat
  | [] => 0
  | x :: r => (if hasB x.f0 x.f1 key = true then 1 else 0) + cntB key r
theorem cnt_cov (key : ByteArray) (hk : keyB key = true) : ∀ (l : List S23) (lo : ByteArray) (over : Bool), covB lo over l = true → cntB key l = if over = false ∧ lt key lo = false then 1 else 0 := by
  intro l
  induction l with
  | nil => intro lo over h; simp only [covB] at h; subst h; simp [cntB]
  | cons x r ih =>
    intro lo over h
    simp only [covB] at h
    obtain ⟨g1, h2⟩ := band h
    obtain ⟨g2, h3⟩ := band g1
    obtain ⟨h1, h4⟩ := band g2
    clear g1 g2
    have e : x.f0 = lo := toList_inj.1 (beq_iff_eq.1 h3)
    subst e
    have ho : over = false := by cases over; rfl; simp at h4
    subst ho
    have hr := ih x.f1 (emp x.f1) h2
    simp only [cntB]
    rw [hr]
    obtain ⟨_, _, ha⟩ := mayB_iff.1 h1
    have hh : hasB x.f0 x.f1 key = (!lt key x.f0 && aheadB key x.f1) := by unfold hasB; rw [h1, hk]; simp
    rw [hh]
    unfold aheadB
    cases he : emp x.f1
    · have hlt : lt x.f0 x.f1 = true := by rcases aheadB_iff.1 ha with h5 | h5; rw [he] at h5; cases h5; exact h5
      cases hu : lt key x.f1
      · have hl : lt key x.f0 = false := nlt_trans hlt hu
        rw [hl]; simp
      · cases lt key x.f0 <;> simp
    · cases lt key x.f0 <;> simp
theorem cnt_none (key : ByteArray) (hk : keyB key = false) : ∀ l : List S23, cntB key l = 0 := by
  intro l
  induction l with
  | nil => rfl
  | cons x r ih => simp only [cntB]; rw [ih]; unfold hasB; rw [hk]; simp
theorem cnt_le (key : ByteArray) : ∀ l : List S23, cntB key l ≤ l.length := by
  intro l
  induction l with
  | nil => simp [cntB]
  | cons x r ih => simp only [cntB, List.length_cons]; split <;> omega
theorem rdS (l : List ByteArray) (i : Nat) (h : i < l.length) : rdOf ByteArray.empty l (i : Int) = l[i] := by
  unfold rdOf; rw [Int.toNat_natCast, List.getD_eq_getElem?_getD, List.getElem?_eq_getElem h]; rfl
theorem cov_cut (key : ByteArray) (x : S23) (h : cutB x.f0 x.f1 key = true) (post : List S23) : ∀ (pre : List S23) (lo : ByteArray) (over : Bool), covB lo over (pre ++ x :: post) = true → covB lo over (pre ++ (⟨x.f0, key⟩ : S23) :: (⟨key, x.f1⟩ : S23) :: post) = true := by
  have hc := cut_ok h
  intro pre
  induction pre with
  | nil =>
    intro lo over h1
    simp only [List.nil_append, covB] at h1 ⊢
    obtain ⟨h1, h2⟩ := band h1
    obtain ⟨h1, h3⟩ := band h1
    obtain ⟨h1, h4⟩ := band h1
    rw [hc.left, hc.right, h4, h3, h2, hc.full]
    simp
  | cons y pre ih =>
    intro lo over h1
    simp only [List.cons_append, covB] at h1 ⊢
    obtain ⟨h1, h2⟩ := band h1
    rw [h1, ih _ _ h2]; rfl
theorem cov_may : ∀ (l : List S23) (lo : ByteArray) (over : Bool), covB lo over l = true → ∀ x ∈ l, mayB x.f0 x.f1 = true := by
  intro l
  induction l with
  | nil => intro _ _ _ x hx; simp at hx
  | cons y r ih =>
    intro lo over h x hx
    simp only [covB] at h
    obtain ⟨h1, h2⟩ := band h
    obtain ⟨h1, h3⟩ := band h1
    obtain ⟨h1, h4⟩ := band h1
    rcases List.mem_cons.1 hx with rfl | hx
    · exact h1
    · exact ih _ _ h2 x hx
theorem cut_yes {lo hi key : ByteArray} (h : cutB lo hi key = true) : span_Cut.f lo hi key = some (lo, key, key, hi, 0) := by rw [cut_is, if_pos h]
theorem cut_no {lo hi key : ByteArray} (h : cutB lo hi key = false) : span_Cut.f lo hi key = some ((⟨#[]⟩ : ByteArray), (⟨#[]⟩ : ByteArray), (⟨#[]⟩ : ByteArray), (⟨#[]⟩ : ByteArray), 1) := by rw [cut_is, if_neg (by rw [h]; decide)]
theorem many_l2 (key : ByteArray) (l : List S23) (hl : l.length ≤ 1000) (hc : covB (⟨#[]⟩ : ByteArray) false l = true) : ∀ (d i n k : Nat), i + d = l.length → n + cntB key (l.drop i) = cntB key l → n ≤ i → d + 2100 < k →
    sorrellaw04_SpanMany.l2 (k + 1) key l (n : Int) (i : Int) = some true := by
  intro d
  induction d with
  | zero =>
    intro i n k h hn hi hk
    simp only [sorrellaw04_SpanMany.l2]
    rw [if_neg (by omega), key_is, awake_is k (by omega), covers_is l k (by omega) (by omega), hc]
    rw [List.drop_eq_nil_of_le (by omega)] at hn
    simp only [cntB, Nat.add_zero] at hn
    simp only [Option.bind_some, if_true]
    cases hb : keyB key
    · have := cnt_none key hb l
      rw [show n = 0 from by omega]; rfl
    · have := cnt_cov key hb l _ _ hc
      rw [if_pos ⟨rfl, lt_emp (by decide +kernel)⟩] at this
      rw [show n = 1 from by omega]; rfl
  | succ d ih =>
    intro i n k h hn hi hk
    obtain ⟨k, rfl⟩ : ∃ m, k = m + 1 := ⟨k - 1, by omega⟩
    have hlt : i < l.length := by omega
    have hd : l.drop i = l[i] :: l.drop (i + 1) := (List.getElem_cons_drop hlt).symm
    rw [hd] at hn
    simp only [cntB] at hn
    simp only [sorrellaw04_SpanMany.l2]
    rw [if_pos (by omega), if_pos (by omega), rd23 l i hlt, check_is, cov_may l _ _ hc l[i] (by simp), has_is, w64 (n := (i : Int) + 1) (by omega) (by omega)]
    simp only [Option.bind_some, if_true]
    cases hb : hasB l[i].f0 l[i].f1 key
    · rw [hb] at hn
      simp only [Bool.false_eq_true, if_false] at hn ⊢
      exact ih (i + 1) n k (by omega) (by omega) (by omega) (by omega)
    · rw [hb] at hn
      simp only [if_true] at hn ⊢
      rw [w64 (n := (n : Int) + 1) (by omega) (by omega)]
      exact ih (i + 1) (n + 1) k (by omega) (by omega) (by omega) (by omega)
theorem many_l0 (ks : List ByteArray) (key : ByteArray) (hk20 : ks.length ≤ 20) : ∀ (d i k : Nat) (l : List S23), i + d = ks.length → l.length ≤ i + 1 → 0 < l.length → covB (⟨#[]⟩ : ByteArray) false l = true → 30 * d + 3300 < k →
    sorrellaw04_SpanMany.l0 (k + 1) ks key l (i : Int) = some true := by
  intro d
  induction d with
  | zero =>
    intro i k l h hl hp hc hk
    obtain ⟨k, rfl⟩ : ∃ m, k = m + 1 := ⟨k - 1, by omega⟩
    simp only [sorrellaw04_SpanMany.l0]
    rw [if_neg (by omega)]
    exact many_l2 key l (by omega) hc l.length 0 0 k (by omega) (by simp) (by omega) (by omega)
  | succ d ih =>
    intro i k l h hl hp hc hk
    have hlt : i < ks.length := by omega
    simp only [sorrellaw04_SpanMany.l0]
    rw [if_pos (by omega)]
    have inner : ∀ (e j q : Nat), j + e = l.length → 30 * d + 3302 + e < q → sorrellaw04_SpanMany.l1 (q + 1) ks key l (i : Int) (j : Int) = some true := by
      intro e
      induction e with
      | zero =>
        intro j q hj hq
        simp only [sorrellaw04_SpanMany.l1]
        obtain ⟨q, rfl⟩ : ∃ m, q = m + 1 := ⟨q - 1, by omega⟩
        rw [if_neg (by omega), w64 (n := (i : Int) + 1) (by omega) (by omega)]
        exact ih (i + 1) q l (by omega) (by omega) hp hc (by omega)
      | succ e ihe =>
        intro j q hj hq
        have hjl : j < l.length := by omega
        simp only [sorrellaw04_SpanMany.l1]
        obtain ⟨q, rfl⟩ : ∃ m, q = m + 1 := ⟨q - 1, by omega⟩
        rw [if_pos (by omega), if_pos (by omega), if_pos (by omega), if_pos (by omega), rd23 l j hjl, rdS ks i hlt]
        cases hb : cutB l[j].f0 l[j].f1 ks[i]
        · rw [cut_no hb, Option.bind_some, if_neg (by decide), w64 (n := (j : Int) + 1) (by omega) (by omega)]
          exact ihe (j + 1) q (by omega) (by omega)
        · rw [cut_yes hb, Option.bind_some, if_pos rfl]
          rw [w64 (n := (j : Int) + 1) (by omega) (by omega), w64 (n := (i : Int) + 1) (by omega) (by omega), Int.toNat_natCast, show ((j : Int) + 1).toNat = j + 1 from by omega]
          rw [if_pos (by omega), Option.bind_some, if_pos (by simp only [List.length_take, List.length_nil]; omega), Option.bind_some, if_pos (by simp only [List.length_append, List.length_take, List.length_nil]; omega), Option.bind_some,
            if_pos (by simp only [List.length_append, List.length_cons, List.length_take, List.length_nil]; omega), Option.bind_some, if_pos (by omega), if_pos (by omega), Option.bind_some, if_pos (by simp only [List.length_append, List.length_cons, List.length_take, List.length_drop, List.length_nil]; omega), List.nil_append]
          have hs : l = l.take j ++ l[j] :: l.drop (j + 1) := by rw [List.getElem_cons_drop hjl, List.take_append_drop]
          have hcut := cov_cut ks[i] l[j] hb (l.drop (j + 1)) (l.take j) (⟨#[]⟩ : ByteArray) false (by rw [← hs]; exact hc)
          have el : l.take j ++ [(⟨l[j].f0, ks[i]⟩ : S23)] ++ [(⟨ks[i], l[j].f1⟩ : S23)] ++ l.drop (j + 1) = l.take j ++ (⟨l[j].f0, ks[i]⟩ : S23) :: (⟨ks[i], l[j].f1⟩ : S23) :: l.drop (j + 1) := by simp
          rw [el]
          exact ih (i + 1) q _ (by omega) (by simp only [List.length_append, List.length_cons, List.length_take, List.length_drop]; omega) (by simp only [List.length_append, List.length_cons]; omega) hcut (by omega)
    obtain ⟨k, rfl⟩ : ∃ m, k = m + 1 := ⟨k - 1, by omega⟩
    exact inner l.length 0 k (by omega) (by omega)
theorem law_many : sorrellaw04_SpanMany.Pure := by
  intro ks key _ _
  refine ⟨5001, ?_⟩
  unfold sorrellaw04_SpanMany.f
  by_cases c : ks.length ≤ 20
  · rw [if_neg (by omega)]
    exact many_l0 ks key c ks.length 0 5000 _ (by omega) (by simp) (by simp) (by decide +kernel) (by omega)
  · rw [if_pos (by omega), awake_is 5001 (by omega)]; rfl
end Go.Proofs.Ytffmndbgbooedaa.VaMany
