/- Plain laws on what the functions written out for this seat come to. -/
import Derived.Test.YtffmndbgbooedaaXStatSpanClips
import Derived.Test.YtffmndbgbooedaaVLib
import Derived.Test.YtffmndbgbooedaaXW
namespace Go.Proofs.Ytffmndbgbooedaa.VaClips
open Go.RowKit Go.Proofs.Ytffmndbgbooedaa.XA Go.Proofs.Ytffmndbgbooedaa.VLib Go.Proofs.Ytffmndbgbooedaa.XW Go.Proofs.YtffmndbgbooedaaW.PrintWords Go.Proofs.YtffmndbgbooedaaW.PrintLast Go.Proofs.YtffmndbgbooedaaW.PrintMore
/-! ### the order of texts -/
theorem less_irrefl : ∀ a : List UInt8, Op.bytesLess a a = false
  | [] => rfl
  | x :: a => by
    have := less_irrefl a
    simp only [Op.bytesLess, this, Bool.and_false, Bool.or_false, decide_eq_false_iff_not, UInt8.lt_iff_toNat_lt]
    omega
theorem less_trans : ∀ a b c : List UInt8, Op.bytesLess a b = true → Op.bytesLess b c = true → Op.bytesLess a c = true
  | [], [], _, h, _ => by simp [Op.bytesLess] at h
  | [], _ :: _, [], _, h => by simp [Op.bytesLess] at h
  | [], _ :: _, _ :: _, _, _ => rfl
  | _ :: _, [], _, h, _ => by simp [Op.bytesLess] at h
  | _ :: _, _ :: _, [], _, h => by simp [Op.bytesLess] at h
  | x :: a, y :: b, z :: c, h1, h2 => by
    have ih := less_trans a b c
    simp only [Op.bytesLess, Bool.or_eq_true, Bool.and_eq_true, decide_eq_true_eq, beq_iff_eq, UInt8.lt_iff_toNat_lt] at h1 h2 ⊢
    rcases h1 with h1 | ⟨rfl, h1⟩
    · rcases h2 with h2 | ⟨rfl, h2⟩
      · exact .inl (by omega)
      · exact .inl h1
    · rcases h2 with h2 | ⟨rfl, h2⟩
      · exact .inl h2
      · exact .inr ⟨rfl, ih h1 h2⟩
def lt (a b : ByteArray) : Bool := Op.bytesLess a.toList b.toList
theorem lt_irrefl (a : ByteArray) : lt a a = false := less_irrefl _
theorem lt_trans {a b c : ByteArray} (h1 : lt a b = true) (h2 : lt b c = true) : lt a c = true := less_trans _ _ _ h1 h2
theorem lt_tri (a b : ByteArray) : lt a b = true ∨ a = b ∨ lt b a = true := by
  have h := less_total a.toList b.toList
  cases h1 : lt a b
  · cases h2 : lt b a
    · refine .inr (.inl ?_)
      have e1 : Op.bytesLess a.toList b.toList = false := h1
      have e2 : Op.bytesLess b.toList a.toList = false := h2
      rw [e1, e2] at h
      simp only [Bool.false_or, Bool.not_false, beq_iff_eq] at h
      exact toList_inj.1 h
    · exact .inr (.inr rfl)
  · exact .inl rfl
theorem lt_asymm {a b : ByteArray} (h : lt a b = true) : lt b a = false := by
  cases h2 : lt b a
  · rfl
  · have := lt_trans h h2; rw [lt_irrefl] at this; cases this
theorem nlt_trans {a b c : ByteArray} (h1 : lt a b = true) (h2 : lt c b = false) : lt c a = false := by
  cases h : lt c a
  · rfl
  · have := lt_trans h h1; rw [this] at h2; cases h2
theorem le_lt {a b c : ByteArray} (h1 : lt b a = false) (h2 : lt b c = true) : lt a c = true := by
  rcases lt_tri a b with h | rfl | h
  · exact lt_trans h h2
  · exact h2
  · rw [h] at h1; cases h1

/-! ### keys, and ranges of keys -/
def emp (a : ByteArray) : Bool := a.toList == []
theorem emp_iff {a : ByteArray} : emp a = true ↔ a.toList = [] := by unfold emp; exact beq_iff_eq
theorem emp_size (a : ByteArray) : emp a = decide (a.size = 0) := by
  rw [Bool.eq_iff_iff, emp_iff, toList_data, decide_eq_true_eq, ← len_list, List.length_eq_zero_iff]
theorem emp_eq {a b : ByteArray} (h1 : emp a = true) (h2 : emp b = true) : a = b := toList_inj.1 ((emp_iff.1 h1).trans (emp_iff.1 h2).symm)
theorem lt_emp {a b : ByteArray} (h : emp b = true) : lt a b = false := by
  unfold lt; rw [emp_iff.1 h]; cases a.toList <;> rfl
theorem emp_lt {a b : ByteArray} (h : emp a = true) (h2 : emp b = false) : lt a b = true := by
  rcases lt_tri a b with h3 | rfl | h3
  · exact h3
  · rw [h] at h2; cases h2
  · rw [lt_emp h] at h3; cases h3
def keyB (s : ByteArray) : Bool := !emp s && decide (s.size ≤ 64)
def aheadB (s hi : ByteArray) : Bool := emp hi || lt s hi
def mayB (lo hi : ByteArray) : Bool := decide (lo.size ≤ 64) && decide (hi.size ≤ 64) && aheadB lo hi
def hasB (lo hi key : ByteArray) : Bool := mayB lo hi && keyB key && !lt key lo && aheadB key hi

theorem key_is (s : ByteArray) : span_Key.f s = some (keyB s) := by
  unfold span_Key.f keyB
  by_cases h : s.toList = []
  · rw [if_pos h, emp_iff.2 h]; rfl
  · have e : emp s = false := by cases h2 : emp s; rfl; exact absurd (emp_iff.1 h2) h
    rw [if_neg h, e]
    simp only [Bool.not_false, Bool.true_and, Option.some.injEq]
    exact decide_eq_decide.2 (by omega)
theorem ahead_is (s hi : ByteArray) : span_ahead.f s hi = some (aheadB s hi) := by
  unfold span_ahead.f aheadB
  by_cases h : hi.toList = []
  · rw [if_pos h, emp_iff.2 h]; rfl
  · have e : emp hi = false := by cases h2 : emp hi; rfl; exact absurd (emp_iff.1 h2) h
    rw [if_neg h, e]; rfl
theorem may_is (lo hi : ByteArray) : span_may.f lo hi = some (mayB lo hi) := by
  unfold span_may.f mayB
  rw [ahead_is]
  by_cases h1 : lo.size ≤ 64
  · rw [if_pos (by omega), decide_eq_true h1]
    by_cases h2 : hi.size ≤ 64
    · rw [if_pos (by omega), decide_eq_true h2]; rfl
    · rw [if_neg (by omega), decide_eq_false h2]; rfl
  · rw [if_neg (by omega), decide_eq_false h1]; rfl
theorem check_is (lo hi : ByteArray) : span_Check.f lo hi = some (if mayB lo hi = true then 0 else 1) := by
  unfold span_Check.f
  rw [may_is]
  simp only [Option.bind_some]
  split <;> rfl
theorem has_is (lo hi key : ByteArray) : span_Has.f lo hi key = some (hasB lo hi key) := by
  unfold span_Has.f hasB
  rw [may_is, key_is, ahead_is]
  have e : Op.bytesLess key.toList lo.toList = lt key lo := rfl
  simp only [Option.bind_some, e]
  cases mayB lo hi <;> cases keyB key <;> cases lt key lo <;> simp
def cutB (lo hi key : ByteArray) : Bool := hasB lo hi key && !(key.toList == lo.toList)
theorem cut_is (lo hi key : ByteArray) : span_Cut.f lo hi key = some (if cutB lo hi key = true then (lo, key, key, hi, 0) else ((⟨#[]⟩ : ByteArray), (⟨#[]⟩ : ByteArray), (⟨#[]⟩ : ByteArray), (⟨#[]⟩ : ByteArray), 1)) := by
  unfold span_Cut.f cutB
  rw [has_is]
  by_cases h : key.toList = lo.toList
  · rw [if_pos h, h]; simp
  · rw [if_neg h, beq_false_of_ne h]
    simp only [Option.bind_some, Bool.not_false, Bool.and_true]
    split <;> rfl
def joinB (alo ahi blo bhi : ByteArray) : Bool := mayB alo ahi && mayB blo bhi && !emp ahi && (blo.toList == ahi.toList)
theorem join_is (alo ahi blo bhi : ByteArray) (k : Nat) (hk : 1 ≤ k) : span_Join.f k alo ahi blo bhi = some (if joinB alo ahi blo bhi = true then (alo, bhi, 0) else ((⟨#[]⟩ : ByteArray), (⟨#[]⟩ : ByteArray), 1)) := by
  obtain ⟨k, rfl⟩ : ∃ m, k = m + 1 := ⟨k - 1, by omega⟩
  unfold span_Join.f joinB
  rw [may_is, may_is]
  simp only [Option.bind_some, span_Join.j0]
  have e : (blo.toList != ahi.toList) = !(blo.toList == ahi.toList) := rfl
  by_cases h : ahi.toList = []
  · rw [emp_iff.2 h]
    cases mayB alo ahi <;> cases mayB blo bhi <;> simp [h]
  · have e2 : emp ahi = false := by cases h2 : emp ahi; rfl; exact absurd (emp_iff.1 h2) h
    rw [e2, if_neg h, e]
    cases mayB alo ahi <;> cases mayB blo bhi <;> cases (blo.toList == ahi.toList) <;> simp
theorem awake_is (k : Nat) (hk : 1 ≤ k) : sorrellaw04_awake.f k = some true := by
  unfold sorrellaw04_awake.f
  have e1 : cutB (⟨#[98]⟩ : ByteArray) (⟨#[109]⟩ : ByteArray) (⟨#[102]⟩ : ByteArray) = true := by decide +kernel
  have e2 : joinB (⟨#[98]⟩ : ByteArray) (⟨#[102]⟩ : ByteArray) (⟨#[102]⟩ : ByteArray) (⟨#[109]⟩ : ByteArray) = true := by decide +kernel
  have e3 : hasB (⟨#[98]⟩ : ByteArray) (⟨#[102]⟩ : ByteArray) (⟨#[101]⟩ : ByteArray) = true := by decide +kernel
  have e4 : hasB (⟨#[98]⟩ : ByteArray) (⟨#[102]⟩ : ByteArray) (⟨#[102]⟩ : ByteArray) = false := by decide +kernel
  have e5 : keyB (⟨#[120]⟩ : ByteArray) = true := by decide +kernel
  rw [cut_is, e1]
  simp only [Option.bind_some, if_true]
  rw [join_is _ _ _ _ k hk, e2]
  simp only [Option.bind_some, if_true, has_is, key_is, e3, e4, e5, toList_data]
  rfl
theorem rkey_is (s : ByteArray) : sorrelref04_Key.f s = some (keyB s) := by
  unfold sorrelref04_Key.f keyB
  rw [emp_size]
  by_cases h : s.size = 0
  · rw [if_neg (by omega), decide_eq_true h]; rfl
  · rw [if_pos (by omega), decide_eq_false h]
    simp only [Bool.not_false, Bool.true_and, Option.some.injEq]
    exact decide_eq_decide.2 (by omega)
theorem rmay_is (lo hi : ByteArray) : sorrelref04_May.f lo hi = some (mayB lo hi) := by
  have h := may_is lo hi
  unfold span_may.f at h
  rw [← h]
  unfold sorrelref04_May.f span_ahead.f
  split
  · split
    · split <;> rfl
    · rfl
  · rfl
theorem rcheck_is (lo hi : ByteArray) : sorrelref04_Check.f lo hi = some (if mayB lo hi = true then 0 else 1) := by
  unfold sorrelref04_Check.f
  rw [rmay_is]
  simp only [Option.bind_some]
  split <;> rfl
theorem rhas_is (lo hi key : ByteArray) : sorrelref04_Has.f lo hi key = some (hasB lo hi key) := by
  have h := has_is lo hi key
  unfold span_Has.f at h
  rw [may_is, key_is] at h
  rw [← h]
  unfold sorrelref04_Has.f span_ahead.f
  rw [rmay_is, rkey_is]
  simp only [Option.bind_some]
  cases mayB lo hi <;> cases keyB key <;> simp
theorem band {a b : Bool} (h : (a && b) = true) : a = true ∧ b = true := by simpa using h
theorem hasB_iff {lo hi key : ByteArray} : hasB lo hi key = true ↔ mayB lo hi = true ∧ keyB key = true ∧ lt key lo = false ∧ aheadB key hi = true := by
  unfold hasB; simp [and_assoc]
theorem aheadB_iff {s hi : ByteArray} : aheadB s hi = true ↔ emp hi = true ∨ lt s hi = true := by unfold aheadB; simp
theorem mayB_iff {lo hi : ByteArray} : mayB lo hi = true ↔ lo.size ≤ 64 ∧ hi.size ≤ 64 ∧ aheadB lo hi = true := by unfold mayB; simp [and_assoc]
theorem keyB_iff {s : ByteArray} : keyB s = true ↔ emp s = false ∧ s.size ≤ 64 := by unfold keyB; simp
theorem ahead_trans {a b c : ByteArray} (h : lt a b = true) (h2 : aheadB b c = true) : aheadB a c = true := by
  rcases aheadB_iff.1 h2 with h3 | h3
  · exact aheadB_iff.2 (.inl h3)
  · exact aheadB_iff.2 (.inr (lt_trans h h3))
structure CutOk (lo hi key : ByteArray) : Prop where
  low : lt lo key = true
  full : emp key = false
  size : key.size ≤ 64
  losize : lo.size ≤ 64
  hisize : hi.size ≤ 64
  up : aheadB key hi = true
theorem cut_ok {lo hi key : ByteArray} (h : cutB lo hi key = true) : CutOk lo hi key := by
  unfold cutB at h
  obtain ⟨h1, h2⟩ := band h
  obtain ⟨m, kk, l, u⟩ := hasB_iff.1 h1
  obtain ⟨m1, m2, _⟩ := mayB_iff.1 m
  obtain ⟨k1, k2⟩ := keyB_iff.1 kk
  refine ⟨?_, k1, k2, m1, m2, u⟩
  rcases lt_tri lo key with h3 | rfl | h3
  · exact h3
  · simp at h2
  · rw [h3] at l; cases l
theorem CutOk.left {lo hi key : ByteArray} (h : CutOk lo hi key) : mayB lo key = true := mayB_iff.2 ⟨h.losize, h.size, aheadB_iff.2 (.inr h.low)⟩
theorem CutOk.right {lo hi key : ByteArray} (h : CutOk lo hi key) : mayB key hi = true := mayB_iff.2 ⟨h.size, h.hisize, h.up⟩
theorem CutOk.whole {lo hi key : ByteArray} (h : CutOk lo hi key) : mayB lo hi = true := mayB_iff.2 ⟨h.losize, h.hisize, ahead_trans h.low h.up⟩
theorem CutOk.has {lo hi key : ByteArray} (h : CutOk lo hi key) (o : ByteArray) : hasB lo hi o = (hasB lo key o || hasB key hi o) ∧ (hasB lo key o && hasB key hi o) = false := by
  have e : aheadB o key = lt o key := by unfold aheadB; rw [h.full]; rfl
  unfold hasB
  rw [h.left, h.right, h.whole, e]
  cases hl : lt o key
  · have h1 : lt o lo = false := nlt_trans h.low hl
    rw [h1]; cases keyB o <;> cases aheadB o hi <;> simp
  · have h1 : aheadB o hi = true := ahead_trans hl h.up
    rw [h1]; cases keyB o <;> cases lt o lo <;> simp
/-! ### the entries of a range -/
def inR (lo hi : ByteArray) (l : List S50) : List S50 := l.filter (fun e => hasB lo hi e.f0)
theorem inR_cons (lo hi : ByteArray) (e : S50) (t : List S50) : inR lo hi (e :: t) = if hasB lo hi e.f0 = true then e :: inR lo hi t else inR lo hi t := by
  unfold inR; rw [List.filter_cons]
theorem inR_len (lo hi : ByteArray) (l : List S50) : (inR lo hi l).length ≤ l.length := List.length_filter_le _ _
theorem clip_l0 (lo hi : ByteArray) : ∀ l : List S50, span_Clip.l0 lo hi l = some (inR lo hi l)
  | [] => rfl
  | e :: t => by
    rw [span_Clip.l0, has_is, Option.bind_some, clip_l0 lo hi t, Option.bind_some, inR_cons]
    split <;> rfl
theorem clip_is (lo hi : ByteArray) (l : List S50) (h : l.length < 2932031007402) : span_Clip.f l lo hi = some (inR lo hi l) := by
  unfold span_Clip.f; rw [if_pos h, clip_l0]
theorem rdE (l : List S50) (i : Nat) (h : i < l.length) : rd_T50 l (i : Int) = l[i] := by
  unfold rd_T50; rw [Int.toNat_natCast, List.getD_eq_getElem?_getD, List.getElem?_eq_getElem h]; rfl
theorem rclip_l0 (lo hi : ByteArray) (l : List S50) (hl : l.length ≤ 1000000) : ∀ (n i k : Nat) (out : List S50), i + n = l.length → n + 1 ≤ k → out.length ≤ i → sorrelref04_Clip.l0 k l out (i : Int) lo hi = some (out ++ inR lo hi (l.drop i)) := by
  intro n
  induction n with
  | zero =>
    intro i k out h hk ho
    obtain ⟨k, rfl⟩ : ∃ m, k = m + 1 := ⟨k - 1, by omega⟩
    simp only [sorrelref04_Clip.l0]
    rw [if_neg (by omega), List.drop_eq_nil_of_le (by omega)]
    exact congrArg some (List.append_nil out).symm
  | succ n ih =>
    intro i k out h hk ho
    obtain ⟨k, rfl⟩ : ∃ m, k = m + 1 := ⟨k - 1, by omega⟩
    have hi' : i < l.length := by omega
    have e : l.drop i = l[i] :: l.drop (i + 1) := (List.getElem_cons_drop hi').symm
    simp only [sorrelref04_Clip.l0]
    rw [if_pos (by omega), if_pos (by omega), rdE l i hi', rhas_is, Option.bind_some, e, inR_cons, w64 (by omega) (by omega), show (i : Int) + 1 = ((i + 1 : Nat) : Int) from by omega]
    split
    · rw [if_pos (by omega), ih (i + 1) k _ (by omega) (by omega) (by rw [List.length_append, List.length_singleton]; omega), List.append_assoc]; rfl
    · rw [ih (i + 1) k _ (by omega) (by omega) (by omega)]
theorem sameE_l0 (a : List S50) (ha : a.length ≤ 4611686018427387904) : ∀ (n i k : Nat), i + n = a.length → n + 1 ≤ k → sorrelref04_Same.l0 k a a (i : Int) = some true := by
  intro n
  induction n with
  | zero =>
    intro i k h hk
    obtain ⟨k, rfl⟩ : ∃ m, k = m + 1 := ⟨k - 1, by omega⟩
    simp only [sorrelref04_Same.l0]
    rw [if_neg (by omega)]
  | succ n ih =>
    intro i k h hk
    obtain ⟨k, rfl⟩ : ∃ m, k = m + 1 := ⟨k - 1, by omega⟩
    simp only [sorrelref04_Same.l0]
    rw [if_pos (by omega), if_pos (by omega), if_pos (by omega), if_neg (by simp), w64 (by omega) (by omega), show (i : Int) + 1 = ((i + 1 : Nat) : Int) from by omega]
    exact ih (i + 1) k (by omega) (by omega)
theorem sameE_yes (a : List S50) (k : Nat) (ha : a.length ≤ 4611686018427387904) (hk : a.length + 1 ≤ k) : sorrelref04_Same.f k a a = some true := by
  unfold sorrelref04_Same.f
  rw [if_pos rfl]
  exact sameE_l0 a ha a.length 0 k (by omega) hk
theorem CutOk.lens {lo hi key : ByteArray} (h : CutOk lo hi key) : ∀ l : List S50, (inR lo key l).length + (inR key hi l).length = (inR lo hi l).length
  | [] => rfl
  | e :: t => by
    have ih := CutOk.lens h t
    obtain ⟨h1, h2⟩ := h.has e.f0
    rw [inR_cons, inR_cons, inR_cons, h1]
    revert h2
    cases hasB lo key e.f0 <;> cases hasB key hi e.f0 <;> simp <;> omega
theorem CutOk.twice {lo hi key : ByteArray} (h : CutOk lo hi key) : ∀ l : List S50, inR lo key (inR lo hi l) = inR lo key l
  | [] => rfl
  | e :: t => by
    have ih := CutOk.twice h t
    obtain ⟨h1, h2⟩ := h.has e.f0
    rw [inR_cons lo hi, inR_cons lo key e t, h1]
    revert h2
    cases h3 : hasB lo key e.f0 <;> cases h4 : hasB key hi e.f0 <;> simp [inR_cons, h3, ih]
theorem clips_is (l : List S50) (lo hi key : ByteArray) (k : Nat) (hk : 100 ≤ k) : sorrellaw04_SpanClips.f k l lo hi key = some true := by
  unfold sorrellaw04_SpanClips.f
  by_cases h : (l.length : Int) > 60
  · rw [if_pos h, awake_is k (by omega)]; rfl
  · rw [if_neg h]
    have n1 := inR_len lo hi l
    have rc := rclip_l0 lo hi l (by omega) l.length 0 k [] (by omega) (by omega) (Nat.le_refl _)
    rw [List.drop_zero, List.nil_append] at rc
    have rc' : sorrelref04_Clip.f k l lo hi = some (inR lo hi l) := rc
    rw [clip_is lo hi l (by omega), Option.bind_some, rc', Option.bind_some, sameE_yes _ k (by omega) (by omega), Option.bind_some, if_pos rfl, cut_is, Option.bind_some]
    cases hc : cutB lo hi key with
    | false =>
      rw [if_neg (show ¬ false = true by decide)]
      dsimp only
      rw [if_neg (by decide), awake_is k (by omega)]; rfl
    | true =>
      have hk' := cut_ok hc
      have e1 := hk'.lens l
      have n2 := inR_len lo key l
      have n3 := inR_len key hi l
      rw [if_pos rfl]
      dsimp only
      rw [if_pos rfl, clip_is lo key l (by omega), Option.bind_some, clip_is key hi l (by omega), Option.bind_some, w64 (by omega) (by omega), if_pos (by omega), clip_is lo key _ (by omega), Option.bind_some, Option.bind_some, hk'.twice, sameE_yes _ k (by omega) (by omega), Option.bind_some, if_pos rfl, awake_is k (by omega)]; rfl
theorem law_clips : sorrellaw04_SpanClips.Pure := fun l x key _ _ _ => ⟨100, clips_is l x.f0 x.f1 key _ (Nat.le_refl _)⟩
end Go.Proofs.Ytffmndbgbooedaa.VaClips
