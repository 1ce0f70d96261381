import Derived.Test.YtcfkmcbmambchaakSXAx0
import Derived.Test.YtcfkmcbmambchaakSXAx7
import Derived.Test.YtcfkmcbmambchaakSVLib
import Derived.Test.YtcfkmcbmambchaakSXW
namespace Go.Proofs.Ytcfkmcbmambchaa.XA
end Go.Proofs.Ytcfkmcbmambchaa.XA
namespace Go.Proofs.Ytcfkmcbmambchaa.VLib
end Go.Proofs.Ytcfkmcbmambchaa.VLib
namespace Go.Proofs.Ytcfkmcbmambchaa.XW
end Go.Proofs.Ytcfkmcbmambchaa.XW
namespace Go.Proofs.YtcfkmcbmambchaaW.PrintWords
end Go.Proofs.YtcfkmcbmambchaaW.PrintWords
namespace Go.Proofs.YtcfkmcbmambchaaW.PrintLast
end Go.Proofs.YtcfkmcbmambchaaW.PrintLast
namespace Go.Proofs.YtcfkmcbmambchaaW.PrintMore
end Go.Proofs.YtcfkmcbmambchaaW.PrintMore
namespace Go.Proofs.Ytcfkmcbmambchaa.VaChk
open Go.RowKit Go.Proofs.Ytcfkmcbmambchaa.XA Go.Proofs.Ytcfkmcbmambchaa.VLib Go.Proofs.Ytcfkmcbmambchaa.XW Go.Proofs.YtcfkmcbmambchaaW.PrintWords Go.Proofs.YtcfkmcbmambchaaW.PrintLast Go.Proofs.YtcfkmcbmambchaaW.PrintMore
theorem less_irrefl : ∀ a : List UInt8, Op.bytesLess a a = false
  | [] => rfl
  | x :: a => by
    have := less_irrefl a
    simp only [Op.bytesLess, this, Bool.and_false, Bool.or_false, decide_eq_false_iff_not, UInt8.lt_iff_toNat_lt]
    omega
def lt (a b : ByteArray) : Bool := Op.bytesLess a.toList b.toList
theorem lt_irrefl (a : ByteArray) : lt a a = false := less_irrefl _
theorem lt_tri (a b : ByteArray) : lt a b = true ∨ a = b ∨ lt b a = true := by
  have h := less_total a.toList b.toList
  cases h1 : lt a b
  · cases h2 : lt b a
    · refine .inr (.inl ?_)
      have e1 : Op.bytesLess a.toList b.toList = false := h1
      have e2 : Op.bytesLess b.toList a.toList = false := h2
      rw [e1, e2] at h
      simp only [Bool.false_or, Bool.not_false, beq_iff_eq] at h
      exact toList_inj.1 h
    · exact .inr (.inr rfl)
  · exact .inl rfl
def LE (a b : S36) : Bool := if a.f0.toList = b.f0.toList then decide (a.f3 > b.f3) else lt a.f0 b.f0
theorem less_is (a b : S36) : block_Less.f a.f0 a.f1 a.f2 a.f3 b.f0 b.f1 b.f2 b.f3 = some (LE a b) := by
  unfold block_Less.f LE lt
  by_cases h : a.f0.toList = b.f0.toList
  · rw [if_pos h, if_pos h]
  · rw [if_neg h, if_neg h]
theorem LE_same {a b : S36} (h : a.f0.toList = b.f0.toList) : LE a b = decide (a.f3 > b.f3) := if_pos h
theorem LE_key {a b : S36} (h : ¬ a.f0.toList = b.f0.toList) : LE a b = lt a.f0 b.f0 := if_neg h
theorem LE_tri (a b : S36) : LE a b = true ∨ (a.f0.toList = b.f0.toList ∧ a.f3 = b.f3) ∨ LE b a = true := by
  by_cases e : a.f0.toList = b.f0.toList
  · rw [LE_same e, LE_same e.symm, decide_eq_true_eq, decide_eq_true_eq]
    rcases Int.lt_trichotomy a.f3 b.f3 with h | h | h
    · exact .inr (.inr h)
    · exact .inr (.inl ⟨e, h⟩)
    · exact .inl h
  · rw [LE_key e, LE_key (fun x => e x.symm)]
    rcases lt_tri a.f0 b.f0 with h | h | h
    · exact .inl h
    · exact absurd (by rw [h]) e
    · exact .inr (.inr h)
theorem rdT (l : List S36) (i : Nat) (h : i < l.length) : rd_T36 l (i : Int) = l[i] := by
  unfold rd_T36; rw [Int.toNat_natCast, List.getD_eq_getElem?_getD, List.getElem?_eq_getElem h]; rfl
def mayE (e : S36) : Bool := decide (1 ≤ e.f0.size) && decide (e.f0.size ≤ 64) && decide (e.f1.size ≤ 256) && (!e.f2 || decide (e.f1.size = 0)) && decide (1 ≤ e.f3) && decide (e.f3 ≤ 1099511627775)
theorem nil_size (s : ByteArray) : s.toList = ([] : List UInt8) ↔ s.size = 0 := by rw [toList_data, ← len_list, List.length_eq_zero_iff]
theorem key_is (s : ByteArray) : span_Key.f s = some (decide (1 ≤ s.size) && decide (s.size ≤ 64)) := by
  unfold span_Key.f
  by_cases h : s.size = 0
  · rw [if_pos ((nil_size s).2 h), decide_eq_false (by omega)]; rfl
  · rw [if_neg (fun e => h ((nil_size s).1 e)), decide_eq_true (show 1 ≤ s.size by omega), Bool.true_and]
    exact congrArg some (decide_eq_decide.2 (by omega))
theorem rkey_is (s : ByteArray) : sorrelref04_Key.f s = some (decide (1 ≤ s.size) && decide (s.size ≤ 64)) := by
  unfold sorrelref04_Key.f
  by_cases h : 1 ≤ s.size
  · rw [if_pos (by omega), decide_eq_true h, Bool.true_and]
    exact congrArg some (decide_eq_decide.2 (by omega))
  · rw [if_neg (by omega), decide_eq_false h]; rfl
theorem may_tail (a1 : ByteArray) (a2 : Bool) (a3 : Int) (K : Bool) :
    (if K = true then (if (a1.size : Int) ≤ 256 then (if a2 = true then (if a1.toList = ([] : List UInt8) then (if a3 ≥ 1 then (some (decide (a3 ≤ 1099511627775))) else (some false)) else (some false)) else (if a3 ≥ 1 then (some (decide (a3 ≤ 1099511627775))) else (some false))) else (some false)) else (some false)) =
      some (K && decide (a1.size ≤ 256) && (!a2 || decide (a1.size = 0)) && decide (1 ≤ a3) && decide (a3 ≤ 1099511627775)) := by
  cases K
  · rfl
  · rw [if_pos rfl, Bool.true_and]
    by_cases h1 : a1.size ≤ 256
    · rw [if_pos (by omega), decide_eq_true h1, Bool.true_and]
      have tl : (if a3 ≥ 1 then (some (decide (a3 ≤ 1099511627775))) else (some false)) = some (decide (1 ≤ a3) && decide (a3 ≤ 1099511627775)) := by
        by_cases h : 1 ≤ a3
        · rw [if_pos h, decide_eq_true h]; rfl
        · rw [if_neg h, decide_eq_false h]; rfl
      rw [tl]
      cases a2
      · rfl
      · rw [if_pos rfl]
        by_cases h2 : a1.size = 0
        · rw [if_pos ((nil_size a1).2 h2), decide_eq_true h2]; rfl
        · rw [if_neg (fun e => h2 ((nil_size a1).1 e)), decide_eq_false h2]; rfl
    · rw [if_neg (by omega), decide_eq_false h1]; rfl
theorem may_is (e : S36) : block_may.f e.f0 e.f1 e.f2 e.f3 = some (mayE e) := by
  unfold block_may.f mayE
  rw [key_is, Option.bind_some]; exact may_tail _ _ _ _
theorem rmay_is (e : S36) : sorrelref09_May.f e.f0 e.f1 e.f2 e.f3 = some (mayE e) := by
  unfold sorrelref09_May.f mayE
  rw [rkey_is, Option.bind_some]; exact may_tail _ _ _ _
theorem rless_is (a b : S36) : sorrelref09_Less.f a.f0 a.f1 a.f2 a.f3 b.f0 b.f1 b.f2 b.f3 = some (LE a b) := by
  unfold sorrelref09_Less.f
  by_cases h : a.f0.toList = b.f0.toList
  · rw [LE_same h, h, less_irrefl, if_neg (by decide), if_pos rfl]
  · rw [LE_key h]; unfold lt
    cases e : Op.bytesLess a.f0.toList b.f0.toList
    · rw [if_neg (by decide), if_neg h]
    · rw [if_pos rfl]
def okFrom : Option S36 → List S36 → Bool
  | _, [] => true
  | none, e :: r => mayE e && okFrom (some e) r
  | some a, e :: r => mayE e && LE a e && okFrom (some e) r
def okB (l : List S36) : Bool := decide (l.length ≤ 4096) && okFrom none l
def prevAt (l : List S36) (i : Nat) : Option S36 := if i = 0 then none else l[i - 1]?
theorem ok_step (l : List S36) (i : Nat) (h : i < l.length) : okFrom (prevAt l i) (l.drop i) = (mayE l[i] && (decide (i = 0) || LE (l[i - 1]'(by omega)) l[i]) && okFrom (prevAt l (i + 1)) (l.drop (i + 1))) := by
  have e : l.drop i = l[i] :: l.drop (i + 1) := (List.getElem_cons_drop h).symm
  have p1 : prevAt l (i + 1) = some l[i] := by unfold prevAt; rw [if_neg (by omega), Nat.add_sub_cancel, List.getElem?_eq_getElem h]
  rw [e, p1]
  by_cases c : i = 0
  · subst c
    have : prevAt l 0 = none := rfl
    rw [this, okFrom]; simp
  · have : prevAt l i = some (l[i - 1]'(by omega)) := by unfold prevAt; rw [if_neg c, List.getElem?_eq_getElem (by omega)]
    rw [this, okFrom, decide_eq_false c, Bool.false_or]
theorem chk_l0 (l : List S36) (hl : l.length ≤ 4096) : ∀ (n i k : Nat), i + n = l.length → n + 1 ≤ k → block_Check.l0 k l l (l.length : Int) (i : Int) = some (if okFrom (prevAt l i) (l.drop i) = true then 0 else 1) := by
  intro n
  induction n with
  | zero =>
    intro i k h hk
    obtain ⟨k, rfl⟩ : ∃ m, k = m + 1 := ⟨k - 1, by omega⟩
    simp only [block_Check.l0]
    rw [if_neg (by omega), List.drop_eq_nil_of_le (by omega)]; rfl
  | succ n ih =>
    intro i k h hk
    obtain ⟨k, rfl⟩ : ∃ m, k = m + 1 := ⟨k - 1, by omega⟩
    have hi : i < l.length := by omega
    simp only [block_Check.l0]
    rw [if_pos (by omega), if_pos (by omega), if_pos (by omega), rdT l i hi, may_is, Option.bind_some, ok_step l i hi]
    cases hm : mayE l[i]
    · rw [if_neg (by decide)]; rfl
    · rw [if_pos rfl, Bool.true_and]
      by_cases c : i = 0
      · subst c
        rw [if_neg (by omega), w64 (by omega) (by omega), show ((0 : Nat) : Int) + 1 = ((0 + 1 : Nat) : Int) from by omega, ih (0 + 1) k (by omega) (by omega)]; rfl
      · rw [if_pos (by omega), w64 (by omega) (by omega), if_pos (by omega), if_pos (by omega), show (i : Int) - 1 = ((i - 1 : Nat) : Int) from by omega, rdT l (i - 1) (by omega), less_is, Option.bind_some, decide_eq_false c, Bool.false_or]
        cases hx : LE (l[i - 1]'(by omega)) l[i]
        · rw [if_neg (by decide)]; rfl
        · rw [if_pos rfl, w64 (by omega) (by omega), show (i : Int) + 1 = ((i + 1 : Nat) : Int) from by omega, ih (i + 1) k (by omega) (by omega), Bool.true_and]
theorem check_is_ (l : List S36) (k : Nat) (hk : 4098 ≤ k) : block_Check.f k l = some (if okB l = true then 0 else 1) := by
  unfold block_Check.f okB
  by_cases h : l.length ≤ 4096
  · rw [if_neg (by omega), decide_eq_true h, Bool.true_and]
    have := chk_l0 l h l.length 0 k (by omega) (by omega)
    rw [List.drop_zero] at this
    exact this
  · rw [if_pos (by omega), decide_eq_false h]; rfl
def lcp : List UInt8 → List UInt8 → Nat
  | a :: x, b :: y => if a = b then lcp x y + 1 else 0
  | _, _ => 0
theorem lcp_le : ∀ a b : List UInt8, lcp a b ≤ a.length ∧ lcp a b ≤ b.length
  | [], _ => by simp [lcp]
  | _ :: _, [] => by simp [lcp]
  | a :: x, b :: y => by
    have := lcp_le x y
    unfold lcp
    split <;> simp <;> omega
theorem lcp_take : ∀ a b : List UInt8, a.take (lcp a b) = b.take (lcp a b)
  | [], _ => by simp [lcp]
  | _ :: _, [] => by simp [lcp]
  | a :: x, b :: y => by
    unfold lcp
    split
    · next h => rw [List.take_succ_cons, List.take_succ_cons, lcp_take x y, h]
    · simp
theorem bt_eq (x y : ByteArray) (i : Nat) (h1 : i < x.data.toList.length) (h2 : i < y.data.toList.length) : bt x (i : Int) = bt y (i : Int) ↔ x.data.toList[i] = y.data.toList[i] := by
  rw [bt_list x i h1, bt_list y i h2]
  constructor
  · intro h; exact UInt8.toNat_inj.1 (by omega)
  · intro h; rw [h]
theorem com_l0 (x y : ByteArray) (hx : x.size ≤ 4611686018427387904) : ∀ (n i k : Nat), x.data.toList.length - i ≤ n → n + 1 ≤ k → i ≤ x.data.toList.length → block_common.l0 k x y (i : Int) = some ((i + lcp (x.data.toList.drop i) (y.data.toList.drop i) : Nat) : Int) := by
  have hlx := len_list x
  have hly := len_list y
  intro n
  induction n with
  | zero =>
    intro i k h hk hi
    obtain ⟨k, rfl⟩ : ∃ m, k = m + 1 := ⟨k - 1, by omega⟩
    simp only [block_common.l0]
    rw [if_neg (by unfold mn; omega), List.drop_eq_nil_of_le (by omega)]; rfl
  | succ n ih =>
    intro i k h hk hi
    obtain ⟨k, rfl⟩ : ∃ m, k = m + 1 := ⟨k - 1, by omega⟩
    simp only [block_common.l0]
    by_cases c : i < x.data.toList.length ∧ i < y.data.toList.length
    · obtain ⟨c1, c2⟩ := c
      have e1 : x.data.toList.drop i = x.data.toList[i] :: x.data.toList.drop (i + 1) := (List.getElem_cons_drop c1).symm
      have e2 : y.data.toList.drop i = y.data.toList[i] :: y.data.toList.drop (i + 1) := (List.getElem_cons_drop c2).symm
      rw [if_pos (by unfold mn; omega), if_pos (by omega), if_pos (by omega), if_pos (by omega), e1, e2, lcp]
      by_cases g : x.data.toList[i] = y.data.toList[i]
      · rw [if_pos ((bt_eq x y i c1 c2).2 g), if_pos g, w64 (by omega) (by omega), show (i : Int) + 1 = ((i + 1 : Nat) : Int) from by omega, ih (i + 1) k (by omega) (by omega) (by omega)]
        congr 1; omega
      · rw [if_neg (fun e => g ((bt_eq x y i c1 c2).1 e)), if_neg g]; rfl
    · rw [if_neg (by unfold mn; omega)]
      by_cases c1 : i < x.data.toList.length
      · rw [List.drop_eq_nil_of_le (show y.data.toList.length ≤ i by omega)]
        cases x.data.toList.drop i <;> rfl
      · rw [List.drop_eq_nil_of_le (show x.data.toList.length ≤ i by omega)]; rfl
theorem com_is (x y : ByteArray) (k : Nat) (hx : x.size ≤ 4611686018427387904) (hk : x.size + 1 ≤ k) : block_common.f k x y = some ((lcp x.data.toList y.data.toList : Nat) : Int) := by
  unfold block_common.f
  have hlx := len_list x
  have := com_l0 x y hx x.size 0 k (by omega) (by omega) (by omega)
  simpa using this
end Go.Proofs.Ytcfkmcbmambchaa.VaChk
