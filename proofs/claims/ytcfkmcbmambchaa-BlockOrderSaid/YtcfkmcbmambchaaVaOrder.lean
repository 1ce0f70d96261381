/- Plain laws on what the functions written out for this seat come to. -/
import Derived.Test.YtcfkmcbmambchaaXStatBlockOrder
import Derived.Test.YtcfkmcbmambchaaVLib
import Derived.Test.YtcfkmcbmambchaaXW
namespace Go.Proofs.Ytcfkmcbmambchaa.VaOrder
open Go.RowKit Go.Proofs.Ytcfkmcbmambchaa.XA Go.Proofs.Ytcfkmcbmambchaa.VLib Go.Proofs.Ytcfkmcbmambchaa.XW Go.Proofs.YtcfkmcbmambchaaW.PrintWords Go.Proofs.YtcfkmcbmambchaaW.PrintLast Go.Proofs.YtcfkmcbmambchaaW.PrintMore
/-! ### the order of texts -/
theorem less_irrefl : ∀ a : List UInt8, Op.bytesLess a a = false
  | [] => rfl
  | x :: a => by
    have := less_irrefl a
    simp only [Op.bytesLess, this, Bool.and_false, Bool.or_false, decide_eq_false_iff_not, UInt8.lt_iff_toNat_lt]
    omega
theorem less_trans : ∀ a b c : List UInt8, Op.bytesLess a b = true → Op.bytesLess b c = true → Op.bytesLess a c = true
  | [], [], _, h, _ => by simp [Op.bytesLess] at h
  | [], _ :: _, [], _, h => by simp [Op.bytesLess] at h
  | [], _ :: _, _ :: _, _, _ => rfl
  | _ :: _, [], _, h, _ => by simp [Op.bytesLess] at h
  | _ :: _, _ :: _, [], _, h => by simp [Op.bytesLess] at h
  | x :: a, y :: b, z :: c, h1, h2 => by
    have ih := less_trans a b c
    simp only [Op.bytesLess, Bool.or_eq_true, Bool.and_eq_true, decide_eq_true_eq, beq_iff_eq, UInt8.lt_iff_toNat_lt] at h1 h2 ⊢
    rcases h1 with h1 | ⟨rfl, h1⟩
    · rcases h2 with h2 | ⟨rfl, h2⟩
      · exact .inl (by omega)
      · exact .inl h1
    · rcases h2 with h2 | ⟨rfl, h2⟩
      · exact .inl h2
      · exact .inr ⟨rfl, ih h1 h2⟩
def lt (a b : ByteArray) : Bool := Op.bytesLess a.toList b.toList
theorem lt_irrefl (a : ByteArray) : lt a a = false := less_irrefl _
theorem lt_trans {a b c : ByteArray} (h1 : lt a b = true) (h2 : lt b c = true) : lt a c = true := less_trans _ _ _ h1 h2
theorem lt_tri (a b : ByteArray) : lt a b = true ∨ a = b ∨ lt b a = true := by
  have h := less_total a.toList b.toList
  cases h1 : lt a b
  · cases h2 : lt b a
    · refine .inr (.inl ?_)
      have e1 : Op.bytesLess a.toList b.toList = false := h1
      have e2 : Op.bytesLess b.toList a.toList = false := h2
      rw [e1, e2] at h
      simp only [Bool.false_or, Bool.not_false, beq_iff_eq] at h
      exact toList_inj.1 h
    · exact .inr (.inr rfl)
  · exact .inl rfl
theorem lt_asymm {a b : ByteArray} (h : lt a b = true) : lt b a = false := by
  cases h2 : lt b a
  · rfl
  · have := lt_trans h h2; rw [lt_irrefl] at this; cases this
theorem nlt_trans {a b c : ByteArray} (h1 : lt a b = true) (h2 : lt c b = false) : lt c a = false := by
  cases h : lt c a
  · rfl
  · have := lt_trans h h1; rw [this] at h2; cases h2
theorem le_lt {a b c : ByteArray} (h1 : lt b a = false) (h2 : lt b c = true) : lt a c = true := by
  rcases lt_tri a b with h | rfl | h
  · exact lt_trans h h2
  · exact h2
  · rw [h] at h1; cases h1

/-! ### the order of entries -/
def LE (a b : S36) : Bool := if a.f0.toList = b.f0.toList then decide (a.f3 > b.f3) else lt a.f0 b.f0
theorem less_is (a b : S36) : block_Less.f a.f0 a.f1 a.f2 a.f3 b.f0 b.f1 b.f2 b.f3 = some (LE a b) := by
  unfold block_Less.f LE lt
  by_cases h : a.f0.toList = b.f0.toList
  · rw [if_pos h, if_pos h]
  · rw [if_neg h, if_neg h]
theorem LE_same {a b : S36} (h : a.f0.toList = b.f0.toList) : LE a b = decide (a.f3 > b.f3) := if_pos h
theorem LE_key {a b : S36} (h : ¬ a.f0.toList = b.f0.toList) : LE a b = lt a.f0 b.f0 := if_neg h
theorem LE_irrefl (a : S36) : LE a a = false := by rw [LE_same rfl, decide_eq_false (by omega)]
theorem LE_trans {a b c : S36} (h1 : LE a b = true) (h2 : LE b c = true) : LE a c = true := by
  by_cases e1 : a.f0.toList = b.f0.toList
  · by_cases e2 : b.f0.toList = c.f0.toList
    · rw [LE_same e1] at h1; rw [LE_same e2] at h2; rw [LE_same (e1.trans e2)]
      have := of_decide_eq_true h1; have := of_decide_eq_true h2; exact decide_eq_true (by omega)
    · rw [LE_key e2] at h2; rw [LE_key (fun e => e2 (e1.symm.trans e))]
      unfold lt at *; rw [e1]; exact h2
  · by_cases e2 : b.f0.toList = c.f0.toList
    · rw [LE_key e1] at h1; rw [LE_key (fun e => e1 (e.trans e2.symm))]
      unfold lt at *; rw [← e2]; exact h1
    · rw [LE_key e1] at h1; rw [LE_key e2] at h2
      have h3 := lt_trans h1 h2
      have e3 : ¬ a.f0.toList = c.f0.toList := fun e => by
        rw [toList_inj.1 e, lt_irrefl] at h3; cases h3
      rw [LE_key e3]; exact h3
theorem LE_asymm {a b : S36} (h : LE a b = true) : LE b a = false := by
  cases h2 : LE b a
  · rfl
  · have := LE_trans h h2; rw [LE_irrefl] at this; cases this
theorem LE_tri (a b : S36) : LE a b = true ∨ (a.f0.toList = b.f0.toList ∧ a.f3 = b.f3) ∨ LE b a = true := by
  by_cases e : a.f0.toList = b.f0.toList
  · rw [LE_same e, LE_same e.symm, decide_eq_true_eq, decide_eq_true_eq]
    rcases Int.lt_trichotomy a.f3 b.f3 with h | h | h
    · exact .inr (.inr h)
    · exact .inr (.inl ⟨e, h⟩)
    · exact .inl h
  · rw [LE_key e, LE_key (fun x => e x.symm)]
    rcases lt_tri a.f0 b.f0 with h | h | h
    · exact .inl h
    · exact absurd (by rw [h]) e
    · exact .inr (.inr h)
theorem awake_300 : sorrellaw09_awake.f 300 = some true := by kernel_rfl
theorem awake_is (k : Nat) (hk : 300 ≤ k) : sorrellaw09_awake.f k = some true := at_rounds (g := fun k => sorrellaw09_awake.f k) sorrellaw09_awake.mono hk awake_300
theorem order_is (a b c : S36) (k : Nat) (hk : 400 ≤ k) : sorrellaw09_BlockOrder.f k a.f0 a.f1 a.f2 a.f3 b.f0 b.f1 b.f2 b.f3 c.f0 c.f1 c.f2 c.f3 = some true := by
  obtain ⟨k, rfl⟩ : ∃ m, k = m + 3 := ⟨k - 3, by omega⟩
  have tail : ∀ j, 300 ≤ j → sorrellaw09_BlockOrder.j2 (j + 1) false a.f0 a.f1 a.f2 a.f3 b.f0 b.f1 b.f2 b.f3 c.f0 c.f1 c.f2 c.f3 = some true := by
    intro j hj
    simp only [sorrellaw09_BlockOrder.j2]
    rw [if_neg (by decide), less_is a b, less_is b c, less_is a c, awake_is j hj]
    simp only [Option.bind_some]
    cases h1 : LE a b
    · rfl
    · cases h2 : LE b c
      · rfl
      · rw [LE_trans h1 h2]; rfl
  have same : (a.f0.toList = b.f0.toList ∧ a.f3 = b.f3) → LE a b = false ∧ LE b a = false := fun h => by
    rw [LE_same h.1, LE_same h.1.symm, decide_eq_false (by omega), decide_eq_false (by omega)]; exact ⟨rfl, rfl⟩
  have j1 : ∀ (s : Bool), (s = true ↔ (a.f0.toList = b.f0.toList ∧ a.f3 = b.f3)) → ∀ j, 300 ≤ j → sorrellaw09_BlockOrder.j1 (j + 2) s a.f0 a.f1 a.f2 a.f3 b.f0 b.f1 b.f2 b.f3 c.f0 c.f1 c.f2 c.f3 = some true := by
    intro s hs j hj
    simp only [sorrellaw09_BlockOrder.j1]
    rw [less_is a b, less_is b a]
    simp only [Option.bind_some]
    rcases LE_tri a b with h | h | h
    · have hf : s = false := by
        cases e : s
        · rfl
        · have := (same (hs.1 e)).1; rw [h] at this; cases this
      rw [h, if_pos rfl, hf]; exact tail j hj
    · rw [(same h).1, (same h).2, if_neg (by decide), hs.2 h]; exact tail j hj
    · have hf : s = false := by
        cases e : s
        · rfl
        · have := (same (hs.1 e)).2; rw [h] at this; cases this
      rw [LE_asymm h, if_neg (by decide), h, hf]; exact tail j hj
  have j0 : ∀ j, 300 ≤ j → sorrellaw09_BlockOrder.j0 (j + 3) false a.f0 a.f1 a.f2 a.f3 b.f0 b.f1 b.f2 b.f3 c.f0 c.f1 c.f2 c.f3 = some true := by
    intro j hj
    simp only [sorrellaw09_BlockOrder.j0]
    rw [if_neg (by decide)]
    by_cases e : a.f0.toList = b.f0.toList
    · rw [if_pos e]
      exact j1 _ (by rw [beq_iff_eq]; exact ⟨fun h => ⟨e, h⟩, fun h => h.2⟩) j hj
    · rw [if_neg e]
      exact j1 false (by constructor; · intro h; cases h
                         · intro h; exact absurd h.1 e) j hj
  unfold sorrellaw09_BlockOrder.f
  rw [less_is a a, LE_irrefl, less_is a b, less_is b a]
  simp only [Option.bind_some]
  rw [if_neg (by decide)]
  cases h1 : LE a b
  · rw [if_neg (by decide)]; exact j0 k (by omega)
  · rw [if_pos rfl, LE_asymm h1]; exact j0 k (by omega)
theorem law_order : sorrellaw09_BlockOrder.Pure := fun a b c _ _ _ => ⟨400, order_is a b c 400 (Nat.le_refl _)⟩
end Go.Proofs.Ytcfkmcbmambchaa.VaOrder
