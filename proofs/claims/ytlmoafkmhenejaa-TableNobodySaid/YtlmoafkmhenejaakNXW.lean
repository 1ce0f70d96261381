import Derived.Lib.SliceRun
import Derived.Test.YtlmoafkmhenejaakNWMore
import Derived.WalkKit
import Derived.StillTailTactics
namespace Go.Proofs.YtlmoafkmhenejaaW.PrintWords
end Go.Proofs.YtlmoafkmhenejaaW.PrintWords
namespace Go.Proofs.Ytlmoafkmhenejaa.XW
open Go.RowKit Go.Proofs.YtlmoafkmhenejaaW.PrintWords
def smx (a b : ByteArray) : ByteArray := if Op.bytesLess a.toList b.toList = true then b else a
theorem max2_str (a b : ByteArray) : Builtin.max2 (.string a) (.string b) = pure (.string (smx a b)) := by
  unfold smx
  by_cases h : Op.bytesLess a.toList b.toList = true
  · simp [Builtin.max2, Op.stringOp, asBool, h]
  · simp [Builtin.max2, Op.stringOp, asBool, h]
theorem unary_xor_u32 (n : Int) : Op.unary .xor (.int .u32 n) = Op.intBits .xor .u32 4294967295 n := rfl
theorem less_total : ∀ a b : List UInt8, (Op.bytesLess a b || a == b) = !Op.bytesLess b a
  | [], [] => rfl
  | [], _ :: _ => rfl
  | _ :: _, [] => rfl
  | x :: a, y :: b => by
    have ih := less_total a b
    have hl : ∀ u v : UInt8, decide (u < v) = decide (u.toNat < v.toNat) := fun u v => decide_eq_decide.2 UInt8.lt_iff_toNat_lt
    have he : ∀ u v : UInt8, (u == v) = decide (u.toNat = v.toNat) := fun u v => by
      rw [Bool.eq_iff_iff]; simp [UInt8.toNat_inj]
    simp only [Op.bytesLess, List.cons_beq_cons, hl, he]
    rcases Nat.lt_trichotomy x.toNat y.toNat with h | h | h
    · have h1 : ¬ y.toNat < x.toNat := by omega
      have h2 : ¬ y.toNat = x.toNat := by omega
      have h3 : ¬ x.toNat = y.toNat := by omega
      simp [h, h1, h2, h3]
    · rw [h]; simpa using ih
    · have h1 : ¬ x.toNat < y.toNat := by omega
      have h2 : ¬ y.toNat = x.toNat := by omega
      have h3 : ¬ x.toNat = y.toNat := by omega
      simp [h, h1, h2, h3]
theorem leq_str (t : TypeId) (a b : ByteArray) : binOp .leq t (.string a) (.string b) = pure (.bool (!Op.bytesLess b.toList a.toList)) := by
  rw [← less_total]; simp [binOp, Op.stringOp]
theorem geq_str (t : TypeId) (a b : ByteArray) : binOp .geq t (.string a) (.string b) = pure (.bool (!Op.bytesLess a.toList b.toList)) := by
  simp [binOp, Op.stringOp]
theorem gtr_str (t : TypeId) (a b : ByteArray) : binOp .gtr t (.string a) (.string b) = pure (.bool (Op.bytesLess b.toList a.toList)) := by
  have h : binOp .gtr t (.string a) (.string b) = pure (.bool !(Op.bytesLess a.toList b.toList || a.toList == b.toList)) := by simp [binOp, Op.stringOp]
  rw [h, less_total, Bool.not_not]
theorem isE1 (l : List UInt8) : l.isEmpty = !(l != []) := by cases l <;> rfl
theorem isE2 (l : List UInt8) : (!l.isEmpty) = (l != []) := by cases l <;> rfl
theorem isE3 (l : List UInt8) : l.isEmpty = (l == []) := by cases l <;> rfl
theorem isE4 (l : List UInt8) : (!l.isEmpty) = !(l == []) := by cases l <;> rfl
end Go.Proofs.Ytlmoafkmhenejaa.XW
