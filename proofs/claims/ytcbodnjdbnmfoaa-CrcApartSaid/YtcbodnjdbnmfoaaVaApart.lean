/- Plain laws on what the functions written out for this seat come to. -/
import Derived.Test.YtcbodnjdbnmfoaaXAx1
import Derived.Test.YtcbodnjdbnmfoaaMApart
import Derived.Test.YtcbodnjdbnmfoaaVLib
import Derived.Test.YtcbodnjdbnmfoaaCLib
namespace Go.Proofs.Ytcbodnjdbnmfoaa.VaApart
open Go.RowKit Go.Proofs.Ytcbodnjdbnmfoaa.XA Go.Proofs.Ytcbodnjdbnmfoaa.VLib Go.Proofs.Ytcbodnjdbnmfoaa.CLib Go.Proofs.YtcbodnjdbnmfoaaW.PrintWords Go.Proofs.YtcbodnjdbnmfoaaW.PrintLast Go.Proofs.YtcbodnjdbnmfoaaW.PrintMore
/-! ### crc_More, crc_Sum -/
theorem more_l1 : ∀ (d K j : Nat) (s : ByteArray) (c : BitVec 32) (n i : Int), j + d = 8 → crc_More.l1 (K + d + 1) s (c.toNat : Int) n i (j : Int) = crc_More.l0 K s ((bsteps d c).toNat : Int) n (wrap64 (i + 1)) := by
  intro d
  induction d with
  | zero =>
    intro K j s c n i h
    simp only [crc_More.l1]
    rw [if_neg (by omega)]; rfl
  | succ d ih =>
    intro K j s c n i h
    rw [show K + (d + 1) + 1 = (K + d + 1) + 1 from by omega]
    simp only [crc_More.l1]
    rw [if_pos (by omega), and1_u32, w64 (n := (j : Int) + 1) (by omega) (by omega), ← half, poly_toNat, xor_u32]
    by_cases b : c.toNat % 2 = 1
    · rw [if_pos (by omega), ← bstep_one c b]
      exact ih K (j + 1) s (bstep c) n i (by omega)
    · rw [if_neg (by omega), ← bstep_zero c b]
      exact ih K (j + 1) s (bstep c) n i (by omega)
theorem more_l0 : ∀ (n K i : Nat) (s : ByteArray) (c : BitVec 32), i + n = s.data.toList.length → s.size ≤ 4611686018427387904 →
    crc_More.l0 (10 * n + (K + 1)) s (c.toNat : Int) (s.size : Int) (i : Int) = some ((~~~ crcL c (s.data.toList.drop i)).toNat : Int) := by
  intro n
  induction n with
  | zero =>
    intro K i s c h hs
    have hl := len_list s
    rw [Nat.mul_zero, Nat.zero_add]
    simp only [crc_More.l0]
    have hlt := (~~~ c).isLt
    rw [if_neg (by omega), List.drop_eq_nil_of_le (by omega), ones_xor, w64 (by omega) (by omega)]
    rfl
  | succ n ih =>
    intro K i s c h hs
    have hl := len_list s
    have hlt : i < s.data.toList.length := by omega
    rw [show 10 * (n + 1) + (K + 1) = (10 * n + (K + 1) + 9) + 1 from by omega]
    simp only [crc_More.l0]
    rw [if_pos (by omega), if_pos (by omega), if_pos (by omega), wide_bt s i hlt]
    have hw := (wide (s.data.toList[i]'hlt)).isLt
    rw [Int.emod_eq_of_lt (by omega) (by omega), xor_u32]
    have h1 := more_l1 8 (10 * n + (K + 1)) 0 s (c ^^^ wide (s.data.toList[i]'hlt)) (s.size : Int) (i : Int) rfl
    rw [show 10 * n + (K + 1) + 9 = 10 * n + (K + 1) + 8 + 1 from rfl]
    refine h1.trans ?_
    rw [w64 (by omega) (by omega), drop_cons s i hlt]
    exact ih K (i + 1) s (cbyte c (s.data.toList[i]'hlt)) (by omega) hs
theorem more_is (x : Int) (s : ByteArray) (k : Nat) (hk : 10 * s.size + 1 ≤ k) (hs : s.size ≤ 4611686018427387904) :
    crc_More.f k x s = some ((crcM (BitVec.ofInt 32 x) s.data.toList).toNat : Int) := by
  obtain ⟨K, rfl⟩ : ∃ K, k = 10 * s.size + (K + 1) := ⟨k - 10 * s.size - 1, by omega⟩
  unfold crc_More.f
  have hlt := (BitVec.ofInt 32 x).isLt
  rw [low32, Int.emod_eq_of_lt (by omega) (by omega), ones_xor]
  have h := more_l0 s.size K 0 s (~~~ BitVec.ofInt 32 x) (by rw [len_list]; omega) hs
  exact h
theorem more_bv (c : BitVec 32) (s : ByteArray) (k : Nat) (hk : 10 * s.size + 1 ≤ k) (hs : s.size ≤ 4611686018427387904) :
    crc_More.f k (c.toNat : Int) s = some ((crcM c s.data.toList).toNat : Int) := by
  rw [more_is _ s k hk hs, ofInt_toNat]
theorem sum_is (s : ByteArray) (k : Nat) (hk : 10 * s.size + 1 ≤ k) (hs : s.size ≤ 4611686018427387904) :
    crc_Sum.f k s = some ((crcM 0#32 s.data.toList).toNat : Int) := by
  unfold crc_Sum.f
  rw [more_is _ s k hk hs]
  rfl
theorem sums_is (k : Nat) (hk : 91 ≤ k) : sorrellaw02_sums.f k = some true := by
  unfold sorrellaw02_sums.f
  have e1 : crcM 0#32 (⟨#[49, 50, 51, 52, 53, 54, 55, 56, 57]⟩ : ByteArray).data.toList = 3808858755#32 := by decide +kernel
  have s1 : (⟨#[49, 50, 51, 52, 53, 54, 55, 56, 57]⟩ : ByteArray).size = 9 := rfl
  have s2 : (⟨#[]⟩ : ByteArray).size = 0 := rfl
  rw [sum_is _ k (by rw [s1]; omega) (by rw [s1]; omega), sum_is _ k (by rw [s2]; omega) (by rw [s2]; omega), e1]
  simp only [Option.bind_some]
  rw [if_pos (by decide)]
  rfl
theorem size4 (a b c d : Int) : (strOfNums [a, b, c, d]).size = 4 := by rw [nums_bs, bs_size]; rfl
/-- Two texts of up to four bytes and of one length have the same sum just if they are one. -/
theorem crc_four (x y : List UInt8) (h : x.length = y.length) (h4 : x.length ≤ 4) : crcM 0#32 x = crcM 0#32 y ↔ x = y := by
  refine ⟨fun e => ?_, fun e => by rw [e]⟩
  have e2 := (crcM_diff x y h).1 e
  have e3 := crcL_burst 0 0 (xs2 x y) (by rw [xs2_len x y h]; exact h4) (by simpa using e2)
  apply List.ext_getElem h
  intro i hx hy
  have hz : i < (xs2 x y).length := by rw [xs2_len x y h]; exact hx
  have e4 := e3 _ (List.getElem_mem hz)
  have e5 : (xs2 x y)[i] = x[i] ^^^ y[i] := List.getElem_zipWith
  rw [e5] at e4
  exact UInt8.xor_eq_zero_iff.1 e4
theorem law_apart (a0 a1 a2 a3 b0 b1 b2 b3 n : Int) (_ : 0 ≤ a0 ∧ a0 ≤ 255) (_ : 0 ≤ a1 ∧ a1 ≤ 255) (_ : 0 ≤ a2 ∧ a2 ≤ 255) (_ : 0 ≤ a3 ∧ a3 ≤ 255) (_ : 0 ≤ b0 ∧ b0 ≤ 255) (_ : 0 ≤ b1 ∧ b1 ≤ 255) (_ : 0 ≤ b2 ∧ b2 ≤ 255) (_ : 0 ≤ b3 ∧ b3 ≤ 255)
    (_ : (Lit.int .i64 n).wf = true) (w : World) :
    Calls Try.prog 5 #[.agg #[.int .u8 a0, .int .u8 a1, .int .u8 a2, .int .u8 a3], .agg #[.int .u8 b0, .int .u8 b1, .int .u8 b2, .int .u8 b3], .int .i64 n] w fun e w' => e = .returned (.bool true) ∧ Below w.heap.size w w' := by
  obtain ⟨r, hr, e⟩ := and_small n 3 (by decide)
  rw [show ((3 : Nat) : Int) = (3 : Int) from rfl] at e
  have hj : (1 + (r : Int)).toNat = r + 1 := by omega
  have ea : ∀ s : ByteArray, (s.extract 0 (1 + (r : Int)).toNat).data.toList = s.data.toList.take (r + 1) := fun s => by rw [extract_list, hj]; rfl
  have sz : ∀ s : ByteArray, (s.extract 0 (1 + (r : Int)).toNat).size ≤ r + 1 := fun s => by rw [← len_list, ea, List.length_take]; omega
  have s1 := sz (strOfNums [a0, a1, a2, a3])
  have s2 := sz (strOfNums [b0, b1, b2, b3])
  have l1 : (strOfNums [a0, a1, a2, a3]).data.toList.length = 4 := by rw [len_list, size4]
  have l2 : (strOfNums [b0, b1, b2, b3]).data.toList.length = 4 := by rw [len_list, size4]
  refine apart_calls 100 a0 a1 a2 a3 b0 b1 b2 b3 n (1 + (r : Int)) _ _ w (by rw [e]) (by omega) (by omega) (size4 _ _ _ _) (size4 _ _ _ _) (sum_is _ 100 (by omega) (by omega)) (sum_is _ 100 (by omega) (by omega)) (sums_is 100 (by omega)) ?_
  rw [toList_data, toList_data, ea, ea, Bool.eq_iff_iff, beq_iff_eq, beq_iff_eq, ← crc_four _ _ (by rw [List.length_take, List.length_take, l1, l2]) (by rw [List.length_take]; omega)]
  refine ⟨fun h => BitVec.eq_of_toNat_eq (by omega), fun h => by rw [h]⟩
end Go.Proofs.Ytcbodnjdbnmfoaa.VaApart
