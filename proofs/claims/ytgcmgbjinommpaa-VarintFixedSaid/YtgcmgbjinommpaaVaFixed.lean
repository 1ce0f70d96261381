/- Plain laws on what the functions written out for this seat come to. -/
import Derived.Test.YtgcmgbjinommpaaXAx1
import Derived.Test.YtgcmgbjinommpaaVLib
namespace Go.Proofs.Ytgcmgbjinommpaa.VaFixed
open Go.RowKit Go.Proofs.Ytgcmgbjinommpaa.XA Go.Proofs.Ytgcmgbjinommpaa.VLib Go.Proofs.YtgcmgbjinommpaaW.PrintWords Go.Proofs.YtgcmgbjinommpaaW.PrintLast Go.Proofs.YtgcmgbjinommpaaW.PrintMore
/-! ### four bytes of a number, the lowest first -/
def fix4 (n : Nat) : List UInt8 := [UInt8.ofNat n, UInt8.ofNat (n / 256), UInt8.ofNat (n / 65536), UInt8.ofNat (n / 16777216)]
theorem fix4_len (n : Nat) : (fix4 n).length = 4 := rfl
theorem dig_u8 (n : Nat) (d : Int) (m : Nat) (h : d = ((n / m : Nat) : Int) % 256) : UInt8.ofNat d.toNat = UInt8.ofNat (n / m) := by
  subst h
  rw [show (((n / m : Nat) : Int) % 256).toNat = (n / m) % 256 from by omega]
  apply UInt8.toNat_inj.1
  simp
theorem and255 (x : Int) (h0 : 0 ≤ x) (h1 : x < 9223372036854775808) : Go.bits .and .i64 x 255 = x % 256 :=
  bits_mask .i64 63 (by decide) wraps_i64 8 (by decide) x h0 (by simpa using h1)
theorem nums4 (n : Nat) (a b c d : Int) (ha : a = ((n / 1 : Nat) : Int) % 256) (hb : b = ((n / 256 : Nat) : Int) % 256) (hc : c = ((n / 65536 : Nat) : Int) % 256) (hd : d = ((n / 16777216 : Nat) : Int) % 256) : strOfNums [a, b, c, d] = bs (fix4 n) := by
  rw [nums_bs]
  simp only [List.map_cons, List.map_nil]
  rw [dig_u8 n a 1 ha, dig_u8 n b 256 hb, dig_u8 n c 65536 hc, dig_u8 n d 16777216 hd, Nat.div_one]
  rfl
theorem ref4 (n : Nat) (h : n < 9223372036854775808) : strOfNums ([(Go.bits .and .i64 (n : Int) 255) % 256, (Go.bits .and .i64 ((n : Int) / 256) 255) % 256, (Go.bits .and .i64 ((n : Int) / 65536) 255) % 256, (Go.bits .and .i64 ((n : Int) / 16777216) 255) % 256] : List Int) = bs (fix4 n) := by
  rw [and255 _ (by omega) (by omega), and255 _ (by omega) (by omega), and255 _ (by omega) (by omega), and255 _ (by omega) (by omega)]
  exact nums4 n _ _ _ _ (by omega) (by omega) (by omega) (by omega)
theorem fix4_val (n : Nat) (h : n < 4294967296) : (UInt8.ofNat n).toNat + (UInt8.ofNat (n / 256)).toNat * 256 + (UInt8.ofNat (n / 65536)).toNat * 65536 + (UInt8.ofNat (n / 16777216)).toNat * 16777216 = n := by
  simp; omega
theorem fix_is (n : Nat) (h : n ≤ 4294967295) : varint_Fix.f (n : Int) = some (bs (fix4 n), 0) := by
  unfold varint_Fix.f varint_Fix.dig
  rw [if_neg (by omega), if_neg (by omega), nums4 n _ _ _ _ (by simp) (by simp) (by simp) (by simp)]
theorem fix_no (n : Int) (h : n < 0 ∨ 4294967295 < n) : varint_Fix.f n = some (bs [], 1) := by
  unfold varint_Fix.f
  by_cases c : n < 0
  · rw [if_pos c]; rfl
  · rw [if_neg c, if_pos (by omega)]; rfl
theorem step_fix (x b : Int) (i : Nat) (hi : i ≤ 3) (h0 : 0 ≤ x) (h1 : x < 2 ^ (8 * i)) (b0 : 0 ≤ b) (b1 : b ≤ 255) :
    Go.bits .or .i64 x (shl .i64 (wrap64 b) (wrap64 (8 * (i : Int)))) = x + b * 2 ^ (8 * i) := by
  have hp : (2 : Int) ^ (8 * i) ≤ 2 ^ 24 := by
    have : (2 : Nat) ^ (8 * i) ≤ 2 ^ 24 := Nat.pow_le_pow_right (by decide) (by omega)
    exact_mod_cast this
  have hpos : (0 : Int) < 2 ^ (8 * i) := Int.pow_pos (by decide)
  have hb : b * 2 ^ (8 * i) ≤ 255 * 2 ^ 24 := Int.le_trans (Int.mul_le_mul_of_nonneg_right b1 (by omega)) (Int.mul_le_mul_of_nonneg_left hp (by decide))
  have hb0 : 0 ≤ b * 2 ^ (8 * i) := Int.mul_nonneg b0 (by omega)
  rw [w64 (by omega) (by omega), w64 (by omega) (by omega)]
  have e2 : shl .i64 b (8 * (i : Int)) = b * 2 ^ (8 * i) := by
    unfold shl
    rw [show (8 * (i : Int)).toNat = 8 * i from by omega, Nat.min_eq_left (by show 8 * i ≤ 64; omega)]
    exact wraps_i64 _ hb0 (by omega)
  rw [e2]
  exact or_low x _ (8 * i) h0 h1 hb0 (Int.mul_emod_left _ _) (by omega) (by omega)
/-- The number of the four bytes that bytes begin with. -/
def valF (l : List UInt8) : Int := ((l.getD 0 0).toNat : Int) + ((l.getD 1 0).toNat : Int) * 256 + ((l.getD 2 0).toNat : Int) * 65536 + ((l.getD 3 0).toNat : Int) * 16777216
theorem bt_getD (s : ByteArray) (i : Nat) : bt s (i : Int) = ((s.data.toList.getD i 0).toNat : Int) := by
  by_cases h : i < s.data.toList.length
  · rw [bt_list s i h, List.getD_eq_getElem?_getD, List.getElem?_eq_getElem h]; rfl
  · rw [List.getD_eq_getElem?_getD, List.getElem?_eq_none (by omega)]
    have hl := len_list s
    unfold bt; rw [dif_neg (by simp; omega)]; rfl
theorem tfix_short (s : ByteArray) (k : Nat) (h : s.size < 4) : varint_TakeFix.f k s = some (0, 10) := by
  unfold varint_TakeFix.f; rw [if_pos (by omega)]
theorem tfix_is (s : ByteArray) (k : Nat) (h : 4 ≤ s.size) (hk : 5 ≤ k) : varint_TakeFix.f k s = some (valF s.data.toList, 0) := by
  obtain ⟨k, rfl⟩ : ∃ m, k = m + 5 := ⟨k - 5, by omega⟩
  unfold varint_TakeFix.f
  rw [if_neg (by omega)]
  have b0 := bt_range s 0
  have b1 := bt_range s 1
  have b2 := bt_range s 2
  have b3 := bt_range s 3
  have q0 : Go.bits .or .i64 0 (shl .i64 (wrap64 (bt s 0)) (wrap64 (8 * 0))) = bt s 0 := by
    have := step_fix 0 (bt s 0) 0 (by omega) (by omega) (by decide) b0.1 b0.2
    simpa using this
  have q1 : Go.bits .or .i64 (bt s 0) (shl .i64 (wrap64 (bt s 1)) (wrap64 (8 * 1))) = bt s 0 + bt s 1 * 256 := step_fix (bt s 0) (bt s 1) 1 (by omega) b0.1 (by omega) b1.1 b1.2
  have q2 : Go.bits .or .i64 (bt s 0 + bt s 1 * 256) (shl .i64 (wrap64 (bt s 2)) (wrap64 (8 * 2))) = bt s 0 + bt s 1 * 256 + bt s 2 * 65536 := step_fix (bt s 0 + bt s 1 * 256) (bt s 2) 2 (by omega) (by omega) (by omega) b2.1 b2.2
  have q3 : Go.bits .or .i64 (bt s 0 + bt s 1 * 256 + bt s 2 * 65536) (shl .i64 (wrap64 (bt s 3)) (wrap64 (8 * 3))) = bt s 0 + bt s 1 * 256 + bt s 2 * 65536 + bt s 3 * 16777216 := step_fix _ (bt s 3) 3 (by omega) (by omega) (by omega) b3.1 b3.2
  have w1 : wrap64 (0 + 1) = 1 := w64 (by omega) (by omega)
  have w2 : wrap64 (1 + 1) = 2 := w64 (by omega) (by omega)
  have w3 : wrap64 (2 + 1) = 3 := w64 (by omega) (by omega)
  have w4 : wrap64 (3 + 1) = 4 := w64 (by omega) (by omega)
  have z0 : (0 : Int) ≤ wrap64 (8 * 0) := by rw [w64 (by omega) (by omega)]; omega
  have z1 : (0 : Int) ≤ wrap64 (8 * 1) := by rw [w64 (by omega) (by omega)]; omega
  have z2 : (0 : Int) ≤ wrap64 (8 * 2) := by rw [w64 (by omega) (by omega)]; omega
  have z3 : (0 : Int) ≤ wrap64 (8 * 3) := by rw [w64 (by omega) (by omega)]; omega
  simp only [varint_TakeFix.l0]
  rw [if_pos (by omega), if_pos (by omega), if_pos (by omega), if_pos z0, q0, w1, if_pos (by omega), if_pos (by omega), if_pos (by omega), if_pos z1, q1, w2, if_pos (by omega), if_pos (by omega), if_pos (by omega), if_pos z2, q2, w3,
    if_pos (by omega), if_pos (by omega), if_pos (by omega), if_pos z3, q3, w4, if_neg (by omega)]
  unfold valF
  rw [← bt_getD, ← bt_getD, ← bt_getD, ← bt_getD]
  rfl
theorem valF_fix (n : Nat) (l : List UInt8) (h : n < 4294967296) : valF (fix4 n ++ l) = (n : Int) := by
  have := fix4_val n h
  unfold valF fix4
  simp only [List.cons_append, List.nil_append, List.getD_cons_zero, List.getD_cons_succ]
  omega
theorem rfix_is (n : Nat) (h : n ≤ 4294967295) : sorrelref01_Fix.f (n : Int) = some (bs (fix4 n), 0) := by
  unfold sorrelref01_Fix.f
  rw [if_neg (by omega), if_neg (by omega), ref4 n (by omega)]
theorem rfix_no (n : Int) (h : n < 0 ∨ 4294967295 < n) : sorrelref01_Fix.f n = some (bs [], 1) := by
  unfold sorrelref01_Fix.f
  by_cases c : n < 0
  · rw [if_pos c]; rfl
  · rw [if_neg c, if_pos (by omega)]; rfl
theorem rtfix_is (s : ByteArray) (h : 4 ≤ s.size) : sorrelref01_TakeFix.f s = some (valF s.data.toList, 0) := by
  unfold sorrelref01_TakeFix.f
  have b0 := bt_range s 0
  have b1 := bt_range s 1
  have b2 := bt_range s 2
  have b3 := bt_range s 3
  rw [if_neg (by omega), if_pos (by omega), if_pos (by omega), if_pos (by omega), if_pos (by omega)]
  rw [w64 (n := bt s 0) (by omega) (by omega), w64 (n := bt s 1) (by omega) (by omega), w64 (n := bt s 2) (by omega) (by omega), w64 (n := bt s 3) (by omega) (by omega), w64 (n := bt s 1 * 256) (by omega) (by omega), w64 (n := bt s 2 * 65536) (by omega) (by omega), w64 (n := bt s 3 * 16777216) (by omega) (by omega)]
  rw [or_low (bt s 0) (bt s 1 * 256) 8 b0.1 (by omega) (by omega) (Int.mul_emod_left _ _) (by omega) (by omega)]
  rw [or_low (bt s 0 + bt s 1 * 256) (bt s 2 * 65536) 16 (by omega) (by omega) (by omega) (Int.mul_emod_left _ _) (by omega) (by omega)]
  rw [or_low (bt s 0 + bt s 1 * 256 + bt s 2 * 65536) (bt s 3 * 16777216) 24 (by omega) (by omega) (by omega) (Int.mul_emod_left _ _) (by omega) (by omega)]
  unfold valF
  rw [← bt_getD, ← bt_getD, ← bt_getD, ← bt_getD]
  rfl
theorem fixed_j0 (x : Int) (s b : ByteArray) (e : Int) (h : e = 0 → b.size = 4 ∧ valF (b.data.toList ++ s.data.toList) = x) (hs : s.size ≤ 140737488351232) : sorrellaw01_VarintFixed.j0 11 x s b e false = some true := by
  simp only [sorrellaw01_VarintFixed.j0]
  have e1 : valF (⟨#[1, 2, 0, 128]⟩ : ByteArray).data.toList = 2147484161 := by decide +kernel
  rw [if_neg (by simp), tfix_is _ 10 (by decide) (by omega), e1]
  simp only [Option.bind_some]
  by_cases c : e = 0
  · obtain ⟨h1, h2⟩ := h c
    rw [if_pos c, if_pos (by omega), tfix_is _ 10 (by rw [size_append]; omega) (by omega), list_append, h2]
    simp
  · rw [if_neg c]; rfl
theorem law_fixed : sorrellaw01_VarintFixed.Pure := by
  intro n s _ hs
  refine ⟨11, ?_⟩
  unfold sorrellaw01_VarintFixed.f
  have ht : varint_TakeFix.f 11 s = sorrelref01_TakeFix.f s := by
    by_cases c : 4 ≤ s.size
    · rw [tfix_is s 11 c (by omega), rtfix_is s c]
    · rw [tfix_short s 11 (by omega)]; unfold sorrelref01_TakeFix.f; rw [if_pos (by omega)]
  obtain ⟨q, hq⟩ : ∃ q, sorrelref01_TakeFix.f s = some q := by
    by_cases c : 4 ≤ s.size
    · exact ⟨_, rtfix_is s c⟩
    · exact ⟨(0, 10), by unfold sorrelref01_TakeFix.f; rw [if_pos (by omega)]⟩
  rw [ht, hq]
  by_cases c : 0 ≤ n ∧ n ≤ 4294967295
  · obtain ⟨m, rfl⟩ := Int.eq_ofNat_of_zero_le c.1
    rw [fix_is m (by omega), rfix_is m (by omega)]
    simp only [Option.bind_some, if_true, bne_self_eq_false]
    exact fixed_j0 _ s _ 0 (fun _ => ⟨by rw [bs_size, fix4_len], by rw [bs_list]; exact valF_fix m _ (by omega)⟩) hs
  · rw [fix_no n (by omega), rfix_no n (by omega)]
    simp only [Option.bind_some, if_true, bne_self_eq_false]
    exact fixed_j0 _ s _ 1 (fun h => by simp at h) hs
end Go.Proofs.Ytgcmgbjinommpaa.VaFixed
