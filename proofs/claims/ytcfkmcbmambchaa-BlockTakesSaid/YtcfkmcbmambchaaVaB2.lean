/- Plain laws on what the functions written out for this seat come to. -/
import Derived.Test.YtcfkmcbmambchaaXAx9
import Derived.Test.YtcfkmcbmambchaaXAx10
import Derived.Test.YtcfkmcbmambchaaVLib
import Derived.Test.YtcfkmcbmambchaaCLib
import Derived.Test.YtcfkmcbmambchaaVaB1
namespace Go.Proofs.Ytcfkmcbmambchaa.VaB2
open Go.RowKit Go.Proofs.Ytcfkmcbmambchaa.XA Go.Proofs.Ytcfkmcbmambchaa.VLib Go.Proofs.Ytcfkmcbmambchaa.CLib Go.Proofs.Ytcfkmcbmambchaa.VaB1 Go.Proofs.YtcfkmcbmambchaaW.PrintWords Go.Proofs.YtcfkmcbmambchaaW.PrintLast Go.Proofs.YtcfkmcbmambchaaW.PrintMore
/-! ### sorrelref01_Put -/
theorem rput_digit (n : Nat) (hb : n < 9223372036854775808) : UInt8.ofNat ((Go.bits .or .i64 (Go.bits .and .i64 (n : Int) 127) 128) % 256).toNat = UInt8.ofNat (n % 128 + 128) := by
  have e : ((Go.bits .or .i64 (Go.bits .and .i64 (n : Int) 127) 128) % 256) = ((n % 128 + 128 : Nat) : Int) := by
    rw [and127_i64 _ (by omega) (by omega), or128_i64 _ (by omega) (by omega)]; omega
  rw [e, Int.toNat_natCast]
theorem rput_loop : ∀ (f k n : Nat) (xs : List Int), n < 9223372036854775808 → n < 128 ^ (f + 1) → xs.length + f < 1000 → f < k →
    sorrelref01_Put.l0 k (n : Int) xs = some (bs ((xs.map fun n => UInt8.ofNat n.toNat) ++ enc n), 0) := by
  have last : ∀ (k n : Nat) (xs : List Int), n < 128 → xs.length < 1000 → 0 < k → sorrelref01_Put.l0 k (n : Int) xs = some (bs ((xs.map fun n => UInt8.ofNat n.toNat) ++ enc n), 0) := by
    intro k n xs hn hl hk
    obtain ⟨k, rfl⟩ : ∃ m, k = m + 1 := ⟨k - 1, by omega⟩
    simp only [sorrelref01_Put.l0]
    rw [if_neg (by omega), if_pos (by omega), nums_bs, List.map_append, enc_lt hn]
    simp only [List.map_cons, List.map_nil]
    rw [show ((n : Int) % 256).toNat = n from by omega]
  intro f
  induction f with
  | zero => intro k n xs _ h hl hk; exact last k n xs (by simpa using h) (by omega) (by omega)
  | succ f ih =>
    intro k n xs hb h hl hk
    by_cases c : n < 128
    · exact last k n xs c (by omega) (by omega)
    · obtain ⟨k, rfl⟩ : ∃ m, k = m + 1 := ⟨k - 1, by omega⟩
      simp only [sorrelref01_Put.l0]
      rw [if_pos (by omega), if_pos (by omega), show (n : Int) / 128 = ((n / 128 : Nat) : Int) from by omega]
      have hn : n / 128 < 128 ^ (f + 1) := by
        rw [Nat.div_lt_iff_lt_mul (by decide)]
        rwa [Nat.pow_succ] at h
      rw [ih k (n / 128) _ (by omega) hn (by simp only [List.length_append, List.length_cons, List.length_nil]; omega) (by omega)]
      simp only [List.map_append, List.map_cons, List.map_nil, List.append_assoc, List.cons_append, List.nil_append]
      rw [rput_digit n hb, ← enc_ge c]
theorem rput_ok (n k : Nat) (h : n ≤ 4611686018427387904) (hk : 11 ≤ k) : sorrelref01_Put.f k (n : Int) = some (bs (enc n), 0) := by
  obtain ⟨k, rfl⟩ : ∃ m, k = m + 1 := ⟨k - 1, by omega⟩
  unfold sorrelref01_Put.f
  rw [if_neg (by omega), show decide ((n : Int) > 4611686018427387904) = false from decide_eq_false (by omega)]
  simp only [sorrelref01_Put.j0]
  rw [if_neg (by simp), rput_loop 8 k n [] (by omega) (by omega) (by simp) (by omega)]
  rfl
theorem rput_no (n : Int) (k : Nat) (h : n < 0 ∨ 4611686018427387904 < n) (hk : 1 ≤ k) : sorrelref01_Put.f k n = some (bs [], 1) := by
  obtain ⟨k, rfl⟩ : ∃ m, k = m + 1 := ⟨k - 1, by omega⟩
  unfold sorrelref01_Put.f
  by_cases c : n < 0
  · rw [if_pos c]; simp only [sorrelref01_Put.j0]; rw [if_pos trivial]; rfl
  · rw [if_neg c, show decide (n > 4611686018427387904) = true from decide_eq_true (by omega)]
    simp only [sorrelref01_Put.j0]; rw [if_pos trivial]; rfl
/-! ### sorrelref01_Text, a text with its length ahead -/
theorem rtext_ok (s : ByteArray) (k : Nat) (h : s.size ≤ 262144) (hk : 11 ≤ k) : sorrelref01_Text.f k s = some (bs (enc s.data.toList.length ++ s.data.toList), 0) := by
  unfold sorrelref01_Text.f
  have h9 := enc9 (n := s.size) (by omega)
  rw [if_neg (by omega), rput_ok s.size k (by omega) hk]
  simp only [Option.bind_some]
  rw [if_pos (by rw [bs_size]; omega), len_list]
  rw [show bs (enc s.size) ++ s = bs (enc s.size ++ s.data.toList) from ext_list (by rw [list_append, bs_list, bs_list])]
theorem rtext_no (s : ByteArray) (k : Nat) (h : 262144 < s.size) : sorrelref01_Text.f k s = some (bs [], 1) := by
  unfold sorrelref01_Text.f
  rw [if_pos (by omega)]; rfl
/-! ### sorrelref02_More, sorrelref02_Sum -/
theorem rmore_l1 : ∀ (d K j : Nat) (s : ByteArray) (c : BitVec 32) (i : Int), j + d = 8 → sorrelref02_More.l1 (K + d + 1) s (c.toNat : Int) i (j : Int) = sorrelref02_More.l0 K s ((bsteps d c).toNat : Int) (wrap64 (i + 1)) := by
  intro d
  induction d with
  | zero =>
    intro K j s c i h
    simp only [sorrelref02_More.l1]
    rw [if_neg (by omega)]; rfl
  | succ d ih =>
    intro K j s c i h
    have hc := c.isLt
    rw [show K + (d + 1) + 1 = (K + d + 1) + 1 from by omega]
    simp only [sorrelref02_More.l1]
    rw [if_pos (by omega), and1_i64 _ (by omega), w64 (n := (j : Int) + 1) (by omega) (by omega), ← half, poly_toNat, xor_i64_bv]
    by_cases b : c.toNat % 2 = 1
    · rw [if_pos (by omega), ← bstep_one c b]
      exact ih K (j + 1) s (bstep c) i (by omega)
    · rw [if_neg (by omega), ← bstep_zero c b]
      exact ih K (j + 1) s (bstep c) i (by omega)
theorem rmore_l0 : ∀ (n K i : Nat) (s : ByteArray) (c : BitVec 32), i + n = s.data.toList.length → s.size ≤ 4611686018427387904 →
    sorrelref02_More.l0 (10 * n + (K + 1)) s (c.toNat : Int) (i : Int) = some ((~~~ crcL c (s.data.toList.drop i)).toNat : Int) := by
  intro n
  induction n with
  | zero =>
    intro K i s c h hs
    have hl := len_list s
    rw [Nat.mul_zero, Nat.zero_add]
    simp only [sorrelref02_More.l0]
    rw [if_neg (by omega), List.drop_eq_nil_of_le (by omega), ones_xor64]
    rfl
  | succ n ih =>
    intro K i s c h hs
    have hl := len_list s
    have hlt : i < s.data.toList.length := by omega
    rw [show 10 * (n + 1) + (K + 1) = (10 * n + (K + 1) + 9) + 1 from by omega]
    simp only [sorrelref02_More.l0]
    have hw := (wide (s.data.toList[i]'hlt)).isLt
    rw [if_pos (by omega), if_pos (by omega), wide_bt s i hlt, w64 (by omega) (by omega), xor_i64_bv]
    have h1 := rmore_l1 8 (10 * n + (K + 1)) 0 s (c ^^^ wide (s.data.toList[i]'hlt)) (i : Int) rfl
    rw [show 10 * n + (K + 1) + 9 = 10 * n + (K + 1) + 8 + 1 from rfl]
    refine h1.trans ?_
    rw [w64 (by omega) (by omega), drop_cons s i hlt]
    exact ih K (i + 1) s (cbyte c (s.data.toList[i]'hlt)) (by omega) hs
theorem rmore_is (x : Int) (s : ByteArray) (k : Nat) (hk : 10 * s.size + 1 ≤ k) (hs : s.size ≤ 4611686018427387904) :
    sorrelref02_More.f k x s = some ((crcM (BitVec.ofInt 32 x) s.data.toList).toNat : Int) := by
  obtain ⟨K, rfl⟩ : ∃ K, k = 10 * s.size + (K + 1) := ⟨k - 10 * s.size - 1, by omega⟩
  unfold sorrelref02_More.f
  rw [low32, ones_xor64]
  have h := rmore_l0 s.size K 0 s (~~~ BitVec.ofInt 32 x) (by rw [len_list]; omega) hs
  exact h
theorem rsum_is (s : ByteArray) (k : Nat) (hk : 10 * s.size + 1 ≤ k) (hs : s.size ≤ 4611686018427387904) :
    sorrelref02_Sum.f k s = some ((crcM 0#32 s.data.toList).toNat : Int) := by
  unfold sorrelref02_Sum.f
  rw [rmore_is _ s k hk hs]
  rfl
theorem tail_is (n : Nat) (h : n < 9223372036854775808) : sorrelref02_tail.f (n : Int) = some (bs (fix4 n)) := by
  unfold sorrelref02_tail.f
  rw [ref4 n h]
theorem rseal_is (s : ByteArray) (k : Nat) (hk : 10 * s.size + 1 ≤ k) (hs : s.size ≤ 4611686018427387904) : sorrelref02_Seal.f k s = some (bs (sealL s.data.toList)) := by
  unfold sorrelref02_Seal.f
  have hlt := (crcM 0#32 s.data.toList).isLt
  rw [rsum_is s k hk hs]
  simp only [Option.bind_some]
  rw [tail_is _ (by omega)]
  simp only [Option.bind_some]
  rw [if_pos (by rw [bs_size, fix4_len]; omega), show s ++ bs (fix4 (crcM 0#32 s.data.toList).toNat) = bs (sealL s.data.toList) from ext_list (by rw [list_append, bs_list, bs_list]; rfl)]
theorem rcheck_is (s : ByteArray) (k : Nat) (hk : 10 * s.size + 1 ≤ k) (hs : s.size ≤ 4611686018427387904) : sorrelref02_Check.f k s = some (chk s.data.toList) := by
  unfold sorrelref02_Check.f chk
  have hl := len_list s
  rw [w64 (by omega) (by omega)]
  by_cases c : 4 ≤ s.size
  · obtain ⟨e1, e2⟩ := check_cut s c
    have e3 := cut_size s
    have hlt := (crcM 0#32 (s.extract 0 ((s.size : Int) - 4).toNat).data.toList).isLt
    rw [if_pos (by omega), if_pos (by omega), if_pos (by omega), rsum_is _ k (by omega) (by omega)]
    simp only [Option.bind_some]
    rw [tail_is _ (by omega)]
    simp only [Option.bind_some]
    rw [toList_data, toList_data, e1, e2, bs_list, decide_eq_true (by omega)]
    rfl
  · rw [if_neg (by omega), decide_eq_false (by omega)]; rfl
end Go.Proofs.Ytcfkmcbmambchaa.VaB2
