/- Plain laws on what the functions written out for this seat come to. -/
import Derived.Test.YtcbodnjdbnmfoaaXAx4
import Derived.Test.YtcbodnjdbnmfoaaVLib
import Derived.Test.YtcbodnjdbnmfoaaCLib
namespace Go.Proofs.Ytcbodnjdbnmfoaa.VaSeals
open Go.RowKit Go.Proofs.Ytcbodnjdbnmfoaa.XA Go.Proofs.Ytcbodnjdbnmfoaa.VLib Go.Proofs.Ytcbodnjdbnmfoaa.CLib Go.Proofs.YtcbodnjdbnmfoaaW.PrintWords Go.Proofs.YtcbodnjdbnmfoaaW.PrintLast Go.Proofs.YtcbodnjdbnmfoaaW.PrintMore
/-! ### crc_More, crc_Sum -/
theorem more_l1 : ∀ (d K j : Nat) (s : ByteArray) (c : BitVec 32) (n i : Int), j + d = 8 → crc_More.l1 (K + d + 1) s (c.toNat : Int) n i (j : Int) = crc_More.l0 K s ((bsteps d c).toNat : Int) n (wrap64 (i + 1)) := by
  intro d
  induction d with
  | zero =>
    intro K j s c n i h
    simp only [crc_More.l1]
    rw [if_neg (by omega)]; rfl
  | succ d ih =>
    intro K j s c n i h
    rw [show K + (d + 1) + 1 = (K + d + 1) + 1 from by omega]
    simp only [crc_More.l1]
    rw [if_pos (by omega), and1_u32, w64 (n := (j : Int) + 1) (by omega) (by omega), ← half, poly_toNat, xor_u32]
    by_cases b : c.toNat % 2 = 1
    · rw [if_pos (by omega), ← bstep_one c b]
      exact ih K (j + 1) s (bstep c) n i (by omega)
    · rw [if_neg (by omega), ← bstep_zero c b]
      exact ih K (j + 1) s (bstep c) n i (by omega)
theorem more_l0 : ∀ (n K i : Nat) (s : ByteArray) (c : BitVec 32), i + n = s.data.toList.length → s.size ≤ 4611686018427387904 →
    crc_More.l0 (10 * n + (K + 1)) s (c.toNat : Int) (s.size : Int) (i : Int) = some ((~~~ crcL c (s.data.toList.drop i)).toNat : Int) := by
  intro n
  induction n with
  | zero =>
    intro K i s c h hs
    have hl := len_list s
    rw [Nat.mul_zero, Nat.zero_add]
    simp only [crc_More.l0]
    have hlt := (~~~ c).isLt
    rw [if_neg (by omega), List.drop_eq_nil_of_le (by omega), ones_xor, w64 (by omega) (by omega)]
    rfl
  | succ n ih =>
    intro K i s c h hs
    have hl := len_list s
    have hlt : i < s.data.toList.length := by omega
    rw [show 10 * (n + 1) + (K + 1) = (10 * n + (K + 1) + 9) + 1 from by omega]
    simp only [crc_More.l0]
    rw [if_pos (by omega), if_pos (by omega), if_pos (by omega), wide_bt s i hlt]
    have hw := (wide (s.data.toList[i]'hlt)).isLt
    rw [Int.emod_eq_of_lt (by omega) (by omega), xor_u32]
    have h1 := more_l1 8 (10 * n + (K + 1)) 0 s (c ^^^ wide (s.data.toList[i]'hlt)) (s.size : Int) (i : Int) rfl
    rw [show 10 * n + (K + 1) + 9 = 10 * n + (K + 1) + 8 + 1 from rfl]
    refine h1.trans ?_
    rw [w64 (by omega) (by omega), drop_cons s i hlt]
    exact ih K (i + 1) s (cbyte c (s.data.toList[i]'hlt)) (by omega) hs
theorem more_is (x : Int) (s : ByteArray) (k : Nat) (hk : 10 * s.size + 1 ≤ k) (hs : s.size ≤ 4611686018427387904) :
    crc_More.f k x s = some ((crcM (BitVec.ofInt 32 x) s.data.toList).toNat : Int) := by
  obtain ⟨K, rfl⟩ : ∃ K, k = 10 * s.size + (K + 1) := ⟨k - 10 * s.size - 1, by omega⟩
  unfold crc_More.f
  have hlt := (BitVec.ofInt 32 x).isLt
  rw [low32, Int.emod_eq_of_lt (by omega) (by omega), ones_xor]
  have h := more_l0 s.size K 0 s (~~~ BitVec.ofInt 32 x) (by rw [len_list]; omega) hs
  exact h
theorem more_bv (c : BitVec 32) (s : ByteArray) (k : Nat) (hk : 10 * s.size + 1 ≤ k) (hs : s.size ≤ 4611686018427387904) :
    crc_More.f k (c.toNat : Int) s = some ((crcM c s.data.toList).toNat : Int) := by
  rw [more_is _ s k hk hs, ofInt_toNat]
theorem sum_is (s : ByteArray) (k : Nat) (hk : 10 * s.size + 1 ≤ k) (hs : s.size ≤ 4611686018427387904) :
    crc_Sum.f k s = some ((crcM 0#32 s.data.toList).toNat : Int) := by
  unfold crc_Sum.f
  rw [more_is _ s k hk hs]
  rfl
/-! ### sorrelref02_More, sorrelref02_Sum -/
theorem rmore_l1 : ∀ (d K j : Nat) (s : ByteArray) (c : BitVec 32) (i : Int), j + d = 8 → sorrelref02_More.l1 (K + d + 1) s (c.toNat : Int) i (j : Int) = sorrelref02_More.l0 K s ((bsteps d c).toNat : Int) (wrap64 (i + 1)) := by
  intro d
  induction d with
  | zero =>
    intro K j s c i h
    simp only [sorrelref02_More.l1]
    rw [if_neg (by omega)]; rfl
  | succ d ih =>
    intro K j s c i h
    have hc := c.isLt
    rw [show K + (d + 1) + 1 = (K + d + 1) + 1 from by omega]
    simp only [sorrelref02_More.l1]
    rw [if_pos (by omega), and1_i64 _ (by omega), w64 (n := (j : Int) + 1) (by omega) (by omega), ← half, poly_toNat, xor_i64_bv]
    by_cases b : c.toNat % 2 = 1
    · rw [if_pos (by omega), ← bstep_one c b]
      exact ih K (j + 1) s (bstep c) i (by omega)
    · rw [if_neg (by omega), ← bstep_zero c b]
      exact ih K (j + 1) s (bstep c) i (by omega)
theorem rmore_l0 : ∀ (n K i : Nat) (s : ByteArray) (c : BitVec 32), i + n = s.data.toList.length → s.size ≤ 4611686018427387904 →
    sorrelref02_More.l0 (10 * n + (K + 1)) s (c.toNat : Int) (i : Int) = some ((~~~ crcL c (s.data.toList.drop i)).toNat : Int) := by
  intro n
  induction n with
  | zero =>
    intro K i s c h hs
    have hl := len_list s
    rw [Nat.mul_zero, Nat.zero_add]
    simp only [sorrelref02_More.l0]
    rw [if_neg (by omega), List.drop_eq_nil_of_le (by omega), ones_xor64]
    rfl
  | succ n ih =>
    intro K i s c h hs
    have hl := len_list s
    have hlt : i < s.data.toList.length := by omega
    rw [show 10 * (n + 1) + (K + 1) = (10 * n + (K + 1) + 9) + 1 from by omega]
    simp only [sorrelref02_More.l0]
    have hw := (wide (s.data.toList[i]'hlt)).isLt
    rw [if_pos (by omega), if_pos (by omega), wide_bt s i hlt, w64 (by omega) (by omega), xor_i64_bv]
    have h1 := rmore_l1 8 (10 * n + (K + 1)) 0 s (c ^^^ wide (s.data.toList[i]'hlt)) (i : Int) rfl
    rw [show 10 * n + (K + 1) + 9 = 10 * n + (K + 1) + 8 + 1 from rfl]
    refine h1.trans ?_
    rw [w64 (by omega) (by omega), drop_cons s i hlt]
    exact ih K (i + 1) s (cbyte c (s.data.toList[i]'hlt)) (by omega) hs
theorem rmore_is (x : Int) (s : ByteArray) (k : Nat) (hk : 10 * s.size + 1 ≤ k) (hs : s.size ≤ 4611686018427387904) :
    sorrelref02_More.f k x s = some ((crcM (BitVec.ofInt 32 x) s.data.toList).toNat : Int) := by
  obtain ⟨K, rfl⟩ : ∃ K, k = 10 * s.size + (K + 1) := ⟨k - 10 * s.size - 1, by omega⟩
  unfold sorrelref02_More.f
  rw [low32, ones_xor64]
  have h := rmore_l0 s.size K 0 s (~~~ BitVec.ofInt 32 x) (by rw [len_list]; omega) hs
  exact h
theorem rsum_is (s : ByteArray) (k : Nat) (hk : 10 * s.size + 1 ≤ k) (hs : s.size ≤ 4611686018427387904) :
    sorrelref02_Sum.f k s = some ((crcM 0#32 s.data.toList).toNat : Int) := by
  unfold sorrelref02_Sum.f
  rw [rmore_is _ s k hk hs]
  rfl
/-! ### four bytes of a number, the lowest first -/
def fix4 (n : Nat) : List UInt8 := [UInt8.ofNat n, UInt8.ofNat (n / 256), UInt8.ofNat (n / 65536), UInt8.ofNat (n / 16777216)]
theorem fix4_len (n : Nat) : (fix4 n).length = 4 := rfl
theorem dig_u8 (n : Nat) (d : Int) (m : Nat) (h : d = ((n / m : Nat) : Int) % 256) : UInt8.ofNat d.toNat = UInt8.ofNat (n / m) := by
  subst h
  rw [show (((n / m : Nat) : Int) % 256).toNat = (n / m) % 256 from by omega]
  apply UInt8.toNat_inj.1
  simp
theorem and255 (x : Int) (h0 : 0 ≤ x) (h1 : x < 9223372036854775808) : Go.bits .and .i64 x 255 = x % 256 :=
  bits_mask .i64 63 (by decide) wraps_i64 8 (by decide) x h0 (by simpa using h1)
theorem nums4 (n : Nat) (a b c d : Int) (ha : a = ((n / 1 : Nat) : Int) % 256) (hb : b = ((n / 256 : Nat) : Int) % 256) (hc : c = ((n / 65536 : Nat) : Int) % 256) (hd : d = ((n / 16777216 : Nat) : Int) % 256) : strOfNums [a, b, c, d] = bs (fix4 n) := by
  rw [nums_bs]
  simp only [List.map_cons, List.map_nil]
  rw [dig_u8 n a 1 ha, dig_u8 n b 256 hb, dig_u8 n c 65536 hc, dig_u8 n d 16777216 hd, Nat.div_one]
  rfl
theorem ref4 (n : Nat) (h : n < 9223372036854775808) : strOfNums ([(Go.bits .and .i64 (n : Int) 255) % 256, (Go.bits .and .i64 ((n : Int) / 256) 255) % 256, (Go.bits .and .i64 ((n : Int) / 65536) 255) % 256, (Go.bits .and .i64 ((n : Int) / 16777216) 255) % 256] : List Int) = bs (fix4 n) := by
  rw [and255 _ (by omega) (by omega), and255 _ (by omega) (by omega), and255 _ (by omega) (by omega), and255 _ (by omega) (by omega)]
  exact nums4 n _ _ _ _ (by omega) (by omega) (by omega) (by omega)
theorem fix4_val (n : Nat) (h : n < 4294967296) : (UInt8.ofNat n).toNat + (UInt8.ofNat (n / 256)).toNat * 256 + (UInt8.ofNat (n / 65536)).toNat * 65536 + (UInt8.ofNat (n / 16777216)).toNat * 16777216 = n := by
  simp; omega
theorem bytes_is (n : Nat) : crc_bytes.f (n : Int) = some (bs (fix4 n)) := by
  unfold crc_bytes.f crc_bytes.dig
  rw [nums4 n _ _ _ _ (by simp) (by simp) (by simp) (by simp)]
/-- Do bytes end with the sum of those ahead? -/
def chk (l : List UInt8) : Bool := decide (4 ≤ l.length) && (l.drop (l.length - 4) == fix4 (crcM 0#32 (l.take (l.length - 4))).toNat)
def sealL (l : List UInt8) : List UInt8 := l ++ fix4 (crcM 0#32 l).toNat
theorem chk_seal (l : List UInt8) : chk (sealL l) = true := by
  unfold chk sealL
  have h : (l ++ fix4 (crcM 0#32 l).toNat).length = l.length + 4 := by rw [List.length_append, fix4_len]
  rw [h, show l.length + 4 - 4 = l.length from by omega, List.drop_left, List.take_left]
  simp
theorem seal_is (s : ByteArray) (k : Nat) (hk : 10 * s.size + 1 ≤ k) (hs : s.size ≤ 4611686018427387904) : crc_Seal.f k s = some (bs (sealL s.data.toList)) := by
  unfold crc_Seal.f
  rw [sum_is s k hk hs]
  simp only [Option.bind_some]
  rw [bytes_is]
  simp only [Option.bind_some]
  rw [if_pos (by rw [bs_size, fix4_len]; omega), show s ++ bs (fix4 (crcM 0#32 s.data.toList).toNat) = bs (sealL s.data.toList) from ext_list (by rw [list_append, bs_list, bs_list]; rfl)]
theorem check_cut (s : ByteArray) (h : 4 ≤ s.size) : (s.extract 0 ((s.size : Int) - 4).toNat).data.toList = s.data.toList.take (s.data.toList.length - 4) ∧ (s.extract ((s.size : Int) - 4).toNat s.size).data.toList = s.data.toList.drop (s.data.toList.length - 4) := by
  have hl := len_list s
  rw [extract_list, extract_list, show ((s.size : Int) - 4).toNat = s.data.toList.length - 4 from by omega]
  exact ⟨rfl, by rw [List.take_of_length_le (by omega)]⟩
theorem cut_size (s : ByteArray) : (s.extract 0 ((s.size : Int) - 4).toNat).size ≤ s.size := by
  rw [← len_list, extract_list, List.drop_zero, List.length_take, len_list]; omega
theorem check_is (s : ByteArray) (k : Nat) (hk : 10 * s.size + 1 ≤ k) (hs : s.size ≤ 4611686018427387904) : crc_Check.f k s = some (chk s.data.toList) := by
  unfold crc_Check.f chk
  have hl := len_list s
  rw [w64 (by omega) (by omega)]
  by_cases c : 4 ≤ s.size
  · obtain ⟨e1, e2⟩ := check_cut s c
    have e3 := cut_size s
    rw [if_pos (by omega), if_pos (by omega), if_pos (by omega), sum_is _ k (by omega) (by omega)]
    simp only [Option.bind_some]
    rw [bytes_is]
    simp only [Option.bind_some]
    rw [toList_data, toList_data, e1, e2, bs_list, decide_eq_true (by omega)]
    rfl
  · rw [if_neg (by omega), decide_eq_false (by omega)]; rfl
theorem tail_is (n : Nat) (h : n < 9223372036854775808) : sorrelref02_tail.f (n : Int) = some (bs (fix4 n)) := by
  unfold sorrelref02_tail.f
  rw [ref4 n h]
theorem rseal_is (s : ByteArray) (k : Nat) (hk : 10 * s.size + 1 ≤ k) (hs : s.size ≤ 4611686018427387904) : sorrelref02_Seal.f k s = some (bs (sealL s.data.toList)) := by
  unfold sorrelref02_Seal.f
  have hlt := (crcM 0#32 s.data.toList).isLt
  rw [rsum_is s k hk hs]
  simp only [Option.bind_some]
  rw [tail_is _ (by omega)]
  simp only [Option.bind_some]
  rw [if_pos (by rw [bs_size, fix4_len]; omega), show s ++ bs (fix4 (crcM 0#32 s.data.toList).toNat) = bs (sealL s.data.toList) from ext_list (by rw [list_append, bs_list, bs_list]; rfl)]
theorem rcheck_is (s : ByteArray) (k : Nat) (hk : 10 * s.size + 1 ≤ k) (hs : s.size ≤ 4611686018427387904) : sorrelref02_Check.f k s = some (chk s.data.toList) := by
  unfold sorrelref02_Check.f chk
  have hl := len_list s
  rw [w64 (by omega) (by omega)]
  by_cases c : 4 ≤ s.size
  · obtain ⟨e1, e2⟩ := check_cut s c
    have e3 := cut_size s
    have hlt := (crcM 0#32 (s.extract 0 ((s.size : Int) - 4).toNat).data.toList).isLt
    rw [if_pos (by omega), if_pos (by omega), if_pos (by omega), rsum_is _ k (by omega) (by omega)]
    simp only [Option.bind_some]
    rw [tail_is _ (by omega)]
    simp only [Option.bind_some]
    rw [toList_data, toList_data, e1, e2, bs_list, decide_eq_true (by omega)]
    rfl
  · rw [if_neg (by omega), decide_eq_false (by omega)]; rfl
theorem seals_is (k : Nat) (hk : 100 ≤ k) : sorrellaw02_seals.f k = some true := by
  unfold sorrellaw02_seals.f
  have e1 : sealL [] = [0, 0, 0, 0] := by decide +kernel
  have e2 : chk [0, 0, 0, 0] = true := by decide +kernel
  have e3 : chk [97, 98, 99] = false := by decide +kernel
  have s1 : (⟨#[]⟩ : ByteArray).size = 0 := rfl
  have s2 : (⟨#[0, 0, 0, 0]⟩ : ByteArray).size = 4 := rfl
  have s3 : (⟨#[97, 98, 99]⟩ : ByteArray).size = 3 := rfl
  rw [seal_is _ k (by rw [s1]; omega) (by rw [s1]; omega), check_is _ k (by rw [s2]; omega) (by rw [s2]; omega), check_is _ k (by rw [s3]; omega) (by rw [s3]; omega)]
  simp only [Option.bind_some, toList_data, bs_list, e1, e2, e3]
  rfl
theorem seals_j0 (s t : ByteArray) (d : Bool) (h : d = false → s.size ≤ 4096 ∧ t.size ≤ 4096) : sorrellaw02_CrcSeals.j0 100001 s t d = some true := by
  simp only [sorrellaw02_CrcSeals.j0]
  cases d with
  | true => rw [if_pos rfl, seals_is _ (by omega)]; rfl
  | false =>
    obtain ⟨h1, h2⟩ := h rfl
    have hz : (bs (sealL s.data.toList)).size = s.size + 4 := by rw [bs_size]; unfold sealL; rw [List.length_append, fix4_len, len_list]
    rw [if_neg (by simp), seal_is s _ (by omega) (by omega), rseal_is s _ (by omega) (by omega), check_is t _ (by omega) (by omega), rcheck_is t _ (by omega) (by omega)]
    simp only [Option.bind_some, if_true, beq_self_eq_true]
    rw [check_is _ _ (by omega) (by omega), bs_list, chk_seal]
    simp only [Option.bind_some, if_true]
    rw [seals_is _ (by omega)]; rfl
theorem law_seals : sorrellaw02_CrcSeals.Pure := by
  intro s t _ _
  refine ⟨100001, ?_⟩
  unfold sorrellaw02_CrcSeals.f
  by_cases h1 : (s.size : Int) > 4096
  · rw [if_pos h1]; exact seals_j0 s t true (by simp)
  · rw [if_neg h1]
    refine seals_j0 s t _ (fun h => ?_)
    have := of_decide_eq_false h
    omega
end Go.Proofs.Ytcbodnjdbnmfoaa.VaSeals
