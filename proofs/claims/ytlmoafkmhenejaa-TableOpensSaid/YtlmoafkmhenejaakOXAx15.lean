import Derived.Test.YtlmoafkmhenejaakOXAx0
import Derived.Test.YtlmoafkmhenejaakOXAx8
import Derived.Test.YtlmoafkmhenejaakOXAx9
import Derived.Test.YtlmoafkmhenejaakOXAx10
import Derived.Test.YtlmoafkmhenejaakOXAx3
import Derived.Test.YtlmoafkmhenejaakOXAx4
import Derived.Test.YtlmoafkmhenejaakOXAx5
import Derived.Test.YtlmoafkmhenejaakOXAx6
import Derived.Test.YtlmoafkmhenejaakOXAx7
import Derived.Test.YtlmoafkmhenejaakOXAx11
import Derived.Test.YtlmoafkmhenejaakOXAx13
import Derived.Test.YtlmoafkmhenejaakOXAx14
import Derived.Test.YtlmoafkmhenejaakOVLib
import Derived.Test.YtlmoafkmhenejaakOMTab10
import Derived.Test.YtlmoafkmhenejaakOOpn
section
namespace Go.Proofs.YtlmoafkmhenejaaW.PrintWords
end Go.Proofs.YtlmoafkmhenejaaW.PrintWords
namespace Go.Proofs.YtlmoafkmhenejaaW.PrintLast
end Go.Proofs.YtlmoafkmhenejaaW.PrintLast
namespace Go.Proofs.YtlmoafkmhenejaaW.PrintMore
end Go.Proofs.YtlmoafkmhenejaaW.PrintMore
namespace Go.Proofs.Ytlmoafkmhenejaa.XW
end Go.Proofs.Ytlmoafkmhenejaa.XW
namespace Go.Proofs.Ytlmoafkmhenejaa.XA
open Go.RowKit Go.Proofs.YtlmoafkmhenejaaW.PrintWords Go.Proofs.YtlmoafkmhenejaaW.PrintLast Go.Proofs.YtlmoafkmhenejaaW.PrintMore Go.Proofs.Ytlmoafkmhenejaa.XW
attribute [local go_sem high] max2_str unary_xor_u32 leq_str geq_str gtr_str
attribute [local go_sem] max2_int min2_int max_two min_two max_three min_three max_four min_four   -- for this text's walks alone
set_option linter.unusedVariables false
set_option linter.unusedSimpArgs false
def sorrelref04_May.f (a0_0 : ByteArray) (a0_1 : ByteArray) : Option (Bool) := if (a0_0.size : Int) ≤ 64 then (if (a0_1.size : Int) ≤ 64 then (if a0_1.toList = ([] : List UInt8) then (some true) else (some (Op.bytesLess a0_0.toList a0_1.toList))) else (some false)) else (some false)
end Go.Proofs.Ytlmoafkmhenejaa.XA
end
section
namespace Go.Proofs.Ytlmoafkmhenejaa.XA
end Go.Proofs.Ytlmoafkmhenejaa.XA
namespace Go.Proofs.Ytlmoafkmhenejaa.VLib
end Go.Proofs.Ytlmoafkmhenejaa.VLib
namespace Go.Proofs.Ytlmoafkmhenejaa.CLib
end Go.Proofs.Ytlmoafkmhenejaa.CLib
namespace Go.Proofs.YtlmoafkmhenejaaW.PrintWords
end Go.Proofs.YtlmoafkmhenejaaW.PrintWords
namespace Go.Proofs.YtlmoafkmhenejaaW.PrintLast
end Go.Proofs.YtlmoafkmhenejaaW.PrintLast
namespace Go.Proofs.YtlmoafkmhenejaaW.PrintMore
end Go.Proofs.YtlmoafkmhenejaaW.PrintMore
namespace Go.Proofs.Ytlmoafkmhenejaa.VaB1
open Go.RowKit Go.Proofs.Ytlmoafkmhenejaa.XA Go.Proofs.Ytlmoafkmhenejaa.VLib Go.Proofs.Ytlmoafkmhenejaa.CLib Go.Proofs.YtlmoafkmhenejaaW.PrintWords Go.Proofs.YtlmoafkmhenejaaW.PrintLast Go.Proofs.YtlmoafkmhenejaaW.PrintMore
theorem put_digit (n : Nat) (hb : n < 9223372036854775808) : UInt8.ofNat (Go.bits .or .u8 ((n : Int) % 256) 128).toNat = UInt8.ofNat (n % 128 + 128) := by
  have e : (Go.bits .or .u8 ((n : Int) % 256) 128) = ((n % 128 + 128 : Nat) : Int) := by
    have := hb; rw [or128 _ (by omega) (by omega)]; omega
  rw [e, Int.toNat_natCast]
theorem put_loop : ∀ (f k n : Nat) (xs : List Int), n < 9223372036854775808 → n < 128 ^ (f + 1) → xs.length + f < 1000 → f < k →
    varint_Put.l0 k (n : Int) xs = some (bs ((xs.map fun n => UInt8.ofNat n.toNat) ++ enc n), 0) := by
  have last : ∀ (k n : Nat) (xs : List Int), n < 128 → xs.length < 1000 → 0 < k → varint_Put.l0 k (n : Int) xs = some (bs ((xs.map fun n => UInt8.ofNat n.toNat) ++ enc n), 0) := by
    intro k n xs hn hl hk; obtain ⟨k, rfl⟩ : ∃ m, k = m + 1 := ⟨k - 1, by omega⟩; simp only [varint_Put.l0]; rw [if_neg (by omega), if_pos (by omega), nums_bs, List.map_append, enc_lt hn]; simp only [List.map_cons, List.map_nil]; rw [show ((n : Int) % 256).toNat = n from by omega]
  intro f
  induction f with
  | zero => intro k n xs _ h hl hk; exact last k n xs (by simpa using h) (by omega) (by omega)
  | succ f ih =>
    intro k n xs hb h hl hk
    by_cases c : n < 128
    · exact last k n xs c (by omega) (by omega)
    · obtain ⟨k, rfl⟩ : ∃ m, k = m + 1 := ⟨k - 1, by omega⟩; simp only [varint_Put.l0]; rw [if_pos (by omega), if_pos (by omega), show (n : Int) / 128 = ((n / 128 : Nat) : Int) from by omega]
      have hn : n / 128 < 128 ^ (f + 1) := by
        rw [Nat.div_lt_iff_lt_mul (by decide)]
        rwa [Nat.pow_succ] at h
      rw [ih k (n / 128) _ (by omega) hn (by simp only [List.length_append, List.length_cons, List.length_nil]; omega) (by omega)]; simp only [List.map_append, List.map_cons, List.map_nil, List.append_assoc, List.cons_append, List.nil_append]; rw [put_digit n hb, ← enc_ge c]
theorem put_ok (n k : Nat) (h : n ≤ 4611686018427387904) (hk : 11 ≤ k) : varint_Put.f k (n : Int) = some (bs (enc n), 0) := by
  obtain ⟨k, rfl⟩ : ∃ m, k = m + 1 := ⟨k - 1, by omega⟩
  unfold varint_Put.f
  rw [if_neg (by omega), show decide ((n : Int) > 4611686018427387904) = false from decide_eq_false (by omega)]
  simp only [varint_Put.j0]
  rw [if_neg (by simp), put_loop 8 k n [] (by omega) (by omega) (by simp) (by omega)]
  rfl
theorem text_ok (s : ByteArray) (k : Nat) (h : s.size ≤ 262144) (hk : 11 ≤ k) : varint_Text.f k s = some (bs (enc s.data.toList.length ++ s.data.toList), 0) := by
  unfold varint_Text.f
  have h9 := enc9 (n := s.size) (by omega)
  rw [if_neg (by omega), put_ok s.size k (by omega) hk]
  simp only [Option.bind_some]
  rw [if_pos (by rw [bs_size]; omega), len_list]
  rw [show bs (enc s.size) ++ s = bs (enc s.size ++ s.data.toList) from ext_list (by rw [list_append, bs_list, bs_list])]
theorem take_loop : ∀ (f k i : Nat) (s : ByteArray) (x : Int), f + i = 9 → i ≤ s.data.toList.length → 0 ≤ x → x < 2 ^ (7 * i) → f < k →
    varint_Take.l0 k s x (i : Int) = some (fromI x i (dcd f (decide (i = 0)) (s.data.toList.drop i))) := by
  intro f
  induction f with
  | zero =>
    intro k i s x hf hi h0 h1 hk; obtain ⟨k, rfl⟩ : ∃ m, k = m + 1 := ⟨k - 1, by omega⟩; simp only [varint_Take.l0]; rw [if_neg (by omega)]
    rfl
  | succ f ih =>
    intro k i s x hf hi h0 h1 hk; obtain ⟨k, rfl⟩ : ∃ m, k = m + 1 := ⟨k - 1, by omega⟩; have hsz := len_list s; simp only [varint_Take.l0]; rw [if_pos (by omega)]
    by_cases he : i = s.data.toList.length
    · rw [if_pos (by omega), List.drop_eq_nil_of_le (by omega)]
      rfl
    · have hlt : i < s.data.toList.length := by omega
      have hb := s.data.toList[i].toNat_lt; have hs := step_lt x (s.data.toList[i].toNat : Int) i h0 h1; rw [if_neg (by omega), if_pos (by omega), if_pos (by omega), w64 (by omega) (by omega), if_pos (by omega)]; rw [← w64 (n := 7 * (i : Int)) (by omega) (by omega), bt_list s i hlt, step_or x _ i (by omega) h0 h1 (by omega) (by omega), drop_cons s i hlt, w64 (n := (i : Int) + 1) (by omega) (by omega)]
      by_cases c : 128 ≤ s.data.toList[i].toNat
      · rw [if_pos (by omega), fromI_more x _ i f _ _ c]; exact ih k (i + 1) s _ (by omega) (by omega) hs.1 hs.2 (by omega)
      · rw [if_neg (by omega), fromI_last x _ i f _ _ c]
        by_cases p : i = 0
        · rw [if_neg (by omega), if_neg (show ¬ (decide (i = 0) = false ∧ s.data.toList[i].toNat = 0) by simp [p])]
          split <;> rfl
        · rw [if_pos (by omega)]
          by_cases z : s.data.toList[i].toNat = 0
          · rw [if_pos (by omega), if_pos ⟨by simp [p], z⟩]
          · rw [if_neg (by omega), if_neg (show ¬ (decide (i = 0) = false ∧ s.data.toList[i].toNat = 0) by rintro ⟨_, h⟩; exact z h)]
            split <;> rfl
theorem take_is (s : ByteArray) (k : Nat) (hk : 10 ≤ k) : varint_Take.f k s = some (outI (takeN s.data.toList)) := by
  unfold varint_Take.f
  have := take_loop 9 k 0 s 0 rfl (by omega) (by decide) (by decide) (by omega)
  rw [← fromI_zero]
  exact this
theorem ttext_is (s : ByteArray) (k : Nat) (h : s.size ≤ 4611686018427387904) (hk : 10 ≤ k) : varint_TakeText.f k s = some (outT (takeX s.data.toList)) := by
  unfold varint_TakeText.f
  rw [take_is s k hk]
  simp only [Option.bind_some]
  unfold takeX
  have hl := len_list s
  by_cases e : (takeN s.data.toList).2.2 = 0
  · obtain ⟨h1, h2, h3, h4, h5⟩ := takeN_back s.data.toList (takeN s.data.toList).1 (takeN s.data.toList).2.1 (by rw [← e]); rw [if_pos e, if_pos (by omega)]
    by_cases g : 262144 < (takeN s.data.toList).1
    · rw [if_pos (by omega), if_pos g]; rfl
    · rw [if_neg (by omega), if_neg g, w64 (by omega) (by omega)]
      by_cases g2 : s.data.toList.length - (takeN s.data.toList).2.1 < (takeN s.data.toList).1
      · rw [if_pos (by omega), if_pos g2]; rfl
      · rw [if_neg (by omega), if_neg g2, w64 (by omega) (by omega), if_pos (by omega), if_pos (by omega), if_pos (by omega)]
        congr 2
        apply ext_list
        rw [extract_list, bs_list, Int.toNat_natCast, show (((takeN s.data.toList).2.1 : Int) + ((takeN s.data.toList).1 : Int)).toNat = (takeN s.data.toList).2.1 + (takeN s.data.toList).1 from by omega, List.drop_take, Nat.add_sub_cancel_left]
  · rw [if_neg e, if_neg (by omega)]; rfl
theorem more_l1 : ∀ (d K j : Nat) (s : ByteArray) (c : BitVec 32) (n i : Int), j + d = 8 → crc_More.l1 (K + d + 1) s (c.toNat : Int) n i (j : Int) = crc_More.l0 K s ((bsteps d c).toNat : Int) n (wrap64 (i + 1)) := by
  intro d
  induction d with
  | zero =>
    intro K j s c n i h; simp only [crc_More.l1]; rw [if_neg (by omega)]; rfl
  | succ d ih =>
    intro K j s c n i h; rw [show K + (d + 1) + 1 = (K + d + 1) + 1 from by omega]; simp only [crc_More.l1]; rw [if_pos (by omega), and1_u32, w64 (n := (j : Int) + 1) (by omega) (by omega), ← half, poly_toNat, xor_u32]
    by_cases b : c.toNat % 2 = 1
    · rw [if_pos (by omega), ← bstep_one c b]; exact ih K (j + 1) s (bstep c) n i (by omega)
    · rw [if_neg (by omega), ← bstep_zero c b]; exact ih K (j + 1) s (bstep c) n i (by omega)
theorem more_l0 : ∀ (n K i : Nat) (s : ByteArray) (c : BitVec 32), i + n = s.data.toList.length → s.size ≤ 4611686018427387904 →
    crc_More.l0 (10 * n + (K + 1)) s (c.toNat : Int) (s.size : Int) (i : Int) = some ((~~~ crcL c (s.data.toList.drop i)).toNat : Int) := by
  intro n
  induction n with
  | zero =>
    intro K i s c h hs; have hl := len_list s; rw [Nat.mul_zero, Nat.zero_add]; simp only [crc_More.l0]; have hlt := (~~~ c).isLt; rw [if_neg (by omega), List.drop_eq_nil_of_le (by omega), ones_xor, w64 (by omega) (by omega)]
    rfl
  | succ n ih =>
    intro K i s c h hs; have hl := len_list s; have hlt : i < s.data.toList.length := by omega
    rw [show 10 * (n + 1) + (K + 1) = (10 * n + (K + 1) + 9) + 1 from by omega]; simp only [crc_More.l0]; rw [if_pos (by omega), if_pos (by omega), if_pos (by omega), wide_bt s i hlt]; have hw := (wide (s.data.toList[i]'hlt)).isLt; rw [Int.emod_eq_of_lt (by omega) (by omega), xor_u32]; have h1 := more_l1 8 (10 * n + (K + 1)) 0 s (c ^^^ wide (s.data.toList[i]'hlt)) (s.size : Int) (i : Int) rfl; rw [show 10 * n + (K + 1) + 9 = 10 * n + (K + 1) + 8 + 1 from rfl]; refine h1.trans ?_; rw [w64 (by omega) (by omega), drop_cons s i hlt]; exact ih K (i + 1) s (cbyte c (s.data.toList[i]'hlt)) (by omega) hs
theorem more_is (x : Int) (s : ByteArray) (k : Nat) (hk : 10 * s.size + 1 ≤ k) (hs : s.size ≤ 4611686018427387904) :
    crc_More.f k x s = some ((crcM (BitVec.ofInt 32 x) s.data.toList).toNat : Int) := by
  obtain ⟨K, rfl⟩ : ∃ K, k = 10 * s.size + (K + 1) := ⟨k - 10 * s.size - 1, by omega⟩
  unfold crc_More.f
  have hlt := (BitVec.ofInt 32 x).isLt
  rw [low32, Int.emod_eq_of_lt (by omega) (by omega), ones_xor]
  have h := more_l0 s.size K 0 s (~~~ BitVec.ofInt 32 x) (by rw [len_list]; omega) hs
  exact h
theorem sum_is (s : ByteArray) (k : Nat) (hk : 10 * s.size + 1 ≤ k) (hs : s.size ≤ 4611686018427387904) :
    crc_Sum.f k s = some ((crcM 0#32 s.data.toList).toNat : Int) := by
  unfold crc_Sum.f
  rw [more_is _ s k hk hs]
  rfl
def fix4 (n : Nat) : List UInt8 := [UInt8.ofNat n, UInt8.ofNat (n / 256), UInt8.ofNat (n / 65536), UInt8.ofNat (n / 16777216)]
theorem fix4_len (n : Nat) : (fix4 n).length = 4 := rfl
theorem dig_u8 (n : Nat) (d : Int) (m : Nat) (h : d = ((n / m : Nat) : Int) % 256) : UInt8.ofNat d.toNat = UInt8.ofNat (n / m) := by
  subst h
  rw [show (((n / m : Nat) : Int) % 256).toNat = (n / m) % 256 from by omega]
  apply UInt8.toNat_inj.1
  simp
theorem and255 (x : Int) (h0 : 0 ≤ x) (h1 : x < 9223372036854775808) : Go.bits .and .i64 x 255 = x % 256 :=
  bits_mask .i64 63 (by decide) wraps_i64 8 (by decide) x h0 (by simpa using h1)
theorem nums4 (n : Nat) (a b c d : Int) (ha : a = ((n / 1 : Nat) : Int) % 256) (hb : b = ((n / 256 : Nat) : Int) % 256) (hc : c = ((n / 65536 : Nat) : Int) % 256) (hd : d = ((n / 16777216 : Nat) : Int) % 256) : strOfNums [a, b, c, d] = bs (fix4 n) := by
  rw [nums_bs]
  simp only [List.map_cons, List.map_nil]
  rw [dig_u8 n a 1 ha, dig_u8 n b 256 hb, dig_u8 n c 65536 hc, dig_u8 n d 16777216 hd, Nat.div_one]
  rfl
theorem ref4 (n : Nat) (h : n < 9223372036854775808) : strOfNums ([(Go.bits .and .i64 (n : Int) 255) % 256, (Go.bits .and .i64 ((n : Int) / 256) 255) % 256, (Go.bits .and .i64 ((n : Int) / 65536) 255) % 256, (Go.bits .and .i64 ((n : Int) / 16777216) 255) % 256] : List Int) = bs (fix4 n) := by
  rw [and255 _ (by omega) (by omega), and255 _ (by omega) (by omega), and255 _ (by omega) (by omega), and255 _ (by omega) (by omega)]
  exact nums4 n _ _ _ _ (by omega) (by omega) (by omega) (by omega)
theorem bytes_is (n : Nat) : crc_bytes.f (n : Int) = some (bs (fix4 n)) := by
  unfold crc_bytes.f crc_bytes.dig
  rw [nums4 n _ _ _ _ (by simp) (by simp) (by simp) (by simp)]
def chk (l : List UInt8) : Bool := decide (4 ≤ l.length) && (l.drop (l.length - 4) == fix4 (crcM 0#32 (l.take (l.length - 4))).toNat)
def sealL (l : List UInt8) : List UInt8 := l ++ fix4 (crcM 0#32 l).toNat
theorem seal_is (s : ByteArray) (k : Nat) (hk : 10 * s.size + 1 ≤ k) (hs : s.size ≤ 4611686018427387904) : crc_Seal.f k s = some (bs (sealL s.data.toList)) := by
  unfold crc_Seal.f
  rw [sum_is s k hk hs]
  simp only [Option.bind_some]
  rw [bytes_is]
  simp only [Option.bind_some]
  rw [if_pos (by rw [bs_size, fix4_len]; omega), show s ++ bs (fix4 (crcM 0#32 s.data.toList).toNat) = bs (sealL s.data.toList) from ext_list (by rw [list_append, bs_list, bs_list]; rfl)]
theorem check_cut (s : ByteArray) (h : 4 ≤ s.size) : (s.extract 0 ((s.size : Int) - 4).toNat).data.toList = s.data.toList.take (s.data.toList.length - 4) ∧ (s.extract ((s.size : Int) - 4).toNat s.size).data.toList = s.data.toList.drop (s.data.toList.length - 4) := by
  have hl := len_list s
  rw [extract_list, extract_list, show ((s.size : Int) - 4).toNat = s.data.toList.length - 4 from by omega]
  exact ⟨rfl, by rw [List.take_of_length_le (by omega)]⟩
theorem cut_size (s : ByteArray) : (s.extract 0 ((s.size : Int) - 4).toNat).size ≤ s.size := by
  rw [← len_list, extract_list, List.drop_zero, List.length_take, len_list]; omega
theorem check_is (s : ByteArray) (k : Nat) (hk : 10 * s.size + 1 ≤ k) (hs : s.size ≤ 4611686018427387904) : crc_Check.f k s = some (chk s.data.toList) := by
  unfold crc_Check.f chk
  have hl := len_list s
  rw [w64 (by omega) (by omega)]
  by_cases c : 4 ≤ s.size
  · obtain ⟨e1, e2⟩ := check_cut s c; have e3 := cut_size s; rw [if_pos (by omega), if_pos (by omega), if_pos (by omega), sum_is _ k (by omega) (by omega)]; simp only [Option.bind_some]; rw [bytes_is]; simp only [Option.bind_some]; rw [toList_data, toList_data, e1, e2, bs_list, decide_eq_true (by omega)]
    rfl
  · rw [if_neg (by omega), decide_eq_false (by omega)]; rfl
end Go.Proofs.Ytlmoafkmhenejaa.VaB1
end
section
namespace Go.Proofs.Ytlmoafkmhenejaa.XA
end Go.Proofs.Ytlmoafkmhenejaa.XA
namespace Go.Proofs.Ytlmoafkmhenejaa.VLib
end Go.Proofs.Ytlmoafkmhenejaa.VLib
namespace Go.Proofs.Ytlmoafkmhenejaa.XW
end Go.Proofs.Ytlmoafkmhenejaa.XW
namespace Go.Proofs.YtlmoafkmhenejaaW.PrintWords
end Go.Proofs.YtlmoafkmhenejaaW.PrintWords
namespace Go.Proofs.YtlmoafkmhenejaaW.PrintLast
end Go.Proofs.YtlmoafkmhenejaaW.PrintLast
namespace Go.Proofs.YtlmoafkmhenejaaW.PrintMore
end Go.Proofs.YtlmoafkmhenejaaW.PrintMore
namespace Go.Proofs.Ytlmoafkmhenejaa.VaChk
open Go.RowKit Go.Proofs.Ytlmoafkmhenejaa.XA Go.Proofs.Ytlmoafkmhenejaa.VLib Go.Proofs.Ytlmoafkmhenejaa.XW Go.Proofs.YtlmoafkmhenejaaW.PrintWords Go.Proofs.YtlmoafkmhenejaaW.PrintLast Go.Proofs.YtlmoafkmhenejaaW.PrintMore
theorem less_irrefl : ∀ a : List UInt8, Op.bytesLess a a = false
  | [] => rfl
  | x :: a => by
    have := less_irrefl a; simp only [Op.bytesLess, this, Bool.and_false, Bool.or_false, decide_eq_false_iff_not, UInt8.lt_iff_toNat_lt]
    omega
def lt (a b : ByteArray) : Bool := Op.bytesLess a.toList b.toList
theorem lt_irrefl (a : ByteArray) : lt a a = false := less_irrefl _
def LE (a b : S43) : Bool := if a.f0.toList = b.f0.toList then decide (a.f3 > b.f3) else lt a.f0 b.f0
theorem less_is (a b : S43) : block_Less.f a.f0 a.f1 a.f2 a.f3 b.f0 b.f1 b.f2 b.f3 = some (LE a b) := by
  unfold block_Less.f LE lt
  by_cases h : a.f0.toList = b.f0.toList
  · rw [if_pos h, if_pos h]
  · rw [if_neg h, if_neg h]
theorem LE_same {a b : S43} (h : a.f0.toList = b.f0.toList) : LE a b = decide (a.f3 > b.f3) := if_pos h
theorem LE_key {a b : S43} (h : ¬ a.f0.toList = b.f0.toList) : LE a b = lt a.f0 b.f0 := if_neg h
theorem rdT (l : List S43) (i : Nat) (h : i < l.length) : rd_T43 l (i : Int) = l[i] := by
  unfold rd_T43; rw [Int.toNat_natCast, List.getD_eq_getElem?_getD, List.getElem?_eq_getElem h]; rfl
def mayE (e : S43) : Bool := decide (1 ≤ e.f0.size) && decide (e.f0.size ≤ 64) && decide (e.f1.size ≤ 256) && (!e.f2 || decide (e.f1.size = 0)) && decide (1 ≤ e.f3) && decide (e.f3 ≤ 1099511627775)
theorem nil_size (s : ByteArray) : s.toList = ([] : List UInt8) ↔ s.size = 0 := by rw [toList_data, ← len_list, List.length_eq_zero_iff]
theorem key_is (s : ByteArray) : span_Key.f s = some (decide (1 ≤ s.size) && decide (s.size ≤ 64)) := by
  unfold span_Key.f
  by_cases h : s.size = 0
  · rw [if_pos ((nil_size s).2 h), decide_eq_false (by omega)]; rfl
  · rw [if_neg (fun e => h ((nil_size s).1 e)), decide_eq_true (show 1 ≤ s.size by omega), Bool.true_and]; exact congrArg some (decide_eq_decide.2 (by omega))
theorem rkey_is (s : ByteArray) : sorrelref04_Key.f s = some (decide (1 ≤ s.size) && decide (s.size ≤ 64)) := by
  unfold sorrelref04_Key.f
  by_cases h : 1 ≤ s.size
  · rw [if_pos (by omega), decide_eq_true h, Bool.true_and]; exact congrArg some (decide_eq_decide.2 (by omega))
  · rw [if_neg (by omega), decide_eq_false h]; rfl
theorem may_tail (a1 : ByteArray) (a2 : Bool) (a3 : Int) (K : Bool) :
    (if K = true then (if (a1.size : Int) ≤ 256 then (if a2 = true then (if a1.toList = ([] : List UInt8) then (if a3 ≥ 1 then (some (decide (a3 ≤ 1099511627775))) else (some false)) else (some false)) else (if a3 ≥ 1 then (some (decide (a3 ≤ 1099511627775))) else (some false))) else (some false)) else (some false)) =
      some (K && decide (a1.size ≤ 256) && (!a2 || decide (a1.size = 0)) && decide (1 ≤ a3) && decide (a3 ≤ 1099511627775)) := by
  cases K
  · rfl
  · rw [if_pos rfl, Bool.true_and]
    by_cases h1 : a1.size ≤ 256
    · rw [if_pos (by omega), decide_eq_true h1, Bool.true_and]
      have tl : (if a3 ≥ 1 then (some (decide (a3 ≤ 1099511627775))) else (some false)) = some (decide (1 ≤ a3) && decide (a3 ≤ 1099511627775)) := by
        by_cases h : 1 ≤ a3
        · rw [if_pos h, decide_eq_true h]; rfl
        · rw [if_neg h, decide_eq_false h]; rfl
      rw [tl]; cases a2
      · rfl
      · rw [if_pos rfl]
        by_cases h2 : a1.size = 0
        · rw [if_pos ((nil_size a1).2 h2), decide_eq_true h2]; rfl
        · rw [if_neg (fun e => h2 ((nil_size a1).1 e)), decide_eq_false h2]; rfl
    · rw [if_neg (by omega), decide_eq_false h1]; rfl
theorem may_is (e : S43) : block_may.f e.f0 e.f1 e.f2 e.f3 = some (mayE e) := by
  unfold block_may.f mayE
  rw [key_is, Option.bind_some]; exact may_tail _ _ _ _
theorem rmay_is (e : S43) : sorrelref09_May.f e.f0 e.f1 e.f2 e.f3 = some (mayE e) := by
  unfold sorrelref09_May.f mayE
  rw [rkey_is, Option.bind_some]; exact may_tail _ _ _ _
theorem rless_is (a b : S43) : sorrelref09_Less.f a.f0 a.f1 a.f2 a.f3 b.f0 b.f1 b.f2 b.f3 = some (LE a b) := by
  unfold sorrelref09_Less.f
  by_cases h : a.f0.toList = b.f0.toList
  · rw [LE_same h, h, less_irrefl, if_neg (by decide), if_pos rfl]
  · rw [LE_key h]; unfold lt
    cases e : Op.bytesLess a.f0.toList b.f0.toList
    · rw [if_neg (by decide), if_neg h]
    · rw [if_pos rfl]
def okFrom : Option S43 → List S43 → Bool
  | _, [] => true
  | none, e :: r => mayE e && okFrom (some e) r
  | some a, e :: r => mayE e && LE a e && okFrom (some e) r
def okB (l : List S43) : Bool := decide (l.length ≤ 4096) && okFrom none l
def prevAt (l : List S43) (i : Nat) : Option S43 := if i = 0 then none else l[i - 1]?
theorem ok_step (l : List S43) (i : Nat) (h : i < l.length) : okFrom (prevAt l i) (l.drop i) = (mayE l[i] && (decide (i = 0) || LE (l[i - 1]'(by omega)) l[i]) && okFrom (prevAt l (i + 1)) (l.drop (i + 1))) := by
  have e : l.drop i = l[i] :: l.drop (i + 1) := (List.getElem_cons_drop h).symm
  have p1 : prevAt l (i + 1) = some l[i] := by unfold prevAt; rw [if_neg (by omega), Nat.add_sub_cancel, List.getElem?_eq_getElem h]
  rw [e, p1]
  by_cases c : i = 0
  · subst c; have : prevAt l 0 = none := rfl; rw [this, okFrom]; simp
  · have : prevAt l i = some (l[i - 1]'(by omega)) := by unfold prevAt; rw [if_neg c, List.getElem?_eq_getElem (by omega)]
    rw [this, okFrom, decide_eq_false c, Bool.false_or]
theorem chk_l0 (l : List S43) (hl : l.length ≤ 4096) : ∀ (n i k : Nat), i + n = l.length → n + 1 ≤ k → block_Check.l0 k l l (l.length : Int) (i : Int) = some (if okFrom (prevAt l i) (l.drop i) = true then 0 else 1) := by
  intro n
  induction n with
  | zero =>
    intro i k h hk; obtain ⟨k, rfl⟩ : ∃ m, k = m + 1 := ⟨k - 1, by omega⟩; simp only [block_Check.l0]; rw [if_neg (by omega), List.drop_eq_nil_of_le (by omega)]; rfl
  | succ n ih =>
    intro i k h hk; obtain ⟨k, rfl⟩ : ∃ m, k = m + 1 := ⟨k - 1, by omega⟩; have hi : i < l.length := by omega
    simp only [block_Check.l0]; rw [if_pos (by omega), if_pos (by omega), if_pos (by omega), rdT l i hi, may_is, Option.bind_some, ok_step l i hi]
    cases hm : mayE l[i]
    · rw [if_neg (by decide)]; rfl
    · rw [if_pos rfl, Bool.true_and]
      by_cases c : i = 0
      · subst c; rw [if_neg (by omega), w64 (by omega) (by omega), show ((0 : Nat) : Int) + 1 = ((0 + 1 : Nat) : Int) from by omega, ih (0 + 1) k (by omega) (by omega)]; rfl
      · rw [if_pos (by omega), w64 (by omega) (by omega), if_pos (by omega), if_pos (by omega), show (i : Int) - 1 = ((i - 1 : Nat) : Int) from by omega, rdT l (i - 1) (by omega), less_is, Option.bind_some, decide_eq_false c, Bool.false_or]
        cases hx : LE (l[i - 1]'(by omega)) l[i]
        · rw [if_neg (by decide)]; rfl
        · rw [if_pos rfl, w64 (by omega) (by omega), show (i : Int) + 1 = ((i + 1 : Nat) : Int) from by omega, ih (i + 1) k (by omega) (by omega), Bool.true_and]
theorem check_is_ (l : List S43) (k : Nat) (hk : 4098 ≤ k) : block_Check.f k l = some (if okB l = true then 0 else 1) := by
  unfold block_Check.f okB
  by_cases h : l.length ≤ 4096
  · rw [if_neg (by omega), decide_eq_true h, Bool.true_and]; have := chk_l0 l h l.length 0 k (by omega) (by omega); rw [List.drop_zero] at this; exact this
  · rw [if_pos (by omega), decide_eq_false h]; rfl
theorem rchk_l0 (l : List S43) (hl : l.length ≤ 4096) : ∀ (n i k : Nat), i + n = l.length → n + 1 ≤ k → sorrelref09_Check.l0 k l (i : Int) = some (if okFrom (prevAt l i) (l.drop i) = true then 0 else 1) := by
  intro n
  induction n with
  | zero =>
    intro i k h hk; obtain ⟨k, rfl⟩ : ∃ m, k = m + 1 := ⟨k - 1, by omega⟩; simp only [sorrelref09_Check.l0]; rw [if_neg (by omega), List.drop_eq_nil_of_le (by omega)]; rfl
  | succ n ih =>
    intro i k h hk; obtain ⟨k, rfl⟩ : ∃ m, k = m + 1 := ⟨k - 1, by omega⟩; have hi : i < l.length := by omega
    simp only [sorrelref09_Check.l0]; rw [if_pos (by omega), if_pos (by omega), rdT l i hi, rmay_is, Option.bind_some, ok_step l i hi]
    cases hm : mayE l[i]
    · rw [if_neg (by decide)]; rfl
    · rw [if_pos rfl, Bool.true_and]
      by_cases c : i = 0
      · subst c; rw [if_neg (by omega), w64 (by omega) (by omega), show ((0 : Nat) : Int) + 1 = ((0 + 1 : Nat) : Int) from by omega, ih (0 + 1) k (by omega) (by omega)]; rfl
      · rw [if_pos (by omega), w64 (by omega) (by omega), if_pos (by omega), if_pos (by omega), show (i : Int) - 1 = ((i - 1 : Nat) : Int) from by omega, rdT l (i - 1) (by omega), rless_is, Option.bind_some, decide_eq_false c, Bool.false_or]
        cases hx : LE (l[i - 1]'(by omega)) l[i]
        · rw [if_neg (by decide)]; rfl
        · rw [if_pos rfl, w64 (by omega) (by omega), show (i : Int) + 1 = ((i + 1 : Nat) : Int) from by omega, ih (i + 1) k (by omega) (by omega), Bool.true_and]
theorem rcheck_is_ (l : List S43) (k : Nat) (hk : 4098 ≤ k) : sorrelref09_Check.f k l = some (if okB l = true then 0 else 1) := by
  unfold sorrelref09_Check.f okB
  by_cases h : l.length ≤ 4096
  · rw [if_neg (by omega), decide_eq_true h, Bool.true_and]; have := rchk_l0 l h l.length 0 k (by omega) (by omega); rw [List.drop_zero] at this; exact this
  · rw [if_pos (by omega), decide_eq_false h]; rfl
def lcp : List UInt8 → List UInt8 → Nat
  | a :: x, b :: y => if a = b then lcp x y + 1 else 0
  | _, _ => 0
theorem lcp_le : ∀ a b : List UInt8, lcp a b ≤ a.length ∧ lcp a b ≤ b.length
  | [], _ => by simp [lcp]
  | _ :: _, [] => by simp [lcp]
  | a :: x, b :: y => by
    have := lcp_le x y
    unfold lcp
    split <;> simp <;> omega
theorem bt_eq (x y : ByteArray) (i : Nat) (h1 : i < x.data.toList.length) (h2 : i < y.data.toList.length) : bt x (i : Int) = bt y (i : Int) ↔ x.data.toList[i] = y.data.toList[i] := by
  rw [bt_list x i h1, bt_list y i h2]
  constructor
  · intro h; exact UInt8.toNat_inj.1 (by omega)
  · intro h; rw [h]
theorem com_l0 (x y : ByteArray) (hx : x.size ≤ 4611686018427387904) : ∀ (n i k : Nat), x.data.toList.length - i ≤ n → n + 1 ≤ k → i ≤ x.data.toList.length → block_common.l0 k x y (i : Int) = some ((i + lcp (x.data.toList.drop i) (y.data.toList.drop i) : Nat) : Int) := by
  have hlx := len_list x
  have hly := len_list y
  intro n
  induction n with
  | zero =>
    intro i k h hk hi; obtain ⟨k, rfl⟩ : ∃ m, k = m + 1 := ⟨k - 1, by omega⟩; simp only [block_common.l0]; rw [if_neg (by unfold mn; omega), List.drop_eq_nil_of_le (by omega)]; rfl
  | succ n ih =>
    intro i k h hk hi; obtain ⟨k, rfl⟩ : ∃ m, k = m + 1 := ⟨k - 1, by omega⟩; simp only [block_common.l0]
    by_cases c : i < x.data.toList.length ∧ i < y.data.toList.length
    · obtain ⟨c1, c2⟩ := c; have e1 : x.data.toList.drop i = x.data.toList[i] :: x.data.toList.drop (i + 1) := (List.getElem_cons_drop c1).symm; have e2 : y.data.toList.drop i = y.data.toList[i] :: y.data.toList.drop (i + 1) := (List.getElem_cons_drop c2).symm; rw [if_pos (by unfold mn; omega), if_pos (by omega), if_pos (by omega), if_pos (by omega), e1, e2, lcp]
      by_cases g : x.data.toList[i] = y.data.toList[i]
      · rw [if_pos ((bt_eq x y i c1 c2).2 g), if_pos g, w64 (by omega) (by omega), show (i : Int) + 1 = ((i + 1 : Nat) : Int) from by omega, ih (i + 1) k (by omega) (by omega) (by omega)]
        congr 1; omega
      · rw [if_neg (fun e => g ((bt_eq x y i c1 c2).1 e)), if_neg g]; rfl
    · rw [if_neg (by unfold mn; omega)]
      by_cases c1 : i < x.data.toList.length
      · rw [List.drop_eq_nil_of_le (show y.data.toList.length ≤ i by omega)]
        cases x.data.toList.drop i <;> rfl
      · rw [List.drop_eq_nil_of_le (show x.data.toList.length ≤ i by omega)]; rfl
theorem com_is (x y : ByteArray) (k : Nat) (hx : x.size ≤ 4611686018427387904) (hk : x.size + 1 ≤ k) : block_common.f k x y = some ((lcp x.data.toList y.data.toList : Nat) : Int) := by
  unfold block_common.f
  have hlx := len_list x
  have := com_l0 x y hx x.size 0 k (by omega) (by omega) (by omega)
  simpa using this
theorem rcom_l0 (x y : ByteArray) (hx : x.size ≤ 4611686018427387904) : ∀ (n i k : Nat), x.data.toList.length - i ≤ n → n + 1 ≤ k → i ≤ x.data.toList.length → sorrelref09_common.l0 k x y (i : Int) = some ((i + lcp (x.data.toList.drop i) (y.data.toList.drop i) : Nat) : Int) := by
  have hlx := len_list x
  have hly := len_list y
  intro n
  induction n with
  | zero =>
    intro i k h hk hi; obtain ⟨k, rfl⟩ : ∃ m, k = m + 1 := ⟨k - 1, by omega⟩; simp only [sorrelref09_common.l0]; rw [if_neg (by omega), List.drop_eq_nil_of_le (by omega)]; rfl
  | succ n ih =>
    intro i k h hk hi; obtain ⟨k, rfl⟩ : ∃ m, k = m + 1 := ⟨k - 1, by omega⟩; simp only [sorrelref09_common.l0]
    by_cases c1 : i < x.data.toList.length
    · rw [if_pos (by omega)]
      by_cases c2 : i < y.data.toList.length
      · have e1 : x.data.toList.drop i = x.data.toList[i] :: x.data.toList.drop (i + 1) := (List.getElem_cons_drop c1).symm; have e2 : y.data.toList.drop i = y.data.toList[i] :: y.data.toList.drop (i + 1) := (List.getElem_cons_drop c2).symm; rw [if_pos (by omega), if_pos (by omega), e1, e2, lcp]
        by_cases g : x.data.toList[i] = y.data.toList[i]
        · rw [if_pos ((bt_eq x y i c1 c2).2 g), if_pos g, w64 (by omega) (by omega), show (i : Int) + 1 = ((i + 1 : Nat) : Int) from by omega, ih (i + 1) k (by omega) (by omega) (by omega)]
          congr 1; omega
        · rw [if_neg (fun e => g ((bt_eq x y i c1 c2).1 e)), if_neg g]; rfl
      · rw [if_neg (by omega), List.drop_eq_nil_of_le (show y.data.toList.length ≤ i by omega)]
        cases x.data.toList.drop i <;> rfl
    · rw [if_neg (by omega), List.drop_eq_nil_of_le (show x.data.toList.length ≤ i by omega)]; rfl
theorem rcom_is (x y : ByteArray) (k : Nat) (hx : x.size ≤ 4611686018427387904) (hk : x.size + 1 ≤ k) : sorrelref09_common.f k x y = some ((lcp x.data.toList y.data.toList : Nat) : Int) := by
  unfold sorrelref09_common.f
  have hlx := len_list x
  have := rcom_l0 x y hx x.size 0 k (by omega) (by omega) (by omega)
  simpa using this
end Go.Proofs.Ytlmoafkmhenejaa.VaChk
end
section
namespace Go.Proofs.Ytlmoafkmhenejaa.XA
end Go.Proofs.Ytlmoafkmhenejaa.XA
namespace Go.Proofs.Ytlmoafkmhenejaa.VLib
end Go.Proofs.Ytlmoafkmhenejaa.VLib
namespace Go.Proofs.Ytlmoafkmhenejaa.CLib
end Go.Proofs.Ytlmoafkmhenejaa.CLib
namespace Go.Proofs.Ytlmoafkmhenejaa.XW
end Go.Proofs.Ytlmoafkmhenejaa.XW
namespace Go.Proofs.Ytlmoafkmhenejaa.VaB1
end Go.Proofs.Ytlmoafkmhenejaa.VaB1
namespace Go.Proofs.Ytlmoafkmhenejaa.VaChk
end Go.Proofs.Ytlmoafkmhenejaa.VaChk
namespace Go.Proofs.YtlmoafkmhenejaaW.PrintWords
end Go.Proofs.YtlmoafkmhenejaaW.PrintWords
namespace Go.Proofs.YtlmoafkmhenejaaW.PrintLast
end Go.Proofs.YtlmoafkmhenejaaW.PrintLast
namespace Go.Proofs.YtlmoafkmhenejaaW.PrintMore
end Go.Proofs.YtlmoafkmhenejaaW.PrintMore
namespace Go.Proofs.Ytlmoafkmhenejaa.VaPut
open Go.RowKit Go.Proofs.Ytlmoafkmhenejaa.XA Go.Proofs.Ytlmoafkmhenejaa.VLib Go.Proofs.Ytlmoafkmhenejaa.CLib Go.Proofs.Ytlmoafkmhenejaa.XW Go.Proofs.Ytlmoafkmhenejaa.VaB1 Go.Proofs.Ytlmoafkmhenejaa.VaChk Go.Proofs.YtlmoafkmhenejaaW.PrintWords Go.Proofs.YtlmoafkmhenejaaW.PrintLast Go.Proofs.YtlmoafkmhenejaaW.PrintMore
def kL (e : S43) : List UInt8 := e.f0.data.toList
def vL (e : S43) : List UInt8 := e.f1.data.toList
def txtL (t : List UInt8) : List UInt8 := enc t.length ++ t
def entL (last : List UInt8) (e : S43) : List UInt8 :=
  enc (lcp last (kL e)) ++ (txtL ((kL e).drop (lcp last (kL e))) ++ (if e.f2 = true then enc (2 * e.f3.toNat + 1) else enc (2 * e.f3.toNat) ++ txtL (vL e)))
def bodyL : List UInt8 → List S43 → List UInt8
  | _, [] => []
  | last, e :: r => entL last e ++ bodyL (kL e) r
def putL (l : List S43) : List UInt8 := sealL (enc l.length ++ bodyL [] l)
structure MayE (e : S43) : Prop where
  k1 : 1 ≤ e.f0.size
  k64 : e.f0.size ≤ 64
  v : e.f1.size ≤ 256
  g : e.f2 = true → e.f1.size = 0
  s1 : 1 ≤ e.f3
  sm : e.f3 ≤ 1099511627775
theorem mayE_iff (e_ : S43) : mayE e_ = true ↔ MayE e_ := by
  unfold mayE
  simp only [Bool.and_eq_true, Bool.or_eq_true, decide_eq_true_eq, Bool.not_eq_true']
  constructor
  · rintro ⟨⟨⟨⟨⟨a, b⟩, c⟩, d⟩, e⟩, f⟩
    exact ⟨a, b, c, fun h => by rcases d with d | d; · rw [h] at d; cases d
                                · exact d, e, f⟩
  · rintro ⟨a, b, c, d, e, f⟩; refine ⟨⟨⟨⟨⟨a, b⟩, c⟩, ?_⟩, e⟩, f⟩
    cases h : e_.f2
    · exact .inl rfl
    · exact .inr (d h)
theorem ok_may : ∀ (l : List S43) (p : Option S43), okFrom p l = true → ∀ e ∈ l, MayE e
  | [], _, _ => fun _ h => by cases h
  | e :: r, p, h => by
    intro x hx
    have h2 : mayE e = true ∧ okFrom (some e) r = true := by
      cases p <;> simp only [okFrom, Bool.and_eq_true] at h
      · exact h
      · exact ⟨h.1.1, h.2⟩
    rcases List.mem_cons.1 hx with rfl | hx
    · exact (mayE_iff _).1 h2.1
    · exact ok_may r _ h2.2 x hx
theorem okB_iff (l : List S43) : okB l = true ↔ l.length ≤ 4096 ∧ okFrom none l = true := by unfold okB; rw [Bool.and_eq_true, decide_eq_true_eq]
theorem entL_le (last : List UInt8) (e : S43) (h : MayE e) : 3 ≤ (entL last e).length ∧ (entL last e).length ≤ 400 := by
  obtain ⟨a, b, c, d, f, g⟩ := h
  have hk : (kL e).length = e.f0.size := len_list e.f0
  have hv : (vL e).length = e.f1.size := len_list e.f1
  have hl := lcp_le last (kL e)
  have h1 := enc9 (n := lcp last (kL e)) (by omega)
  have h2 := enc9 (n := ((kL e).drop (lcp last (kL e))).length) (by rw [List.length_drop]; omega)
  have h3 := enc9 (n := 2 * e.f3.toNat + 1) (by omega)
  have h4 := enc9 (n := 2 * e.f3.toNat) (by omega)
  have h5 := enc9 (n := (vL e).length) (by omega)
  have p1 := enc_pos (lcp last (kL e))
  have p2 := enc_pos ((kL e).drop (lcp last (kL e))).length
  have p3 := enc_pos (2 * e.f3.toNat + 1)
  have p4 := enc_pos (2 * e.f3.toNat)
  have hd : ((kL e).drop (lcp last (kL e))).length = (kL e).length - lcp last (kL e) := List.length_drop
  unfold entL txtL
  split <;> simp only [List.length_append] <;> omega
theorem bodyL_le : ∀ (l : List S43) (last : List UInt8), (∀ e ∈ l, MayE e) → (bodyL last l).length ≤ 400 * l.length
  | [], _, _ => by simp [bodyL]
  | e :: r, last, h => by
    have h1 := entL_le last e (h e List.mem_cons_self); have h2 := bodyL_le r (kL e) (fun x hx => h x (List.mem_cons_of_mem _ hx)); simp only [bodyL, List.length_append, List.length_cons]; omega
theorem ext_drop (s : ByteArray) (n : Nat) : (s.extract n s.size).data.toList = s.data.toList.drop n := by
  rw [extract_list, List.take_of_length_le (by rw [len_list]; exact Nat.le_refl _)]
theorem bput_l0 (l : List S43) (hm : ∀ e ∈ l, MayE e) (hl : l.length ≤ 4096) : ∀ (n i k : Nat) (acc : List UInt8) (last : ByteArray), i + n = l.length → last.size ≤ 64 → acc ≠ [] → acc.length ≤ 400 * i + 9 → 10 * (400 * l.length + 9) + n + 400 ≤ k →
    block_Put.l0 k l acc last (i : Int) = some (bs (sealL (acc ++ bodyL last.data.toList (l.drop i))), 0) := by
  intro n
  induction n with
  | zero =>
    intro i k acc last h hz ha hb hk; obtain ⟨k, rfl⟩ : ∃ m, k = m + 1 := ⟨k - 1, by omega⟩; simp only [block_Put.l0]; rw [if_neg (by omega), if_neg ha, List.drop_eq_nil_of_le (by omega)]; have := seal_is (bs acc) k (by rw [bs_size]; omega) (by rw [bs_size]; omega); rw [show (⟨acc.toArray⟩ : ByteArray) = bs acc from rfl, this]; simp only [Option.bind_some, bodyL, List.append_nil]; rfl
  | succ n ih =>
    intro i k acc last h hz ha hb hk; obtain ⟨k, rfl⟩ : ∃ m, k = m + 1 := ⟨k - 1, by omega⟩; have hi : i < l.length := by omega
    obtain ⟨m1, m2, m3, m4, m5, m6⟩ := hm l[i] (List.getElem_mem hi); have hle := entL_le last.data.toList l[i] (hm l[i] (List.getElem_mem hi)); have hk0 : (kL l[i]).length = (l[i]).f0.size := len_list _; have hcl := lcp_le last.data.toList (kL l[i]); have hq : (l[i]).f3 = ((l[i]).f3.toNat : Int) := by omega
    have hdl : ((kL l[i]).drop (lcp last.data.toList (kL l[i]))).length = (kL l[i]).length - lcp last.data.toList (kL l[i]) := List.length_drop; have e0 : l.drop i = l[i] :: l.drop (i + 1) := (List.getElem_cons_drop hi).symm; have hxd : ((l[i]).f0.extract (lcp last.data.toList (kL l[i])) (l[i]).f0.size).data.toList = (kL l[i]).drop (lcp last.data.toList (kL l[i])) := ext_drop _ _; have hxs : ((l[i]).f0.extract (lcp last.data.toList (kL l[i])) (l[i]).f0.size).size ≤ 64 := by rw [← len_list, hxd]; omega
    have hn1 : lcp last.data.toList (kL l[i]) ≤ 4611686018427387904 := by omega
    simp only [block_Put.l0]; rw [if_pos (by omega), if_pos (by omega), rdT l i hi, com_is last (l[i]).f0 k (by omega) (by omega)]; simp only [Option.bind_some]; rw [show (l[i]).f0.data.toList = kL l[i] from rfl, put_ok _ k hn1 (by omega)]; simp only [Option.bind_some]; rw [if_pos (by omega), if_pos (by omega), Int.toNat_natCast, text_ok _ k (by omega) (by omega)]; simp only [Option.bind_some]; rw [hxd]; have s1 : (bs (enc (lcp last.data.toList (kL l[i])))).size ≤ 9 := by rw [bs_size]; exact enc9 hn1
    have s2 : (bs (enc ((kL l[i]).drop (lcp last.data.toList (kL l[i]))).length ++ (kL l[i]).drop (lcp last.data.toList (kL l[i])))).size ≤ 73 := by
      have := enc9 (n := ((kL l[i]).drop (lcp last.data.toList (kL l[i]))).length) (by omega); rw [bs_size, List.length_append]; omega
    rw [if_pos (by omega)]
    by_cases hg : (l[i]).f2 = true
    · have s3 : (bs (enc (2 * (l[i]).f3.toNat + 1))).size ≤ 9 := by rw [bs_size]; exact enc9 (by omega)
      rw [if_pos hg, w64 (n := 2 * (l[i]).f3) (by omega) (by omega), w64 (n := 2 * (l[i]).f3 + 1) (by omega) (by omega), show 2 * (l[i]).f3 + 1 = ((2 * (l[i]).f3.toNat + 1 : Nat) : Int) from by omega, put_ok _ k (by omega) (by omega)]; simp only [Option.bind_some]; rw [if_pos (by omega), w64 (by omega) (by omega), show (i : Int) + 1 = ((i + 1 : Nat) : Int) from by omega, bs_list, bs_list, bs_list]; have hel : entL last.data.toList l[i] = enc (lcp last.data.toList (kL l[i])) ++ ((enc ((kL l[i]).drop (lcp last.data.toList (kL l[i]))).length ++ (kL l[i]).drop (lcp last.data.toList (kL l[i]))) ++ enc (2 * (l[i]).f3.toNat + 1)) := by unfold entL txtL; rw [if_pos hg]
      rw [ih (i + 1) k _ _ (by omega) m2 (by simp [ha]) (by rw [hel] at hle; simp only [List.length_append] at hle ⊢; omega) (by omega), e0, bodyL, hel]; simp only [List.append_assoc]; rfl
    · have s3 : (bs (enc (2 * (l[i]).f3.toNat))).size ≤ 9 := by rw [bs_size]; exact enc9 (by omega)
      have hv0 : (vL l[i]).length = (l[i]).f1.size := len_list _
      have s4 : (bs (enc (l[i]).f1.data.toList.length ++ (l[i]).f1.data.toList)).size ≤ 265 := by
        have := enc9 (n := (vL l[i]).length) (by omega); rw [bs_size, List.length_append]; unfold vL at *; omega
      rw [if_neg hg, w64 (by omega) (by omega), show 2 * (l[i]).f3 = ((2 * (l[i]).f3.toNat : Nat) : Int) from by omega, put_ok _ k (by omega) (by omega)]; simp only [Option.bind_some]; rw [text_ok _ k (by omega) (by omega)]; simp only [Option.bind_some]; rw [if_pos (by omega), w64 (by omega) (by omega), show (i : Int) + 1 = ((i + 1 : Nat) : Int) from by omega, bs_list, bs_list, bs_list, bs_list]; have hel : entL last.data.toList l[i] = enc (lcp last.data.toList (kL l[i])) ++ ((enc ((kL l[i]).drop (lcp last.data.toList (kL l[i]))).length ++ (kL l[i]).drop (lcp last.data.toList (kL l[i]))) ++ (enc (2 * (l[i]).f3.toNat) ++ (enc (l[i]).f1.data.toList.length ++ (l[i]).f1.data.toList))) := by unfold entL txtL; rw [if_neg hg]; rfl
      rw [ih (i + 1) k _ _ (by omega) m2 (by simp [ha]) (by rw [hel] at hle; simp only [List.length_append] at hle ⊢; omega) (by omega), e0, bodyL, hel]; simp only [List.append_assoc]; rfl
theorem bput_ok (l : List S43) (k : Nat) (h : okB l = true) (hk : 4000 * l.length + 9000 ≤ k) : block_Put.f k l = some (bs (putL l), 0) := by
  obtain ⟨h1, h2⟩ := (okB_iff l).1 h
  have s1 : (bs (enc l.length)).size ≤ 9 := by rw [bs_size]; exact enc9 (by omega)
  unfold block_Put.f
  rw [check_is_ l k (by omega), Option.bind_some, h, if_pos rfl, if_pos rfl, put_ok _ k (by omega) (by omega)]
  simp only [Option.bind_some]
  rw [if_pos (by omega)]
  have hp := enc_pos l.length
  rw [bs_size] at s1
  have := bput_l0 l (ok_may l none h2) h1 l.length 0 k (enc l.length) (⟨#[]⟩ : ByteArray) (by omega) (by decide) (by intro e; rw [e] at hp; simp at hp) (by omega) (by omega)
  rw [List.drop_zero] at this
  exact this
end Go.Proofs.Ytlmoafkmhenejaa.VaPut
end
