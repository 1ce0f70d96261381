/- Plain laws on what the functions written out for this seat come to. -/
import Derived.Test.YtlgcnpdikchllaaXAx1
import Derived.Test.YtlgcnpdikchllaaXAx2
import Derived.Test.YtlgcnpdikchllaaVLib
import Derived.Test.YtlgcnpdikchllaaCLib
namespace Go.Proofs.Ytlgcnpdikchllaa.VaFrm
open Go.RowKit Go.Proofs.Ytlgcnpdikchllaa.XA Go.Proofs.Ytlgcnpdikchllaa.VLib Go.Proofs.Ytlgcnpdikchllaa.CLib Go.Proofs.YtlgcnpdikchllaaW.PrintWords Go.Proofs.YtlgcnpdikchllaaW.PrintLast Go.Proofs.YtlgcnpdikchllaaW.PrintMore
/-! ### varint_Put -/
theorem put_digit (n : Nat) (hb : n < 9223372036854775808) : UInt8.ofNat (Go.bits .or .u8 ((n : Int) % 256) 128).toNat = UInt8.ofNat (n % 128 + 128) := by
  have e : (Go.bits .or .u8 ((n : Int) % 256) 128) = ((n % 128 + 128 : Nat) : Int) := by
    have := hb; rw [or128 _ (by omega) (by omega)]; omega
  rw [e, Int.toNat_natCast]
theorem put_loop : ∀ (f k n : Nat) (xs : List Int), n < 9223372036854775808 → n < 128 ^ (f + 1) → xs.length + f < 1000 → f < k →
    varint_Put.l0 k (n : Int) xs = some (bs ((xs.map fun n => UInt8.ofNat n.toNat) ++ enc n), 0) := by
  have last : ∀ (k n : Nat) (xs : List Int), n < 128 → xs.length < 1000 → 0 < k → varint_Put.l0 k (n : Int) xs = some (bs ((xs.map fun n => UInt8.ofNat n.toNat) ++ enc n), 0) := by
    intro k n xs hn hl hk
    obtain ⟨k, rfl⟩ : ∃ m, k = m + 1 := ⟨k - 1, by omega⟩
    simp only [varint_Put.l0]
    rw [if_neg (by omega), if_pos (by omega), nums_bs, List.map_append, enc_lt hn]
    simp only [List.map_cons, List.map_nil]
    rw [show ((n : Int) % 256).toNat = n from by omega]
  intro f
  induction f with
  | zero => intro k n xs _ h hl hk; exact last k n xs (by simpa using h) (by omega) (by omega)
  | succ f ih =>
    intro k n xs hb h hl hk
    by_cases c : n < 128
    · exact last k n xs c (by omega) (by omega)
    · obtain ⟨k, rfl⟩ : ∃ m, k = m + 1 := ⟨k - 1, by omega⟩
      simp only [varint_Put.l0]
      rw [if_pos (by omega), if_pos (by omega), show (n : Int) / 128 = ((n / 128 : Nat) : Int) from by omega]
      have hn : n / 128 < 128 ^ (f + 1) := by
        rw [Nat.div_lt_iff_lt_mul (by decide)]
        rwa [Nat.pow_succ] at h
      rw [ih k (n / 128) _ (by omega) hn (by simp only [List.length_append, List.length_cons, List.length_nil]; omega) (by omega)]
      simp only [List.map_append, List.map_cons, List.map_nil, List.append_assoc, List.cons_append, List.nil_append]
      rw [put_digit n hb, ← enc_ge c]
theorem put_ok (n k : Nat) (h : n ≤ 4611686018427387904) (hk : 11 ≤ k) : varint_Put.f k (n : Int) = some (bs (enc n), 0) := by
  obtain ⟨k, rfl⟩ : ∃ m, k = m + 1 := ⟨k - 1, by omega⟩
  unfold varint_Put.f
  rw [if_neg (by omega), show decide ((n : Int) > 4611686018427387904) = false from decide_eq_false (by omega)]
  simp only [varint_Put.j0]
  rw [if_neg (by simp), put_loop 8 k n [] (by omega) (by omega) (by simp) (by omega)]
  rfl
theorem put_no (n : Int) (k : Nat) (h : n < 0 ∨ 4611686018427387904 < n) (hk : 1 ≤ k) : varint_Put.f k n = some (bs [], 1) := by
  obtain ⟨k, rfl⟩ : ∃ m, k = m + 1 := ⟨k - 1, by omega⟩
  unfold varint_Put.f
  by_cases c : n < 0
  · rw [if_pos c]; simp only [varint_Put.j0]; rw [if_pos trivial]; rfl
  · rw [if_neg c, show decide (n > 4611686018427387904) = true from decide_eq_true (by omega)]
    simp only [varint_Put.j0]; rw [if_pos trivial]; rfl
/-! ### varint_Text, a text with its length ahead -/
theorem text_ok (s : ByteArray) (k : Nat) (h : s.size ≤ 262144) (hk : 11 ≤ k) : varint_Text.f k s = some (bs (enc s.data.toList.length ++ s.data.toList), 0) := by
  unfold varint_Text.f
  have h9 := enc9 (n := s.size) (by omega)
  rw [if_neg (by omega), put_ok s.size k (by omega) hk]
  simp only [Option.bind_some]
  rw [if_pos (by rw [bs_size]; omega), len_list]
  rw [show bs (enc s.size) ++ s = bs (enc s.size ++ s.data.toList) from ext_list (by rw [list_append, bs_list, bs_list])]
theorem text_no (s : ByteArray) (k : Nat) (h : 262144 < s.size) : varint_Text.f k s = some (bs [], 1) := by
  unfold varint_Text.f
  rw [if_pos (by omega)]; rfl
/-! ### varint_Take -/
theorem take_loop : ∀ (f k i : Nat) (s : ByteArray) (x : Int), f + i = 9 → i ≤ s.data.toList.length → 0 ≤ x → x < 2 ^ (7 * i) → f < k →
    varint_Take.l0 k s x (i : Int) = some (fromI x i (dcd f (decide (i = 0)) (s.data.toList.drop i))) := by
  intro f
  induction f with
  | zero =>
    intro k i s x hf hi h0 h1 hk
    obtain ⟨k, rfl⟩ : ∃ m, k = m + 1 := ⟨k - 1, by omega⟩
    simp only [varint_Take.l0]
    rw [if_neg (by omega)]
    rfl
  | succ f ih =>
    intro k i s x hf hi h0 h1 hk
    obtain ⟨k, rfl⟩ : ∃ m, k = m + 1 := ⟨k - 1, by omega⟩
    have hsz := len_list s
    simp only [varint_Take.l0]
    rw [if_pos (by omega)]
    by_cases he : i = s.data.toList.length
    · rw [if_pos (by omega), List.drop_eq_nil_of_le (by omega)]
      rfl
    · have hlt : i < s.data.toList.length := by omega
      have hb := s.data.toList[i].toNat_lt
      have hs := step_lt x (s.data.toList[i].toNat : Int) i h0 h1
      rw [if_neg (by omega), if_pos (by omega), if_pos (by omega), w64 (by omega) (by omega), if_pos (by omega)]
      rw [← w64 (n := 7 * (i : Int)) (by omega) (by omega), bt_list s i hlt, step_or x _ i (by omega) h0 h1 (by omega) (by omega), drop_cons s i hlt, w64 (n := (i : Int) + 1) (by omega) (by omega)]
      by_cases c : 128 ≤ s.data.toList[i].toNat
      · rw [if_pos (by omega), fromI_more x _ i f _ _ c]
        exact ih k (i + 1) s _ (by omega) (by omega) hs.1 hs.2 (by omega)
      · rw [if_neg (by omega), fromI_last x _ i f _ _ c]
        by_cases p : i = 0
        · rw [if_neg (by omega), if_neg (show ¬ (decide (i = 0) = false ∧ s.data.toList[i].toNat = 0) by simp [p])]
          split <;> rfl
        · rw [if_pos (by omega)]
          by_cases z : s.data.toList[i].toNat = 0
          · rw [if_pos (by omega), if_pos ⟨by simp [p], z⟩]
          · rw [if_neg (by omega), if_neg (show ¬ (decide (i = 0) = false ∧ s.data.toList[i].toNat = 0) by rintro ⟨_, h⟩; exact z h)]
            split <;> rfl
theorem take_is (s : ByteArray) (k : Nat) (hk : 10 ≤ k) : varint_Take.f k s = some (outI (takeN s.data.toList)) := by
  unfold varint_Take.f
  have := take_loop 9 k 0 s 0 rfl (by omega) (by decide) (by decide) (by omega)
  rw [← fromI_zero]
  exact this
/-! ### varint_TakeText -/
theorem ttext_is (s : ByteArray) (k : Nat) (h : s.size ≤ 4611686018427387904) (hk : 10 ≤ k) : varint_TakeText.f k s = some (outT (takeX s.data.toList)) := by
  unfold varint_TakeText.f
  rw [take_is s k hk]
  simp only [Option.bind_some]
  unfold takeX
  have hl := len_list s
  by_cases e : (takeN s.data.toList).2.2 = 0
  · obtain ⟨h1, h2, h3, h4, h5⟩ := takeN_back s.data.toList (takeN s.data.toList).1 (takeN s.data.toList).2.1 (by rw [← e])
    rw [if_pos e, if_pos (by omega)]
    by_cases g : 262144 < (takeN s.data.toList).1
    · rw [if_pos (by omega), if_pos g]; rfl
    · rw [if_neg (by omega), if_neg g, w64 (by omega) (by omega)]
      by_cases g2 : s.data.toList.length - (takeN s.data.toList).2.1 < (takeN s.data.toList).1
      · rw [if_pos (by omega), if_pos g2]; rfl
      · rw [if_neg (by omega), if_neg g2, w64 (by omega) (by omega), if_pos (by omega), if_pos (by omega), if_pos (by omega)]
        congr 2
        apply ext_list
        rw [extract_list, bs_list, Int.toNat_natCast, show (((takeN s.data.toList).2.1 : Int) + ((takeN s.data.toList).1 : Int)).toNat = (takeN s.data.toList).2.1 + (takeN s.data.toList).1 from by omega, List.drop_take, Nat.add_sub_cancel_left]
  · rw [if_neg e, if_neg (by omega)]; rfl
/-! ### crc_More, crc_Sum -/
theorem more_l1 : ∀ (d K j : Nat) (s : ByteArray) (c : BitVec 32) (n i : Int), j + d = 8 → crc_More.l1 (K + d + 1) s (c.toNat : Int) n i (j : Int) = crc_More.l0 K s ((bsteps d c).toNat : Int) n (wrap64 (i + 1)) := by
  intro d
  induction d with
  | zero =>
    intro K j s c n i h
    simp only [crc_More.l1]
    rw [if_neg (by omega)]; rfl
  | succ d ih =>
    intro K j s c n i h
    rw [show K + (d + 1) + 1 = (K + d + 1) + 1 from by omega]
    simp only [crc_More.l1]
    rw [if_pos (by omega), and1_u32, w64 (n := (j : Int) + 1) (by omega) (by omega), ← half, poly_toNat, xor_u32]
    by_cases b : c.toNat % 2 = 1
    · rw [if_pos (by omega), ← bstep_one c b]
      exact ih K (j + 1) s (bstep c) n i (by omega)
    · rw [if_neg (by omega), ← bstep_zero c b]
      exact ih K (j + 1) s (bstep c) n i (by omega)
theorem more_l0 : ∀ (n K i : Nat) (s : ByteArray) (c : BitVec 32), i + n = s.data.toList.length → s.size ≤ 4611686018427387904 →
    crc_More.l0 (10 * n + (K + 1)) s (c.toNat : Int) (s.size : Int) (i : Int) = some ((~~~ crcL c (s.data.toList.drop i)).toNat : Int) := by
  intro n
  induction n with
  | zero =>
    intro K i s c h hs
    have hl := len_list s
    rw [Nat.mul_zero, Nat.zero_add]
    simp only [crc_More.l0]
    have hlt := (~~~ c).isLt
    rw [if_neg (by omega), List.drop_eq_nil_of_le (by omega), ones_xor, w64 (by omega) (by omega)]
    rfl
  | succ n ih =>
    intro K i s c h hs
    have hl := len_list s
    have hlt : i < s.data.toList.length := by omega
    rw [show 10 * (n + 1) + (K + 1) = (10 * n + (K + 1) + 9) + 1 from by omega]
    simp only [crc_More.l0]
    rw [if_pos (by omega), if_pos (by omega), if_pos (by omega), wide_bt s i hlt]
    have hw := (wide (s.data.toList[i]'hlt)).isLt
    rw [Int.emod_eq_of_lt (by omega) (by omega), xor_u32]
    have h1 := more_l1 8 (10 * n + (K + 1)) 0 s (c ^^^ wide (s.data.toList[i]'hlt)) (s.size : Int) (i : Int) rfl
    rw [show 10 * n + (K + 1) + 9 = 10 * n + (K + 1) + 8 + 1 from rfl]
    refine h1.trans ?_
    rw [w64 (by omega) (by omega), drop_cons s i hlt]
    exact ih K (i + 1) s (cbyte c (s.data.toList[i]'hlt)) (by omega) hs
theorem more_is (x : Int) (s : ByteArray) (k : Nat) (hk : 10 * s.size + 1 ≤ k) (hs : s.size ≤ 4611686018427387904) :
    crc_More.f k x s = some ((crcM (BitVec.ofInt 32 x) s.data.toList).toNat : Int) := by
  obtain ⟨K, rfl⟩ : ∃ K, k = 10 * s.size + (K + 1) := ⟨k - 10 * s.size - 1, by omega⟩
  unfold crc_More.f
  have hlt := (BitVec.ofInt 32 x).isLt
  rw [low32, Int.emod_eq_of_lt (by omega) (by omega), ones_xor]
  have h := more_l0 s.size K 0 s (~~~ BitVec.ofInt 32 x) (by rw [len_list]; omega) hs
  exact h
theorem more_bv (c : BitVec 32) (s : ByteArray) (k : Nat) (hk : 10 * s.size + 1 ≤ k) (hs : s.size ≤ 4611686018427387904) :
    crc_More.f k (c.toNat : Int) s = some ((crcM c s.data.toList).toNat : Int) := by
  rw [more_is _ s k hk hs, ofInt_toNat]
theorem sum_is (s : ByteArray) (k : Nat) (hk : 10 * s.size + 1 ≤ k) (hs : s.size ≤ 4611686018427387904) :
    crc_Sum.f k s = some ((crcM 0#32 s.data.toList).toNat : Int) := by
  unfold crc_Sum.f
  rw [more_is _ s k hk hs]
  rfl
/-! ### four bytes of a number, the lowest first -/
def fix4 (n : Nat) : List UInt8 := [UInt8.ofNat n, UInt8.ofNat (n / 256), UInt8.ofNat (n / 65536), UInt8.ofNat (n / 16777216)]
theorem fix4_len (n : Nat) : (fix4 n).length = 4 := rfl
theorem dig_u8 (n : Nat) (d : Int) (m : Nat) (h : d = ((n / m : Nat) : Int) % 256) : UInt8.ofNat d.toNat = UInt8.ofNat (n / m) := by
  subst h
  rw [show (((n / m : Nat) : Int) % 256).toNat = (n / m) % 256 from by omega]
  apply UInt8.toNat_inj.1
  simp
theorem and255 (x : Int) (h0 : 0 ≤ x) (h1 : x < 9223372036854775808) : Go.bits .and .i64 x 255 = x % 256 :=
  bits_mask .i64 63 (by decide) wraps_i64 8 (by decide) x h0 (by simpa using h1)
theorem nums4 (n : Nat) (a b c d : Int) (ha : a = ((n / 1 : Nat) : Int) % 256) (hb : b = ((n / 256 : Nat) : Int) % 256) (hc : c = ((n / 65536 : Nat) : Int) % 256) (hd : d = ((n / 16777216 : Nat) : Int) % 256) : strOfNums [a, b, c, d] = bs (fix4 n) := by
  rw [nums_bs]
  simp only [List.map_cons, List.map_nil]
  rw [dig_u8 n a 1 ha, dig_u8 n b 256 hb, dig_u8 n c 65536 hc, dig_u8 n d 16777216 hd, Nat.div_one]
  rfl
theorem ref4 (n : Nat) (h : n < 9223372036854775808) : strOfNums ([(Go.bits .and .i64 (n : Int) 255) % 256, (Go.bits .and .i64 ((n : Int) / 256) 255) % 256, (Go.bits .and .i64 ((n : Int) / 65536) 255) % 256, (Go.bits .and .i64 ((n : Int) / 16777216) 255) % 256] : List Int) = bs (fix4 n) := by
  rw [and255 _ (by omega) (by omega), and255 _ (by omega) (by omega), and255 _ (by omega) (by omega), and255 _ (by omega) (by omega)]
  exact nums4 n _ _ _ _ (by omega) (by omega) (by omega) (by omega)
theorem fix4_val (n : Nat) (h : n < 4294967296) : (UInt8.ofNat n).toNat + (UInt8.ofNat (n / 256)).toNat * 256 + (UInt8.ofNat (n / 65536)).toNat * 65536 + (UInt8.ofNat (n / 16777216)).toNat * 16777216 = n := by
  simp; omega
theorem bytes_is (n : Nat) : crc_bytes.f (n : Int) = some (bs (fix4 n)) := by
  unfold crc_bytes.f crc_bytes.dig
  rw [nums4 n _ _ _ _ (by simp) (by simp) (by simp) (by simp)]
/-- Do bytes end with the sum of those ahead? -/
def chk (l : List UInt8) : Bool := decide (4 ≤ l.length) && (l.drop (l.length - 4) == fix4 (crcM 0#32 (l.take (l.length - 4))).toNat)
def sealL (l : List UInt8) : List UInt8 := l ++ fix4 (crcM 0#32 l).toNat
theorem chk_seal (l : List UInt8) : chk (sealL l) = true := by
  unfold chk sealL
  have h : (l ++ fix4 (crcM 0#32 l).toNat).length = l.length + 4 := by rw [List.length_append, fix4_len]
  rw [h, show l.length + 4 - 4 = l.length from by omega, List.drop_left, List.take_left]
  simp
theorem seal_is (s : ByteArray) (k : Nat) (hk : 10 * s.size + 1 ≤ k) (hs : s.size ≤ 4611686018427387904) : crc_Seal.f k s = some (bs (sealL s.data.toList)) := by
  unfold crc_Seal.f
  rw [sum_is s k hk hs]
  simp only [Option.bind_some]
  rw [bytes_is]
  simp only [Option.bind_some]
  rw [if_pos (by rw [bs_size, fix4_len]; omega), show s ++ bs (fix4 (crcM 0#32 s.data.toList).toNat) = bs (sealL s.data.toList) from ext_list (by rw [list_append, bs_list, bs_list]; rfl)]
theorem check_cut (s : ByteArray) (h : 4 ≤ s.size) : (s.extract 0 ((s.size : Int) - 4).toNat).data.toList = s.data.toList.take (s.data.toList.length - 4) ∧ (s.extract ((s.size : Int) - 4).toNat s.size).data.toList = s.data.toList.drop (s.data.toList.length - 4) := by
  have hl := len_list s
  rw [extract_list, extract_list, show ((s.size : Int) - 4).toNat = s.data.toList.length - 4 from by omega]
  exact ⟨rfl, by rw [List.take_of_length_le (by omega)]⟩
theorem cut_size (s : ByteArray) : (s.extract 0 ((s.size : Int) - 4).toNat).size ≤ s.size := by
  rw [← len_list, extract_list, List.drop_zero, List.length_take, len_list]; omega
theorem check_is (s : ByteArray) (k : Nat) (hk : 10 * s.size + 1 ≤ k) (hs : s.size ≤ 4611686018427387904) : crc_Check.f k s = some (chk s.data.toList) := by
  unfold crc_Check.f chk
  have hl := len_list s
  rw [w64 (by omega) (by omega)]
  by_cases c : 4 ≤ s.size
  · obtain ⟨e1, e2⟩ := check_cut s c
    have e3 := cut_size s
    rw [if_pos (by omega), if_pos (by omega), if_pos (by omega), sum_is _ k (by omega) (by omega)]
    simp only [Option.bind_some]
    rw [bytes_is]
    simp only [Option.bind_some]
    rw [toList_data, toList_data, e1, e2, bs_list, decide_eq_true (by omega)]
    rfl
  · rw [if_neg (by omega), decide_eq_false (by omega)]; rfl
/-! ### frames -/
def frm (t : List UInt8) : List UInt8 := sealL (enc t.length ++ t)
theorem frm_is (t : List UInt8) : frm t = enc t.length ++ (t ++ fix4 (crcM 0#32 (enc t.length ++ t)).toNat) := by
  unfold frm sealL; rw [List.append_assoc]
theorem frm_len (t : List UInt8) : (frm t).length = (enc t.length ++ t).length + 4 := by
  unfold frm sealL; rw [List.length_append, fix4_len]
theorem frm_le (t : List UInt8) (h : t.length ≤ 262144) : 5 ≤ (frm t).length ∧ (frm t).length ≤ t.length + 13 := by
  have := enc9 (n := t.length) (by omega)
  have := enc_pos t.length
  rw [frm_len, List.length_append]; omega
def takeF (l : List UInt8) : List UInt8 × Nat × Nat :=
  if (takeX l).2.2 = 0 ∧ (takeX l).2.1 + 4 ≤ l.length ∧ chk (l.take ((takeX l).2.1 + 4)) = true then ((takeX l).1, (takeX l).2.1 + 4, 0) else ([], 0, 30)
theorem takeF_cases (l : List UInt8) : takeF l = ([], 0, 30) ∨ ((takeF l).2.2 = 0 ∧ 5 ≤ (takeF l).2.1 ∧ (takeF l).2.1 ≤ l.length) := by
  unfold takeF
  split
  · next h =>
    right
    have := takeX_back l (takeX l).1 (takeX l).2.1 (by rw [← h.1])
    exact ⟨rfl, by dsimp only; omega, h.2.1⟩
  · exact .inl rfl
theorem takeF_frm (t rest : List UInt8) (h : t.length ≤ 262144) : takeF (frm t ++ rest) = (t, (frm t).length, 0) := by
  have e : takeX (frm t ++ rest) = (t, (enc t.length).length + t.length, 0) := by
    rw [frm_is, List.append_assoc, List.append_assoc]
    exact takeX_text t _ h
  unfold takeF
  have hl : (enc t.length).length + t.length + 4 = (frm t).length := by rw [frm_len, List.length_append]
  rw [e, if_pos]
  · dsimp only; rw [hl]
  · dsimp only
    rw [hl, List.take_left]
    exact ⟨rfl, by rw [List.length_append]; omega, chk_seal _⟩
theorem takeF_cut (t : List UInt8) (j : Nat) (h : t.length ≤ 262144) (hj : j < (frm t).length) : takeF ((frm t).take j) = ([], 0, 30) := by
  rw [frm_len] at hj
  have hf : frm t = (enc t.length ++ t) ++ fix4 (crcM 0#32 (enc t.length ++ t)).toNat := rfl
  unfold takeF
  by_cases c : j < (enc t.length ++ t).length
  · have e : takeX ((frm t).take j) = ([], 0, 10) := by
      rw [hf, List.take_append_of_le_length (by omega)]
      exact takeX_short t j h c
    rw [e, if_neg (fun g => absurd g.1 (by decide))]
  · have e : takeX ((frm t).take j) = (t, (enc t.length).length + t.length, 0) := by
      rw [hf, List.take_append, List.take_of_length_le (by omega), List.append_assoc]
      exact takeX_text t _ h
    rw [e, if_neg]
    intro g
    have g2 := g.2.1
    dsimp only at g2
    rw [List.length_take, frm_len] at g2
    rw [List.length_append] at hj g2
    omega
theorem takeF_nil : takeF [] = ([], 0, 30) := by
  have := takeF_cut [] 0 (by simp) (by have := (frm_le [] (by simp)).1; omega)
  simpa using this
/-- All frames that bytes begin with. -/
def allF : Nat → List UInt8 → List (List UInt8) × Nat
  | 0, _ => ([], 0)
  | f + 1, l => if (takeF l).2.2 = 0 then ((takeF l).1 :: (allF f (l.drop (takeF l).2.1)).1, (takeF l).2.1 + (allF f (l.drop (takeF l).2.1)).2) else ([], 0)
theorem allF_fuel : ∀ (f g : Nat) (l : List UInt8), l.length < f → l.length < g → allF f l = allF g l := by
  intro f
  induction f with
  | zero => intro g l h; omega
  | succ f ih =>
    intro g l h1 h2
    obtain ⟨g, rfl⟩ : ∃ m, g = m + 1 := ⟨g - 1, by omega⟩
    simp only [allF]
    rcases takeF_cases l with e | ⟨e, e1, e2⟩
    · rw [e, if_neg (by decide)]; rfl
    · have hd : (l.drop (takeF l).2.1).length = l.length - (takeF l).2.1 := List.length_drop
      rw [if_pos e, if_pos e, ih g _ (by omega) (by omega)]
def allL (l : List UInt8) : List (List UInt8) × Nat := allF (l.length + 1) l
theorem allL_none {l : List UInt8} (h : takeF l = ([], 0, 30)) : allL l = ([], 0) := by
  unfold allL; simp only [allF]; rw [h, if_neg (by decide)]
theorem allL_some {l : List UInt8} (h : (takeF l).2.2 = 0) : allL l = ((takeF l).1 :: (allL (l.drop (takeF l).2.1)).1, (takeF l).2.1 + (allL (l.drop (takeF l).2.1)).2) := by
  rcases takeF_cases l with e | ⟨e, e1, e2⟩
  · rw [e] at h; exact absurd h (by decide)
  · have hd : (l.drop (takeF l).2.1).length = l.length - (takeF l).2.1 := List.length_drop
    unfold allL
    conv => lhs; rw [allF]
    rw [if_pos e, allF_fuel l.length ((l.drop (takeF l).2.1).length + 1) _ (by omega) (by omega)]
theorem allL_le : ∀ (n : Nat) (l : List UInt8), l.length ≤ n → (allL l).1.length ≤ l.length ∧ (allL l).2 ≤ l.length := by
  intro n
  induction n with
  | zero =>
    intro l h
    rw [List.length_eq_zero_iff.1 (by omega : l.length = 0), allL_none takeF_nil]; simp
  | succ n ih =>
    intro l h
    rcases takeF_cases l with e | ⟨e, e1, e2⟩
    · rw [allL_none e]; simp
    · have hd : (l.drop (takeF l).2.1).length = l.length - (takeF l).2.1 := List.length_drop
      have := ih (l.drop (takeF l).2.1) (by omega)
      rw [allL_some e]; simp only [List.length_cons]; omega
/-- The frames of texts, one behind the other. -/
def flat (ts : List (List UInt8)) : List UInt8 := (ts.map frm).flatten
theorem flat_nil : flat [] = [] := rfl
theorem flat_cons (t : List UInt8) (ts : List (List UInt8)) : flat (t :: ts) = frm t ++ flat ts := rfl
theorem flat_app (a b : List (List UInt8)) : flat (a ++ b) = flat a ++ flat b := by unfold flat; rw [List.map_append, List.flatten_append]
theorem allL_flat (rest : List UInt8) : ∀ ts : List (List UInt8), (∀ t ∈ ts, t.length ≤ 262144) → allL (flat ts ++ rest) = (ts ++ (allL rest).1, (flat ts).length + (allL rest).2) := by
  intro ts
  induction ts with
  | nil => intro _; simp [flat_nil]
  | cons t ts ih =>
    intro h
    have e := takeF_frm t (flat ts ++ rest) (h t (by simp))
    rw [flat_cons, List.append_assoc, allL_some (by rw [e]), e]
    dsimp only
    rw [List.drop_left, ih (fun x hx => h x (by simp [hx])), List.length_append]
    simp only [List.cons_append, Nat.add_assoc]
set_option linter.unusedSimpArgs false
theorem fput_ok (s : ByteArray) (k : Nat) (h : s.size ≤ 262144) (hk : 10 * s.size + 120 ≤ k) : frame_Put.f k s = some (bs (frm s.data.toList), 0) := by
  unfold frame_Put.f
  have h9 := enc9 (n := s.data.toList.length) (by rw [len_list]; omega)
  have hl := len_list s
  have hz : (bs (enc s.data.toList.length ++ s.data.toList)).size ≤ s.size + 9 := by rw [bs_size, List.length_append]; omega
  rw [text_ok s k h (by omega)]
  simp only [Option.bind_some]
  rw [if_pos trivial, seal_is _ k (by omega) (by omega)]
  simp only [Option.bind_some]
  rw [bs_list]; rfl
theorem fput_no (s : ByteArray) (k : Nat) (h : 262144 < s.size) : frame_Put.f k s = some (bs [], 1) := by
  unfold frame_Put.f
  rw [text_no s k h]
  simp only [Option.bind_some]
  rw [if_neg (by decide)]; rfl
theorem ftake_is (s : ByteArray) (k : Nat) (h : s.size ≤ 4611686018427387000) (hk : 10 * s.size + 11 ≤ k) : frame_Take.f k s = some (outT (takeF s.data.toList)) := by
  unfold frame_Take.f takeF
  have hl := len_list s
  rw [ttext_is s k (by omega) (by omega)]
  simp only [Option.bind_some]
  by_cases e : (takeX s.data.toList).2.2 = 0
  · obtain ⟨h1, h2, h3, h4⟩ := takeX_back s.data.toList (takeX s.data.toList).1 (takeX s.data.toList).2.1 (by rw [← e])
    have w1 : wrap64 (((takeX s.data.toList).2.1 : Int) + 4) = ((takeX s.data.toList).2.1 : Int) + 4 := w64 (by omega) (by omega)
    have w2 : wrap64 ((s.size : Int) - ((takeX s.data.toList).2.1 : Int)) = (s.size : Int) - ((takeX s.data.toList).2.1 : Int) := w64 (by omega) (by omega)
    rw [if_pos (by omega)]
    simp only [w1, w2]
    by_cases c : (takeX s.data.toList).2.1 + 4 ≤ s.data.toList.length
    · have hx : (s.extract 0 (((takeX s.data.toList).2.1 : Int) + 4).toNat).data.toList = s.data.toList.take ((takeX s.data.toList).2.1 + 4) := by
        rw [extract_list, List.drop_zero, show (((takeX s.data.toList).2.1 : Int) + 4).toNat = (takeX s.data.toList).2.1 + 4 from by omega]
      have hz : (s.extract 0 (((takeX s.data.toList).2.1 : Int) + 4).toNat).size ≤ s.size := by
        rw [← len_list, hx, List.length_take, hl]; omega
      rw [if_neg (by omega), if_pos (by omega), if_pos (by omega), check_is _ k (by omega) (by omega), hx]
      simp only [Option.bind_some]
      by_cases g : chk (s.data.toList.take ((takeX s.data.toList).2.1 + 4)) = true
      · rw [if_pos g, if_pos ⟨e, c, g⟩]; rfl
      · rw [if_neg g, if_neg (fun x => g x.2.2)]; rfl
    · rw [if_pos (by omega), if_neg (fun x => c x.2.1)]; rfl
  · rw [if_neg (by omega), if_neg (fun x => e x.1)]; rfl
theorem fall_l0 (s : ByteArray) (hs : s.size ≤ 1099511627776) : ∀ (n at_ k : Nat) (out : List ByteArray), at_ ≤ s.size → s.size - at_ ≤ n → out.length ≤ at_ → 10 * s.size + 12 + n ≤ k →
    frame_All.l0 k s out (at_ : Int) = some (out ++ (allL (s.data.toList.drop at_)).1.map bs, ((at_ + (allL (s.data.toList.drop at_)).2 : Nat) : Int)) := by
  have hl := len_list s
  intro n
  induction n with
  | zero =>
    intro at_ k out h1 h2 h3 hk
    obtain ⟨k, rfl⟩ : ∃ m, k = m + 1 := ⟨k - 1, by omega⟩
    have hx : (s.extract (at_ : Int).toNat s.size).data.toList = s.data.toList.drop at_ := by
      rw [extract_list, Int.toNat_natCast, List.take_of_length_le (by omega)]
    have hz : (s.extract (at_ : Int).toNat s.size).size ≤ s.size := by rw [← len_list, hx, List.length_drop]; omega
    simp only [frame_All.l0]
    rw [if_pos (by omega), if_pos (by omega), ftake_is _ k (by omega) (by omega), hx, List.drop_eq_nil_of_le (by omega), takeF_nil, allL_none takeF_nil]
    simp only [Option.bind_some]
    rw [if_neg (by decide)]; simp
  | succ n ih =>
    intro at_ k out h1 h2 h3 hk
    obtain ⟨k, rfl⟩ : ∃ m, k = m + 1 := ⟨k - 1, by omega⟩
    have hx : (s.extract (at_ : Int).toNat s.size).data.toList = s.data.toList.drop at_ := by
      rw [extract_list, Int.toNat_natCast, List.take_of_length_le (by omega)]
    have hz : (s.extract (at_ : Int).toNat s.size).size ≤ s.size := by rw [← len_list, hx, List.length_drop]; omega
    simp only [frame_All.l0]
    rw [if_pos (by omega), if_pos (by omega), ftake_is _ k (by omega) (by omega), hx]
    simp only [Option.bind_some]
    rcases takeF_cases (s.data.toList.drop at_) with e | ⟨e, e1, e2⟩
    · rw [e, allL_none e, if_neg (by decide)]; simp
    · have hd : (s.data.toList.drop at_).length = s.data.toList.length - at_ := List.length_drop
      rw [if_pos (by omega), if_pos (by omega), w64 (by omega) (by omega), allL_some e, List.drop_drop, show (at_ : Int) + ((takeF (s.data.toList.drop at_)).2.1 : Int) = ((at_ + (takeF (s.data.toList.drop at_)).2.1 : Nat) : Int) from by omega,
        ih _ k _ (by omega) (by omega) (by rw [List.length_append]; simp only [List.length_cons, List.length_nil]; omega) (by omega)]
      simp only [List.map_cons, List.append_assoc, List.cons_append, List.nil_append, Nat.add_assoc]
theorem fall_is (s : ByteArray) (k : Nat) (hs : s.size ≤ 1099511627776) (hk : 11 * s.size + 12 ≤ k) : frame_All.f k s = some ((allL s.data.toList).1.map bs, ((allL s.data.toList).2 : Int)) := by
  unfold frame_All.f
  have := fall_l0 s hs s.size 0 k [] (by omega) (by omega) (by simp) (by omega)
  simpa using this
theorem rdS (l : List ByteArray) (i : Nat) (h : i < l.length) : rdOf ByteArray.empty l (i : Int) = l[i] := by
  unfold rdOf; rw [Int.toNat_natCast, List.getD_eq_getElem?_getD, List.getElem?_eq_getElem h]; rfl
theorem same_l0 (a b : List ByteArray) (hab : a.length = b.length) (ha : a.length ≤ 4611686018427387904) : ∀ (n i k : Nat), i + n = a.length → n + 1 ≤ k →
    sorrelref01_Same.l0 k a b (i : Int) = some (decide (a.drop i = b.drop i)) := by
  intro n
  induction n with
  | zero =>
    intro i k h hk
    obtain ⟨k, rfl⟩ : ∃ m, k = m + 1 := ⟨k - 1, by omega⟩
    simp only [sorrelref01_Same.l0]
    rw [if_neg (by omega), List.drop_eq_nil_of_le (by omega), List.drop_eq_nil_of_le (by omega)]; rfl
  | succ n ih =>
    intro i k h hk
    obtain ⟨k, rfl⟩ : ∃ m, k = m + 1 := ⟨k - 1, by omega⟩
    have h1 : i < a.length := by omega
    have h2 : i < b.length := by omega
    have e1 : a.drop i = a[i] :: a.drop (i + 1) := (List.getElem_cons_drop h1).symm
    have e2 : b.drop i = b[i] :: b.drop (i + 1) := (List.getElem_cons_drop h2).symm
    simp only [sorrelref01_Same.l0]
    rw [if_pos (by omega), if_pos (by omega), if_pos (by omega), rdS a i h1, rdS b i h2, w64 (by omega) (by omega), show (i : Int) + 1 = ((i + 1 : Nat) : Int) from by omega, ih (i + 1) k (by omega) (by omega), e1, e2]
    by_cases c : a[i] = b[i]
    · rw [if_pos (by rw [c])]
      exact congrArg some (decide_eq_decide.2 (by rw [c]; exact ⟨fun h => by rw [h], fun h => (List.cons.inj h).2⟩))
    · rw [if_neg (fun g => c (toList_inj.1 g))]
      congr 1
      rw [decide_eq_false]; intro g; exact c (List.cons.inj g).1
theorem same_is (a b : List ByteArray) (k : Nat) (ha : a.length ≤ 4611686018427387904) (hk : a.length + 1 ≤ k) : sorrelref01_Same.f k a b = some (decide (a = b)) := by
  unfold sorrelref01_Same.f
  by_cases c : a.length = b.length
  · rw [if_pos (by omega)]
    exact same_l0 a b c ha a.length 0 k (by omega) hk
  · rw [if_neg (by omega), decide_eq_false]; intro g; exact c (by rw [g])
theorem same_yes (a b : List ByteArray) (k : Nat) (e : a = b) (ha : a.length ≤ 4611686018427387904) (hk : a.length + 1 ≤ k) : sorrelref01_Same.f k a b = some true := by
  rw [same_is a b k ha hk, decide_eq_true e]
theorem awake_is (k : Nat) (hk : 500 ≤ k) : sorrellaw03_awake.f k = some true := by
  unfold sorrellaw03_awake.f
  have s1 : (⟨#[111, 110, 101]⟩ : ByteArray).size = 3 := rfl
  have s2 : (⟨#[]⟩ : ByteArray).size = 0 := rfl
  have e1 : frm [111, 110, 101] = sealL [3, 111, 110, 101] := by
    unfold frm; rw [show ([111, 110, 101] : List UInt8).length = 3 from rfl, enc_lt (by decide)]; rfl
  have e2 : frm [] = sealL [0] := by
    unfold frm; rw [show ([] : List UInt8).length = 0 from rfl, enc_lt (by decide)]; rfl
  have l1 : (sealL [3, 111, 110, 101]).length = 8 := rfl
  have l2 : (sealL [0]).length = 5 := rfl
  have e3 : allL (sealL [3, 111, 110, 101] ++ sealL [0] ++ [120]) = ([[111, 110, 101], []], 13) := by decide +kernel
  have z : (bs (sealL [3, 111, 110, 101]) ++ bs (sealL [0]) ++ (⟨#[120]⟩ : ByteArray)).size = 14 := by
    rw [size_append, size_append, bs_size, bs_size, l1, l2]; rfl
  rw [fput_ok _ k (by rw [s1]; omega) (by rw [s1]; omega), fput_ok _ k (by rw [s2]; omega) (by rw [s2]; omega)]
  simp only [Option.bind_some]
  rw [e1, e2, fall_is _ k (by rw [z]; omega) (by rw [z]; omega), list_append, list_append, bs_list, bs_list, e3, bs_size, bs_size, l1, l2, if_pos (by decide), if_pos (by decide)]
  simp only [Option.bind_some]
  rw [if_pos trivial, if_pos trivial, if_pos (show ((8 : Nat) : Int) = 8 from rfl), if_pos (show ((5 : Nat) : Int) = 5 from rfl), same_yes (List.map bs [[111, 110, 101], []]) [(⟨#[111, 110, 101]⟩ : ByteArray), (⟨#[]⟩ : ByteArray)] k rfl (by decide) (by simp only [List.length_map, List.length_cons, List.length_nil]; omega)]
  rfl
end Go.Proofs.Ytlgcnpdikchllaa.VaFrm
