/- Plain laws on what the functions written out for this seat come to. -/
import Derived.Test.YthjgnnldpepdfaaXAx1
import Derived.Test.YthjgnnldpepdfaaXAx2
import Derived.Test.YthjgnnldpepdfaaVLib
import Derived.Test.YthjgnnldpepdfaaCLib
namespace Go.Proofs.Ythjgnnldpepdfaa.VaBl
open Go.RowKit Go.Proofs.Ythjgnnldpepdfaa.XA Go.Proofs.Ythjgnnldpepdfaa.VLib Go.Proofs.Ythjgnnldpepdfaa.CLib Go.Proofs.YthjgnnldpepdfaaW.PrintWords Go.Proofs.YthjgnnldpepdfaaW.PrintLast Go.Proofs.YthjgnnldpepdfaaW.PrintMore
/-! ### crc_More, crc_Sum -/
theorem more_l1 : ∀ (d K j : Nat) (s : ByteArray) (c : BitVec 32) (n i : Int), j + d = 8 → crc_More.l1 (K + d + 1) s (c.toNat : Int) n i (j : Int) = crc_More.l0 K s ((bsteps d c).toNat : Int) n (wrap64 (i + 1)) := by
  intro d
  induction d with
  | zero =>
    intro K j s c n i h
    simp only [crc_More.l1]
    rw [if_neg (by omega)]; rfl
  | succ d ih =>
    intro K j s c n i h
    rw [show K + (d + 1) + 1 = (K + d + 1) + 1 from by omega]
    simp only [crc_More.l1]
    rw [if_pos (by omega), and1_u32, w64 (n := (j : Int) + 1) (by omega) (by omega), ← half, poly_toNat, xor_u32]
    by_cases b : c.toNat % 2 = 1
    · rw [if_pos (by omega), ← bstep_one c b]
      exact ih K (j + 1) s (bstep c) n i (by omega)
    · rw [if_neg (by omega), ← bstep_zero c b]
      exact ih K (j + 1) s (bstep c) n i (by omega)
theorem more_l0 : ∀ (n K i : Nat) (s : ByteArray) (c : BitVec 32), i + n = s.data.toList.length → s.size ≤ 4611686018427387904 →
    crc_More.l0 (10 * n + (K + 1)) s (c.toNat : Int) (s.size : Int) (i : Int) = some ((~~~ crcL c (s.data.toList.drop i)).toNat : Int) := by
  intro n
  induction n with
  | zero =>
    intro K i s c h hs
    have hl := len_list s
    rw [Nat.mul_zero, Nat.zero_add]
    simp only [crc_More.l0]
    have hlt := (~~~ c).isLt
    rw [if_neg (by omega), List.drop_eq_nil_of_le (by omega), ones_xor, w64 (by omega) (by omega)]
    rfl
  | succ n ih =>
    intro K i s c h hs
    have hl := len_list s
    have hlt : i < s.data.toList.length := by omega
    rw [show 10 * (n + 1) + (K + 1) = (10 * n + (K + 1) + 9) + 1 from by omega]
    simp only [crc_More.l0]
    rw [if_pos (by omega), if_pos (by omega), if_pos (by omega), wide_bt s i hlt]
    have hw := (wide (s.data.toList[i]'hlt)).isLt
    rw [Int.emod_eq_of_lt (by omega) (by omega), xor_u32]
    have h1 := more_l1 8 (10 * n + (K + 1)) 0 s (c ^^^ wide (s.data.toList[i]'hlt)) (s.size : Int) (i : Int) rfl
    rw [show 10 * n + (K + 1) + 9 = 10 * n + (K + 1) + 8 + 1 from rfl]
    refine h1.trans ?_
    rw [w64 (by omega) (by omega), drop_cons s i hlt]
    exact ih K (i + 1) s (cbyte c (s.data.toList[i]'hlt)) (by omega) hs
theorem more_is (x : Int) (s : ByteArray) (k : Nat) (hk : 10 * s.size + 1 ≤ k) (hs : s.size ≤ 4611686018427387904) :
    crc_More.f k x s = some ((crcM (BitVec.ofInt 32 x) s.data.toList).toNat : Int) := by
  obtain ⟨K, rfl⟩ : ∃ K, k = 10 * s.size + (K + 1) := ⟨k - 10 * s.size - 1, by omega⟩
  unfold crc_More.f
  have hlt := (BitVec.ofInt 32 x).isLt
  rw [low32, Int.emod_eq_of_lt (by omega) (by omega), ones_xor]
  have h := more_l0 s.size K 0 s (~~~ BitVec.ofInt 32 x) (by rw [len_list]; omega) hs
  exact h
theorem more_bv (c : BitVec 32) (s : ByteArray) (k : Nat) (hk : 10 * s.size + 1 ≤ k) (hs : s.size ≤ 4611686018427387904) :
    crc_More.f k (c.toNat : Int) s = some ((crcM c s.data.toList).toNat : Int) := by
  rw [more_is _ s k hk hs, ofInt_toNat]
theorem sum_is (s : ByteArray) (k : Nat) (hk : 10 * s.size + 1 ≤ k) (hs : s.size ≤ 4611686018427387904) :
    crc_Sum.f k s = some ((crcM 0#32 s.data.toList).toNat : Int) := by
  unfold crc_Sum.f
  rw [more_is _ s k hk hs]
  rfl
/-! ### the bits of keys -/
def tx (s : ByteArray) : List UInt8 := s.data.toList
def sm (l : List UInt8) : Nat := (crcM 0#32 l).toNat
theorem sm_lt (l : List UInt8) : sm l < 4294967296 := (crcM 0#32 l).isLt
def pl (key : List UInt8) (n i : Nat) : Nat := (sm key + i * (sm (key ++ [35]) ||| 1)) % n
theorem or1_lt (x : Nat) (h : x < 4294967296) : x ||| 1 < 4294967296 := Nat.or_lt_two_pow (n := 32) h (by decide)
theorem or1 (x : Nat) (h : x < 4294967296) : Go.bits .or .i64 (x : Int) 1 = ((x ||| 1 : Nat) : Int) := by
  have hx := or1_lt x h
  have e : Go.bits .or .i64 (x : Int) ((1 : Nat) : Int) = ((x ||| 1 : Nat) : Int) := by
    unfold Go.bits
    have e1 : BitVec.ofInt 64 (x : Int) = BitVec.ofNat 64 x := by simp
    have e2 : BitVec.ofInt 64 ((1 : Nat) : Int) = BitVec.ofNat 64 1 := by simp
    show IntKind.i64.wrap ((BitVec.ofInt 64 (x : Int) ||| BitVec.ofInt 64 ((1 : Nat) : Int)).toNat : Int) = _
    rw [e1, e2, BitVec.toNat_or, BitVec.toNat_ofNat, BitVec.toNat_ofNat, Nat.mod_eq_of_lt (by omega), Nat.mod_eq_of_lt (by omega)]
    exact wraps_i64 _ (by omega) (by omega)
  exact e
theorem pl_lt (key : List UInt8) (n i : Nat) (h : 0 < n) : pl key n i < n := Nat.mod_lt _ h
theorem pl_int (key : List UInt8) (n i : Nat) (hi : i < 6) : Int.tmod (wrap64 ((sm key : Int) + (wrap64 ((i : Int) * ((sm (key ++ [35]) ||| 1 : Nat) : Int))))) (n : Int) = ((pl key n i : Nat) : Int) := by
  have h1 := sm_lt key
  have h2 := or1_lt _ (sm_lt (key ++ [35]))
  have h3 : i * (sm (key ++ [35]) ||| 1) ≤ 5 * 4294967296 := Nat.mul_le_mul (by omega) (by omega)
  have e1 : wrap64 ((i : Int) * ((sm (key ++ [35]) ||| 1 : Nat) : Int)) = ((i * (sm (key ++ [35]) ||| 1) : Nat) : Int) := by
    rw [← Int.natCast_mul]; exact w64 (by omega) (by omega)
  have e2 : wrap64 ((sm key : Int) + ((i * (sm (key ++ [35]) ||| 1) : Nat) : Int)) = ((sm key + i * (sm (key ++ [35]) ||| 1) : Nat) : Int) := by
    rw [← Int.natCast_add]; exact w64 (by omega) (by omega)
  rw [e1, e2]
  exact (Int.ofNat_tmod _ _).symm
theorem div8 (p : Nat) (h : p ≤ 1099511627776) : wrap64 (Int.tdiv (p : Int) 8) = ((p / 8 : Nat) : Int) := by
  rw [show Int.tdiv (p : Int) 8 = ((p / 8 : Nat) : Int) from (Int.ofNat_tdiv p 8).symm, w64 (by omega) (by omega)]
theorem mod8 (p : Nat) : Int.tmod (p : Int) 8 = ((p % 8 : Nat) : Int) := (Int.ofNat_tmod p 8).symm
def putp (xs : List Int) (p : Nat) : List Int := xs.set (p / 8) (Go.bits .or .u8 (rd xs ((p / 8 : Nat) : Int)) (shl .u8 1 ((p % 8 : Nat) : Int)))
theorem putp_len (xs : List Int) (p : Nat) : (putp xs p).length = xs.length := List.length_set
def keyFrom (key : List UInt8) (n : Nat) : Nat → Nat → List Int → List Int
  | 0, _, xs => xs
  | d + 1, i, xs => keyFrom key n d (i + 1) (putp xs (pl key n i))
theorem keyFrom_len (key : List UInt8) (n : Nat) : ∀ (d i : Nat) (xs : List Int), (keyFrom key n d i xs).length = xs.length
  | 0, _, _ => rfl
  | d + 1, i, xs => by rw [keyFrom, keyFrom_len key n d, putp_len]
def keysP (n : Nat) (ks : List ByteArray) (xs : List Int) : List Int := ks.foldl (fun ys key => keyFrom (tx key) n 6 0 ys) xs
theorem keysP_len (n : Nat) : ∀ (ks : List ByteArray) (xs : List Int), (keysP n ks xs).length = xs.length
  | [], _ => rfl
  | key :: ks, xs => by
    show (keysP n ks (keyFrom (tx key) n 6 0 xs)).length = _
    rw [keysP_len n ks, keyFrom_len]
theorem make_l1 (key : List UInt8) (n : Nat) (hn : 0 < n) (hm : n ≤ 1099511627776) : ∀ (d i k : Nat) (xs : List Int), i + d = 6 → d + 1 ≤ k → n ≤ 8 * xs.length →
    bloom_Make.l1 k xs (sm key : Int) ((sm (key ++ [35]) ||| 1 : Nat) : Int) (n : Int) (i : Int) = some (keyFrom key n d i xs) := by
  intro d
  induction d with
  | zero =>
    intro i k xs h hk hx
    obtain ⟨k, rfl⟩ : ∃ m, k = m + 1 := ⟨k - 1, by omega⟩
    simp only [bloom_Make.l1]
    rw [if_neg (by omega)]; rfl
  | succ d ih =>
    intro i k xs h hk hx
    obtain ⟨k, rfl⟩ : ∃ m, k = m + 1 := ⟨k - 1, by omega⟩
    have hp := pl_lt key n i hn
    simp only [bloom_Make.l1]
    rw [if_pos (by omega), if_neg (by omega), pl_int key n i (by omega), div8 _ (by omega), mod8, if_pos (by omega), if_pos (by omega), if_pos (by omega), w64 (by omega) (by omega), Int.toNat_natCast]
    exact ih (i + 1) k (putp xs (pl key n i)) (by omega) (by omega) (by rw [putp_len]; exact hx)
theorem sum_key (s : ByteArray) (k M : Nat) (hs : s.size ≤ M) (hM : M ≤ 1000000) (hk : 10 * M + 12 ≤ k) : crc_Sum.f k s = some ((sm (tx s) : Nat) : Int) ∧ crc_Sum.f k (s ++ (⟨#[35]⟩ : ByteArray)) = some ((sm (tx s ++ [35]) : Nat) : Int) := by
  have hz : (s ++ (⟨#[35]⟩ : ByteArray)).size = s.size + 1 := by rw [size_append]; rfl
  refine ⟨sum_is s k (by omega) (by omega), ?_⟩
  rw [sum_is _ k (by omega) (by omega), list_append]; rfl
theorem make_one (key : ByteArray) (n k M : Nat) (xs : List Int) (hn : 0 < n) (hm : n ≤ 1099511627776) (hx : n ≤ 8 * xs.length) (hs : key.size ≤ M) (hM : M ≤ 1000000) (hk : 10 * M + 12 ≤ k) :
    bloom_Make.one_f k key xs (n : Int) = some (keyFrom (tx key) n 6 0 xs) := by
  obtain ⟨h1, h2⟩ := sum_key key k M hs hM hk
  unfold bloom_Make.one_f
  rw [h1, Option.bind_some, if_pos (by omega), h2, Option.bind_some, or1 _ (sm_lt _)]
  exact make_l1 (tx key) n hn hm 6 0 k xs (by omega) (by omega) hx
theorem rdS (l : List ByteArray) (i : Nat) (h : i < l.length) : rdOf ByteArray.empty l (i : Int) = l[i] := by
  unfold rdOf; rw [Int.toNat_natCast, List.getD_eq_getElem?_getD, List.getElem?_eq_getElem h]; rfl
theorem make_l0 (ks : List ByteArray) (n M : Nat) (hn : 0 < n) (hm : n ≤ 1099511627776) (hM : M ≤ 1000000) (hl : ks.length ≤ 4611686018427387904) (hs : ∀ t ∈ ks, t.size ≤ M) : ∀ (d i k : Nat) (xs : List Int), i + d = ks.length → n ≤ 8 * xs.length → 10 * M + 13 + d ≤ k →
    bloom_Make.l0 k ks (n : Int) xs (i : Int) = some (strOfNums (keysP n (ks.drop i) xs), 0) := by
  intro d
  induction d with
  | zero =>
    intro i k xs h hx hk
    obtain ⟨k, rfl⟩ : ∃ m, k = m + 1 := ⟨k - 1, by omega⟩
    simp only [bloom_Make.l0]
    rw [if_neg (by omega), List.drop_eq_nil_of_le (by omega)]; rfl
  | succ d ih =>
    intro i k xs h hx hk
    obtain ⟨k, rfl⟩ : ∃ m, k = m + 1 := ⟨k - 1, by omega⟩
    have hi : i < ks.length := by omega
    have e : ks.drop i = ks[i] :: ks.drop (i + 1) := (List.getElem_cons_drop hi).symm
    simp only [bloom_Make.l0]
    rw [if_pos (by omega), if_pos (by omega), rdS ks i hi, make_one ks[i] n k M xs hn hm hx (hs _ (List.getElem_mem hi)) hM (by omega), Option.bind_some, w64 (by omega) (by omega), e]
    exact ih (i + 1) k _ (by omega) (by rw [keyFrom_len]; exact hx) (by omega)
/-- How many bytes of bits there are for so many keys. -/
def bytesN (n : Nat) : Nat := max 8 ((10 * min n 4096 + 7) / 8)
theorem size_is (x : Int) : bloom_Size.f x = some ((8 * bytesN x.toNat : Nat) : Int) := by
  unfold bloom_Size.f bytesN mx mn
  congr 1
  split <;> split <;> split <;> omega
theorem make_is (ks : List ByteArray) (k M : Nat) (hl : ks.length ≤ 4096) (hM : M ≤ 1000000) (hs : ∀ t ∈ ks, t.size ≤ M) (hk : 10 * M + 14 + ks.length ≤ k) :
    bloom_Make.f k ks = some (strOfNums (keysP (8 * bytesN ks.length) ks (List.replicate (bytesN ks.length) 0)), 0) := by
  unfold bloom_Make.f
  have hb : 8 ≤ bytesN ks.length ∧ bytesN ks.length ≤ 6000 := by unfold bytesN; omega
  rw [if_neg (by omega), size_is, Int.toNat_natCast, Option.bind_some, div8 _ (by omega), show 8 * bytesN ks.length / 8 = bytesN ks.length from by omega, if_pos (by omega), Int.toNat_natCast, if_pos (by omega)]
  exact make_l0 ks _ M (by omega) (by omega) hM (by omega) hs ks.length 0 k _ (by omega) (by rw [List.length_replicate]; omega) (by omega)
end Go.Proofs.Ythjgnnldpepdfaa.VaBl
