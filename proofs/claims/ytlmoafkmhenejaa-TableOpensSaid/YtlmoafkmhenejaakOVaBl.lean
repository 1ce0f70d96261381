import Derived.Test.YtlmoafkmhenejaakOXAx0
import Derived.Test.YtlmoafkmhenejaakOXAx3
import Derived.Test.YtlmoafkmhenejaakOXAx4
import Derived.Test.YtlmoafkmhenejaakOXAx5
import Derived.Test.YtlmoafkmhenejaakOXAx6
import Derived.Test.YtlmoafkmhenejaakOXAx7
import Derived.Test.YtlmoafkmhenejaakOXAx8
import Derived.Test.YtlmoafkmhenejaakOXAx9
import Derived.Test.YtlmoafkmhenejaakOXAx10
import Derived.Test.YtlmoafkmhenejaakOXAx11
import Derived.Test.YtlmoafkmhenejaakOXAx13
import Derived.Test.YtlmoafkmhenejaakOXAx14
import Derived.Test.YtlmoafkmhenejaakOXAx15
import Derived.Test.YtlmoafkmhenejaakOVLib
import Derived.Test.YtlmoafkmhenejaakOMTab10
section
namespace Go.Proofs.Ytlmoafkmhenejaa.XA
end Go.Proofs.Ytlmoafkmhenejaa.XA
namespace Go.Proofs.Ytlmoafkmhenejaa.VLib
end Go.Proofs.Ytlmoafkmhenejaa.VLib
namespace Go.Proofs.Ytlmoafkmhenejaa.CLib
end Go.Proofs.Ytlmoafkmhenejaa.CLib
namespace Go.Proofs.YtlmoafkmhenejaaW.PrintWords
end Go.Proofs.YtlmoafkmhenejaaW.PrintWords
namespace Go.Proofs.YtlmoafkmhenejaaW.PrintLast
end Go.Proofs.YtlmoafkmhenejaaW.PrintLast
namespace Go.Proofs.YtlmoafkmhenejaaW.PrintMore
end Go.Proofs.YtlmoafkmhenejaaW.PrintMore
namespace Go.Proofs.Ytlmoafkmhenejaa.VaBl
open Go.RowKit Go.Proofs.Ytlmoafkmhenejaa.XA Go.Proofs.Ytlmoafkmhenejaa.VLib Go.Proofs.Ytlmoafkmhenejaa.CLib Go.Proofs.YtlmoafkmhenejaaW.PrintWords Go.Proofs.YtlmoafkmhenejaaW.PrintLast Go.Proofs.YtlmoafkmhenejaaW.PrintMore
theorem more_l1 : ∀ (d K j : Nat) (s : ByteArray) (c : BitVec 32) (n i : Int), j + d = 8 → crc_More.l1 (K + d + 1) s (c.toNat : Int) n i (j : Int) = crc_More.l0 K s ((bsteps d c).toNat : Int) n (wrap64 (i + 1)) := by
  intro d
  induction d with
  | zero =>
    intro K j s c n i h; simp only [crc_More.l1]; rw [if_neg (by omega)]; rfl
  | succ d ih =>
    intro K j s c n i h; rw [show K + (d + 1) + 1 = (K + d + 1) + 1 from by omega]; simp only [crc_More.l1]; rw [if_pos (by omega), and1_u32, w64 (n := (j : Int) + 1) (by omega) (by omega), ← half, poly_toNat, xor_u32]
    by_cases b : c.toNat % 2 = 1
    · rw [if_pos (by omega), ← bstep_one c b]; exact ih K (j + 1) s (bstep c) n i (by omega)
    · rw [if_neg (by omega), ← bstep_zero c b]; exact ih K (j + 1) s (bstep c) n i (by omega)
theorem more_l0 : ∀ (n K i : Nat) (s : ByteArray) (c : BitVec 32), i + n = s.data.toList.length → s.size ≤ 4611686018427387904 →
    crc_More.l0 (10 * n + (K + 1)) s (c.toNat : Int) (s.size : Int) (i : Int) = some ((~~~ crcL c (s.data.toList.drop i)).toNat : Int) := by
  intro n
  induction n with
  | zero =>
    intro K i s c h hs; have hl := len_list s; rw [Nat.mul_zero, Nat.zero_add]; simp only [crc_More.l0]; have hlt := (~~~ c).isLt; rw [if_neg (by omega), List.drop_eq_nil_of_le (by omega), ones_xor, w64 (by omega) (by omega)]
    rfl
  | succ n ih =>
    intro K i s c h hs; have hl := len_list s; have hlt : i < s.data.toList.length := by omega
    rw [show 10 * (n + 1) + (K + 1) = (10 * n + (K + 1) + 9) + 1 from by omega]; simp only [crc_More.l0]; rw [if_pos (by omega), if_pos (by omega), if_pos (by omega), wide_bt s i hlt]; have hw := (wide (s.data.toList[i]'hlt)).isLt; rw [Int.emod_eq_of_lt (by omega) (by omega), xor_u32]; have h1 := more_l1 8 (10 * n + (K + 1)) 0 s (c ^^^ wide (s.data.toList[i]'hlt)) (s.size : Int) (i : Int) rfl; rw [show 10 * n + (K + 1) + 9 = 10 * n + (K + 1) + 8 + 1 from rfl]; refine h1.trans ?_; rw [w64 (by omega) (by omega), drop_cons s i hlt]; exact ih K (i + 1) s (cbyte c (s.data.toList[i]'hlt)) (by omega) hs
theorem more_is (x : Int) (s : ByteArray) (k : Nat) (hk : 10 * s.size + 1 ≤ k) (hs : s.size ≤ 4611686018427387904) :
    crc_More.f k x s = some ((crcM (BitVec.ofInt 32 x) s.data.toList).toNat : Int) := by
  obtain ⟨K, rfl⟩ : ∃ K, k = 10 * s.size + (K + 1) := ⟨k - 10 * s.size - 1, by omega⟩
  unfold crc_More.f
  have hlt := (BitVec.ofInt 32 x).isLt
  rw [low32, Int.emod_eq_of_lt (by omega) (by omega), ones_xor]
  have h := more_l0 s.size K 0 s (~~~ BitVec.ofInt 32 x) (by rw [len_list]; omega) hs
  exact h
theorem sum_is (s : ByteArray) (k : Nat) (hk : 10 * s.size + 1 ≤ k) (hs : s.size ≤ 4611686018427387904) :
    crc_Sum.f k s = some ((crcM 0#32 s.data.toList).toNat : Int) := by
  unfold crc_Sum.f
  rw [more_is _ s k hk hs]
  rfl
def tx (s : ByteArray) : List UInt8 := s.data.toList
def sm (l : List UInt8) : Nat := (crcM 0#32 l).toNat
theorem sm_lt (l : List UInt8) : sm l < 4294967296 := (crcM 0#32 l).isLt
def pl (key : List UInt8) (n i : Nat) : Nat := (sm key + i * (sm (key ++ [35]) ||| 1)) % n
theorem or1_lt (x : Nat) (h : x < 4294967296) : x ||| 1 < 4294967296 := Nat.or_lt_two_pow (n := 32) h (by decide)
theorem or1 (x : Nat) (h : x < 4294967296) : Go.bits .or .i64 (x : Int) 1 = ((x ||| 1 : Nat) : Int) := by
  have hx := or1_lt x h
  have e : Go.bits .or .i64 (x : Int) ((1 : Nat) : Int) = ((x ||| 1 : Nat) : Int) := by
    unfold Go.bits
    have e1 : BitVec.ofInt 64 (x : Int) = BitVec.ofNat 64 x := by simp
    have e2 : BitVec.ofInt 64 ((1 : Nat) : Int) = BitVec.ofNat 64 1 := by simp
    show IntKind.i64.wrap ((BitVec.ofInt 64 (x : Int) ||| BitVec.ofInt 64 ((1 : Nat) : Int)).toNat : Int) = _
    rw [e1, e2, BitVec.toNat_or, BitVec.toNat_ofNat, BitVec.toNat_ofNat, Nat.mod_eq_of_lt (by omega), Nat.mod_eq_of_lt (by omega)]; exact wraps_i64 _ (by omega) (by omega)
  exact e
theorem pl_lt (key : List UInt8) (n i : Nat) (h : 0 < n) : pl key n i < n := Nat.mod_lt _ h
theorem pl_int (key : List UInt8) (n i : Nat) (hi : i < 6) : Int.tmod (wrap64 ((sm key : Int) + (wrap64 ((i : Int) * ((sm (key ++ [35]) ||| 1 : Nat) : Int))))) (n : Int) = ((pl key n i : Nat) : Int) := by
  have h1 := sm_lt key
  have h2 := or1_lt _ (sm_lt (key ++ [35]))
  have h3 : i * (sm (key ++ [35]) ||| 1) ≤ 5 * 4294967296 := Nat.mul_le_mul (by omega) (by omega)
  have e1 : wrap64 ((i : Int) * ((sm (key ++ [35]) ||| 1 : Nat) : Int)) = ((i * (sm (key ++ [35]) ||| 1) : Nat) : Int) := by
    rw [← Int.natCast_mul]; exact w64 (by omega) (by omega)
  have e2 : wrap64 ((sm key : Int) + ((i * (sm (key ++ [35]) ||| 1) : Nat) : Int)) = ((sm key + i * (sm (key ++ [35]) ||| 1) : Nat) : Int) := by
    rw [← Int.natCast_add]; exact w64 (by omega) (by omega)
  rw [e1, e2]
  exact (Int.ofNat_tmod _ _).symm
theorem div8 (p : Nat) (h : p ≤ 1099511627776) : wrap64 (Int.tdiv (p : Int) 8) = ((p / 8 : Nat) : Int) := by
  rw [show Int.tdiv (p : Int) 8 = ((p / 8 : Nat) : Int) from (Int.ofNat_tdiv p 8).symm, w64 (by omega) (by omega)]
theorem mod8 (p : Nat) : Int.tmod (p : Int) 8 = ((p % 8 : Nat) : Int) := (Int.ofNat_tmod p 8).symm
def putp (xs : List Int) (p : Nat) : List Int := xs.set (p / 8) (Go.bits .or .u8 (rd xs ((p / 8 : Nat) : Int)) (shl .u8 1 ((p % 8 : Nat) : Int)))
theorem putp_len (xs : List Int) (p : Nat) : (putp xs p).length = xs.length := List.length_set
def keyFrom (key : List UInt8) (n : Nat) : Nat → Nat → List Int → List Int
  | 0, _, xs => xs
  | d + 1, i, xs => keyFrom key n d (i + 1) (putp xs (pl key n i))
theorem keyFrom_len (key : List UInt8) (n : Nat) : ∀ (d i : Nat) (xs : List Int), (keyFrom key n d i xs).length = xs.length
  | 0, _, _ => rfl
  | d + 1, i, xs => by rw [keyFrom, keyFrom_len key n d, putp_len]
def keysP (n : Nat) (ks : List ByteArray) (xs : List Int) : List Int := ks.foldl (fun ys key => keyFrom (tx key) n 6 0 ys) xs
theorem make_l1 (key : List UInt8) (n : Nat) (hn : 0 < n) (hm : n ≤ 1099511627776) : ∀ (d i k : Nat) (xs : List Int), i + d = 6 → d + 1 ≤ k → n ≤ 8 * xs.length →
    bloom_Make.l1 k xs (sm key : Int) ((sm (key ++ [35]) ||| 1 : Nat) : Int) (n : Int) (i : Int) = some (keyFrom key n d i xs) := by
  intro d
  induction d with
  | zero =>
    intro i k xs h hk hx; obtain ⟨k, rfl⟩ : ∃ m, k = m + 1 := ⟨k - 1, by omega⟩; simp only [bloom_Make.l1]; rw [if_neg (by omega)]; rfl
  | succ d ih =>
    intro i k xs h hk hx; obtain ⟨k, rfl⟩ : ∃ m, k = m + 1 := ⟨k - 1, by omega⟩; have hp := pl_lt key n i hn; simp only [bloom_Make.l1]; rw [if_pos (by omega), if_neg (by omega), pl_int key n i (by omega), div8 _ (by omega), mod8, if_pos (by omega), if_pos (by omega), if_pos (by omega), w64 (by omega) (by omega), Int.toNat_natCast]; exact ih (i + 1) k (putp xs (pl key n i)) (by omega) (by omega) (by rw [putp_len]; exact hx)
theorem sum_key (s : ByteArray) (k M : Nat) (hs : s.size ≤ M) (hM : M ≤ 1000000) (hk : 10 * M + 12 ≤ k) : crc_Sum.f k s = some ((sm (tx s) : Nat) : Int) ∧ crc_Sum.f k (s ++ (⟨#[35]⟩ : ByteArray)) = some ((sm (tx s ++ [35]) : Nat) : Int) := by
  have hz : (s ++ (⟨#[35]⟩ : ByteArray)).size = s.size + 1 := by rw [size_append]; rfl
  refine ⟨sum_is s k (by omega) (by omega), ?_⟩
  rw [sum_is _ k (by omega) (by omega), list_append]; rfl
theorem make_one (key : ByteArray) (n k M : Nat) (xs : List Int) (hn : 0 < n) (hm : n ≤ 1099511627776) (hx : n ≤ 8 * xs.length) (hs : key.size ≤ M) (hM : M ≤ 1000000) (hk : 10 * M + 12 ≤ k) :
    bloom_Make.one_f k key xs (n : Int) = some (keyFrom (tx key) n 6 0 xs) := by
  obtain ⟨h1, h2⟩ := sum_key key k M hs hM hk
  unfold bloom_Make.one_f
  rw [h1, Option.bind_some, if_pos (by omega), h2, Option.bind_some, or1 _ (sm_lt _)]
  exact make_l1 (tx key) n hn hm 6 0 k xs (by omega) (by omega) hx
theorem rdS (l : List ByteArray) (i : Nat) (h : i < l.length) : rdOf ByteArray.empty l (i : Int) = l[i] := by
  unfold rdOf; rw [Int.toNat_natCast, List.getD_eq_getElem?_getD, List.getElem?_eq_getElem h]; rfl
theorem make_l0 (ks : List ByteArray) (n M : Nat) (hn : 0 < n) (hm : n ≤ 1099511627776) (hM : M ≤ 1000000) (hl : ks.length ≤ 4611686018427387904) (hs : ∀ t ∈ ks, t.size ≤ M) : ∀ (d i k : Nat) (xs : List Int), i + d = ks.length → n ≤ 8 * xs.length → 10 * M + 13 + d ≤ k →
    bloom_Make.l0 k ks (n : Int) xs (i : Int) = some (strOfNums (keysP n (ks.drop i) xs), 0) := by
  intro d
  induction d with
  | zero =>
    intro i k xs h hx hk; obtain ⟨k, rfl⟩ : ∃ m, k = m + 1 := ⟨k - 1, by omega⟩; simp only [bloom_Make.l0]; rw [if_neg (by omega), List.drop_eq_nil_of_le (by omega)]; rfl
  | succ d ih =>
    intro i k xs h hx hk; obtain ⟨k, rfl⟩ : ∃ m, k = m + 1 := ⟨k - 1, by omega⟩; have hi : i < ks.length := by omega
    have e : ks.drop i = ks[i] :: ks.drop (i + 1) := (List.getElem_cons_drop hi).symm; simp only [bloom_Make.l0]; rw [if_pos (by omega), if_pos (by omega), rdS ks i hi, make_one ks[i] n k M xs hn hm hx (hs _ (List.getElem_mem hi)) hM (by omega), Option.bind_some, w64 (by omega) (by omega), e]; exact ih (i + 1) k _ (by omega) (by rw [keyFrom_len]; exact hx) (by omega)
def bytesN (n : Nat) : Nat := max 8 ((10 * min n 4096 + 7) / 8)
theorem size_is (x : Int) : bloom_Size.f x = some ((8 * bytesN x.toNat : Nat) : Int) := by
  unfold bloom_Size.f bytesN mx mn
  congr 1
  split <;> split <;> split <;> omega
theorem make_is (ks : List ByteArray) (k M : Nat) (hl : ks.length ≤ 4096) (hM : M ≤ 1000000) (hs : ∀ t ∈ ks, t.size ≤ M) (hk : 10 * M + 14 + ks.length ≤ k) :
    bloom_Make.f k ks = some (strOfNums (keysP (8 * bytesN ks.length) ks (List.replicate (bytesN ks.length) 0)), 0) := by
  unfold bloom_Make.f
  have hb : 8 ≤ bytesN ks.length ∧ bytesN ks.length ≤ 6000 := by unfold bytesN; omega
  rw [if_neg (by omega), size_is, Int.toNat_natCast, Option.bind_some, div8 _ (by omega), show 8 * bytesN ks.length / 8 = bytesN ks.length from by omega, if_pos (by omega), Int.toNat_natCast, if_pos (by omega)]
  exact make_l0 ks _ M (by omega) (by omega) hM (by omega) hs ks.length 0 k _ (by omega) (by rw [List.length_replicate]; omega) (by omega)
end Go.Proofs.Ytlmoafkmhenejaa.VaBl
end
section
namespace Go.Proofs.Ytlmoafkmhenejaa.XA
end Go.Proofs.Ytlmoafkmhenejaa.XA
namespace Go.Proofs.Ytlmoafkmhenejaa.VLib
end Go.Proofs.Ytlmoafkmhenejaa.VLib
namespace Go.Proofs.Ytlmoafkmhenejaa.CLib
end Go.Proofs.Ytlmoafkmhenejaa.CLib
namespace Go.Proofs.Ytlmoafkmhenejaa.VaBl
end Go.Proofs.Ytlmoafkmhenejaa.VaBl
namespace Go.Proofs.YtlmoafkmhenejaaW.PrintWords
end Go.Proofs.YtlmoafkmhenejaaW.PrintWords
namespace Go.Proofs.YtlmoafkmhenejaaW.PrintLast
end Go.Proofs.YtlmoafkmhenejaaW.PrintLast
namespace Go.Proofs.YtlmoafkmhenejaaW.PrintMore
end Go.Proofs.YtlmoafkmhenejaaW.PrintMore
namespace Go.Proofs.Ytlmoafkmhenejaa.VaHas
open Go.RowKit Go.Proofs.Ytlmoafkmhenejaa.XA Go.Proofs.Ytlmoafkmhenejaa.VLib Go.Proofs.Ytlmoafkmhenejaa.CLib Go.Proofs.Ytlmoafkmhenejaa.VaBl Go.Proofs.YtlmoafkmhenejaaW.PrintWords Go.Proofs.YtlmoafkmhenejaaW.PrintLast Go.Proofs.YtlmoafkmhenejaaW.PrintMore
def bitS (s : ByteArray) (p : Nat) : Bool := Go.bits .and .u8 (bt s ((p / 8 : Nat) : Int)) (shl .u8 1 ((p % 8 : Nat) : Int)) != 0
def hasFrom (s : ByteArray) (key : List UInt8) (n : Nat) : Nat → Nat → Bool
  | 0, _ => true
  | d + 1, i => bitS s (pl key n i) && hasFrom s key n d (i + 1)
theorem has_l0 (s : ByteArray) (key : List UInt8) (n : Nat) (hn : 0 < n) (hm : n ≤ 1099511627776) (hx : n ≤ 8 * s.size) : ∀ (d i k : Nat), i + d = 6 → d + 1 ≤ k →
    bloom_Has.l0 k s (sm key : Int) ((sm (key ++ [35]) ||| 1 : Nat) : Int) (n : Int) (i : Int) = some (hasFrom s key n d i) := by
  intro d
  induction d with
  | zero =>
    intro i k h hk; obtain ⟨k, rfl⟩ : ∃ m, k = m + 1 := ⟨k - 1, by omega⟩; simp only [bloom_Has.l0]; rw [if_neg (by omega)]; rfl
  | succ d ih =>
    intro i k h hk; obtain ⟨k, rfl⟩ : ∃ m, k = m + 1 := ⟨k - 1, by omega⟩; have hp := pl_lt key n i hn; simp only [bloom_Has.l0]; rw [if_pos (by omega), if_neg (by omega), pl_int key n i (by omega), div8 _ (by omega), mod8, if_pos (by omega), if_pos (by omega), if_pos (by omega), w64 (by omega) (by omega), show (i : Int) + 1 = ((i + 1 : Nat) : Int) from rfl, ih (i + 1) k (by omega) (by omega)]; rw [hasFrom]
    show (if bitS s (pl key n i) = true then _ else _) = _
    cases bitS s (pl key n i)
    · rw [if_neg (by decide), Bool.false_and]
    · rw [if_pos rfl, Bool.true_and]
def hasB (s : ByteArray) (key : List UInt8) : Bool := s.toList.isEmpty || hasFrom s key (8 * s.size) 6 0
theorem nil_size (s : ByteArray) : s.toList = [] ↔ s.size = 0 := by
  rw [toList_data, ← len_list]; exact List.length_eq_zero_iff.symm
theorem has_is (s key : ByteArray) (k M : Nat) (hz : s.size ≤ 1000000) (hs : key.size ≤ M) (hM : M ≤ 1000000) (hk : 10 * M + 12 ≤ k) : bloom_Has.f k s key = some (hasB s (tx key)) := by
  obtain ⟨h1, h2⟩ := sum_key key k M hs hM hk
  unfold bloom_Has.f hasB
  by_cases c : s.toList = []
  · rw [if_pos c, c]; rfl
  · have hc : s.toList.isEmpty = false := by cases h : s.toList with | nil => exact absurd h c | cons _ _ => rfl
    have c2 : s.size ≠ 0 := fun h => c ((nil_size s).2 h)
    have e : wrap64 (8 * (s.size : Int)) = ((8 * s.size : Nat) : Int) := by rw [w64 (by omega) (by omega)]; rfl
    rw [if_neg c, h1, Option.bind_some, if_pos (by omega), h2, Option.bind_some, or1 _ (sm_lt _), e, hc, Bool.false_or]; exact has_l0 s (tx key) (8 * s.size) (by omega) (by omega) (Nat.le_refl _) 6 0 k (by omega) (by omega)
theorem str_size (xs : List Int) : (strOfNums xs).size = xs.length := by rw [nums_bs, bs_size, List.length_map]
end Go.Proofs.Ytlmoafkmhenejaa.VaHas
end
section
namespace Go.Proofs.Ytlmoafkmhenejaa.XA
end Go.Proofs.Ytlmoafkmhenejaa.XA
namespace Go.Proofs.Ytlmoafkmhenejaa.VLib
end Go.Proofs.Ytlmoafkmhenejaa.VLib
namespace Go.Proofs.Ytlmoafkmhenejaa.CLib
end Go.Proofs.Ytlmoafkmhenejaa.CLib
namespace Go.Proofs.Ytlmoafkmhenejaa.VaBl
end Go.Proofs.Ytlmoafkmhenejaa.VaBl
namespace Go.Proofs.Ytlmoafkmhenejaa.VaHas
end Go.Proofs.Ytlmoafkmhenejaa.VaHas
namespace Go.Proofs.YtlmoafkmhenejaaW.PrintWords
end Go.Proofs.YtlmoafkmhenejaaW.PrintWords
namespace Go.Proofs.YtlmoafkmhenejaaW.PrintLast
end Go.Proofs.YtlmoafkmhenejaaW.PrintLast
namespace Go.Proofs.YtlmoafkmhenejaaW.PrintMore
end Go.Proofs.YtlmoafkmhenejaaW.PrintMore
namespace Go.Proofs.Ytlmoafkmhenejaa.VaBits
open Go.RowKit Go.Proofs.Ytlmoafkmhenejaa.XA Go.Proofs.Ytlmoafkmhenejaa.VLib Go.Proofs.Ytlmoafkmhenejaa.CLib Go.Proofs.Ytlmoafkmhenejaa.VaBl Go.Proofs.Ytlmoafkmhenejaa.VaHas Go.Proofs.YtlmoafkmhenejaaW.PrintWords Go.Proofs.YtlmoafkmhenejaaW.PrintLast Go.Proofs.YtlmoafkmhenejaaW.PrintMore
def ints (ys : List Nat) : List Int := List.map (fun (y : Nat) => (y : Int)) ys
def putN (ys : List Nat) (p : Nat) : List Nat := ys.set (p / 8) (ys.getD (p / 8) 0 ||| 2 ^ (p % 8))
def keyN (key : List UInt8) (n : Nat) : Nat → Nat → List Nat → List Nat
  | 0, _, ys => ys
  | d + 1, i, ys => keyN key n d (i + 1) (putN ys (pl key n i))
def keysN (n : Nat) (ks : List ByteArray) (ys : List Nat) : List Nat := ks.foldl (fun zs key => keyN (tx key) n 6 0 zs) ys
def okN (ys : List Nat) : Prop := ∀ y ∈ ys, y < 256
theorem getD_ok {ys : List Nat} (h : okN ys) (i : Nat) : ys.getD i 0 < 256 := by
  rw [List.getD_eq_getElem?_getD]
  by_cases c : i < ys.length
  · rw [List.getElem?_eq_getElem c]; exact h _ (List.getElem_mem c)
  · rw [List.getElem?_eq_none (by omega)]; decide
theorem or_pow : ∀ (a : Fin 256) (j : Fin 8), Go.bits .or .u8 (a.val : Int) (shl .u8 1 (j.val : Int)) = ((a.val ||| 2 ^ j.val : Nat) : Int) ∧ (a.val ||| 2 ^ j.val) < 256 := by decide +kernel
theorem rd_ints (ys : List Nat) (i : Nat) : rd (ints ys) (i : Int) = ((ys.getD i 0 : Nat) : Int) := by
  unfold rd ints
  rw [Int.toNat_natCast, List.getD_eq_getElem?_getD, List.getD_eq_getElem?_getD, List.getElem?_map]
  cases ys[i]? <;> rfl
theorem putN_ok {ys : List Nat} (h : okN ys) (p : Nat) : okN (putN ys p) := by
  intro y hy
  rcases List.mem_or_eq_of_mem_set hy with hy | rfl
  · exact h y hy
  · exact (or_pow ⟨_, getD_ok h (p / 8)⟩ ⟨p % 8, by omega⟩).2
theorem put_ints {ys : List Nat} (h : okN ys) (p : Nat) : putp (ints ys) p = ints (putN ys p) := by
  unfold putp putN
  rw [rd_ints, (or_pow ⟨_, getD_ok h (p / 8)⟩ ⟨p % 8, by omega⟩).1]
  unfold ints; rw [List.map_set]
theorem keyN_ok (key : List UInt8) (n : Nat) : ∀ (d i : Nat) (ys : List Nat), okN ys → okN (keyN key n d i ys)
  | 0, _, _, h => h
  | d + 1, i, _, h => keyN_ok key n d (i + 1) _ (putN_ok h _)
theorem key_ints (key : List UInt8) (n : Nat) : ∀ (d i : Nat) (ys : List Nat), okN ys → keyFrom key n d i (ints ys) = ints (keyN key n d i ys)
  | 0, _, _, _ => rfl
  | d + 1, i, ys, h => by rw [keyFrom, put_ints h, key_ints key n d (i + 1) _ (putN_ok h _)]; rfl
theorem keys_ints (n : Nat) : ∀ (ks : List ByteArray) (ys : List Nat), okN ys → keysP n ks (ints ys) = ints (keysN n ks ys)
  | [], _, _ => rfl
  | key :: ks, ys, h => by
    show keysP n ks (keyFrom (tx key) n 6 0 (ints ys)) = _
    rw [key_ints _ _ _ _ _ h, keys_ints n ks _ (keyN_ok (tx key) n 6 0 ys h)]; rfl
theorem putN_len (ys : List Nat) (p : Nat) : (putN ys p).length = ys.length := List.length_set
theorem keyN_len (key : List UInt8) (n : Nat) : ∀ (d i : Nat) (ys : List Nat), (keyN key n d i ys).length = ys.length
  | 0, _, _ => rfl
  | d + 1, i, ys => by rw [keyN, keyN_len key n d, putN_len]
theorem keysN_len (n : Nat) : ∀ (ks : List ByteArray) (ys : List Nat), (keysN n ks ys).length = ys.length
  | [], _ => rfl
  | key :: ks, ys => by
    show (keysN n ks (keyN (tx key) n 6 0 ys)).length = _
    rw [keysN_len n ks, keyN_len]
theorem zero_ok (m : Nat) : okN (List.replicate m 0) := fun y hy => by rw [(List.mem_replicate.1 hy).2]; decide
theorem zero_ints (m : Nat) : List.replicate m (0 : Int) = ints (List.replicate m 0) := by unfold ints; rw [List.map_replicate]; rfl
def bitsOf (ks : List ByteArray) : ByteArray := strOfNums (ints (keysN (8 * bytesN ks.length) ks (List.replicate (bytesN ks.length) 0)))
theorem bitsOf_size (ks : List ByteArray) : (bitsOf ks).size = bytesN ks.length := by
  unfold bitsOf; rw [str_size]; unfold ints; rw [List.length_map, keysN_len, List.length_replicate]
theorem make_bits (ks : List ByteArray) (k M : Nat) (hl : ks.length ≤ 4096) (hM : M ≤ 1000000) (hs : ∀ t ∈ ks, t.size ≤ M) (hk : 10 * M + 14 + ks.length ≤ k) : bloom_Make.f k ks = some (bitsOf ks, 0) := by
  rw [make_is ks k M hl hM hs hk, zero_ints, keys_ints _ _ _ (zero_ok _)]; rfl
theorem bytesN_pos (n : Nat) : 8 ≤ bytesN n ∧ bytesN n ≤ 6000 := by unfold bytesN; omega
end Go.Proofs.Ytlmoafkmhenejaa.VaBits
end
section
namespace Go.Proofs.Ytlmoafkmhenejaa.XA
end Go.Proofs.Ytlmoafkmhenejaa.XA
namespace Go.Proofs.Ytlmoafkmhenejaa.VLib
end Go.Proofs.Ytlmoafkmhenejaa.VLib
namespace Go.Proofs.Ytlmoafkmhenejaa.CLib
end Go.Proofs.Ytlmoafkmhenejaa.CLib
namespace Go.Proofs.Ytlmoafkmhenejaa.VaB1
end Go.Proofs.Ytlmoafkmhenejaa.VaB1
namespace Go.Proofs.YtlmoafkmhenejaaW.PrintWords
end Go.Proofs.YtlmoafkmhenejaaW.PrintWords
namespace Go.Proofs.YtlmoafkmhenejaaW.PrintLast
end Go.Proofs.YtlmoafkmhenejaaW.PrintLast
namespace Go.Proofs.YtlmoafkmhenejaaW.PrintMore
end Go.Proofs.YtlmoafkmhenejaaW.PrintMore
namespace Go.Proofs.Ytlmoafkmhenejaa.VaFix
open Go.RowKit Go.Proofs.Ytlmoafkmhenejaa.XA Go.Proofs.Ytlmoafkmhenejaa.VLib Go.Proofs.Ytlmoafkmhenejaa.CLib Go.Proofs.Ytlmoafkmhenejaa.VaB1 Go.Proofs.YtlmoafkmhenejaaW.PrintWords Go.Proofs.YtlmoafkmhenejaaW.PrintLast Go.Proofs.YtlmoafkmhenejaaW.PrintMore
theorem fix_is (n : Nat) (h : n ≤ 4294967295) : varint_Fix.f (n : Int) = some (bs (fix4 n), 0) := by
  unfold varint_Fix.f varint_Fix.dig
  rw [if_neg (by omega), if_neg (by omega), nums4 n _ _ _ _ (by simp) (by simp) (by simp) (by simp)]
theorem step_fix (x b : Int) (i : Nat) (hi : i ≤ 3) (h0 : 0 ≤ x) (h1 : x < 2 ^ (8 * i)) (b0 : 0 ≤ b) (b1 : b ≤ 255) :
    Go.bits .or .i64 x (shl .i64 (wrap64 b) (wrap64 (8 * (i : Int)))) = x + b * 2 ^ (8 * i) := by
  have hp : (2 : Int) ^ (8 * i) ≤ 2 ^ 24 := by
    have : (2 : Nat) ^ (8 * i) ≤ 2 ^ 24 := Nat.pow_le_pow_right (by decide) (by omega)
    exact_mod_cast this
  have hpos : (0 : Int) < 2 ^ (8 * i) := Int.pow_pos (by decide)
  have hb : b * 2 ^ (8 * i) ≤ 255 * 2 ^ 24 := Int.le_trans (Int.mul_le_mul_of_nonneg_right b1 (by omega)) (Int.mul_le_mul_of_nonneg_left hp (by decide))
  have hb0 : 0 ≤ b * 2 ^ (8 * i) := Int.mul_nonneg b0 (by omega)
  rw [w64 (by omega) (by omega), w64 (by omega) (by omega)]
  have e2 : shl .i64 b (8 * (i : Int)) = b * 2 ^ (8 * i) := by
    unfold shl
    rw [show (8 * (i : Int)).toNat = 8 * i from by omega, Nat.min_eq_left (by show 8 * i ≤ 64; omega)]; exact wraps_i64 _ hb0 (by omega)
  rw [e2]
  exact or_low x _ (8 * i) h0 h1 hb0 (Int.mul_emod_left _ _) (by omega) (by omega)
def valF (l : List UInt8) : Int := ((l.getD 0 0).toNat : Int) + ((l.getD 1 0).toNat : Int) * 256 + ((l.getD 2 0).toNat : Int) * 65536 + ((l.getD 3 0).toNat : Int) * 16777216
theorem bt_getD (s : ByteArray) (i : Nat) : bt s (i : Int) = ((s.data.toList.getD i 0).toNat : Int) := by
  by_cases h : i < s.data.toList.length
  · rw [bt_list s i h, List.getD_eq_getElem?_getD, List.getElem?_eq_getElem h]; rfl
  · rw [List.getD_eq_getElem?_getD, List.getElem?_eq_none (by omega)]; have hl := len_list s
    unfold bt; rw [dif_neg (by simp; omega)]; rfl
theorem tfix_is (s : ByteArray) (k : Nat) (h : 4 ≤ s.size) (hk : 5 ≤ k) : varint_TakeFix.f k s = some (valF s.data.toList, 0) := by
  obtain ⟨k, rfl⟩ : ∃ m, k = m + 5 := ⟨k - 5, by omega⟩
  unfold varint_TakeFix.f
  rw [if_neg (by omega)]
  have b0 := bt_range s 0
  have b1 := bt_range s 1
  have b2 := bt_range s 2
  have b3 := bt_range s 3
  have q0 : Go.bits .or .i64 0 (shl .i64 (wrap64 (bt s 0)) (wrap64 (8 * 0))) = bt s 0 := by
    have := step_fix 0 (bt s 0) 0 (by omega) (by omega) (by decide) b0.1 b0.2
    simpa using this
  have q1 : Go.bits .or .i64 (bt s 0) (shl .i64 (wrap64 (bt s 1)) (wrap64 (8 * 1))) = bt s 0 + bt s 1 * 256 := step_fix (bt s 0) (bt s 1) 1 (by omega) b0.1 (by omega) b1.1 b1.2
  have q2 : Go.bits .or .i64 (bt s 0 + bt s 1 * 256) (shl .i64 (wrap64 (bt s 2)) (wrap64 (8 * 2))) = bt s 0 + bt s 1 * 256 + bt s 2 * 65536 := step_fix (bt s 0 + bt s 1 * 256) (bt s 2) 2 (by omega) (by omega) (by omega) b2.1 b2.2
  have q3 : Go.bits .or .i64 (bt s 0 + bt s 1 * 256 + bt s 2 * 65536) (shl .i64 (wrap64 (bt s 3)) (wrap64 (8 * 3))) = bt s 0 + bt s 1 * 256 + bt s 2 * 65536 + bt s 3 * 16777216 := step_fix _ (bt s 3) 3 (by omega) (by omega) (by omega) b3.1 b3.2
  have w1 : wrap64 (0 + 1) = 1 := w64 (by omega) (by omega)
  have w2 : wrap64 (1 + 1) = 2 := w64 (by omega) (by omega)
  have w3 : wrap64 (2 + 1) = 3 := w64 (by omega) (by omega)
  have w4 : wrap64 (3 + 1) = 4 := w64 (by omega) (by omega)
  have z0 : (0 : Int) ≤ wrap64 (8 * 0) := by rw [w64 (by omega) (by omega)]; omega
  have z1 : (0 : Int) ≤ wrap64 (8 * 1) := by rw [w64 (by omega) (by omega)]; omega
  have z2 : (0 : Int) ≤ wrap64 (8 * 2) := by rw [w64 (by omega) (by omega)]; omega
  have z3 : (0 : Int) ≤ wrap64 (8 * 3) := by rw [w64 (by omega) (by omega)]; omega
  simp only [varint_TakeFix.l0]
  rw [if_pos (by omega), if_pos (by omega), if_pos (by omega), if_pos z0, q0, w1, if_pos (by omega), if_pos (by omega), if_pos (by omega), if_pos z1, q1, w2, if_pos (by omega), if_pos (by omega), if_pos (by omega), if_pos z2, q2, w3,
    if_pos (by omega), if_pos (by omega), if_pos (by omega), if_pos z3, q3, w4, if_neg (by omega)]
  unfold valF
  rw [← bt_getD, ← bt_getD, ← bt_getD, ← bt_getD]
  rfl
end Go.Proofs.Ytlmoafkmhenejaa.VaFix
end
section
namespace Go.Proofs.Ytlmoafkmhenejaa.XA
end Go.Proofs.Ytlmoafkmhenejaa.XA
namespace Go.Proofs.Ytlmoafkmhenejaa.VLib
end Go.Proofs.Ytlmoafkmhenejaa.VLib
namespace Go.Proofs.Ytlmoafkmhenejaa.CLib
end Go.Proofs.Ytlmoafkmhenejaa.CLib
namespace Go.Proofs.Ytlmoafkmhenejaa.VaB1
end Go.Proofs.Ytlmoafkmhenejaa.VaB1
namespace Go.Proofs.YtlmoafkmhenejaaW.PrintWords
end Go.Proofs.YtlmoafkmhenejaaW.PrintWords
namespace Go.Proofs.YtlmoafkmhenejaaW.PrintLast
end Go.Proofs.YtlmoafkmhenejaaW.PrintLast
namespace Go.Proofs.YtlmoafkmhenejaaW.PrintMore
end Go.Proofs.YtlmoafkmhenejaaW.PrintMore
namespace Go.Proofs.Ytlmoafkmhenejaa.VaB2
open Go.RowKit Go.Proofs.Ytlmoafkmhenejaa.XA Go.Proofs.Ytlmoafkmhenejaa.VLib Go.Proofs.Ytlmoafkmhenejaa.CLib Go.Proofs.Ytlmoafkmhenejaa.VaB1 Go.Proofs.YtlmoafkmhenejaaW.PrintWords Go.Proofs.YtlmoafkmhenejaaW.PrintLast Go.Proofs.YtlmoafkmhenejaaW.PrintMore
theorem rput_digit (n : Nat) (hb : n < 9223372036854775808) : UInt8.ofNat ((Go.bits .or .i64 (Go.bits .and .i64 (n : Int) 127) 128) % 256).toNat = UInt8.ofNat (n % 128 + 128) := by
  have e : ((Go.bits .or .i64 (Go.bits .and .i64 (n : Int) 127) 128) % 256) = ((n % 128 + 128 : Nat) : Int) := by
    rw [and127_i64 _ (by omega) (by omega), or128_i64 _ (by omega) (by omega)]; omega
  rw [e, Int.toNat_natCast]
theorem rput_loop : ∀ (f k n : Nat) (xs : List Int), n < 9223372036854775808 → n < 128 ^ (f + 1) → xs.length + f < 1000 → f < k →
    sorrelref01_Put.l0 k (n : Int) xs = some (bs ((xs.map fun n => UInt8.ofNat n.toNat) ++ enc n), 0) := by
  have last : ∀ (k n : Nat) (xs : List Int), n < 128 → xs.length < 1000 → 0 < k → sorrelref01_Put.l0 k (n : Int) xs = some (bs ((xs.map fun n => UInt8.ofNat n.toNat) ++ enc n), 0) := by
    intro k n xs hn hl hk; obtain ⟨k, rfl⟩ : ∃ m, k = m + 1 := ⟨k - 1, by omega⟩; simp only [sorrelref01_Put.l0]; rw [if_neg (by omega), if_pos (by omega), nums_bs, List.map_append, enc_lt hn]; simp only [List.map_cons, List.map_nil]; rw [show ((n : Int) % 256).toNat = n from by omega]
  intro f
  induction f with
  | zero => intro k n xs _ h hl hk; exact last k n xs (by simpa using h) (by omega) (by omega)
  | succ f ih =>
    intro k n xs hb h hl hk
    by_cases c : n < 128
    · exact last k n xs c (by omega) (by omega)
    · obtain ⟨k, rfl⟩ : ∃ m, k = m + 1 := ⟨k - 1, by omega⟩; simp only [sorrelref01_Put.l0]; rw [if_pos (by omega), if_pos (by omega), show (n : Int) / 128 = ((n / 128 : Nat) : Int) from by omega]
      have hn : n / 128 < 128 ^ (f + 1) := by
        rw [Nat.div_lt_iff_lt_mul (by decide)]
        rwa [Nat.pow_succ] at h
      rw [ih k (n / 128) _ (by omega) hn (by simp only [List.length_append, List.length_cons, List.length_nil]; omega) (by omega)]; simp only [List.map_append, List.map_cons, List.map_nil, List.append_assoc, List.cons_append, List.nil_append]; rw [rput_digit n hb, ← enc_ge c]
theorem rput_ok (n k : Nat) (h : n ≤ 4611686018427387904) (hk : 11 ≤ k) : sorrelref01_Put.f k (n : Int) = some (bs (enc n), 0) := by
  obtain ⟨k, rfl⟩ : ∃ m, k = m + 1 := ⟨k - 1, by omega⟩
  unfold sorrelref01_Put.f
  rw [if_neg (by omega), show decide ((n : Int) > 4611686018427387904) = false from decide_eq_false (by omega)]
  simp only [sorrelref01_Put.j0]
  rw [if_neg (by simp), rput_loop 8 k n [] (by omega) (by omega) (by simp) (by omega)]
  rfl
theorem rtext_ok (s : ByteArray) (k : Nat) (h : s.size ≤ 262144) (hk : 11 ≤ k) : sorrelref01_Text.f k s = some (bs (enc s.data.toList.length ++ s.data.toList), 0) := by
  unfold sorrelref01_Text.f
  have h9 := enc9 (n := s.size) (by omega)
  rw [if_neg (by omega), rput_ok s.size k (by omega) hk]
  simp only [Option.bind_some]
  rw [if_pos (by rw [bs_size]; omega), len_list]
  rw [show bs (enc s.size) ++ s = bs (enc s.size ++ s.data.toList) from ext_list (by rw [list_append, bs_list, bs_list])]
theorem rmore_l1 : ∀ (d K j : Nat) (s : ByteArray) (c : BitVec 32) (i : Int), j + d = 8 → sorrelref02_More.l1 (K + d + 1) s (c.toNat : Int) i (j : Int) = sorrelref02_More.l0 K s ((bsteps d c).toNat : Int) (wrap64 (i + 1)) := by
  intro d
  induction d with
  | zero =>
    intro K j s c i h; simp only [sorrelref02_More.l1]; rw [if_neg (by omega)]; rfl
  | succ d ih =>
    intro K j s c i h; have hc := c.isLt; rw [show K + (d + 1) + 1 = (K + d + 1) + 1 from by omega]; simp only [sorrelref02_More.l1]; rw [if_pos (by omega), and1_i64 _ (by omega), w64 (n := (j : Int) + 1) (by omega) (by omega), ← half, poly_toNat, xor_i64_bv]
    by_cases b : c.toNat % 2 = 1
    · rw [if_pos (by omega), ← bstep_one c b]; exact ih K (j + 1) s (bstep c) i (by omega)
    · rw [if_neg (by omega), ← bstep_zero c b]; exact ih K (j + 1) s (bstep c) i (by omega)
theorem rmore_l0 : ∀ (n K i : Nat) (s : ByteArray) (c : BitVec 32), i + n = s.data.toList.length → s.size ≤ 4611686018427387904 →
    sorrelref02_More.l0 (10 * n + (K + 1)) s (c.toNat : Int) (i : Int) = some ((~~~ crcL c (s.data.toList.drop i)).toNat : Int) := by
  intro n
  induction n with
  | zero =>
    intro K i s c h hs; have hl := len_list s; rw [Nat.mul_zero, Nat.zero_add]; simp only [sorrelref02_More.l0]; rw [if_neg (by omega), List.drop_eq_nil_of_le (by omega), ones_xor64]
    rfl
  | succ n ih =>
    intro K i s c h hs; have hl := len_list s; have hlt : i < s.data.toList.length := by omega
    rw [show 10 * (n + 1) + (K + 1) = (10 * n + (K + 1) + 9) + 1 from by omega]; simp only [sorrelref02_More.l0]; have hw := (wide (s.data.toList[i]'hlt)).isLt; rw [if_pos (by omega), if_pos (by omega), wide_bt s i hlt, w64 (by omega) (by omega), xor_i64_bv]; have h1 := rmore_l1 8 (10 * n + (K + 1)) 0 s (c ^^^ wide (s.data.toList[i]'hlt)) (i : Int) rfl; rw [show 10 * n + (K + 1) + 9 = 10 * n + (K + 1) + 8 + 1 from rfl]; refine h1.trans ?_; rw [w64 (by omega) (by omega), drop_cons s i hlt]; exact ih K (i + 1) s (cbyte c (s.data.toList[i]'hlt)) (by omega) hs
theorem rmore_is (x : Int) (s : ByteArray) (k : Nat) (hk : 10 * s.size + 1 ≤ k) (hs : s.size ≤ 4611686018427387904) :
    sorrelref02_More.f k x s = some ((crcM (BitVec.ofInt 32 x) s.data.toList).toNat : Int) := by
  obtain ⟨K, rfl⟩ : ∃ K, k = 10 * s.size + (K + 1) := ⟨k - 10 * s.size - 1, by omega⟩
  unfold sorrelref02_More.f
  rw [low32, ones_xor64]
  have h := rmore_l0 s.size K 0 s (~~~ BitVec.ofInt 32 x) (by rw [len_list]; omega) hs
  exact h
theorem rsum_is (s : ByteArray) (k : Nat) (hk : 10 * s.size + 1 ≤ k) (hs : s.size ≤ 4611686018427387904) :
    sorrelref02_Sum.f k s = some ((crcM 0#32 s.data.toList).toNat : Int) := by
  unfold sorrelref02_Sum.f
  rw [rmore_is _ s k hk hs]
  rfl
theorem tail_is (n : Nat) (h : n < 9223372036854775808) : sorrelref02_tail.f (n : Int) = some (bs (fix4 n)) := by
  unfold sorrelref02_tail.f
  rw [ref4 n h]
theorem rseal_is (s : ByteArray) (k : Nat) (hk : 10 * s.size + 1 ≤ k) (hs : s.size ≤ 4611686018427387904) : sorrelref02_Seal.f k s = some (bs (sealL s.data.toList)) := by
  unfold sorrelref02_Seal.f
  have hlt := (crcM 0#32 s.data.toList).isLt
  rw [rsum_is s k hk hs]
  simp only [Option.bind_some]
  rw [tail_is _ (by omega)]
  simp only [Option.bind_some]
  rw [if_pos (by rw [bs_size, fix4_len]; omega), show s ++ bs (fix4 (crcM 0#32 s.data.toList).toNat) = bs (sealL s.data.toList) from ext_list (by rw [list_append, bs_list, bs_list]; rfl)]
theorem rcheck_is (s : ByteArray) (k : Nat) (hk : 10 * s.size + 1 ≤ k) (hs : s.size ≤ 4611686018427387904) : sorrelref02_Check.f k s = some (chk s.data.toList) := by
  unfold sorrelref02_Check.f chk
  have hl := len_list s
  rw [w64 (by omega) (by omega)]
  by_cases c : 4 ≤ s.size
  · obtain ⟨e1, e2⟩ := check_cut s c; have e3 := cut_size s; have hlt := (crcM 0#32 (s.extract 0 ((s.size : Int) - 4).toNat).data.toList).isLt; rw [if_pos (by omega), if_pos (by omega), if_pos (by omega), rsum_is _ k (by omega) (by omega)]; simp only [Option.bind_some]; rw [tail_is _ (by omega)]; simp only [Option.bind_some]; rw [toList_data, toList_data, e1, e2, bs_list, decide_eq_true (by omega)]
    rfl
  · rw [if_neg (by omega), decide_eq_false (by omega)]; rfl
end Go.Proofs.Ytlmoafkmhenejaa.VaB2
end
section
namespace Go.Proofs.Ytlmoafkmhenejaa.XA
end Go.Proofs.Ytlmoafkmhenejaa.XA
namespace Go.Proofs.Ytlmoafkmhenejaa.VLib
end Go.Proofs.Ytlmoafkmhenejaa.VLib
namespace Go.Proofs.Ytlmoafkmhenejaa.CLib
end Go.Proofs.Ytlmoafkmhenejaa.CLib
namespace Go.Proofs.Ytlmoafkmhenejaa.VaB1
end Go.Proofs.Ytlmoafkmhenejaa.VaB1
namespace Go.Proofs.Ytlmoafkmhenejaa.VaB2
end Go.Proofs.Ytlmoafkmhenejaa.VaB2
namespace Go.Proofs.YtlmoafkmhenejaaW.PrintWords
end Go.Proofs.YtlmoafkmhenejaaW.PrintWords
namespace Go.Proofs.YtlmoafkmhenejaaW.PrintLast
end Go.Proofs.YtlmoafkmhenejaaW.PrintLast
namespace Go.Proofs.YtlmoafkmhenejaaW.PrintMore
end Go.Proofs.YtlmoafkmhenejaaW.PrintMore
namespace Go.Proofs.Ytlmoafkmhenejaa.VaB3
open Go.RowKit Go.Proofs.Ytlmoafkmhenejaa.XA Go.Proofs.Ytlmoafkmhenejaa.VLib Go.Proofs.Ytlmoafkmhenejaa.CLib Go.Proofs.Ytlmoafkmhenejaa.VaB1 Go.Proofs.Ytlmoafkmhenejaa.VaB2 Go.Proofs.YtlmoafkmhenejaaW.PrintWords Go.Proofs.YtlmoafkmhenejaaW.PrintLast Go.Proofs.YtlmoafkmhenejaaW.PrintMore
theorem rtake_loop : ∀ (f k i : Nat) (s : ByteArray) (x : Int), f + i = 9 → i ≤ s.data.toList.length → 0 ≤ x → x < 2 ^ (7 * i) → f < k →
    sorrelref01_Take.l0 k s x (i : Int) = some (fromI x i (dcd f (decide (i = 0)) (s.data.toList.drop i))) := by
  intro f
  induction f with
  | zero =>
    intro k i s x hf hi h0 h1 hk; obtain ⟨k, rfl⟩ : ∃ m, k = m + 1 := ⟨k - 1, by omega⟩; simp only [sorrelref01_Take.l0]; rw [if_neg (by omega)]
    rfl
  | succ f ih =>
    intro k i s x hf hi h0 h1 hk; obtain ⟨k, rfl⟩ : ∃ m, k = m + 1 := ⟨k - 1, by omega⟩; have hsz := len_list s; simp only [sorrelref01_Take.l0]; rw [if_pos (by omega)]
    by_cases he : i = s.data.toList.length
    · rw [if_pos (by omega), List.drop_eq_nil_of_le (by omega)]
      rfl
    · have hlt : i < s.data.toList.length := by omega
      have hb := s.data.toList[i].toNat_lt; have hs := step_lt x (s.data.toList[i].toNat : Int) i h0 h1; rw [if_neg (by omega), if_pos (by omega), if_pos (by omega), w64 (by omega) (by omega), if_pos (by omega)]; rw [← w64 (n := 7 * (i : Int)) (by omega) (by omega), bt_list s i hlt, step_or x _ i (by omega) h0 h1 (by omega) (by omega), drop_cons s i hlt, w64 (n := (i : Int) + 1) (by omega) (by omega)]
      by_cases c : 128 ≤ s.data.toList[i].toNat
      · rw [if_neg (by omega), fromI_more x _ i f _ _ c]; exact ih k (i + 1) s _ (by omega) (by omega) hs.1 hs.2 (by omega)
      · have hn : ¬ (x + (s.data.toList[i].toNat : Int) % 128 * 2 ^ (7 * i) < 0) := by omega
        rw [if_pos (by omega), fromI_last x _ i f _ _ c]
        by_cases z : s.data.toList[i].toNat = 0
        · rw [if_pos (by omega)]
          by_cases p : i = 0
          · rw [if_neg (by omega), if_neg hn, if_neg (show ¬ (decide (i = 0) = false ∧ s.data.toList[i].toNat = 0) by simp [p])]
            split <;> rfl
          · rw [if_pos (by omega), if_pos ⟨by simp [p], z⟩]
        · rw [if_neg (by omega), if_neg hn, if_neg (show ¬ (decide (i = 0) = false ∧ s.data.toList[i].toNat = 0) by rintro ⟨_, h⟩; exact z h)]
          split <;> rfl
theorem rtake_is (s : ByteArray) (k : Nat) (hk : 10 ≤ k) : sorrelref01_Take.f k s = some (outI (takeN s.data.toList)) := by
  unfold sorrelref01_Take.f
  have := rtake_loop 9 k 0 s 0 rfl (by omega) (by decide) (by decide) (by omega)
  rw [← fromI_zero]
  exact this
theorem rttext_is (s : ByteArray) (k : Nat) (h : s.size ≤ 4611686018427387904) (hk : 10 ≤ k) : sorrelref01_TakeText.f k s = some (outT (takeX s.data.toList)) := by
  unfold sorrelref01_TakeText.f
  rw [rtake_is s k hk]
  simp only [Option.bind_some]
  unfold takeX
  have hl := len_list s
  by_cases e : (takeN s.data.toList).2.2 = 0
  · obtain ⟨h1, h2, h3, h4, h5⟩ := takeN_back s.data.toList (takeN s.data.toList).1 (takeN s.data.toList).2.1 (by rw [← e]); rw [if_pos e, if_pos (by omega)]
    by_cases g : 262144 < (takeN s.data.toList).1
    · rw [if_pos (by omega), if_pos g]; rfl
    · rw [if_neg (by omega), if_neg g, w64 (by omega) (by omega)]
      by_cases g2 : s.data.toList.length - (takeN s.data.toList).2.1 < (takeN s.data.toList).1
      · rw [if_pos (by omega), if_pos g2]; rfl
      · rw [if_neg (by omega), if_neg g2, w64 (by omega) (by omega), if_pos (by omega), if_pos (by omega), if_pos (by omega)]
        congr 2
        apply ext_list
        rw [extract_list, bs_list, Int.toNat_natCast, show (((takeN s.data.toList).2.1 : Int) + ((takeN s.data.toList).1 : Int)).toNat = (takeN s.data.toList).2.1 + (takeN s.data.toList).1 from by omega, List.drop_take, Nat.add_sub_cancel_left]
  · rw [if_neg e, if_neg (by omega)]; rfl
end Go.Proofs.Ytlmoafkmhenejaa.VaB3
end
