import Derived.Test.YtlmoafkmhenejaakBXAx2
import Derived.Test.YtlmoafkmhenejaakBXAx3
import Derived.Test.YtlmoafkmhenejaakBXAx4
import Derived.Test.YtlmoafkmhenejaakBXAx5
import Derived.Test.YtlmoafkmhenejaakBXAx6
import Derived.Test.YtlmoafkmhenejaakBXAx7
import Derived.Test.YtlmoafkmhenejaakBXAx8
import Derived.Test.YtlmoafkmhenejaakBXAx9
import Derived.Test.YtlmoafkmhenejaakBXAx10
import Derived.Test.YtlmoafkmhenejaakBXAx11
import Derived.Test.YtlmoafkmhenejaakBXAx12
import Derived.Test.YtlmoafkmhenejaakBXAx13
import Derived.Test.YtlmoafkmhenejaakBXAx0
import Derived.Test.YtlmoafkmhenejaakBXAx15
import Derived.Test.YtlmoafkmhenejaakBVLib
import Derived.Test.YtlmoafkmhenejaakBMTab4
import Derived.Test.YtlmoafkmhenejaakBOpn
section
namespace Go.Proofs.Ytlmoafkmhenejaa.XA
end Go.Proofs.Ytlmoafkmhenejaa.XA
namespace Go.Proofs.Ytlmoafkmhenejaa.VLib
end Go.Proofs.Ytlmoafkmhenejaa.VLib
namespace Go.Proofs.Ytlmoafkmhenejaa.CLib
end Go.Proofs.Ytlmoafkmhenejaa.CLib
namespace Go.Proofs.YtlmoafkmhenejaaW.PrintWords
end Go.Proofs.YtlmoafkmhenejaaW.PrintWords
namespace Go.Proofs.YtlmoafkmhenejaaW.PrintLast
end Go.Proofs.YtlmoafkmhenejaaW.PrintLast
namespace Go.Proofs.YtlmoafkmhenejaaW.PrintMore
end Go.Proofs.YtlmoafkmhenejaaW.PrintMore
namespace Go.Proofs.Ytlmoafkmhenejaa.VaBl
open Go.RowKit Go.Proofs.Ytlmoafkmhenejaa.XA Go.Proofs.Ytlmoafkmhenejaa.VLib Go.Proofs.Ytlmoafkmhenejaa.CLib Go.Proofs.YtlmoafkmhenejaaW.PrintWords Go.Proofs.YtlmoafkmhenejaaW.PrintLast Go.Proofs.YtlmoafkmhenejaaW.PrintMore
theorem more_l1 : ∀ (d K j : Nat) (s : ByteArray) (c : BitVec 32) (n i : Int), j + d = 8 → crc_More.l1 (K + d + 1) s (c.toNat : Int) n i (j : Int) = crc_More.l0 K s ((bsteps d c).toNat : Int) n (wrap64 (i + 1)) := by
  intro d
  induction d with
  | zero =>
    intro K j s c n i h; simp only [crc_More.l1]; rw [if_neg (by omega)]; rfl
  | succ d ih =>
    intro K j s c n i h; rw [show K + (d + 1) + 1 = (K + d + 1) + 1 from by omega]; simp only [crc_More.l1]; rw [if_pos (by omega), and1_u32, w64 (n := (j : Int) + 1) (by omega) (by omega), ← half, poly_toNat, xor_u32]
    by_cases b : c.toNat % 2 = 1
    · rw [if_pos (by omega), ← bstep_one c b]; exact ih K (j + 1) s (bstep c) n i (by omega)
    · rw [if_neg (by omega), ← bstep_zero c b]; exact ih K (j + 1) s (bstep c) n i (by omega)
theorem more_l0 : ∀ (n K i : Nat) (s : ByteArray) (c : BitVec 32), i + n = s.data.toList.length → s.size ≤ 4611686018427387904 →
    crc_More.l0 (10 * n + (K + 1)) s (c.toNat : Int) (s.size : Int) (i : Int) = some ((~~~ crcL c (s.data.toList.drop i)).toNat : Int) := by
  intro n
  induction n with
  | zero =>
    intro K i s c h hs; have hl := len_list s; rw [Nat.mul_zero, Nat.zero_add]; simp only [crc_More.l0]; have hlt := (~~~ c).isLt; rw [if_neg (by omega), List.drop_eq_nil_of_le (by omega), ones_xor, w64 (by omega) (by omega)]
    rfl
  | succ n ih =>
    intro K i s c h hs; have hl := len_list s; have hlt : i < s.data.toList.length := by omega
    rw [show 10 * (n + 1) + (K + 1) = (10 * n + (K + 1) + 9) + 1 from by omega]; simp only [crc_More.l0]; rw [if_pos (by omega), if_pos (by omega), if_pos (by omega), wide_bt s i hlt]; have hw := (wide (s.data.toList[i]'hlt)).isLt; rw [Int.emod_eq_of_lt (by omega) (by omega), xor_u32]; have h1 := more_l1 8 (10 * n + (K + 1)) 0 s (c ^^^ wide (s.data.toList[i]'hlt)) (s.size : Int) (i : Int) rfl; rw [show 10 * n + (K + 1) + 9 = 10 * n + (K + 1) + 8 + 1 from rfl]; refine h1.trans ?_; rw [w64 (by omega) (by omega), drop_cons s i hlt]; exact ih K (i + 1) s (cbyte c (s.data.toList[i]'hlt)) (by omega) hs
theorem more_is (x : Int) (s : ByteArray) (k : Nat) (hk : 10 * s.size + 1 ≤ k) (hs : s.size ≤ 4611686018427387904) :
    crc_More.f k x s = some ((crcM (BitVec.ofInt 32 x) s.data.toList).toNat : Int) := by
  obtain ⟨K, rfl⟩ : ∃ K, k = 10 * s.size + (K + 1) := ⟨k - 10 * s.size - 1, by omega⟩
  unfold crc_More.f
  have hlt := (BitVec.ofInt 32 x).isLt
  rw [low32, Int.emod_eq_of_lt (by omega) (by omega), ones_xor]
  have h := more_l0 s.size K 0 s (~~~ BitVec.ofInt 32 x) (by rw [len_list]; omega) hs
  exact h
theorem sum_is (s : ByteArray) (k : Nat) (hk : 10 * s.size + 1 ≤ k) (hs : s.size ≤ 4611686018427387904) :
    crc_Sum.f k s = some ((crcM 0#32 s.data.toList).toNat : Int) := by
  unfold crc_Sum.f
  rw [more_is _ s k hk hs]
  rfl
def tx (s : ByteArray) : List UInt8 := s.data.toList
def sm (l : List UInt8) : Nat := (crcM 0#32 l).toNat
theorem sm_lt (l : List UInt8) : sm l < 4294967296 := (crcM 0#32 l).isLt
def pl (key : List UInt8) (n i : Nat) : Nat := (sm key + i * (sm (key ++ [35]) ||| 1)) % n
theorem or1_lt (x : Nat) (h : x < 4294967296) : x ||| 1 < 4294967296 := Nat.or_lt_two_pow (n := 32) h (by decide)
theorem or1 (x : Nat) (h : x < 4294967296) : Go.bits .or .i64 (x : Int) 1 = ((x ||| 1 : Nat) : Int) := by
  have hx := or1_lt x h
  have e : Go.bits .or .i64 (x : Int) ((1 : Nat) : Int) = ((x ||| 1 : Nat) : Int) := by
    unfold Go.bits
    have e1 : BitVec.ofInt 64 (x : Int) = BitVec.ofNat 64 x := by simp
    have e2 : BitVec.ofInt 64 ((1 : Nat) : Int) = BitVec.ofNat 64 1 := by simp
    show IntKind.i64.wrap ((BitVec.ofInt 64 (x : Int) ||| BitVec.ofInt 64 ((1 : Nat) : Int)).toNat : Int) = _
    rw [e1, e2, BitVec.toNat_or, BitVec.toNat_ofNat, BitVec.toNat_ofNat, Nat.mod_eq_of_lt (by omega), Nat.mod_eq_of_lt (by omega)]; exact wraps_i64 _ (by omega) (by omega)
  exact e
theorem pl_lt (key : List UInt8) (n i : Nat) (h : 0 < n) : pl key n i < n := Nat.mod_lt _ h
theorem pl_int (key : List UInt8) (n i : Nat) (hi : i < 6) : Int.tmod (wrap64 ((sm key : Int) + (wrap64 ((i : Int) * ((sm (key ++ [35]) ||| 1 : Nat) : Int))))) (n : Int) = ((pl key n i : Nat) : Int) := by
  have h1 := sm_lt key
  have h2 := or1_lt _ (sm_lt (key ++ [35]))
  have h3 : i * (sm (key ++ [35]) ||| 1) ≤ 5 * 4294967296 := Nat.mul_le_mul (by omega) (by omega)
  have e1 : wrap64 ((i : Int) * ((sm (key ++ [35]) ||| 1 : Nat) : Int)) = ((i * (sm (key ++ [35]) ||| 1) : Nat) : Int) := by
    rw [← Int.natCast_mul]; exact w64 (by omega) (by omega)
  have e2 : wrap64 ((sm key : Int) + ((i * (sm (key ++ [35]) ||| 1) : Nat) : Int)) = ((sm key + i * (sm (key ++ [35]) ||| 1) : Nat) : Int) := by
    rw [← Int.natCast_add]; exact w64 (by omega) (by omega)
  rw [e1, e2]
  exact (Int.ofNat_tmod _ _).symm
theorem div8 (p : Nat) (h : p ≤ 1099511627776) : wrap64 (Int.tdiv (p : Int) 8) = ((p / 8 : Nat) : Int) := by
  rw [show Int.tdiv (p : Int) 8 = ((p / 8 : Nat) : Int) from (Int.ofNat_tdiv p 8).symm, w64 (by omega) (by omega)]
theorem mod8 (p : Nat) : Int.tmod (p : Int) 8 = ((p % 8 : Nat) : Int) := (Int.ofNat_tmod p 8).symm
def putp (xs : List Int) (p : Nat) : List Int := xs.set (p / 8) (Go.bits .or .u8 (rd xs ((p / 8 : Nat) : Int)) (shl .u8 1 ((p % 8 : Nat) : Int)))
theorem putp_len (xs : List Int) (p : Nat) : (putp xs p).length = xs.length := List.length_set
def keyFrom (key : List UInt8) (n : Nat) : Nat → Nat → List Int → List Int
  | 0, _, xs => xs
  | d + 1, i, xs => keyFrom key n d (i + 1) (putp xs (pl key n i))
theorem keyFrom_len (key : List UInt8) (n : Nat) : ∀ (d i : Nat) (xs : List Int), (keyFrom key n d i xs).length = xs.length
  | 0, _, _ => rfl
  | d + 1, i, xs => by rw [keyFrom, keyFrom_len key n d, putp_len]
def keysP (n : Nat) (ks : List ByteArray) (xs : List Int) : List Int := ks.foldl (fun ys key => keyFrom (tx key) n 6 0 ys) xs
theorem make_l1 (key : List UInt8) (n : Nat) (hn : 0 < n) (hm : n ≤ 1099511627776) : ∀ (d i k : Nat) (xs : List Int), i + d = 6 → d + 1 ≤ k → n ≤ 8 * xs.length →
    bloom_Make.l1 k xs (sm key : Int) ((sm (key ++ [35]) ||| 1 : Nat) : Int) (n : Int) (i : Int) = some (keyFrom key n d i xs) := by
  intro d
  induction d with
  | zero =>
    intro i k xs h hk hx; obtain ⟨k, rfl⟩ : ∃ m, k = m + 1 := ⟨k - 1, by omega⟩; simp only [bloom_Make.l1]; rw [if_neg (by omega)]; rfl
  | succ d ih =>
    intro i k xs h hk hx; obtain ⟨k, rfl⟩ : ∃ m, k = m + 1 := ⟨k - 1, by omega⟩; have hp := pl_lt key n i hn; simp only [bloom_Make.l1]; rw [if_pos (by omega), if_neg (by omega), pl_int key n i (by omega), div8 _ (by omega), mod8, if_pos (by omega), if_pos (by omega), if_pos (by omega), w64 (by omega) (by omega), Int.toNat_natCast]; exact ih (i + 1) k (putp xs (pl key n i)) (by omega) (by omega) (by rw [putp_len]; exact hx)
theorem sum_key (s : ByteArray) (k M : Nat) (hs : s.size ≤ M) (hM : M ≤ 1000000) (hk : 10 * M + 12 ≤ k) : crc_Sum.f k s = some ((sm (tx s) : Nat) : Int) ∧ crc_Sum.f k (s ++ (⟨#[35]⟩ : ByteArray)) = some ((sm (tx s ++ [35]) : Nat) : Int) := by
  have hz : (s ++ (⟨#[35]⟩ : ByteArray)).size = s.size + 1 := by rw [size_append]; rfl
  refine ⟨sum_is s k (by omega) (by omega), ?_⟩
  rw [sum_is _ k (by omega) (by omega), list_append]; rfl
theorem make_one (key : ByteArray) (n k M : Nat) (xs : List Int) (hn : 0 < n) (hm : n ≤ 1099511627776) (hx : n ≤ 8 * xs.length) (hs : key.size ≤ M) (hM : M ≤ 1000000) (hk : 10 * M + 12 ≤ k) :
    bloom_Make.one_f k key xs (n : Int) = some (keyFrom (tx key) n 6 0 xs) := by
  obtain ⟨h1, h2⟩ := sum_key key k M hs hM hk
  unfold bloom_Make.one_f
  rw [h1, Option.bind_some, if_pos (by omega), h2, Option.bind_some, or1 _ (sm_lt _)]
  exact make_l1 (tx key) n hn hm 6 0 k xs (by omega) (by omega) hx
theorem rdS (l : List ByteArray) (i : Nat) (h : i < l.length) : rdOf ByteArray.empty l (i : Int) = l[i] := by
  unfold rdOf; rw [Int.toNat_natCast, List.getD_eq_getElem?_getD, List.getElem?_eq_getElem h]; rfl
theorem make_l0 (ks : List ByteArray) (n M : Nat) (hn : 0 < n) (hm : n ≤ 1099511627776) (hM : M ≤ 1000000) (hl : ks.length ≤ 4611686018427387904) (hs : ∀ t ∈ ks, t.size ≤ M) : ∀ (d i k : Nat) (xs : List Int), i + d = ks.length → n ≤ 8 * xs.length → 10 * M + 13 + d ≤ k →
    bloom_Make.l0 k ks (n : Int) xs (i : Int) = some (strOfNums (keysP n (ks.drop i) xs), 0) := by
  intro d
  induction d with
  | zero =>
    intro i k xs h hx hk; obtain ⟨k, rfl⟩ : ∃ m, k = m + 1 := ⟨k - 1, by omega⟩; simp only [bloom_Make.l0]; rw [if_neg (by omega), List.drop_eq_nil_of_le (by omega)]; rfl
  | succ d ih =>
    intro i k xs h hx hk; obtain ⟨k, rfl⟩ : ∃ m, k = m + 1 := ⟨k - 1, by omega⟩; have hi : i < ks.length := by omega
    have e : ks.drop i = ks[i] :: ks.drop (i + 1) := (List.getElem_cons_drop hi).symm; simp only [bloom_Make.l0]; rw [if_pos (by omega), if_pos (by omega), rdS ks i hi, make_one ks[i] n k M xs hn hm hx (hs _ (List.getElem_mem hi)) hM (by omega), Option.bind_some, w64 (by omega) (by omega), e]; exact ih (i + 1) k _ (by omega) (by rw [keyFrom_len]; exact hx) (by omega)
def bytesN (n : Nat) : Nat := max 8 ((10 * min n 4096 + 7) / 8)
theorem size_is (x : Int) : bloom_Size.f x = some ((8 * bytesN x.toNat : Nat) : Int) := by
  unfold bloom_Size.f bytesN mx mn
  congr 1
  split <;> split <;> split <;> omega
theorem make_is (ks : List ByteArray) (k M : Nat) (hl : ks.length ≤ 4096) (hM : M ≤ 1000000) (hs : ∀ t ∈ ks, t.size ≤ M) (hk : 10 * M + 14 + ks.length ≤ k) :
    bloom_Make.f k ks = some (strOfNums (keysP (8 * bytesN ks.length) ks (List.replicate (bytesN ks.length) 0)), 0) := by
  unfold bloom_Make.f
  have hb : 8 ≤ bytesN ks.length ∧ bytesN ks.length ≤ 6000 := by unfold bytesN; omega
  rw [if_neg (by omega), size_is, Int.toNat_natCast, Option.bind_some, div8 _ (by omega), show 8 * bytesN ks.length / 8 = bytesN ks.length from by omega, if_pos (by omega), Int.toNat_natCast, if_pos (by omega)]
  exact make_l0 ks _ M (by omega) (by omega) hM (by omega) hs ks.length 0 k _ (by omega) (by rw [List.length_replicate]; omega) (by omega)
end Go.Proofs.Ytlmoafkmhenejaa.VaBl
end
section
namespace Go.Proofs.Ytlmoafkmhenejaa.XA
end Go.Proofs.Ytlmoafkmhenejaa.XA
namespace Go.Proofs.Ytlmoafkmhenejaa.VLib
end Go.Proofs.Ytlmoafkmhenejaa.VLib
namespace Go.Proofs.Ytlmoafkmhenejaa.CLib
end Go.Proofs.Ytlmoafkmhenejaa.CLib
namespace Go.Proofs.Ytlmoafkmhenejaa.VaBl
end Go.Proofs.Ytlmoafkmhenejaa.VaBl
namespace Go.Proofs.YtlmoafkmhenejaaW.PrintWords
end Go.Proofs.YtlmoafkmhenejaaW.PrintWords
namespace Go.Proofs.YtlmoafkmhenejaaW.PrintLast
end Go.Proofs.YtlmoafkmhenejaaW.PrintLast
namespace Go.Proofs.YtlmoafkmhenejaaW.PrintMore
end Go.Proofs.YtlmoafkmhenejaaW.PrintMore
namespace Go.Proofs.Ytlmoafkmhenejaa.VaHas
open Go.RowKit Go.Proofs.Ytlmoafkmhenejaa.XA Go.Proofs.Ytlmoafkmhenejaa.VLib Go.Proofs.Ytlmoafkmhenejaa.CLib Go.Proofs.Ytlmoafkmhenejaa.VaBl Go.Proofs.YtlmoafkmhenejaaW.PrintWords Go.Proofs.YtlmoafkmhenejaaW.PrintLast Go.Proofs.YtlmoafkmhenejaaW.PrintMore
def bitS (s : ByteArray) (p : Nat) : Bool := Go.bits .and .u8 (bt s ((p / 8 : Nat) : Int)) (shl .u8 1 ((p % 8 : Nat) : Int)) != 0
def hasFrom (s : ByteArray) (key : List UInt8) (n : Nat) : Nat → Nat → Bool
  | 0, _ => true
  | d + 1, i => bitS s (pl key n i) && hasFrom s key n d (i + 1)
def hasB (s : ByteArray) (key : List UInt8) : Bool := s.toList.isEmpty || hasFrom s key (8 * s.size) 6 0
theorem nil_size (s : ByteArray) : s.toList = [] ↔ s.size = 0 := by
  rw [toList_data, ← len_list]; exact List.length_eq_zero_iff.symm
theorem str_size (xs : List Int) : (strOfNums xs).size = xs.length := by rw [nums_bs, bs_size, List.length_map]
end Go.Proofs.Ytlmoafkmhenejaa.VaHas
end
section
namespace Go.Proofs.Ytlmoafkmhenejaa.XA
end Go.Proofs.Ytlmoafkmhenejaa.XA
namespace Go.Proofs.Ytlmoafkmhenejaa.VLib
end Go.Proofs.Ytlmoafkmhenejaa.VLib
namespace Go.Proofs.Ytlmoafkmhenejaa.CLib
end Go.Proofs.Ytlmoafkmhenejaa.CLib
namespace Go.Proofs.Ytlmoafkmhenejaa.VaBl
end Go.Proofs.Ytlmoafkmhenejaa.VaBl
namespace Go.Proofs.Ytlmoafkmhenejaa.VaHas
end Go.Proofs.Ytlmoafkmhenejaa.VaHas
namespace Go.Proofs.YtlmoafkmhenejaaW.PrintWords
end Go.Proofs.YtlmoafkmhenejaaW.PrintWords
namespace Go.Proofs.YtlmoafkmhenejaaW.PrintLast
end Go.Proofs.YtlmoafkmhenejaaW.PrintLast
namespace Go.Proofs.YtlmoafkmhenejaaW.PrintMore
end Go.Proofs.YtlmoafkmhenejaaW.PrintMore
namespace Go.Proofs.Ytlmoafkmhenejaa.VaBits
open Go.RowKit Go.Proofs.Ytlmoafkmhenejaa.XA Go.Proofs.Ytlmoafkmhenejaa.VLib Go.Proofs.Ytlmoafkmhenejaa.CLib Go.Proofs.Ytlmoafkmhenejaa.VaBl Go.Proofs.Ytlmoafkmhenejaa.VaHas Go.Proofs.YtlmoafkmhenejaaW.PrintWords Go.Proofs.YtlmoafkmhenejaaW.PrintLast Go.Proofs.YtlmoafkmhenejaaW.PrintMore
def ints (ys : List Nat) : List Int := List.map (fun (y : Nat) => (y : Int)) ys
def putN (ys : List Nat) (p : Nat) : List Nat := ys.set (p / 8) (ys.getD (p / 8) 0 ||| 2 ^ (p % 8))
def keyN (key : List UInt8) (n : Nat) : Nat → Nat → List Nat → List Nat
  | 0, _, ys => ys
  | d + 1, i, ys => keyN key n d (i + 1) (putN ys (pl key n i))
def keysN (n : Nat) (ks : List ByteArray) (ys : List Nat) : List Nat := ks.foldl (fun zs key => keyN (tx key) n 6 0 zs) ys
def okN (ys : List Nat) : Prop := ∀ y ∈ ys, y < 256
theorem getD_ok {ys : List Nat} (h : okN ys) (i : Nat) : ys.getD i 0 < 256 := by
  rw [List.getD_eq_getElem?_getD]
  by_cases c : i < ys.length
  · rw [List.getElem?_eq_getElem c]; exact h _ (List.getElem_mem c)
  · rw [List.getElem?_eq_none (by omega)]; decide
theorem or_pow : ∀ (a : Fin 256) (j : Fin 8), Go.bits .or .u8 (a.val : Int) (shl .u8 1 (j.val : Int)) = ((a.val ||| 2 ^ j.val : Nat) : Int) ∧ (a.val ||| 2 ^ j.val) < 256 := by decide +kernel
theorem rd_ints (ys : List Nat) (i : Nat) : rd (ints ys) (i : Int) = ((ys.getD i 0 : Nat) : Int) := by
  unfold rd ints
  rw [Int.toNat_natCast, List.getD_eq_getElem?_getD, List.getD_eq_getElem?_getD, List.getElem?_map]
  cases ys[i]? <;> rfl
theorem putN_ok {ys : List Nat} (h : okN ys) (p : Nat) : okN (putN ys p) := by
  intro y hy
  rcases List.mem_or_eq_of_mem_set hy with hy | rfl
  · exact h y hy
  · exact (or_pow ⟨_, getD_ok h (p / 8)⟩ ⟨p % 8, by omega⟩).2
theorem put_ints {ys : List Nat} (h : okN ys) (p : Nat) : putp (ints ys) p = ints (putN ys p) := by
  unfold putp putN
  rw [rd_ints, (or_pow ⟨_, getD_ok h (p / 8)⟩ ⟨p % 8, by omega⟩).1]
  unfold ints; rw [List.map_set]
theorem keyN_ok (key : List UInt8) (n : Nat) : ∀ (d i : Nat) (ys : List Nat), okN ys → okN (keyN key n d i ys)
  | 0, _, _, h => h
  | d + 1, i, _, h => keyN_ok key n d (i + 1) _ (putN_ok h _)
theorem key_ints (key : List UInt8) (n : Nat) : ∀ (d i : Nat) (ys : List Nat), okN ys → keyFrom key n d i (ints ys) = ints (keyN key n d i ys)
  | 0, _, _, _ => rfl
  | d + 1, i, ys, h => by rw [keyFrom, put_ints h, key_ints key n d (i + 1) _ (putN_ok h _)]; rfl
theorem keys_ints (n : Nat) : ∀ (ks : List ByteArray) (ys : List Nat), okN ys → keysP n ks (ints ys) = ints (keysN n ks ys)
  | [], _, _ => rfl
  | key :: ks, ys, h => by
    show keysP n ks (keyFrom (tx key) n 6 0 (ints ys)) = _
    rw [key_ints _ _ _ _ _ h, keys_ints n ks _ (keyN_ok (tx key) n 6 0 ys h)]; rfl
theorem putN_len (ys : List Nat) (p : Nat) : (putN ys p).length = ys.length := List.length_set
theorem keyN_len (key : List UInt8) (n : Nat) : ∀ (d i : Nat) (ys : List Nat), (keyN key n d i ys).length = ys.length
  | 0, _, _ => rfl
  | d + 1, i, ys => by rw [keyN, keyN_len key n d, putN_len]
theorem keysN_len (n : Nat) : ∀ (ks : List ByteArray) (ys : List Nat), (keysN n ks ys).length = ys.length
  | [], _ => rfl
  | key :: ks, ys => by
    show (keysN n ks (keyN (tx key) n 6 0 ys)).length = _
    rw [keysN_len n ks, keyN_len]
theorem zero_ok (m : Nat) : okN (List.replicate m 0) := fun y hy => by rw [(List.mem_replicate.1 hy).2]; decide
theorem zero_ints (m : Nat) : List.replicate m (0 : Int) = ints (List.replicate m 0) := by unfold ints; rw [List.map_replicate]; rfl
def bitsOf (ks : List ByteArray) : ByteArray := strOfNums (ints (keysN (8 * bytesN ks.length) ks (List.replicate (bytesN ks.length) 0)))
theorem bitsOf_size (ks : List ByteArray) : (bitsOf ks).size = bytesN ks.length := by
  unfold bitsOf; rw [str_size]; unfold ints; rw [List.length_map, keysN_len, List.length_replicate]
theorem make_bits (ks : List ByteArray) (k M : Nat) (hl : ks.length ≤ 4096) (hM : M ≤ 1000000) (hs : ∀ t ∈ ks, t.size ≤ M) (hk : 10 * M + 14 + ks.length ≤ k) : bloom_Make.f k ks = some (bitsOf ks, 0) := by
  rw [make_is ks k M hl hM hs hk, zero_ints, keys_ints _ _ _ (zero_ok _)]; rfl
theorem bytesN_pos (n : Nat) : 8 ≤ bytesN n ∧ bytesN n ≤ 6000 := by unfold bytesN; omega
end Go.Proofs.Ytlmoafkmhenejaa.VaBits
end
section
namespace Go.Proofs.Ytlmoafkmhenejaa.XA
end Go.Proofs.Ytlmoafkmhenejaa.XA
namespace Go.Proofs.Ytlmoafkmhenejaa.VLib
end Go.Proofs.Ytlmoafkmhenejaa.VLib
namespace Go.Proofs.Ytlmoafkmhenejaa.CLib
end Go.Proofs.Ytlmoafkmhenejaa.CLib
namespace Go.Proofs.Ytlmoafkmhenejaa.VaB1
end Go.Proofs.Ytlmoafkmhenejaa.VaB1
namespace Go.Proofs.YtlmoafkmhenejaaW.PrintWords
end Go.Proofs.YtlmoafkmhenejaaW.PrintWords
namespace Go.Proofs.YtlmoafkmhenejaaW.PrintLast
end Go.Proofs.YtlmoafkmhenejaaW.PrintLast
namespace Go.Proofs.YtlmoafkmhenejaaW.PrintMore
end Go.Proofs.YtlmoafkmhenejaaW.PrintMore
namespace Go.Proofs.Ytlmoafkmhenejaa.VaFix
open Go.RowKit Go.Proofs.Ytlmoafkmhenejaa.XA Go.Proofs.Ytlmoafkmhenejaa.VLib Go.Proofs.Ytlmoafkmhenejaa.CLib Go.Proofs.Ytlmoafkmhenejaa.VaB1 Go.Proofs.YtlmoafkmhenejaaW.PrintWords Go.Proofs.YtlmoafkmhenejaaW.PrintLast Go.Proofs.YtlmoafkmhenejaaW.PrintMore
theorem fix_is (n : Nat) (h : n ≤ 4294967295) : varint_Fix.f (n : Int) = some (bs (fix4 n), 0) := by
  unfold varint_Fix.f varint_Fix.dig
  rw [if_neg (by omega), if_neg (by omega), nums4 n _ _ _ _ (by simp) (by simp) (by simp) (by simp)]
end Go.Proofs.Ytlmoafkmhenejaa.VaFix
end
section
namespace Go.Proofs.Ytlmoafkmhenejaa.XA
end Go.Proofs.Ytlmoafkmhenejaa.XA
namespace Go.Proofs.Ytlmoafkmhenejaa.VLib
end Go.Proofs.Ytlmoafkmhenejaa.VLib
namespace Go.Proofs.Ytlmoafkmhenejaa.CLib
end Go.Proofs.Ytlmoafkmhenejaa.CLib
namespace Go.Proofs.Ytlmoafkmhenejaa.VaB1
end Go.Proofs.Ytlmoafkmhenejaa.VaB1
namespace Go.Proofs.YtlmoafkmhenejaaW.PrintWords
end Go.Proofs.YtlmoafkmhenejaaW.PrintWords
namespace Go.Proofs.YtlmoafkmhenejaaW.PrintLast
end Go.Proofs.YtlmoafkmhenejaaW.PrintLast
namespace Go.Proofs.YtlmoafkmhenejaaW.PrintMore
end Go.Proofs.YtlmoafkmhenejaaW.PrintMore
namespace Go.Proofs.Ytlmoafkmhenejaa.VaB2
open Go.RowKit Go.Proofs.Ytlmoafkmhenejaa.XA Go.Proofs.Ytlmoafkmhenejaa.VLib Go.Proofs.Ytlmoafkmhenejaa.CLib Go.Proofs.Ytlmoafkmhenejaa.VaB1 Go.Proofs.YtlmoafkmhenejaaW.PrintWords Go.Proofs.YtlmoafkmhenejaaW.PrintLast Go.Proofs.YtlmoafkmhenejaaW.PrintMore
theorem rput_digit (n : Nat) (hb : n < 9223372036854775808) : UInt8.ofNat ((Go.bits .or .i64 (Go.bits .and .i64 (n : Int) 127) 128) % 256).toNat = UInt8.ofNat (n % 128 + 128) := by
  have e : ((Go.bits .or .i64 (Go.bits .and .i64 (n : Int) 127) 128) % 256) = ((n % 128 + 128 : Nat) : Int) := by
    rw [and127_i64 _ (by omega) (by omega), or128_i64 _ (by omega) (by omega)]; omega
  rw [e, Int.toNat_natCast]
theorem rput_loop : ∀ (f k n : Nat) (xs : List Int), n < 9223372036854775808 → n < 128 ^ (f + 1) → xs.length + f < 1000 → f < k →
    sorrelref01_Put.l0 k (n : Int) xs = some (bs ((xs.map fun n => UInt8.ofNat n.toNat) ++ enc n), 0) := by
  have last : ∀ (k n : Nat) (xs : List Int), n < 128 → xs.length < 1000 → 0 < k → sorrelref01_Put.l0 k (n : Int) xs = some (bs ((xs.map fun n => UInt8.ofNat n.toNat) ++ enc n), 0) := by
    intro k n xs hn hl hk; obtain ⟨k, rfl⟩ : ∃ m, k = m + 1 := ⟨k - 1, by omega⟩; simp only [sorrelref01_Put.l0]; rw [if_neg (by omega), if_pos (by omega), nums_bs, List.map_append, enc_lt hn]; simp only [List.map_cons, List.map_nil]; rw [show ((n : Int) % 256).toNat = n from by omega]
  intro f
  induction f with
  | zero => intro k n xs _ h hl hk; exact last k n xs (by simpa using h) (by omega) (by omega)
  | succ f ih =>
    intro k n xs hb h hl hk
    by_cases c : n < 128
    · exact last k n xs c (by omega) (by omega)
    · obtain ⟨k, rfl⟩ : ∃ m, k = m + 1 := ⟨k - 1, by omega⟩; simp only [sorrelref01_Put.l0]; rw [if_pos (by omega), if_pos (by omega), show (n : Int) / 128 = ((n / 128 : Nat) : Int) from by omega]
      have hn : n / 128 < 128 ^ (f + 1) := by
        rw [Nat.div_lt_iff_lt_mul (by decide)]
        rwa [Nat.pow_succ] at h
      rw [ih k (n / 128) _ (by omega) hn (by simp only [List.length_append, List.length_cons, List.length_nil]; omega) (by omega)]; simp only [List.map_append, List.map_cons, List.map_nil, List.append_assoc, List.cons_append, List.nil_append]; rw [rput_digit n hb, ← enc_ge c]
theorem rput_ok (n k : Nat) (h : n ≤ 4611686018427387904) (hk : 11 ≤ k) : sorrelref01_Put.f k (n : Int) = some (bs (enc n), 0) := by
  obtain ⟨k, rfl⟩ : ∃ m, k = m + 1 := ⟨k - 1, by omega⟩
  unfold sorrelref01_Put.f
  rw [if_neg (by omega), show decide ((n : Int) > 4611686018427387904) = false from decide_eq_false (by omega)]
  simp only [sorrelref01_Put.j0]
  rw [if_neg (by simp), rput_loop 8 k n [] (by omega) (by omega) (by simp) (by omega)]
  rfl
theorem rtext_ok (s : ByteArray) (k : Nat) (h : s.size ≤ 262144) (hk : 11 ≤ k) : sorrelref01_Text.f k s = some (bs (enc s.data.toList.length ++ s.data.toList), 0) := by
  unfold sorrelref01_Text.f
  have h9 := enc9 (n := s.size) (by omega)
  rw [if_neg (by omega), rput_ok s.size k (by omega) hk]
  simp only [Option.bind_some]
  rw [if_pos (by rw [bs_size]; omega), len_list]
  rw [show bs (enc s.size) ++ s = bs (enc s.size ++ s.data.toList) from ext_list (by rw [list_append, bs_list, bs_list])]
theorem rmore_l1 : ∀ (d K j : Nat) (s : ByteArray) (c : BitVec 32) (i : Int), j + d = 8 → sorrelref02_More.l1 (K + d + 1) s (c.toNat : Int) i (j : Int) = sorrelref02_More.l0 K s ((bsteps d c).toNat : Int) (wrap64 (i + 1)) := by
  intro d
  induction d with
  | zero =>
    intro K j s c i h; simp only [sorrelref02_More.l1]; rw [if_neg (by omega)]; rfl
  | succ d ih =>
    intro K j s c i h; have hc := c.isLt; rw [show K + (d + 1) + 1 = (K + d + 1) + 1 from by omega]; simp only [sorrelref02_More.l1]; rw [if_pos (by omega), and1_i64 _ (by omega), w64 (n := (j : Int) + 1) (by omega) (by omega), ← half, poly_toNat, xor_i64_bv]
    by_cases b : c.toNat % 2 = 1
    · rw [if_pos (by omega), ← bstep_one c b]; exact ih K (j + 1) s (bstep c) i (by omega)
    · rw [if_neg (by omega), ← bstep_zero c b]; exact ih K (j + 1) s (bstep c) i (by omega)
theorem rmore_l0 : ∀ (n K i : Nat) (s : ByteArray) (c : BitVec 32), i + n = s.data.toList.length → s.size ≤ 4611686018427387904 →
    sorrelref02_More.l0 (10 * n + (K + 1)) s (c.toNat : Int) (i : Int) = some ((~~~ crcL c (s.data.toList.drop i)).toNat : Int) := by
  intro n
  induction n with
  | zero =>
    intro K i s c h hs; have hl := len_list s; rw [Nat.mul_zero, Nat.zero_add]; simp only [sorrelref02_More.l0]; rw [if_neg (by omega), List.drop_eq_nil_of_le (by omega), ones_xor64]
    rfl
  | succ n ih =>
    intro K i s c h hs; have hl := len_list s; have hlt : i < s.data.toList.length := by omega
    rw [show 10 * (n + 1) + (K + 1) = (10 * n + (K + 1) + 9) + 1 from by omega]; simp only [sorrelref02_More.l0]; have hw := (wide (s.data.toList[i]'hlt)).isLt; rw [if_pos (by omega), if_pos (by omega), wide_bt s i hlt, w64 (by omega) (by omega), xor_i64_bv]; have h1 := rmore_l1 8 (10 * n + (K + 1)) 0 s (c ^^^ wide (s.data.toList[i]'hlt)) (i : Int) rfl; rw [show 10 * n + (K + 1) + 9 = 10 * n + (K + 1) + 8 + 1 from rfl]; refine h1.trans ?_; rw [w64 (by omega) (by omega), drop_cons s i hlt]; exact ih K (i + 1) s (cbyte c (s.data.toList[i]'hlt)) (by omega) hs
theorem rmore_is (x : Int) (s : ByteArray) (k : Nat) (hk : 10 * s.size + 1 ≤ k) (hs : s.size ≤ 4611686018427387904) :
    sorrelref02_More.f k x s = some ((crcM (BitVec.ofInt 32 x) s.data.toList).toNat : Int) := by
  obtain ⟨K, rfl⟩ : ∃ K, k = 10 * s.size + (K + 1) := ⟨k - 10 * s.size - 1, by omega⟩
  unfold sorrelref02_More.f
  rw [low32, ones_xor64]
  have h := rmore_l0 s.size K 0 s (~~~ BitVec.ofInt 32 x) (by rw [len_list]; omega) hs
  exact h
theorem rsum_is (s : ByteArray) (k : Nat) (hk : 10 * s.size + 1 ≤ k) (hs : s.size ≤ 4611686018427387904) :
    sorrelref02_Sum.f k s = some ((crcM 0#32 s.data.toList).toNat : Int) := by
  unfold sorrelref02_Sum.f
  rw [rmore_is _ s k hk hs]
  rfl
theorem tail_is (n : Nat) (h : n < 9223372036854775808) : sorrelref02_tail.f (n : Int) = some (bs (fix4 n)) := by
  unfold sorrelref02_tail.f
  rw [ref4 n h]
theorem rseal_is (s : ByteArray) (k : Nat) (hk : 10 * s.size + 1 ≤ k) (hs : s.size ≤ 4611686018427387904) : sorrelref02_Seal.f k s = some (bs (sealL s.data.toList)) := by
  unfold sorrelref02_Seal.f
  have hlt := (crcM 0#32 s.data.toList).isLt
  rw [rsum_is s k hk hs]
  simp only [Option.bind_some]
  rw [tail_is _ (by omega)]
  simp only [Option.bind_some]
  rw [if_pos (by rw [bs_size, fix4_len]; omega), show s ++ bs (fix4 (crcM 0#32 s.data.toList).toNat) = bs (sealL s.data.toList) from ext_list (by rw [list_append, bs_list, bs_list]; rfl)]
end Go.Proofs.Ytlmoafkmhenejaa.VaB2
end
section
namespace Go.Proofs.Ytlmoafkmhenejaa.XA
end Go.Proofs.Ytlmoafkmhenejaa.XA
namespace Go.Proofs.Ytlmoafkmhenejaa.VLib
end Go.Proofs.Ytlmoafkmhenejaa.VLib
namespace Go.Proofs.Ytlmoafkmhenejaa.CLib
end Go.Proofs.Ytlmoafkmhenejaa.CLib
namespace Go.Proofs.Ytlmoafkmhenejaa.XW
end Go.Proofs.Ytlmoafkmhenejaa.XW
namespace Go.Proofs.Ytlmoafkmhenejaa.VaB1
end Go.Proofs.Ytlmoafkmhenejaa.VaB1
namespace Go.Proofs.Ytlmoafkmhenejaa.VaChk
end Go.Proofs.Ytlmoafkmhenejaa.VaChk
namespace Go.Proofs.Ytlmoafkmhenejaa.VaPut
end Go.Proofs.Ytlmoafkmhenejaa.VaPut
namespace Go.Proofs.Ytlmoafkmhenejaa.VaBl
end Go.Proofs.Ytlmoafkmhenejaa.VaBl
namespace Go.Proofs.Ytlmoafkmhenejaa.VaBits
end Go.Proofs.Ytlmoafkmhenejaa.VaBits
namespace Go.Proofs.Ytlmoafkmhenejaa.VaFix
end Go.Proofs.Ytlmoafkmhenejaa.VaFix
namespace Go.Proofs.YtlmoafkmhenejaaW.PrintWords
end Go.Proofs.YtlmoafkmhenejaaW.PrintWords
namespace Go.Proofs.YtlmoafkmhenejaaW.PrintLast
end Go.Proofs.YtlmoafkmhenejaaW.PrintLast
namespace Go.Proofs.YtlmoafkmhenejaaW.PrintMore
end Go.Proofs.YtlmoafkmhenejaaW.PrintMore
namespace Go.Proofs.Ytlmoafkmhenejaa.VaTb
open Go.RowKit Go.Proofs.Ytlmoafkmhenejaa.XA Go.Proofs.Ytlmoafkmhenejaa.VLib Go.Proofs.Ytlmoafkmhenejaa.CLib Go.Proofs.Ytlmoafkmhenejaa.XW Go.Proofs.Ytlmoafkmhenejaa.VaB1 Go.Proofs.Ytlmoafkmhenejaa.VaChk Go.Proofs.Ytlmoafkmhenejaa.VaPut Go.Proofs.Ytlmoafkmhenejaa.VaBl Go.Proofs.Ytlmoafkmhenejaa.VaBits Go.Proofs.Ytlmoafkmhenejaa.VaFix Go.Proofs.YtlmoafkmhenejaaW.PrintWords Go.Proofs.YtlmoafkmhenejaaW.PrintLast Go.Proofs.YtlmoafkmhenejaaW.PrintMore
theorem okF_one (p : Option S43) (e : S43) (r : List S43) : okFrom p (e :: r) = true ↔ mayE e = true ∧ (∀ a, p = some a → LE a e = true) ∧ okFrom (some e) r = true := by
  cases p with
  | none => simp [okFrom]
  | some a => simp [okFrom, and_assoc]
theorem okF_nil (p : Option S43) : okFrom p [] = true := by cases p <;> rfl
theorem okF_none {p : Option S43} {l : List S43} (h : okFrom p l = true) : okFrom none l = true := by
  cases l with
  | nil => rfl
  | cons e r => have g := (okF_one p e r).1 h; exact (okF_one none e r).2 ⟨g.1, (fun _ x => by cases x), g.2.2⟩
theorem okF_take : ∀ (n : Nat) (l : List S43) (p : Option S43), okFrom p l = true → okFrom p (l.take n) = true
  | 0, _, p, _ => by rw [List.take_zero]; exact okF_nil p
  | _ + 1, [], p, _ => by rw [List.take_nil]; exact okF_nil p
  | n + 1, e :: r, p, h => by
    have g := (okF_one p e r).1 h; rw [List.take_succ_cons]; exact (okF_one p e _).2 ⟨g.1, g.2.1, okF_take n r _ g.2.2⟩
theorem okF_drop : ∀ (n : Nat) (l : List S43), okFrom none l = true → okFrom none (l.drop n) = true
  | 0, l, h => by rw [List.drop_zero]; exact h
  | _ + 1, [], _ => rfl
  | n + 1, e :: r, h => by rw [List.drop_succ_cons]; exact okF_drop n r (okF_none ((okF_one none e r).1 h).2.2)
theorem okB_of {l : List S43} (h : okFrom none l = true) (hl : l.length ≤ 4096) : okB l = true := (okB_iff l).2 ⟨hl, h⟩
theorem putL_le (l : List S43) (h : okB l = true) : (putL l).length ≤ 400 * l.length + 13 := by
  have hb := (okB_iff l).1 h
  have h1 := bodyL_le l [] (ok_may l none hb.2)
  have h2 := enc9 (n := l.length) (by omega)
  unfold putL sealL
  rw [List.length_append, fix4_len, List.length_append]; omega
def headK (l : List S43) : List UInt8 := (rd_T43 l 0).f0.data.toList
def bodyT : Nat → List S43 → List UInt8
  | 0, _ => []
  | n + 1, l => if l.length = 0 then [] else putL (l.take 16) ++ bodyT n (l.drop 16)
def footT : Nat → List S43 → List UInt8
  | 0, _ => []
  | n + 1, l => if l.length = 0 then [] else txtL (headK (l.take 16)) ++ (enc (putL (l.take 16)).length ++ footT n (l.drop 16))
def szT : Nat → List S43 → List Nat
  | 0, _ => []
  | n + 1, l => if l.length = 0 then [] else (putL (l.take 16)).length :: szT n (l.drop 16)
theorem take16 (l : List S43) (h : ¬ l.length = 0) : (l.take 16).length ≤ 16 ∧ 1 ≤ (l.take 16).length ∧ (l.take 16).length ≤ l.length ∧ (l.drop 16).length = l.length - 16 := by
  rw [List.length_take, List.length_drop]; omega
theorem head_le (l : List S43) (h : okFrom none l = true) (hl : 1 ≤ l.length) : (rd_T43 l 0).f0.size ≤ 64 := by
  have e : rd_T43 l 0 = l[0] := rdT l 0 (by omega)
  rw [e]
  exact (ok_may l none h _ (List.getElem_mem _)).k64
theorem chunk_is (kk : Nat) (hk : 80000 ≤ kk) : ∀ (n : Nat) (l : List S43) (fs b : List UInt8), l.length + 16 ≤ 16 * n → okFrom none l = true → fs.length + 90 * l.length ≤ 1000000000 → b.length + 7000 * l.length ≤ 1000000000 → chunkF kk n l fs b = some (fs ++ footT n l, b ++ bodyT n l) := by
  intro n
  induction n with
  | zero => intro l fs b h; omega
  | succ n ih =>
    intro l fs b h ho hf hb; simp only [chunkF, footT, bodyT]
    by_cases q : l.length = 0
    · rw [if_pos q, if_pos q, if_pos q, List.append_nil, List.append_nil]
    · rw [if_neg q, if_neg q, if_neg q]; obtain ⟨t1, t2, t3, t4⟩ := take16 l q; have o16 := okF_take 16 l none ho; have ok := okB_of o16 (by omega); have hp := putL_le _ ok; have hh := head_le _ o16 t2; have hz : (bs (putL (l.take 16))).size = (putL (l.take 16)).length := bs_size _; have e1 := enc9 (n := (headK (l.take 16)).length) (by unfold headK; rw [len_list]; omega); have e2 := enc9 (n := (putL (l.take 16)).length) (by omega); have hd : (headK (l.take 16)).length ≤ 64 := by unfold headK; rw [len_list]; exact hh
      rw [bput_ok _ kk ok (by omega), Option.bind_some]; dsimp only; rw [hz, text_ok _ kk (by omega) (by omega), Option.bind_some, put_ok _ kk (by omega) (by omega), Option.bind_some]; dsimp only; rw [bs_list, bs_list, bs_list, bs_size, bs_size]; rw [show enc (rd_T43 (l.take 16) 0).f0.data.toList.length ++ (rd_T43 (l.take 16) 0).f0.data.toList = txtL (headK (l.take 16)) from rfl]; have z : (txtL (headK (l.take 16))).length ≤ 73 := by unfold txtL; rw [List.length_append]; omega
      rw [if_pos ⟨by omega, by omega⟩, ih _ _ _ (by omega) (okF_drop 16 l ho) (by simp only [List.length_append]; omega) (by simp only [List.length_append]; omega)]; simp only [List.append_assoc]
theorem foot_le : ∀ (n : Nat) (l : List S43), okFrom none l = true → (footT n l).length ≤ 90 * l.length ∧ (bodyT n l).length ≤ 7000 * l.length ∧ (szT n l).length = min n ((l.length + 15) / 16) := by
  intro n
  induction n with
  | zero => intro l _; simp [footT, bodyT, szT]
  | succ n ih =>
    intro l ho; simp only [footT, bodyT, szT]
    by_cases q : l.length = 0
    · rw [if_pos q, if_pos q, if_pos q, q]; simp
    · rw [if_neg q, if_neg q, if_neg q]; obtain ⟨t1, t2, t3, t4⟩ := take16 l q; have o16 := okF_take 16 l none ho; have ok := okB_of o16 (by omega); have hp := putL_le _ ok; have hh := head_le _ o16 t2; have e1 := enc9 (n := (headK (l.take 16)).length) (by unfold headK; rw [len_list]; omega); have e2 := enc9 (n := (putL (l.take 16)).length) (by omega); have hd : (headK (l.take 16)).length ≤ 64 := by unfold headK; rw [len_list]; exact hh
      obtain ⟨i1, i2, i3⟩ := ih _ (okF_drop 16 l ho)
      unfold txtL
      simp only [List.length_append, List.length_cons]; refine ⟨by omega, by omega, ?_⟩; rw [i3, t4]
      omega
theorem cmp_mem (x : ByteArray) : ∀ xs : List ByteArray, x ∈ cmpL xs ↔ x ∈ xs := by
  intro xs
  induction xs with
  | nil => simp [cmpL]
  | cons a t ih =>
    cases t with
    | nil => simp [cmpL]
    | cons b t =>
      simp only [cmpL]
      split
      · next h => rw [ih, h]; simp
      · rw [List.mem_cons, ih]; simp
theorem cmp_len : ∀ xs : List ByteArray, (cmpL xs).length ≤ xs.length := by
  intro xs
  induction xs with
  | nil => simp [cmpL]
  | cons a t ih =>
    cases t with
    | nil => simp [cmpL]
    | cons b t =>
      simp only [cmpL]; simp only [List.length_cons] at ih ⊢
      split
      · omega
      · rw [List.length_cons]; omega
theorem keys_len (l : List S43) : (keysL l).length ≤ l.length := by
  have := cmp_len (l.map (·.f0))
  rw [List.length_map] at this
  exact this
theorem keys_mem (l : List S43) (x : ByteArray) : x ∈ keysL l ↔ ∃ e ∈ l, e.f0 = x := by
  unfold keysL
  rw [cmp_mem, List.mem_map]
def bitsT (l : List S43) : ByteArray := bitsOf (keysL l)
theorem bits_make (l : List S43) (h : okB l = true) (kk : Nat) (hk : 80000 ≤ kk) : bloom_Make.f kk (keysL l) = some (bitsT l, 0) := by
  have hb := (okB_iff l).1 h
  have h1 := keys_len l
  exact make_bits (keysL l) kk 64 (by omega) (by omega) (fun t ht => by
    obtain ⟨e, he, rfl⟩ := (keys_mem l t).1 ht; exact (ok_may l none hb.2 e he).k64) (by omega)
theorem bitsT_size (l : List S43) : 8 ≤ (bitsT l).size ∧ (bitsT l).size ≤ 6000 := by
  unfold bitsT
  rw [bitsOf_size]
  exact bytesN_pos _
def footL (l : List S43) : List UInt8 := enc ((l.length + 15) / 16) ++ (footT 300 l ++ txtL (bitsT l).data.toList)
def sfootL (l : List S43) : List UInt8 := sealL (footL l)
def tabL (l : List S43) : List UInt8 := bodyT 300 l ++ (sfootL l ++ fix4 (sfootL l).length)
theorem sfoot_len (l : List S43) : (sfootL l).length = (footL l).length + 4 := by unfold sfootL sealL; rw [List.length_append, fix4_len]
theorem footL_le (l : List S43) (h : okB l = true) : (footL l).length ≤ 400000 ∧ (bodyT 300 l).length ≤ 30000000 := by
  have hb := (okB_iff l).1 h
  have h1 := foot_le 300 l hb.2
  have h2 := bitsT_size l
  have h3 := len_list (bitsT l)
  have h4 := enc9 (n := (l.length + 15) / 16) (by omega)
  have h5 := enc9 (n := (bitsT l).data.toList.length) (by omega)
  unfold footL txtL
  simp only [List.length_append]
  omega
theorem bodyT_succ (n : Nat) (l : List S43) : bodyT (n + 1) l = if l.length = 0 then [] else putL (l.take 16) ++ bodyT n (l.drop 16) := rfl
theorem body_ne_ (n : Nat) (l : List S43) (h : ¬ l.length = 0) : bodyT (n + 1) l ≠ [] := by
  intro e
  have e := congrArg List.length e
  rw [bodyT_succ, if_neg h] at e
  unfold putL sealL at e
  simp only [List.length_append, fix4_len, List.length_nil] at e
  omega
theorem body_ne (l : List S43) (h : ¬ l.length = 0) : bodyT 300 l ≠ [] := body_ne_ 299 l h
theorem build_ok (l : List S43) (kk : Nat) (hk : 10000000 ≤ kk) (hl : ¬ l.length = 0) (h : okB l = true) : buildF kk 300 l = some (bs (tabL l), 0) := by
  have hb := (okB_iff l).1 h
  have hf := footL_le l h
  have ht := foot_le 300 l hb.2
  have hs := sfoot_len l
  have hz := bitsT_size l
  have hy := len_list (bitsT l)
  have e0 := enc_pos ((l.length + 15) / 16)
  have e9 := enc9 (n := (l.length + 15) / 16) (by omega)
  have ez := enc9 (n := (bitsT l).data.toList.length) (by omega)
  unfold buildF
  rw [if_neg hl, check_is_ l kk (by omega), if_pos h, Option.bind_some, if_pos rfl, put_ok _ kk (by omega) (by omega), Option.bind_some]
  dsimp only
  rw [bs_list, chunk_is kk (by omega) 300 l _ [] (by omega) hb.2 (by omega) (by rw [List.length_nil]; omega), Option.bind_some, bits_make l h kk (by omega), Option.bind_some]
  dsimp only
  rw [text_ok _ kk (by omega) (by omega), Option.bind_some]
  dsimp only
  rw [bs_list, List.nil_append]
  rw [show (⟨(enc ((l.length + 15) / 16) ++ footT 300 l ++ (enc (bitsT l).data.toList.length ++ (bitsT l).data.toList)).toArray⟩ : ByteArray) = bs (footL l) from by unfold footL txtL bs; rw [List.append_assoc]]
  rw [seal_is _ kk (by rw [bs_size]; omega) (by rw [bs_size]; omega), Option.bind_some, bs_list]
  rw [show sealL (footL l) = sfootL l from rfl, bs_size, fix_is _ (by omega), Option.bind_some]
  dsimp only
  rw [if_pos ⟨by rw [bs_size]; omega, by rw [bs_size]; simp only [List.length_append]; omega, fun e => by
    have e := congrArg List.length e; simp only [List.length_append, List.length_nil] at e
    omega, body_ne l hl, by omega, by rw [bs_size, fix4_len]; omega⟩]
  rw [show (⟨(bodyT 300 l).toArray⟩ : ByteArray) = bs (bodyT 300 l) from rfl, bs_append, bs_append, List.append_assoc]
  rfl
theorem build_no (l : List S43) (kk : Nat) (hk : 10000000 ≤ kk) (h : l.length = 0 ∨ okB l = false) : buildF kk 300 l = some (⟨#[]⟩, 1) := by
  unfold buildF
  by_cases q : l.length = 0
  · rw [if_pos q]
  · rw [if_neg q, check_is_ l kk (by omega)]
    rcases h with h | h
    · exact absurd h q
    · rw [h, if_neg (by decide), Option.bind_some, if_neg (by decide)]
end Go.Proofs.Ytlmoafkmhenejaa.VaTb
end
