/- Plain laws on what the functions written out for this seat come to. -/
import Derived.Test.YthjgnnldpepdfaaXAx2
import Derived.Test.YthjgnnldpepdfaaVLib
import Derived.Test.YthjgnnldpepdfaaCLib
import Derived.Test.YthjgnnldpepdfaaVaBl
import Derived.Test.YthjgnnldpepdfaaVaHas
namespace Go.Proofs.Ythjgnnldpepdfaa.VaBits
open Go.RowKit Go.Proofs.Ythjgnnldpepdfaa.XA Go.Proofs.Ythjgnnldpepdfaa.VLib Go.Proofs.Ythjgnnldpepdfaa.CLib Go.Proofs.Ythjgnnldpepdfaa.VaBl Go.Proofs.Ythjgnnldpepdfaa.VaHas Go.Proofs.YthjgnnldpepdfaaW.PrintWords Go.Proofs.YthjgnnldpepdfaaW.PrintLast Go.Proofs.YthjgnnldpepdfaaW.PrintMore
/-! ### which bits are set -/
def ints (ys : List Nat) : List Int := List.map (fun (y : Nat) => (y : Int)) ys
def putN (ys : List Nat) (p : Nat) : List Nat := ys.set (p / 8) (ys.getD (p / 8) 0 ||| 2 ^ (p % 8))
def keyN (key : List UInt8) (n : Nat) : Nat → Nat → List Nat → List Nat
  | 0, _, ys => ys
  | d + 1, i, ys => keyN key n d (i + 1) (putN ys (pl key n i))
def keysN (n : Nat) (ks : List ByteArray) (ys : List Nat) : List Nat := ks.foldl (fun zs key => keyN (tx key) n 6 0 zs) ys
def okN (ys : List Nat) : Prop := ∀ y ∈ ys, y < 256
theorem getD_ok {ys : List Nat} (h : okN ys) (i : Nat) : ys.getD i 0 < 256 := by
  rw [List.getD_eq_getElem?_getD]
  by_cases c : i < ys.length
  · rw [List.getElem?_eq_getElem c]; exact h _ (List.getElem_mem c)
  · rw [List.getElem?_eq_none (by omega)]; decide
theorem or_pow : ∀ (a : Fin 256) (j : Fin 8), Go.bits .or .u8 (a.val : Int) (shl .u8 1 (j.val : Int)) = ((a.val ||| 2 ^ j.val : Nat) : Int) ∧ (a.val ||| 2 ^ j.val) < 256 := by decide +kernel
theorem and_pow : ∀ (a : Fin 256) (j : Fin 8), (Go.bits .and .u8 (a.val : Int) (shl .u8 1 (j.val : Int)) != 0) = a.val.testBit j.val := by decide +kernel
theorem rd_ints (ys : List Nat) (i : Nat) : rd (ints ys) (i : Int) = ((ys.getD i 0 : Nat) : Int) := by
  unfold rd ints
  rw [Int.toNat_natCast, List.getD_eq_getElem?_getD, List.getD_eq_getElem?_getD, List.getElem?_map]
  cases ys[i]? <;> rfl
theorem putN_ok {ys : List Nat} (h : okN ys) (p : Nat) : okN (putN ys p) := by
  intro y hy
  rcases List.mem_or_eq_of_mem_set hy with hy | rfl
  · exact h y hy
  · exact (or_pow ⟨_, getD_ok h (p / 8)⟩ ⟨p % 8, by omega⟩).2
theorem put_ints {ys : List Nat} (h : okN ys) (p : Nat) : putp (ints ys) p = ints (putN ys p) := by
  unfold putp putN
  rw [rd_ints, (or_pow ⟨_, getD_ok h (p / 8)⟩ ⟨p % 8, by omega⟩).1]
  unfold ints; rw [List.map_set]
theorem keyN_ok (key : List UInt8) (n : Nat) : ∀ (d i : Nat) (ys : List Nat), okN ys → okN (keyN key n d i ys)
  | 0, _, _, h => h
  | d + 1, i, _, h => keyN_ok key n d (i + 1) _ (putN_ok h _)
theorem key_ints (key : List UInt8) (n : Nat) : ∀ (d i : Nat) (ys : List Nat), okN ys → keyFrom key n d i (ints ys) = ints (keyN key n d i ys)
  | 0, _, _, _ => rfl
  | d + 1, i, ys, h => by rw [keyFrom, put_ints h, key_ints key n d (i + 1) _ (putN_ok h _)]; rfl
theorem keysN_ok (n : Nat) : ∀ (ks : List ByteArray) (ys : List Nat), okN ys → okN (keysN n ks ys)
  | [], _, h => h
  | key :: ks, ys, h => keysN_ok n ks _ (keyN_ok (tx key) n 6 0 ys h)
theorem keys_ints (n : Nat) : ∀ (ks : List ByteArray) (ys : List Nat), okN ys → keysP n ks (ints ys) = ints (keysN n ks ys)
  | [], _, _ => rfl
  | key :: ks, ys, h => by
    show keysP n ks (keyFrom (tx key) n 6 0 (ints ys)) = _
    rw [key_ints _ _ _ _ _ h, keys_ints n ks _ (keyN_ok (tx key) n 6 0 ys h)]; rfl
theorem putN_len (ys : List Nat) (p : Nat) : (putN ys p).length = ys.length := List.length_set
theorem keyN_len (key : List UInt8) (n : Nat) : ∀ (d i : Nat) (ys : List Nat), (keyN key n d i ys).length = ys.length
  | 0, _, _ => rfl
  | d + 1, i, ys => by rw [keyN, keyN_len key n d, putN_len]
theorem keysN_len (n : Nat) : ∀ (ks : List ByteArray) (ys : List Nat), (keysN n ks ys).length = ys.length
  | [], _ => rfl
  | key :: ks, ys => by
    show (keysN n ks (keyN (tx key) n 6 0 ys)).length = _
    rw [keysN_len n ks, keyN_len]
def bitN (ys : List Nat) (q : Nat) : Bool := (ys.getD (q / 8) 0).testBit (q % 8)
theorem bit_put (ys : List Nat) (p q : Nat) (h : p / 8 < ys.length) : bitN (putN ys p) q = true ↔ bitN ys q = true ∨ p = q := by
  unfold bitN putN
  rw [List.getD_eq_getElem?_getD, List.getElem?_set]
  by_cases c : p / 8 = q / 8
  · rw [if_pos c, if_pos h, c]
    simp only [Option.getD_some, Nat.testBit_or, Nat.testBit_two_pow, Bool.or_eq_true, decide_eq_true_eq]
    constructor
    · rintro (h | h)
      · exact .inl h
      · exact .inr (by omega)
    · rintro (h | h)
      · exact .inl h
      · exact .inr (by omega)
  · rw [if_neg c, ← List.getD_eq_getElem?_getD]
    exact ⟨.inl, fun h => h.elim id (fun e => absurd (by rw [e]) c)⟩
theorem bit_key (key : List UInt8) (n : Nat) (hn : 0 < n) (q : Nat) : ∀ (d i : Nat) (ys : List Nat), n ≤ 8 * ys.length → (bitN (keyN key n d i ys) q = true ↔ bitN ys q = true ∨ ∃ j, i ≤ j ∧ j < i + d ∧ pl key n j = q)
  | 0, i, _, _ => ⟨.inl, fun h => h.elim id (fun ⟨j, h1, h2, _⟩ => absurd h2 (by omega))⟩
  | d + 1, i, ys, h => by
    have hp := pl_lt key n i hn
    rw [keyN, bit_key key n hn q d (i + 1) _ (by rw [putN_len]; exact h), bit_put ys _ q (by omega)]
    constructor
    · rintro ((h | h) | ⟨j, h1, h2, h3⟩)
      · exact .inl h
      · exact .inr ⟨i, by omega, by omega, h⟩
      · exact .inr ⟨j, by omega, by omega, h3⟩
    · rintro (h | ⟨j, h1, h2, h3⟩)
      · exact .inl (.inl h)
      · by_cases c : j = i
        · exact .inl (.inr (by rw [← c]; exact h3))
        · exact .inr ⟨j, by omega, by omega, h3⟩
theorem bit_keys (n : Nat) (hn : 0 < n) (q : Nat) : ∀ (ks : List ByteArray) (ys : List Nat), n ≤ 8 * ys.length → (bitN (keysN n ks ys) q = true ↔ bitN ys q = true ∨ ∃ key ∈ ks, ∃ j, j < 6 ∧ pl (tx key) n j = q)
  | [], _, _ => ⟨.inl, fun h => h.elim id (fun ⟨key, hk, _⟩ => absurd hk (by simp))⟩
  | key :: ks, ys, h => by
    show bitN (keysN n ks (keyN (tx key) n 6 0 ys)) q = true ↔ _
    rw [bit_keys n hn q ks _ (by rw [keyN_len]; exact h), bit_key (tx key) n hn q 6 0 ys h]
    constructor
    · rintro ((h | ⟨j, _, h2, h3⟩) | ⟨k, hk, h⟩)
      · exact .inl h
      · exact .inr ⟨key, by simp, j, by omega, h3⟩
      · exact .inr ⟨k, by simp [hk], h⟩
    · rintro (h | ⟨k, hk, j, h2, h3⟩)
      · exact .inl (.inl h)
      · rcases List.mem_cons.1 hk with rfl | hk
        · exact .inl (.inr ⟨j, by omega, by omega, h3⟩)
        · exact .inr ⟨k, hk, j, h2, h3⟩
theorem zero_bit (m q : Nat) : bitN (List.replicate m 0) q = false := by
  unfold bitN
  rw [List.getD_eq_getElem?_getD]
  by_cases c : q / 8 < m
  · rw [List.getElem?_replicate, if_pos c]; exact Nat.zero_testBit _
  · rw [List.getElem?_replicate, if_neg c]; exact Nat.zero_testBit _
theorem zero_ok (m : Nat) : okN (List.replicate m 0) := fun y hy => by rw [(List.mem_replicate.1 hy).2]; decide
theorem zero_ints (m : Nat) : List.replicate m (0 : Int) = ints (List.replicate m 0) := by unfold ints; rw [List.map_replicate]; rfl
theorem bt_ints {ys : List Nat} (h : okN ys) (i : Nat) : bt (strOfNums (ints ys)) (i : Int) = ((ys.getD i 0 : Nat) : Int) := by
  have hl : (strOfNums (ints ys)).data.toList = ys.map fun y => UInt8.ofNat y := by
    rw [nums_bs, bs_list]; unfold ints; rw [List.map_map]; rfl
  by_cases c : i < ys.length
  · have hi : i < (strOfNums (ints ys)).data.toList.length := by rw [hl, List.length_map]; exact c
    rw [bt_list _ i hi, List.getD_eq_getElem?_getD, List.getElem?_eq_getElem c]
    simp only [hl, List.getElem_map, Option.getD_some]
    rw [u8_ofNat (h _ (List.getElem_mem c))]
  · rw [List.getD_eq_getElem?_getD, List.getElem?_eq_none (by omega)]
    have hs : (strOfNums (ints ys)).size = ys.length := by rw [str_size]; unfold ints; rw [List.length_map]
    unfold bt; rw [dif_neg (by simp; omega)]; rfl
theorem bitS_ints {ys : List Nat} (h : okN ys) (p : Nat) : bitS (strOfNums (ints ys)) p = bitN ys p := by
  unfold bitS bitN
  rw [bt_ints h]
  exact and_pow ⟨_, getD_ok h (p / 8)⟩ ⟨p % 8, by omega⟩
theorem hasFrom_all (s : ByteArray) (key : List UInt8) (n : Nat) : ∀ (d i : Nat), (∀ j, i ≤ j → j < i + d → bitS s (pl key n j) = true) → hasFrom s key n d i = true
  | 0, _, _ => rfl
  | d + 1, i, h => by
    rw [hasFrom, h i (by omega) (by omega), Bool.true_and]
    exact hasFrom_all s key n d (i + 1) (fun j h1 h2 => h j (by omega) (by omega))
/-- The bits of keys, as a text. -/
def bitsOf (ks : List ByteArray) : ByteArray := strOfNums (ints (keysN (8 * bytesN ks.length) ks (List.replicate (bytesN ks.length) 0)))
theorem bitsOf_size (ks : List ByteArray) : (bitsOf ks).size = bytesN ks.length := by
  unfold bitsOf; rw [str_size]; unfold ints; rw [List.length_map, keysN_len, List.length_replicate]
theorem make_bits (ks : List ByteArray) (k M : Nat) (hl : ks.length ≤ 4096) (hM : M ≤ 1000000) (hs : ∀ t ∈ ks, t.size ≤ M) (hk : 10 * M + 14 + ks.length ≤ k) : bloom_Make.f k ks = some (bitsOf ks, 0) := by
  rw [make_is ks k M hl hM hs hk, zero_ints, keys_ints _ _ _ (zero_ok _)]; rfl
theorem bytesN_pos (n : Nat) : 8 ≤ bytesN n ∧ bytesN n ≤ 6000 := by unfold bytesN; omega
theorem bitsOf_bit (ks : List ByteArray) (q : Nat) : bitS (bitsOf ks) q = true ↔ ∃ key ∈ ks, ∃ j, j < 6 ∧ pl (tx key) (8 * bytesN ks.length) j = q := by
  have hb := bytesN_pos ks.length
  unfold bitsOf
  rw [bitS_ints (keysN_ok _ _ _ (zero_ok _)), bit_keys _ (by omega) q ks _ (by rw [List.length_replicate]; omega), zero_bit]
  exact ⟨fun h => h.elim (fun e => by cases e) id, .inr⟩
theorem has_all (ks : List ByteArray) (key : ByteArray) (h : key ∈ ks) : hasB (bitsOf ks) (tx key) = true := by
  unfold hasB
  rw [bitsOf_size, hasFrom_all _ _ _ 6 0 (fun j _ h2 => (bitsOf_bit ks _).2 ⟨key, h, j, by omega, rfl⟩), Bool.or_true]
end Go.Proofs.Ythjgnnldpepdfaa.VaBits
