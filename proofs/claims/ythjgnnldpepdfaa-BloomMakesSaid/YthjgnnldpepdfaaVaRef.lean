/- Plain laws on what the functions written out for this seat come to. -/
import Derived.Test.YthjgnnldpepdfaaXAx3
import Derived.Test.YthjgnnldpepdfaaVLib
import Derived.Test.YthjgnnldpepdfaaCLib
import Derived.Test.YthjgnnldpepdfaaVaBl
import Derived.Test.YthjgnnldpepdfaaVaHas
namespace Go.Proofs.Ythjgnnldpepdfaa.VaRef
open Go.RowKit Go.Proofs.Ythjgnnldpepdfaa.XA Go.Proofs.Ythjgnnldpepdfaa.VLib Go.Proofs.Ythjgnnldpepdfaa.CLib Go.Proofs.Ythjgnnldpepdfaa.VaBl Go.Proofs.Ythjgnnldpepdfaa.VaHas Go.Proofs.YthjgnnldpepdfaaW.PrintWords Go.Proofs.YthjgnnldpepdfaaW.PrintLast Go.Proofs.YthjgnnldpepdfaaW.PrintMore
/-! ### sorrelref02_More, sorrelref02_Sum -/
theorem rmore_l1 : ∀ (d K j : Nat) (s : ByteArray) (c : BitVec 32) (i : Int), j + d = 8 → sorrelref02_More.l1 (K + d + 1) s (c.toNat : Int) i (j : Int) = sorrelref02_More.l0 K s ((bsteps d c).toNat : Int) (wrap64 (i + 1)) := by
  intro d
  induction d with
  | zero =>
    intro K j s c i h
    simp only [sorrelref02_More.l1]
    rw [if_neg (by omega)]; rfl
  | succ d ih =>
    intro K j s c i h
    have hc := c.isLt
    rw [show K + (d + 1) + 1 = (K + d + 1) + 1 from by omega]
    simp only [sorrelref02_More.l1]
    rw [if_pos (by omega), and1_i64 _ (by omega), w64 (n := (j : Int) + 1) (by omega) (by omega), ← half, poly_toNat, xor_i64_bv]
    by_cases b : c.toNat % 2 = 1
    · rw [if_pos (by omega), ← bstep_one c b]
      exact ih K (j + 1) s (bstep c) i (by omega)
    · rw [if_neg (by omega), ← bstep_zero c b]
      exact ih K (j + 1) s (bstep c) i (by omega)
theorem rmore_l0 : ∀ (n K i : Nat) (s : ByteArray) (c : BitVec 32), i + n = s.data.toList.length → s.size ≤ 4611686018427387904 →
    sorrelref02_More.l0 (10 * n + (K + 1)) s (c.toNat : Int) (i : Int) = some ((~~~ crcL c (s.data.toList.drop i)).toNat : Int) := by
  intro n
  induction n with
  | zero =>
    intro K i s c h hs
    have hl := len_list s
    rw [Nat.mul_zero, Nat.zero_add]
    simp only [sorrelref02_More.l0]
    rw [if_neg (by omega), List.drop_eq_nil_of_le (by omega), ones_xor64]
    rfl
  | succ n ih =>
    intro K i s c h hs
    have hl := len_list s
    have hlt : i < s.data.toList.length := by omega
    rw [show 10 * (n + 1) + (K + 1) = (10 * n + (K + 1) + 9) + 1 from by omega]
    simp only [sorrelref02_More.l0]
    have hw := (wide (s.data.toList[i]'hlt)).isLt
    rw [if_pos (by omega), if_pos (by omega), wide_bt s i hlt, w64 (by omega) (by omega), xor_i64_bv]
    have h1 := rmore_l1 8 (10 * n + (K + 1)) 0 s (c ^^^ wide (s.data.toList[i]'hlt)) (i : Int) rfl
    rw [show 10 * n + (K + 1) + 9 = 10 * n + (K + 1) + 8 + 1 from rfl]
    refine h1.trans ?_
    rw [w64 (by omega) (by omega), drop_cons s i hlt]
    exact ih K (i + 1) s (cbyte c (s.data.toList[i]'hlt)) (by omega) hs
theorem rmore_is (x : Int) (s : ByteArray) (k : Nat) (hk : 10 * s.size + 1 ≤ k) (hs : s.size ≤ 4611686018427387904) :
    sorrelref02_More.f k x s = some ((crcM (BitVec.ofInt 32 x) s.data.toList).toNat : Int) := by
  obtain ⟨K, rfl⟩ : ∃ K, k = 10 * s.size + (K + 1) := ⟨k - 10 * s.size - 1, by omega⟩
  unfold sorrelref02_More.f
  rw [low32, ones_xor64]
  have h := rmore_l0 s.size K 0 s (~~~ BitVec.ofInt 32 x) (by rw [len_list]; omega) hs
  exact h
theorem rsum_is (s : ByteArray) (k : Nat) (hk : 10 * s.size + 1 ≤ k) (hs : s.size ≤ 4611686018427387904) :
    sorrelref02_Sum.f k s = some ((crcM 0#32 s.data.toList).toNat : Int) := by
  unfold sorrelref02_Sum.f
  rw [rmore_is _ s k hk hs]
  rfl
/-! ### the document's -/
theorem rsum_key (s : ByteArray) (k M : Nat) (hs : s.size ≤ M) (hM : M ≤ 1000000) (hk : 10 * M + 12 ≤ k) : sorrelref02_Sum.f k s = some ((sm (tx s) : Nat) : Int) ∧ sorrelref02_Sum.f k (s ++ (⟨#[35]⟩ : ByteArray)) = some ((sm (tx s ++ [35]) : Nat) : Int) := by
  have hz : (s ++ (⟨#[35]⟩ : ByteArray)).size = s.size + 1 := by rw [size_append]; rfl
  refine ⟨rsum_is s k (by omega) (by omega), ?_⟩
  rw [rsum_is _ k (by omega) (by omega), list_append]; rfl
theorem place_is (s : ByteArray) (n i k M : Nat) (hi : i < 6) (hn : 0 < n) (hs : s.size ≤ M) (hM : M ≤ 1000000) (hk : 10 * M + 12 ≤ k) : sorrelref08_place.f k s (i : Int) (n : Int) = some ((pl (tx s) n i : Nat) : Int) := by
  obtain ⟨h1, h2⟩ := rsum_key s k M hs hM hk
  unfold sorrelref08_place.f
  rw [h1, Option.bind_some, if_pos (by omega), h2, Option.bind_some, if_neg (by omega), or1 _ (sm_lt _), pl_int _ n i hi]
theorem rmake_l1 (ks : List ByteArray) (idx : Nat) (hi0 : idx < ks.length) (n M : Nat) (hn : 0 < n) (hm : n ≤ 1099511627776) (hM : M ≤ 1000000) (hs : (ks[idx]).size ≤ M) : ∀ (d i K : Nat) (xs : List Int), i + d = 6 → 10 * M + 12 ≤ K → n ≤ 8 * xs.length →
    sorrelref08_Make.l1 (K + d + 1) ks (n : Int) xs (idx : Int) (i : Int) = sorrelref08_Make.l0 K ks (n : Int) (keyFrom (tx ks[idx]) n d i xs) (wrap64 ((idx : Int) + 1)) := by
  intro d
  induction d with
  | zero =>
    intro i K xs h hk hx
    simp only [sorrelref08_Make.l1]
    rw [if_neg (by omega)]; rfl
  | succ d ih =>
    intro i K xs h hk hx
    have hp := pl_lt (tx ks[idx]) n i hn
    rw [show K + (d + 1) + 1 = (K + d + 1) + 1 from by omega, sorrelref08_Make.l1, if_pos (by omega), if_pos (by omega), if_pos (by omega), rdS ks idx hi0, place_is _ n i (K + d + 1) M (by omega) hn hs hM (by omega), Option.bind_some,
      div8 _ (by omega), mod8, if_pos (by omega), if_pos (by omega), if_pos (by omega), w64 (n := (i : Int) + 1) (by omega) (by omega), Int.toNat_natCast]
    exact ih (i + 1) K (putp xs (pl (tx ks[idx]) n i)) (by omega) hk (by rw [putp_len]; exact hx)
theorem rmake_l0 (ks : List ByteArray) (n M : Nat) (hn : 0 < n) (hm : n ≤ 1099511627776) (hM : M ≤ 1000000) (hl : ks.length ≤ 4611686018427387904) (hs : ∀ t ∈ ks, t.size ≤ M) : ∀ (d i k : Nat) (xs : List Int), i + d = ks.length → n ≤ 8 * xs.length → 10 * M + 13 + 8 * d ≤ k →
    sorrelref08_Make.l0 k ks (n : Int) xs (i : Int) = some (strOfNums (keysP n (ks.drop i) xs), 0) := by
  intro d
  induction d with
  | zero =>
    intro i k xs h hx hk
    obtain ⟨k, rfl⟩ : ∃ m, k = m + 1 := ⟨k - 1, by omega⟩
    simp only [sorrelref08_Make.l0]
    rw [if_neg (by omega), List.drop_eq_nil_of_le (by omega)]; rfl
  | succ d ih =>
    intro i k xs h hx hk
    obtain ⟨k, rfl⟩ : ∃ m, k = (m + 6 + 1) + 1 := ⟨k - 8, by omega⟩
    have hi : i < ks.length := by omega
    have e : ks.drop i = ks[i] :: ks.drop (i + 1) := (List.getElem_cons_drop hi).symm
    rw [sorrelref08_Make.l0, if_pos (by omega)]
    have := rmake_l1 ks i hi n M hn hm hM (hs _ (List.getElem_mem hi)) 6 0 k xs (by omega) (by omega) hx
    rw [show ((0 : Nat) : Int) = 0 from rfl] at this
    rw [this, w64 (by omega) (by omega), e]
    exact ih (i + 1) k _ (by omega) (by rw [keyFrom_len]; exact hx) (by omega)
theorem rsize_is (x : Int) : sorrelref08_Size.f x = some ((8 * bytesN x.toNat : Nat) : Int) := by
  unfold sorrelref08_Size.f bytesN mx mn
  congr 1
  split <;> split <;> split <;> omega
theorem rmake_is (ks : List ByteArray) (k M : Nat) (hl : ks.length ≤ 4096) (hM : M ≤ 1000000) (hs : ∀ t ∈ ks, t.size ≤ M) (hk : 10 * M + 14 + 8 * ks.length ≤ k) :
    sorrelref08_Make.f k ks = some (strOfNums (keysP (8 * bytesN ks.length) ks (List.replicate (bytesN ks.length) 0)), 0) := by
  unfold sorrelref08_Make.f
  have hb : 8 ≤ bytesN ks.length ∧ bytesN ks.length ≤ 6000 := by unfold bytesN; omega
  rw [if_neg (by omega), rsize_is, Int.toNat_natCast, Option.bind_some, div8 _ (by omega), show 8 * bytesN ks.length / 8 = bytesN ks.length from by omega, if_pos (by omega), Int.toNat_natCast, if_pos (by omega)]
  exact rmake_l0 ks _ M (by omega) (by omega) hM (by omega) hs ks.length 0 k _ (by omega) (by rw [List.length_replicate]; omega) (by omega)
theorem bit_same : ∀ (b : Fin 256) (j : Fin 8), (Go.bits .and .u8 (b.val : Int) (shl .u8 1 (j.val : Int)) != 0) = !(decide (Go.bits .and .u8 (shr .u8 (b.val : Int) (j.val : Int)) 1 = 0)) := by decide +kernel
theorem bt_nat (s : ByteArray) (i : Int) : ∃ b : Nat, b < 256 ∧ bt s i = (b : Int) := by
  have := bt_range s i
  exact ⟨(bt s i).toNat, by omega, by omega⟩
theorem bitS_ref (s : ByteArray) (p : Nat) : bitS s p = !(decide (Go.bits .and .u8 (shr .u8 (bt s ((p / 8 : Nat) : Int)) ((p % 8 : Nat) : Int)) 1 = 0)) := by
  obtain ⟨b, hb, e⟩ := bt_nat s ((p / 8 : Nat) : Int)
  unfold bitS
  rw [e]
  exact bit_same ⟨b, hb⟩ ⟨p % 8, by omega⟩
theorem rhas_l0 (s key : ByteArray) (M : Nat) (hz : s.size ≤ 1000000) (h0 : s.size ≠ 0) (hs : key.size ≤ M) (hM : M ≤ 1000000) : ∀ (d i k : Nat), i + d = 6 → 10 * M + 14 + 2 * d ≤ k →
    sorrelref08_Has.l0 k s key (i : Int) = some (hasFrom s (tx key) (8 * s.size) d i) := by
  have c : (s.toList != ([] : List UInt8)) = true := bne_iff_ne.2 (fun h => h0 ((nil_size s).1 h))
  have e8 : wrap64 (8 * (s.size : Int)) = ((8 * s.size : Nat) : Int) := by rw [w64 (by omega) (by omega)]; rfl
  intro d
  induction d with
  | zero =>
    intro i k h hk
    obtain ⟨k, rfl⟩ : ∃ m, k = m + 2 := ⟨k - 2, by omega⟩
    simp only [sorrelref08_Has.l0, sorrelref08_Has.j1]
    rw [if_neg (by omega), if_neg (by decide)]; rfl
  | succ d ih =>
    intro i k h hk
    obtain ⟨k, rfl⟩ : ∃ m, k = m + 2 := ⟨k - 2, by omega⟩
    have hp := pl_lt (tx key) (8 * s.size) i (by omega)
    simp only [sorrelref08_Has.l0, sorrelref08_Has.j1]
    rw [if_pos (by omega), c, if_pos rfl, e8, place_is _ _ i k M (by omega) (by omega) hs hM (by omega), Option.bind_some, div8 _ (by omega), mod8, if_pos (by omega), if_pos (by omega), if_pos (by omega), w64 (by omega) (by omega), show (i : Int) + 1 = ((i + 1 : Nat) : Int) from rfl, ih (i + 1) k (by omega) (by omega), hasFrom, bitS_ref]
    by_cases g : Go.bits .and .u8 (shr .u8 (bt s ((pl (tx key) (8 * s.size) i / 8 : Nat) : Int)) ((pl (tx key) (8 * s.size) i % 8 : Nat) : Int)) 1 = 0
    · rw [if_pos g, decide_eq_true g]; rfl
    · rw [if_neg g, decide_eq_false g]; rfl
theorem rhas_is (s key : ByteArray) (k M : Nat) (hz : s.size ≤ 1000000) (hs : key.size ≤ M) (hM : M ≤ 1000000) (hk : 10 * M + 30 ≤ k) : sorrelref08_Has.f k s key = some (hasB s (tx key)) := by
  unfold sorrelref08_Has.f hasB
  by_cases c : s.size = 0
  · have e : s.toList = [] := (nil_size s).2 c
    obtain ⟨k, rfl⟩ : ∃ m, k = m + 2 := ⟨k - 2, by omega⟩
    simp only [sorrelref08_Has.l0, sorrelref08_Has.j1]
    rw [e, if_pos (by decide)]; rfl
  · have hc : s.toList.isEmpty = false := by cases h : s.toList with | nil => exact absurd ((nil_size s).1 h) c | cons _ _ => rfl
    rw [hc, Bool.false_or]
    exact rhas_l0 s key M hz c hs hM 6 0 k (by omega) (by omega)
end Go.Proofs.Ythjgnnldpepdfaa.VaRef
