/- Plain laws on what the functions written out for this seat come to. -/
import Derived.Test.YthjgnnldpepdfaaXStatBloomMore
import Derived.Test.YthjgnnldpepdfaaVLib
import Derived.Test.YthjgnnldpepdfaaCLib
import Derived.Test.YthjgnnldpepdfaaVaBl
import Derived.Test.YthjgnnldpepdfaaVaHas
import Derived.Test.YthjgnnldpepdfaaVaBits
namespace Go.Proofs.Ythjgnnldpepdfaa.VaLMore
open Go.RowKit Go.Proofs.Ythjgnnldpepdfaa.XA Go.Proofs.Ythjgnnldpepdfaa.VLib Go.Proofs.Ythjgnnldpepdfaa.CLib Go.Proofs.Ythjgnnldpepdfaa.VaBl Go.Proofs.Ythjgnnldpepdfaa.VaHas Go.Proofs.Ythjgnnldpepdfaa.VaBits Go.Proofs.YthjgnnldpepdfaaW.PrintWords Go.Proofs.YthjgnnldpepdfaaW.PrintLast Go.Proofs.YthjgnnldpepdfaaW.PrintMore
theorem bits_eq {ys zs : List Nat} (hy : okN ys) (hz : okN zs) (hl : ys.length = zs.length) (h : ∀ q, bitN ys q = bitN zs q) : ys = zs := by
  refine List.ext_getElem hl (fun i h1 h2 => Nat.eq_of_testBit_eq (fun j => ?_))
  have a1 := hy _ (List.getElem_mem h1)
  have a2 := hz _ (List.getElem_mem h2)
  by_cases c : j < 8
  · have := h (8 * i + j)
    unfold bitN at this
    rw [show (8 * i + j) / 8 = i from by omega, show (8 * i + j) % 8 = j from by omega, List.getD_eq_getElem?_getD, List.getD_eq_getElem?_getD, List.getElem?_eq_getElem h1, List.getElem?_eq_getElem h2] at this
    exact this
  · have hp : 2 ^ 8 ≤ 2 ^ j := Nat.pow_le_pow_right (by decide) (by omega)
    rw [Nat.testBit_lt_two_pow (by omega), Nat.testBit_lt_two_pow (by omega)]
theorem bitsOf_ext (ks ls : List ByteArray) (hl : ks.length = ls.length) (h : ∀ key, key ∈ ks ↔ key ∈ ls) : bitsOf ks = bitsOf ls := by
  have hb := bytesN_pos ls.length
  unfold bitsOf
  rw [hl]
  refine congrArg (fun z => strOfNums (ints z)) (bits_eq (keysN_ok _ _ _ (zero_ok _)) (keysN_ok _ _ _ (zero_ok _)) (by rw [keysN_len, keysN_len]) (fun q => ?_))
  rw [Bool.eq_iff_iff, bit_keys _ (by omega) q ks _ (by rw [List.length_replicate]; omega), bit_keys _ (by omega) q ls _ (by rw [List.length_replicate]; omega)]
  constructor
  · rintro (e | ⟨key, hk, e⟩)
    · exact .inl e
    · exact .inr ⟨key, (h key).1 hk, e⟩
  · rintro (e | ⟨key, hk, e⟩)
    · exact .inl e
    · exact .inr ⟨key, (h key).2 hk, e⟩
theorem andNot_zero (a b : Nat) (h : ∀ j, j < 8 → a.testBit j = true → b.testBit j = true) : Go.bits .andNot .u8 (a : Int) (b : Int) = 0 := by
  have e : Go.bits .andNot .u8 (a : Int) (b : Int) = IntKind.u8.wrap (((BitVec.ofInt 8 (a : Int)) &&& ~~~(BitVec.ofInt 8 (b : Int))).toNat : Int) := rfl
  have z : (BitVec.ofInt 8 (a : Int)) &&& ~~~(BitVec.ofInt 8 (b : Int)) = 0#8 := by
    apply BitVec.eq_of_getLsbD_eq
    intro j hj
    rw [BitVec.getLsbD_and, BitVec.getLsbD_not]
    have e1 : BitVec.ofInt 8 (a : Int) = BitVec.ofNat 8 a := by simp
    have e2 : BitVec.ofInt 8 (b : Int) = BitVec.ofNat 8 b := by simp
    rw [e1, e2, BitVec.getLsbD_ofNat, BitVec.getLsbD_ofNat, decide_eq_true hj, Bool.true_and, Bool.true_and, BitVec.getLsbD_zero]
    have := h j hj
    cases hA : a.testBit j
    · rfl
    · rw [this hA]; rfl
  rw [e, z]; rfl
theorem sub_at (ks ls : List ByteArray) (hl : ks.length = ls.length) (h : ∀ key ∈ ks, key ∈ ls) (i : Nat) : Go.bits .andNot .u8 (bt (bitsOf ks) (i : Int)) (bt (bitsOf ls) (i : Int)) = 0 := by
  have hk := keysN_ok (8 * bytesN ks.length) ks _ (zero_ok (bytesN ks.length))
  have hls := keysN_ok (8 * bytesN ls.length) ls _ (zero_ok (bytesN ls.length))
  have hq : ∀ q, bitS (bitsOf ks) q = true → bitS (bitsOf ls) q = true := by
    intro q e
    obtain ⟨key, hm, j, hj, e⟩ := (bitsOf_bit ks q).1 e
    exact (bitsOf_bit ls q).2 ⟨key, h key hm, j, hj, by rw [← hl]; exact e⟩
  have hq' : ∀ q, bitN (keysN (8 * bytesN ks.length) ks (List.replicate (bytesN ks.length) 0)) q = true → bitN (keysN (8 * bytesN ls.length) ls (List.replicate (bytesN ls.length) 0)) q = true := by
    intro q e
    have := hq q
    unfold bitsOf at this
    rw [bitS_ints hk, bitS_ints hls] at this
    exact this e
  unfold bitsOf
  rw [bt_ints hk, bt_ints hls]
  refine andNot_zero _ _ (fun j hj e => ?_)
  have := hq' (8 * i + j)
  unfold bitN at this
  rw [show (8 * i + j) / 8 = i from by omega, show (8 * i + j) % 8 = j from by omega] at this
  exact this e
def trn (ks : List ByteArray) (r i : Nat) : List ByteArray := (List.range i).map fun j => rdOf ByteArray.empty ks (((j + r) % ks.length : Nat) : Int)
theorem trn_len (ks : List ByteArray) (r i : Nat) : (trn ks r i).length = i := by unfold trn; rw [List.length_map, List.length_range]
theorem trn_succ (ks : List ByteArray) (r i : Nat) : trn ks r (i + 1) = trn ks r i ++ [rdOf ByteArray.empty ks (((i + r) % ks.length : Nat) : Int)] := by
  unfold trn; rw [List.range_succ, List.map_append]; rfl
theorem trn_mem (ks : List ByteArray) (r : Nat) (h0 : 0 < ks.length) (key : ByteArray) : key ∈ trn ks r ks.length ↔ key ∈ ks := by
  unfold trn
  rw [List.mem_map]
  constructor
  · rintro ⟨j, _, rfl⟩
    have := Nat.mod_lt (j + r) h0
    rw [rdS ks _ this]; exact List.getElem_mem this
  · intro h
    obtain ⟨m, hm, rfl⟩ := List.getElem_of_mem h
    have h1 := Nat.mod_lt r h0
    refine ⟨(m + (ks.length - r % ks.length)) % ks.length, List.mem_range.2 (Nat.mod_lt _ h0), ?_⟩
    have e : ((m + (ks.length - r % ks.length)) % ks.length + r) % ks.length = m := by
      rw [Nat.mod_add_mod, Nat.add_assoc, ← Nat.add_mod_mod m, show ks.length - r % ks.length + r = ks.length + (r - r % ks.length) from by have := Nat.mod_le r ks.length; omega]
      have hd : ks.length ∣ r - r % ks.length := Nat.dvd_sub_mod r
      obtain ⟨c, hc⟩ := hd
      rw [hc, Nat.add_mul_mod_self_left, Nat.mod_self, Nat.add_zero, Nat.mod_eq_of_lt hm]
    rw [e, rdS ks m hm]
theorem more_l1 (ks ls : List ByteArray) (key : ByteArray) (hl : ks.length = ls.length) (h : ∀ x ∈ ks, x ∈ ls) (hk : key ∈ ls) (hs : key.size ≤ 256) : ∀ (d i k : Nat), i + d = (bitsOf ks).size → d + 3000 ≤ k → sorrellaw08_BloomMore.l1 k key (bitsOf ks) (bitsOf ls) (i : Int) = some true := by
  have h1 := bitsOf_size ks
  have h2 := bitsOf_size ls
  have hb := bytesN_pos ks.length
  rw [← hl] at h2
  intro d
  induction d with
  | zero =>
    intro i k e hk2
    obtain ⟨k, rfl⟩ : ∃ m, k = m + 1 := ⟨k - 1, by omega⟩
    simp only [sorrellaw08_BloomMore.l1]
    rw [if_neg (by omega), has_is _ _ k 256 (by omega) hs (by omega) (by omega), has_all ls key hk, Option.bind_some, if_pos rfl, awake_is k (by omega), Option.bind_some]
  | succ d ih =>
    intro i k e hk2
    obtain ⟨k, rfl⟩ : ∃ m, k = m + 1 := ⟨k - 1, by omega⟩
    simp only [sorrellaw08_BloomMore.l1]
    rw [if_pos (by omega), if_pos (by omega), if_pos (by omega), sub_at ks ls hl h i, if_pos rfl, w64 (by omega) (by omega)]
    exact ih (i + 1) k (by omega) (by omega)
theorem more_end (ks : List ByteArray) (x : Int) (r : Nat) (key : ByteArray) (h0 : 0 < ks.length) (h60 : ks.length ≤ 60) (hs : ∀ t ∈ ks, t.size ≤ 256) (hk : key.size ≤ 256) (k : Nat) (hk2 : 20000 ≤ k) :
    sorrellaw08_BloomMore.l0 (k + 2) ks x key (ks.length : Int) (trn ks r ks.length) ks ks (ks.length : Int) = some true := by
  have ht : ∀ t ∈ trn ks r ks.length, t.size ≤ 256 := fun t h => hs t ((trn_mem ks r h0 t).1 h)
  have hr : rdOf ByteArray.empty ks 0 ∈ ks := by
    have := rdS ks 0 h0
    rw [show ((0 : Nat) : Int) = 0 from rfl] at this
    rw [this]; exact List.getElem_mem h0
  have h1 : ∀ t ∈ ks ++ [rdOf ByteArray.empty ks 0], t.size ≤ 256 := fun t h => (List.mem_append.1 h).elim (hs t) (fun e => by rw [List.mem_singleton.1 e]; exact hs _ hr)
  have h2 : ∀ t ∈ ks ++ [key], t.size ≤ 256 := fun t h => (List.mem_append.1 h).elim (hs t) (fun e => by rw [List.mem_singleton.1 e]; exact hk)
  have l1 : (ks ++ [rdOf ByteArray.empty ks 0]).length = ks.length + 1 := by rw [List.length_append]; rfl
  have l2 : (ks ++ [key]).length = ks.length + 1 := by rw [List.length_append]; rfl
  have lt := trn_len ks r ks.length
  have e := bitsOf_ext ks (trn ks r ks.length) lt.symm (fun z => (trn_mem ks r h0 z).symm)
  have z1 := bitsOf_size (ks ++ [rdOf ByteArray.empty ks 0])
  have z2 := bitsOf_size (ks ++ [key])
  rw [l1] at z1
  rw [l2] at z2
  have hb := bytesN_pos (ks.length + 1)
  rw [sorrellaw08_BloomMore.l0, if_neg (by omega), make_bits ks (k + 1) 256 (by omega) (by omega) hs (by omega), Option.bind_some, make_bits (trn ks r ks.length) (k + 1) 256 (by omega) (by omega) ht (by omega), Option.bind_some,
    if_pos (by omega), if_pos (by omega), make_bits (ks ++ [rdOf ByteArray.empty ks 0]) (k + 1) 256 (by omega) (by omega) h1 (by omega), Option.bind_some, if_pos (by omega), make_bits (ks ++ [key]) (k + 1) 256 (by omega) (by omega) h2 (by omega), Option.bind_some,
    if_pos rfl, if_pos rfl, if_pos rfl, if_pos rfl, if_pos (by rw [e])]
  rw [z1, z2, bne_self_eq_false, sorrellaw08_BloomMore.j2, if_neg (by decide)]
  exact more_l1 (ks ++ [rdOf ByteArray.empty ks 0]) (ks ++ [key]) key (by rw [l1, l2]) (fun z hz => List.mem_append.2 ((List.mem_append.1 hz).elim .inl (fun e => .inl (by rw [List.mem_singleton.1 e]; exact hr)))) (by simp) hk _ 0 k (by rw [Nat.zero_add]) (by omega)
theorem more_l0 (ks : List ByteArray) (x : Int) (r : Nat) (hr : r ≤ 255) (hx : Go.bits .and .i64 x 255 = (r : Int)) (key : ByteArray) (h0 : 0 < ks.length) (h60 : ks.length ≤ 60) (hs : ∀ t ∈ ks, t.size ≤ 256) (hk : key.size ≤ 256) : ∀ (d i k : Nat), i + d = ks.length → d + 20002 ≤ k →
    sorrellaw08_BloomMore.l0 k ks x key (ks.length : Int) (trn ks r i) (ks.take i) (ks.take i) (i : Int) = some true := by
  intro d
  induction d with
  | zero =>
    intro i k e hk2
    obtain ⟨k, rfl⟩ : ∃ m, k = m + 2 := ⟨k - 2, by omega⟩
    obtain rfl : i = ks.length := by omega
    rw [List.take_length]
    exact more_end ks x r key h0 h60 hs hk k (by omega)
  | succ d ih =>
    intro i k e hk2
    obtain ⟨k, rfl⟩ : ∃ m, k = m + 1 := ⟨k - 1, by omega⟩
    have hi : i < ks.length := by omega
    have lt := trn_len ks r i
    have lk : (ks.take i).length = i := by rw [List.length_take]; omega
    have hm := Nat.mod_lt (i + r) h0
    have e1 : Int.tmod (wrap64 ((i : Int) + (r : Int))) (ks.length : Int) = (((i + r) % ks.length : Nat) : Int) := by
      rw [w64 (by omega) (by omega), ← Int.natCast_add]; exact (Int.ofNat_tmod _ _).symm
    have e2 : ks.take i ++ [rdOf ByteArray.empty ks (i : Int)] = ks.take (i + 1) := by rw [rdS ks i hi, List.take_succ_eq_append_getElem hi]
    rw [sorrellaw08_BloomMore.l0, if_pos (by omega), if_neg (by omega), hx, e1, if_pos (Int.natCast_nonneg _), if_pos (Int.ofNat_lt.2 hm)]
    clear e1 hm
    rw [if_pos (by omega), if_pos (by omega), if_pos (by omega), if_pos (by omega), if_pos (by omega), ← trn_succ, e2, w64 (by omega) (by omega)]
    clear e2
    exact ih (i + 1) k (by omega) (by omega)
theorem more_aw (ks : List ByteArray) (x : Int) (key : ByteArray) (n : Int) (k : Nat) (hk : 100 ≤ k) : sorrellaw08_BloomMore.j0 (k + 1) ks x key n true = some true := by
  rw [sorrellaw08_BloomMore.j0, if_pos rfl, awake_is k hk, Option.bind_some]
theorem more_is (ks : List ByteArray) (x : Int) (key : ByteArray) (k : Nat) (hk : 30000 ≤ k) : sorrellaw08_BloomMore.f (k + 1) ks x key = some true := by
  obtain ⟨b, h1, h2⟩ := few_is ks (k + 1) (by omega)
  unfold sorrellaw08_BloomMore.f
  rw [h1, Option.bind_some]
  cases b with
  | false => rw [if_neg (by decide)]; exact more_aw _ _ _ _ _ (by omega)
  | true =>
    obtain ⟨g1, g2⟩ := h2 rfl
    rw [if_pos rfl]
    by_cases c1 : (ks.length : Int) = 0
    · rw [if_pos c1]; exact more_aw _ _ _ _ _ (by omega)
    · rw [if_neg c1]
      by_cases c2 : (ks.length : Int) > 60
      · rw [if_pos c2]; exact more_aw _ _ _ _ _ (by omega)
      · rw [if_neg c2]
        by_cases c3 : key.size ≤ 256
        · obtain ⟨r, hr, e⟩ := and_small x 255 (by decide)
          have hx : Go.bits .and .i64 x 255 = (r : Int) := e
          rw [decide_eq_false (by omega), sorrellaw08_BloomMore.j0, if_neg (by decide)]
          have := more_l0 ks x r hr hx key (by omega) (by omega) g2 c3 ks.length 0 k (by omega) (by omega)
          rw [List.take_zero] at this
          exact this
        · rw [decide_eq_true (by omega)]; exact more_aw _ _ _ _ _ (by omega)
theorem law_more : sorrellaw08_BloomMore.Pure := fun ks x key _ _ _ => ⟨30000 + 1, more_is ks x key _ (Nat.le_refl _)⟩
end Go.Proofs.Ythjgnnldpepdfaa.VaLMore
