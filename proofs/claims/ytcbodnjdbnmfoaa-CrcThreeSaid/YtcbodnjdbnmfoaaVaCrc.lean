/- Plain laws on what the functions written out for this seat come to. -/
import Derived.Test.YtcbodnjdbnmfoaaXAx1
import Derived.Test.YtcbodnjdbnmfoaaXAx2
import Derived.Test.YtcbodnjdbnmfoaaVLib
import Derived.Test.YtcbodnjdbnmfoaaCLib
namespace Go.Proofs.Ytcbodnjdbnmfoaa.VaCrc
open Go.RowKit Go.Proofs.Ytcbodnjdbnmfoaa.XA Go.Proofs.Ytcbodnjdbnmfoaa.VLib Go.Proofs.Ytcbodnjdbnmfoaa.CLib Go.Proofs.YtcbodnjdbnmfoaaW.PrintWords Go.Proofs.YtcbodnjdbnmfoaaW.PrintLast Go.Proofs.YtcbodnjdbnmfoaaW.PrintMore
/-! ### crc_More, crc_Sum -/
theorem more_l1 : ∀ (d K j : Nat) (s : ByteArray) (c : BitVec 32) (n i : Int), j + d = 8 → crc_More.l1 (K + d + 1) s (c.toNat : Int) n i (j : Int) = crc_More.l0 K s ((bsteps d c).toNat : Int) n (wrap64 (i + 1)) := by
  intro d
  induction d with
  | zero =>
    intro K j s c n i h
    simp only [crc_More.l1]
    rw [if_neg (by omega)]; rfl
  | succ d ih =>
    intro K j s c n i h
    rw [show K + (d + 1) + 1 = (K + d + 1) + 1 from by omega]
    simp only [crc_More.l1]
    rw [if_pos (by omega), and1_u32, w64 (n := (j : Int) + 1) (by omega) (by omega), ← half, poly_toNat, xor_u32]
    by_cases b : c.toNat % 2 = 1
    · rw [if_pos (by omega), ← bstep_one c b]
      exact ih K (j + 1) s (bstep c) n i (by omega)
    · rw [if_neg (by omega), ← bstep_zero c b]
      exact ih K (j + 1) s (bstep c) n i (by omega)
theorem more_l0 : ∀ (n K i : Nat) (s : ByteArray) (c : BitVec 32), i + n = s.data.toList.length → s.size ≤ 4611686018427387904 →
    crc_More.l0 (10 * n + (K + 1)) s (c.toNat : Int) (s.size : Int) (i : Int) = some ((~~~ crcL c (s.data.toList.drop i)).toNat : Int) := by
  intro n
  induction n with
  | zero =>
    intro K i s c h hs
    have hl := len_list s
    rw [Nat.mul_zero, Nat.zero_add]
    simp only [crc_More.l0]
    have hlt := (~~~ c).isLt
    rw [if_neg (by omega), List.drop_eq_nil_of_le (by omega), ones_xor, w64 (by omega) (by omega)]
    rfl
  | succ n ih =>
    intro K i s c h hs
    have hl := len_list s
    have hlt : i < s.data.toList.length := by omega
    rw [show 10 * (n + 1) + (K + 1) = (10 * n + (K + 1) + 9) + 1 from by omega]
    simp only [crc_More.l0]
    rw [if_pos (by omega), if_pos (by omega), if_pos (by omega), wide_bt s i hlt]
    have hw := (wide (s.data.toList[i]'hlt)).isLt
    rw [Int.emod_eq_of_lt (by omega) (by omega), xor_u32]
    have h1 := more_l1 8 (10 * n + (K + 1)) 0 s (c ^^^ wide (s.data.toList[i]'hlt)) (s.size : Int) (i : Int) rfl
    rw [show 10 * n + (K + 1) + 9 = 10 * n + (K + 1) + 8 + 1 from rfl]
    refine h1.trans ?_
    rw [w64 (by omega) (by omega), drop_cons s i hlt]
    exact ih K (i + 1) s (cbyte c (s.data.toList[i]'hlt)) (by omega) hs
theorem more_is (x : Int) (s : ByteArray) (k : Nat) (hk : 10 * s.size + 1 ≤ k) (hs : s.size ≤ 4611686018427387904) :
    crc_More.f k x s = some ((crcM (BitVec.ofInt 32 x) s.data.toList).toNat : Int) := by
  obtain ⟨K, rfl⟩ : ∃ K, k = 10 * s.size + (K + 1) := ⟨k - 10 * s.size - 1, by omega⟩
  unfold crc_More.f
  have hlt := (BitVec.ofInt 32 x).isLt
  rw [low32, Int.emod_eq_of_lt (by omega) (by omega), ones_xor]
  have h := more_l0 s.size K 0 s (~~~ BitVec.ofInt 32 x) (by rw [len_list]; omega) hs
  exact h
theorem more_bv (c : BitVec 32) (s : ByteArray) (k : Nat) (hk : 10 * s.size + 1 ≤ k) (hs : s.size ≤ 4611686018427387904) :
    crc_More.f k (c.toNat : Int) s = some ((crcM c s.data.toList).toNat : Int) := by
  rw [more_is _ s k hk hs, ofInt_toNat]
theorem sum_is (s : ByteArray) (k : Nat) (hk : 10 * s.size + 1 ≤ k) (hs : s.size ≤ 4611686018427387904) :
    crc_Sum.f k s = some ((crcM 0#32 s.data.toList).toNat : Int) := by
  unfold crc_Sum.f
  rw [more_is _ s k hk hs]
  rfl
/-! ### sorrelref02_More, sorrelref02_Sum -/
theorem rmore_l1 : ∀ (d K j : Nat) (s : ByteArray) (c : BitVec 32) (i : Int), j + d = 8 → sorrelref02_More.l1 (K + d + 1) s (c.toNat : Int) i (j : Int) = sorrelref02_More.l0 K s ((bsteps d c).toNat : Int) (wrap64 (i + 1)) := by
  intro d
  induction d with
  | zero =>
    intro K j s c i h
    simp only [sorrelref02_More.l1]
    rw [if_neg (by omega)]; rfl
  | succ d ih =>
    intro K j s c i h
    have hc := c.isLt
    rw [show K + (d + 1) + 1 = (K + d + 1) + 1 from by omega]
    simp only [sorrelref02_More.l1]
    rw [if_pos (by omega), and1_i64 _ (by omega), w64 (n := (j : Int) + 1) (by omega) (by omega), ← half, poly_toNat, xor_i64_bv]
    by_cases b : c.toNat % 2 = 1
    · rw [if_pos (by omega), ← bstep_one c b]
      exact ih K (j + 1) s (bstep c) i (by omega)
    · rw [if_neg (by omega), ← bstep_zero c b]
      exact ih K (j + 1) s (bstep c) i (by omega)
theorem rmore_l0 : ∀ (n K i : Nat) (s : ByteArray) (c : BitVec 32), i + n = s.data.toList.length → s.size ≤ 4611686018427387904 →
    sorrelref02_More.l0 (10 * n + (K + 1)) s (c.toNat : Int) (i : Int) = some ((~~~ crcL c (s.data.toList.drop i)).toNat : Int) := by
  intro n
  induction n with
  | zero =>
    intro K i s c h hs
    have hl := len_list s
    rw [Nat.mul_zero, Nat.zero_add]
    simp only [sorrelref02_More.l0]
    rw [if_neg (by omega), List.drop_eq_nil_of_le (by omega), ones_xor64]
    rfl
  | succ n ih =>
    intro K i s c h hs
    have hl := len_list s
    have hlt : i < s.data.toList.length := by omega
    rw [show 10 * (n + 1) + (K + 1) = (10 * n + (K + 1) + 9) + 1 from by omega]
    simp only [sorrelref02_More.l0]
    have hw := (wide (s.data.toList[i]'hlt)).isLt
    rw [if_pos (by omega), if_pos (by omega), wide_bt s i hlt, w64 (by omega) (by omega), xor_i64_bv]
    have h1 := rmore_l1 8 (10 * n + (K + 1)) 0 s (c ^^^ wide (s.data.toList[i]'hlt)) (i : Int) rfl
    rw [show 10 * n + (K + 1) + 9 = 10 * n + (K + 1) + 8 + 1 from rfl]
    refine h1.trans ?_
    rw [w64 (by omega) (by omega), drop_cons s i hlt]
    exact ih K (i + 1) s (cbyte c (s.data.toList[i]'hlt)) (by omega) hs
theorem rmore_is (x : Int) (s : ByteArray) (k : Nat) (hk : 10 * s.size + 1 ≤ k) (hs : s.size ≤ 4611686018427387904) :
    sorrelref02_More.f k x s = some ((crcM (BitVec.ofInt 32 x) s.data.toList).toNat : Int) := by
  obtain ⟨K, rfl⟩ : ∃ K, k = 10 * s.size + (K + 1) := ⟨k - 10 * s.size - 1, by omega⟩
  unfold sorrelref02_More.f
  rw [low32, ones_xor64]
  have h := rmore_l0 s.size K 0 s (~~~ BitVec.ofInt 32 x) (by rw [len_list]; omega) hs
  exact h
theorem rsum_is (s : ByteArray) (k : Nat) (hk : 10 * s.size + 1 ≤ k) (hs : s.size ≤ 4611686018427387904) :
    sorrelref02_Sum.f k s = some ((crcM 0#32 s.data.toList).toNat : Int) := by
  unfold sorrelref02_Sum.f
  rw [rmore_is _ s k hk hs]
  rfl
theorem sums_is (k : Nat) (hk : 91 ≤ k) : sorrellaw02_sums.f k = some true := by
  unfold sorrellaw02_sums.f
  have e1 : crcM 0#32 (⟨#[49, 50, 51, 52, 53, 54, 55, 56, 57]⟩ : ByteArray).data.toList = 3808858755#32 := by decide +kernel
  have s1 : (⟨#[49, 50, 51, 52, 53, 54, 55, 56, 57]⟩ : ByteArray).size = 9 := rfl
  have s2 : (⟨#[]⟩ : ByteArray).size = 0 := rfl
  rw [sum_is _ k (by rw [s1]; omega) (by rw [s1]; omega), sum_is _ k (by rw [s2]; omega) (by rw [s2]; omega), e1]
  simp only [Option.bind_some]
  rw [if_pos (by decide)]
  rfl
theorem law_sums : sorrellaw02_CrcSums.Pure := by
  intro x s _ _
  refine ⟨50000, ?_⟩
  unfold sorrellaw02_CrcSums.f
  by_cases c : s.size ≤ 4096
  · rw [if_neg (by omega), sum_is s 50000 (by omega) (by omega), rsum_is s 50000 (by omega) (by omega), more_is x s 50000 (by omega) (by omega), rmore_is x s 50000 (by omega) (by omega)]
    simp only [Option.bind_some, if_true, sums_is 50000 (by omega)]
  · rw [if_pos (by omega), sums_is 50000 (by omega)]; rfl
theorem joins_j0 (a b c : ByteArray) (d : Bool) (h : d = false → a.size ≤ 4096 ∧ b.size ≤ 4096 ∧ c.size ≤ 4096) : sorrellaw02_CrcJoins.j0 200001 a b c d = some true := by
  simp only [sorrellaw02_CrcJoins.j0]
  cases d with
  | true => rw [if_pos rfl, sums_is _ (by omega)]; rfl
  | false =>
    obtain ⟨h1, h2, h3⟩ := h rfl
    have s2 : (⟨#[]⟩ : ByteArray).size = 0 := rfl
    have g1 : (a ++ b).size = a.size + b.size := size_append a b
    have g2 : (a ++ b ++ c).size = a.size + b.size + c.size := by rw [size_append, size_append]
    rw [if_neg (by simp), sum_is a _ (by omega) (by omega)]
    simp only [Option.bind_some]
    rw [more_bv _ b _ (by omega) (by omega)]
    simp only [Option.bind_some]
    rw [if_pos (by omega), sum_is (a ++ b) _ (by omega) (by omega)]
    simp only [Option.bind_some]
    rw [list_append, crcM_append, if_pos rfl, more_bv _ c _ (by omega) (by omega)]
    simp only [Option.bind_some]
    rw [if_pos (by omega), sum_is (a ++ b ++ c) _ (by omega) (by omega)]
    simp only [Option.bind_some]
    rw [list_append, list_append, crcM_append, if_pos rfl, more_bv _ _ _ (by rw [s2]; omega) (by rw [s2]; omega)]
    simp only [Option.bind_some]
    rw [crcM_nil, if_pos rfl, sums_is _ (by omega)]
    rfl
theorem law_joins : sorrellaw02_CrcJoins.Pure := by
  intro a b c _ _ _
  refine ⟨200001, ?_⟩
  unfold sorrellaw02_CrcJoins.f
  by_cases h1 : (a.size : Int) > 4096
  · rw [if_pos h1]; exact joins_j0 a b c true (by simp)
  · rw [if_neg h1]
    by_cases h2 : (b.size : Int) > 4096
    · rw [if_pos h2]; exact joins_j0 a b c true (by simp)
    · rw [if_neg h2]
      refine joins_j0 a b c _ (fun h => ?_)
      have := of_decide_eq_false h
      omega
abbrev x3 (a b c : List UInt8) : List UInt8 := xs2 (xs2 a b) c
theorem xs2_get (a b : List UInt8) (i : Nat) (h : i < (xs2 a b).length) (h1 : i < a.length) (h2 : i < b.length) : (xs2 a b)[i] = a[i] ^^^ b[i] := by
  exact List.getElem_zipWith
theorem xor_u8 (a b : UInt8) : Go.bits .xor .u8 (a.toNat : Int) (b.toNat : Int) = ((a ^^^ b).toNat : Int) := by
  have ha := a.toNat_lt
  have hb := b.toNat_lt
  have h : Go.bits .xor .u8 (a.toNat : Int) (b.toNat : Int) = IntKind.u8.wrap (((BitVec.ofInt 8 (a.toNat : Int)) ^^^ (BitVec.ofInt 8 (b.toNat : Int))).toNat : Int) := rfl
  have hx : a.toNat ^^^ b.toNat < 2 ^ 8 := Nat.xor_lt_two_pow ha hb
  rw [h, BitVec.ofInt_natCast, BitVec.ofInt_natCast, BitVec.toNat_xor, BitVec.toNat_ofNat, BitVec.toNat_ofNat, Nat.mod_eq_of_lt (by omega), Nat.mod_eq_of_lt (by omega), UInt8.toNat_xor]
  exact wraps_u8 _ (by omega) (by omega)
def asI (l : List UInt8) : List Int := l.map fun b => (b.toNat : Int)
theorem asI_bs (l : List UInt8) : strOfNums (asI l) = bs l := by
  rw [nums_bs]; unfold asI; rw [List.map_map]
  congr 1
  conv => rhs; rw [← List.map_id l]
  apply List.map_congr_left
  intro b _
  simp
theorem three_end (K n : Nat) (a b c : ByteArray) (hn : n ≤ 1024) (ha : n ≤ a.size) (hb : n ≤ b.size) (hc : n ≤ c.size) :
    sorrellaw02_CrcThree.l0 (20001 + K) a b c (n : Int) (asI (x3 (a.data.toList.take n) (b.data.toList.take n) (c.data.toList.take n))) (n : Int) = some true := by
  rw [show 20001 + K = (20000 + K) + 1 from by omega]
  simp only [sorrellaw02_CrcThree.l0]
  have la := len_list a
  have lb := len_list b
  have lc := len_list c
  have ea : ∀ s : ByteArray, (s.extract 0 ((n : Int)).toNat).data.toList = s.data.toList.take n := fun s => by rw [extract_list, Int.toNat_natCast]; rfl
  have sz : ∀ s : ByteArray, (s.extract 0 ((n : Int)).toNat).size ≤ n := fun s => by rw [← len_list, ea, List.length_take]; omega
  have s1 := sz a
  have s2 := sz b
  have s3 := sz c
  have hl : (x3 (a.data.toList.take n) (b.data.toList.take n) (c.data.toList.take n)).length ≤ n := by
    unfold x3 xs2; simp only [List.length_zipWith, List.length_take]; omega
  rw [if_neg (by omega), if_pos (by omega), if_pos (by omega), sum_is _ _ (by omega) (by omega)]
  simp only [Option.bind_some]
  rw [if_pos (by omega), sum_is _ _ (by omega) (by omega)]
  simp only [Option.bind_some]
  rw [if_pos (by omega), sum_is _ _ (by omega) (by omega)]
  simp only [Option.bind_some]
  rw [asI_bs, sum_is _ _ (by rw [bs_size]; omega) (by rw [bs_size]; omega)]
  simp only [Option.bind_some]
  rw [ea, ea, ea, bs_list, xor_i64_bv, xor_i64_bv, crcM_three _ _ _ (by rw [List.length_take, List.length_take]; omega) (by rw [List.length_take, List.length_take]; omega), if_pos rfl, sums_is _ (by omega)]
  rfl
theorem three_l0 (n : Nat) (a b c : ByteArray) (hn : n ≤ 1024) (ha : n ≤ a.size) (hb : n ≤ b.size) (hc : n ≤ c.size) : ∀ (d i : Nat), i + d = n →
    sorrellaw02_CrcThree.l0 (20001 + d) a b c (n : Int) (asI ((x3 (a.data.toList.take n) (b.data.toList.take n) (c.data.toList.take n)).take i) ++ List.replicate d 0) (i : Int) = some true := by
  have la := len_list a
  have lb := len_list b
  have lc := len_list c
  have hx : (xs2 (a.data.toList.take n) (b.data.toList.take n)).length = n := by
    rw [xs2_len _ _ (by rw [List.length_take, List.length_take]; omega), List.length_take]; omega
  have hl : (x3 (a.data.toList.take n) (b.data.toList.take n) (c.data.toList.take n)).length = n := by
    unfold x3; rw [xs2_len _ _ (by rw [hx, List.length_take]; omega), hx]
  intro d
  induction d with
  | zero =>
    intro i hi
    obtain rfl : i = n := by omega
    rw [List.take_of_length_le (by omega), List.replicate_zero, List.append_nil]
    exact three_end 0 i a b c hn ha hb hc
  | succ d ih =>
    intro i hi
    rw [show 20001 + (d + 1) = (20001 + d) + 1 from by omega]
    simp only [sorrellaw02_CrcThree.l0]
    have ia : i < a.data.toList.length := by omega
    have ib : i < b.data.toList.length := by omega
    have ic : i < c.data.toList.length := by omega
    have hlen : (asI ((x3 (a.data.toList.take n) (b.data.toList.take n) (c.data.toList.take n)).take i)).length = i := by
      unfold asI; rw [List.length_map, List.length_take]; omega
    rw [if_pos (by omega), if_pos (by omega), if_pos (by omega), if_pos (by omega), if_pos (by omega), if_pos (by rw [List.length_append, hlen, List.length_replicate]; omega),
      bt_list a i ia, bt_list b i ib, bt_list c i ic, xor_u8, xor_u8, w64 (by omega) (by omega), Int.toNat_natCast]
    have hv : a.data.toList[i] ^^^ b.data.toList[i] ^^^ c.data.toList[i] = (x3 (a.data.toList.take n) (b.data.toList.take n) (c.data.toList.take n))[i]'(by omega) := by
      unfold x3
      rw [xs2_get _ _ i _ (by rw [hx]; omega) (by rw [List.length_take]; omega), xs2_get _ _ i _ (by rw [List.length_take]; omega) (by rw [List.length_take]; omega), List.getElem_take, List.getElem_take, List.getElem_take]
    have hset : (asI ((x3 (a.data.toList.take n) (b.data.toList.take n) (c.data.toList.take n)).take i) ++ List.replicate (d + 1) 0).set i ((a.data.toList[i] ^^^ b.data.toList[i] ^^^ c.data.toList[i]).toNat : Int)
        = asI ((x3 (a.data.toList.take n) (b.data.toList.take n) (c.data.toList.take n)).take (i + 1)) ++ List.replicate d 0 := by
      rw [List.set_append_right _ _ (by omega), hlen, Nat.sub_self, List.replicate_succ, List.set_cons_zero, hv, List.take_succ_eq_append_getElem (by omega)]
      unfold asI
      rw [List.map_append, List.append_assoc]
      rfl
    rw [hset]
    exact ih (i + 1) (by omega)
theorem law_three : sorrellaw02_CrcThree.Pure := by
  intro a b c _ _ _
  obtain ⟨n, hn⟩ : ∃ n : Nat, mn (mn (mn (a.size : Int) (b.size : Int)) (c.size : Int)) 1024 = (n : Int) := by
    refine Int.eq_ofNat_of_zero_le ?_
    unfold mn; (repeat' split) <;> omega
  have h : n ≤ 1024 ∧ n ≤ a.size ∧ n ≤ b.size ∧ n ≤ c.size := by
    unfold mn at hn
    revert hn
    (repeat' split) <;> intro hn <;> omega
  refine ⟨20001 + n, ?_⟩
  unfold sorrellaw02_CrcThree.f
  rw [hn, if_pos (by omega), Int.toNat_natCast, if_pos (by omega)]
  have := three_l0 n a b c h.1 h.2.1 h.2.2.1 h.2.2.2 n 0 (by omega)
  exact this
end Go.Proofs.Ytcbodnjdbnmfoaa.VaCrc
