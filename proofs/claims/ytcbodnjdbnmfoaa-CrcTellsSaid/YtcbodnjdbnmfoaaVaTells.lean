/- Plain laws on what the functions written out for this seat come to. -/
import Derived.Test.YtcbodnjdbnmfoaaXAx1
import Derived.Test.YtcbodnjdbnmfoaaXAx2
import Derived.Test.YtcbodnjdbnmfoaaXAx3
import Derived.Test.YtcbodnjdbnmfoaaMTells
import Derived.Test.YtcbodnjdbnmfoaaMTells2
import Derived.Test.YtcbodnjdbnmfoaaVLib
import Derived.Test.YtcbodnjdbnmfoaaCLib
import Derived.Test.YtcbodnjdbnmfoaaBytesRow
namespace Go.Proofs.Ytcbodnjdbnmfoaa.VaTells
open Go.RowKit Go.Proofs.Ytcbodnjdbnmfoaa.XA Go.Proofs.Ytcbodnjdbnmfoaa.VLib Go.Proofs.Ytcbodnjdbnmfoaa.CLib Go.Proofs.Ytcbodnjdbnmfoaa.BytesRow Go.Proofs.YtcbodnjdbnmfoaaW.PrintWords Go.Proofs.YtcbodnjdbnmfoaaW.PrintLast Go.Proofs.YtcbodnjdbnmfoaaW.PrintMore
/-! ### crc_More, crc_Sum -/
theorem more_l1 : ∀ (d K j : Nat) (s : ByteArray) (c : BitVec 32) (n i : Int), j + d = 8 → crc_More.l1 (K + d + 1) s (c.toNat : Int) n i (j : Int) = crc_More.l0 K s ((bsteps d c).toNat : Int) n (wrap64 (i + 1)) := by
  intro d
  induction d with
  | zero =>
    intro K j s c n i h
    simp only [crc_More.l1]
    rw [if_neg (by omega)]; rfl
  | succ d ih =>
    intro K j s c n i h
    rw [show K + (d + 1) + 1 = (K + d + 1) + 1 from by omega]
    simp only [crc_More.l1]
    rw [if_pos (by omega), and1_u32, w64 (n := (j : Int) + 1) (by omega) (by omega), ← half, poly_toNat, xor_u32]
    by_cases b : c.toNat % 2 = 1
    · rw [if_pos (by omega), ← bstep_one c b]
      exact ih K (j + 1) s (bstep c) n i (by omega)
    · rw [if_neg (by omega), ← bstep_zero c b]
      exact ih K (j + 1) s (bstep c) n i (by omega)
theorem more_l0 : ∀ (n K i : Nat) (s : ByteArray) (c : BitVec 32), i + n = s.data.toList.length → s.size ≤ 4611686018427387904 →
    crc_More.l0 (10 * n + (K + 1)) s (c.toNat : Int) (s.size : Int) (i : Int) = some ((~~~ crcL c (s.data.toList.drop i)).toNat : Int) := by
  intro n
  induction n with
  | zero =>
    intro K i s c h hs
    have hl := len_list s
    rw [Nat.mul_zero, Nat.zero_add]
    simp only [crc_More.l0]
    have hlt := (~~~ c).isLt
    rw [if_neg (by omega), List.drop_eq_nil_of_le (by omega), ones_xor, w64 (by omega) (by omega)]
    rfl
  | succ n ih =>
    intro K i s c h hs
    have hl := len_list s
    have hlt : i < s.data.toList.length := by omega
    rw [show 10 * (n + 1) + (K + 1) = (10 * n + (K + 1) + 9) + 1 from by omega]
    simp only [crc_More.l0]
    rw [if_pos (by omega), if_pos (by omega), if_pos (by omega), wide_bt s i hlt]
    have hw := (wide (s.data.toList[i]'hlt)).isLt
    rw [Int.emod_eq_of_lt (by omega) (by omega), xor_u32]
    have h1 := more_l1 8 (10 * n + (K + 1)) 0 s (c ^^^ wide (s.data.toList[i]'hlt)) (s.size : Int) (i : Int) rfl
    rw [show 10 * n + (K + 1) + 9 = 10 * n + (K + 1) + 8 + 1 from rfl]
    refine h1.trans ?_
    rw [w64 (by omega) (by omega), drop_cons s i hlt]
    exact ih K (i + 1) s (cbyte c (s.data.toList[i]'hlt)) (by omega) hs
theorem more_is (x : Int) (s : ByteArray) (k : Nat) (hk : 10 * s.size + 1 ≤ k) (hs : s.size ≤ 4611686018427387904) :
    crc_More.f k x s = some ((crcM (BitVec.ofInt 32 x) s.data.toList).toNat : Int) := by
  obtain ⟨K, rfl⟩ : ∃ K, k = 10 * s.size + (K + 1) := ⟨k - 10 * s.size - 1, by omega⟩
  unfold crc_More.f
  have hlt := (BitVec.ofInt 32 x).isLt
  rw [low32, Int.emod_eq_of_lt (by omega) (by omega), ones_xor]
  have h := more_l0 s.size K 0 s (~~~ BitVec.ofInt 32 x) (by rw [len_list]; omega) hs
  exact h
theorem more_bv (c : BitVec 32) (s : ByteArray) (k : Nat) (hk : 10 * s.size + 1 ≤ k) (hs : s.size ≤ 4611686018427387904) :
    crc_More.f k (c.toNat : Int) s = some ((crcM c s.data.toList).toNat : Int) := by
  rw [more_is _ s k hk hs, ofInt_toNat]
theorem sum_is (s : ByteArray) (k : Nat) (hk : 10 * s.size + 1 ≤ k) (hs : s.size ≤ 4611686018427387904) :
    crc_Sum.f k s = some ((crcM 0#32 s.data.toList).toNat : Int) := by
  unfold crc_Sum.f
  rw [more_is _ s k hk hs]
  rfl
/-! ### four bytes of a number, the lowest first -/
def fix4 (n : Nat) : List UInt8 := [UInt8.ofNat n, UInt8.ofNat (n / 256), UInt8.ofNat (n / 65536), UInt8.ofNat (n / 16777216)]
theorem fix4_len (n : Nat) : (fix4 n).length = 4 := rfl
theorem dig_u8 (n : Nat) (d : Int) (m : Nat) (h : d = ((n / m : Nat) : Int) % 256) : UInt8.ofNat d.toNat = UInt8.ofNat (n / m) := by
  subst h
  rw [show (((n / m : Nat) : Int) % 256).toNat = (n / m) % 256 from by omega]
  apply UInt8.toNat_inj.1
  simp
theorem and255 (x : Int) (h0 : 0 ≤ x) (h1 : x < 9223372036854775808) : Go.bits .and .i64 x 255 = x % 256 :=
  bits_mask .i64 63 (by decide) wraps_i64 8 (by decide) x h0 (by simpa using h1)
theorem nums4 (n : Nat) (a b c d : Int) (ha : a = ((n / 1 : Nat) : Int) % 256) (hb : b = ((n / 256 : Nat) : Int) % 256) (hc : c = ((n / 65536 : Nat) : Int) % 256) (hd : d = ((n / 16777216 : Nat) : Int) % 256) : strOfNums [a, b, c, d] = bs (fix4 n) := by
  rw [nums_bs]
  simp only [List.map_cons, List.map_nil]
  rw [dig_u8 n a 1 ha, dig_u8 n b 256 hb, dig_u8 n c 65536 hc, dig_u8 n d 16777216 hd, Nat.div_one]
  rfl
theorem ref4 (n : Nat) (h : n < 9223372036854775808) : strOfNums ([(Go.bits .and .i64 (n : Int) 255) % 256, (Go.bits .and .i64 ((n : Int) / 256) 255) % 256, (Go.bits .and .i64 ((n : Int) / 65536) 255) % 256, (Go.bits .and .i64 ((n : Int) / 16777216) 255) % 256] : List Int) = bs (fix4 n) := by
  rw [and255 _ (by omega) (by omega), and255 _ (by omega) (by omega), and255 _ (by omega) (by omega), and255 _ (by omega) (by omega)]
  exact nums4 n _ _ _ _ (by omega) (by omega) (by omega) (by omega)
theorem fix4_val (n : Nat) (h : n < 4294967296) : (UInt8.ofNat n).toNat + (UInt8.ofNat (n / 256)).toNat * 256 + (UInt8.ofNat (n / 65536)).toNat * 65536 + (UInt8.ofNat (n / 16777216)).toNat * 16777216 = n := by
  simp; omega
theorem bytes_is (n : Nat) : crc_bytes.f (n : Int) = some (bs (fix4 n)) := by
  unfold crc_bytes.f crc_bytes.dig
  rw [nums4 n _ _ _ _ (by simp) (by simp) (by simp) (by simp)]
/-- Do bytes end with the sum of those ahead? -/
def chk (l : List UInt8) : Bool := decide (4 ≤ l.length) && (l.drop (l.length - 4) == fix4 (crcM 0#32 (l.take (l.length - 4))).toNat)
def sealL (l : List UInt8) : List UInt8 := l ++ fix4 (crcM 0#32 l).toNat
theorem chk_seal (l : List UInt8) : chk (sealL l) = true := by
  unfold chk sealL
  have h : (l ++ fix4 (crcM 0#32 l).toNat).length = l.length + 4 := by rw [List.length_append, fix4_len]
  rw [h, show l.length + 4 - 4 = l.length from by omega, List.drop_left, List.take_left]
  simp
theorem seal_is (s : ByteArray) (k : Nat) (hk : 10 * s.size + 1 ≤ k) (hs : s.size ≤ 4611686018427387904) : crc_Seal.f k s = some (bs (sealL s.data.toList)) := by
  unfold crc_Seal.f
  rw [sum_is s k hk hs]
  simp only [Option.bind_some]
  rw [bytes_is]
  simp only [Option.bind_some]
  rw [if_pos (by rw [bs_size, fix4_len]; omega), show s ++ bs (fix4 (crcM 0#32 s.data.toList).toNat) = bs (sealL s.data.toList) from ext_list (by rw [list_append, bs_list, bs_list]; rfl)]
theorem check_cut (s : ByteArray) (h : 4 ≤ s.size) : (s.extract 0 ((s.size : Int) - 4).toNat).data.toList = s.data.toList.take (s.data.toList.length - 4) ∧ (s.extract ((s.size : Int) - 4).toNat s.size).data.toList = s.data.toList.drop (s.data.toList.length - 4) := by
  have hl := len_list s
  rw [extract_list, extract_list, show ((s.size : Int) - 4).toNat = s.data.toList.length - 4 from by omega]
  exact ⟨rfl, by rw [List.take_of_length_le (by omega)]⟩
theorem cut_size (s : ByteArray) : (s.extract 0 ((s.size : Int) - 4).toNat).size ≤ s.size := by
  rw [← len_list, extract_list, List.drop_zero, List.length_take, len_list]; omega
theorem check_is (s : ByteArray) (k : Nat) (hk : 10 * s.size + 1 ≤ k) (hs : s.size ≤ 4611686018427387904) : crc_Check.f k s = some (chk s.data.toList) := by
  unfold crc_Check.f chk
  have hl := len_list s
  rw [w64 (by omega) (by omega)]
  by_cases c : 4 ≤ s.size
  · obtain ⟨e1, e2⟩ := check_cut s c
    have e3 := cut_size s
    rw [if_pos (by omega), if_pos (by omega), if_pos (by omega), sum_is _ k (by omega) (by omega)]
    simp only [Option.bind_some]
    rw [bytes_is]
    simp only [Option.bind_some]
    rw [toList_data, toList_data, e1, e2, bs_list, decide_eq_true (by omega)]
    rfl
  · rw [if_neg (by omega), decide_eq_false (by omega)]; rfl
theorem seals_is (k : Nat) (hk : 100 ≤ k) : sorrellaw02_seals.f k = some true := by
  unfold sorrellaw02_seals.f
  have e1 : sealL [] = [0, 0, 0, 0] := by decide +kernel
  have e2 : chk [0, 0, 0, 0] = true := by decide +kernel
  have e3 : chk [97, 98, 99] = false := by decide +kernel
  have s1 : (⟨#[]⟩ : ByteArray).size = 0 := rfl
  have s2 : (⟨#[0, 0, 0, 0]⟩ : ByteArray).size = 4 := rfl
  have s3 : (⟨#[97, 98, 99]⟩ : ByteArray).size = 3 := rfl
  rw [seal_is _ k (by rw [s1]; omega) (by rw [s1]; omega), check_is _ k (by rw [s2]; omega) (by rw [s2]; omega), check_is _ k (by rw [s3]; omega) (by rw [s3]; omega)]
  simp only [Option.bind_some, toList_data, bs_list, e1, e2, e3]
  rfl
/-! ### bytes turned -/
def nat8 (l : List UInt8) : List Int := List.map (fun (b : UInt8) => ((b.toNat : Nat) : Int)) l
theorem xor8 (a b : UInt8) : Go.bits .xor .u8 ((a.toNat : Nat) : Int) ((b.toNat : Nat) : Int) = (((a ^^^ b).toNat : Nat) : Int) := by
  have h : Go.bits .xor .u8 ((a.toNat : Nat) : Int) ((b.toNat : Nat) : Int) = IntKind.u8.wrap (((BitVec.ofInt 8 ((a.toNat : Nat) : Int)) ^^^ (BitVec.ofInt 8 ((b.toNat : Nat) : Int))).toNat : Int) := rfl
  have e1 : BitVec.ofInt 8 ((a.toNat : Nat) : Int) = a.toBitVec := by apply BitVec.eq_of_toNat_eq; simp
  have e2 : BitVec.ofInt 8 ((b.toNat : Nat) : Int) = b.toBitVec := by apply BitVec.eq_of_toNat_eq; simp
  rw [h, e1, e2, ← UInt8.toBitVec_xor]
  have := (a ^^^ b).toNat_lt
  show IntKind.u8.wrap (((a ^^^ b).toNat : Nat) : Int) = _
  rw [IntKind.wrap_u8]; omega
def turned (by4 l : List UInt8) (K i : Nat) : List UInt8 := l.take K ++ (xs2 ((l.drop K).take i) (by4.take i) ++ l.drop (K + i))
theorem turned_len (by4 l : List UInt8) (hb : by4.length = 4) (K i : Nat) (hi : i ≤ 4) (hl : K + i ≤ l.length) : (xs2 ((l.drop K).take i) (by4.take i)).length = i := by
  rw [xs2_len _ _ (by simp; omega)]; simp; omega
theorem cur_form (by4 l : List UInt8) (hb : by4.length = 4) (K : Nat) : ∀ i, i ≤ 4 → K + i ≤ l.length → curT (nat8 by4) K i (nat8 l) = nat8 (turned by4 l K i)
  | 0, _, _ => by
    rw [curT]; unfold turned
    rw [show xs2 ((l.drop K).take 0) (by4.take 0) = [] from rfl, List.nil_append, Nat.add_zero, List.take_append_drop]
  | i + 1, h1, h2 => by
    have hx := turned_len by4 l hb K i (by omega) (by omega)
    have hK : (l.take K).length = K := by rw [List.length_take]; omega
    have hi : K + i < l.length := by omega
    have hbi : i < by4.length := by omega
    have ed : l.drop (K + i) = l[K + i] :: l.drop (K + (i + 1)) := (List.getElem_cons_drop hi).symm
    have eg : (turned by4 l K i).getD (K + i) 0 = l[K + i] := by
      unfold turned
      rw [List.getD_eq_getElem?_getD, List.getElem?_append_right (by omega), List.getElem?_append_right (by omega), hK, hx, Nat.add_sub_cancel_left, Nat.sub_self, ed]; rfl
    have er : rd (nat8 (turned by4 l K i)) ((K + i : Nat) : Int) = ((l[K + i].toNat : Nat) : Int) := by
      rw [← eg]; unfold rd nat8
      rw [Int.toNat_natCast, List.getD_eq_getElem?_getD, List.getD_eq_getElem?_getD, List.getElem?_map]
      cases (turned by4 l K i)[K + i]? <;> rfl
    have eb : (nat8 by4).getD i 0 = ((by4[i].toNat : Nat) : Int) := by
      unfold nat8; rw [List.getD_eq_getElem?_getD, List.getElem?_map, List.getElem?_eq_getElem hbi]; rfl
    rw [curT, cur_form by4 l hb K i (by omega) (by omega), er, eb, xor8]
    unfold nat8
    rw [← List.map_set]
    refine congrArg _ ?_
    unfold turned
    rw [List.set_append_right _ _ (by omega), List.set_append_right _ _ (by omega), hK, hx, Nat.add_sub_cancel_left, Nat.sub_self, ed, List.set_cons_zero]
    have e3 : (l.drop K).take (i + 1) = (l.drop K).take i ++ [l[K + i]] := by
      rw [List.take_succ_eq_append_getElem (by rw [List.length_drop]; omega), List.getElem_drop]
    have e4 : by4.take (i + 1) = by4.take i ++ [by4[i]] := List.take_succ_eq_append_getElem hbi
    rw [e3, e4]
    unfold xs2
    rw [List.zipWith_append (by simp; omega)]
    simp
theorem xs2_self : ∀ l : List UInt8, xs2 l l = List.replicate l.length 0
  | [] => rfl
  | a :: l => by
    show (a ^^^ a) :: xs2 l l = _
    rw [xs2_self l, UInt8.xor_self]; rfl
theorem xs2_back : ∀ a b : List UInt8, a.length = b.length → xs2 (xs2 a b) a = b
  | [], [], _ => rfl
  | a :: l, b :: m, h => by
    show ((a ^^^ b) ^^^ a) :: xs2 (xs2 l m) l = _
    rw [xs2_back l m (by simpa using h), UInt8.xor_comm a b, UInt8.xor_assoc, UInt8.xor_self, UInt8.xor_zero]
  | [], _ :: _, h => by simp at h
  | _ :: _, [], h => by simp at h
theorem fix4_inj (m n : Nat) (hm : m < 4294967296) (hn : n < 4294967296) (h : fix4 m = fix4 n) : m = n := by
  have h1 := fix4_val m hm
  have h2 := fix4_val n hn
  unfold fix4 at h
  simp only [List.cons.injEq, and_true] at h
  obtain ⟨a, b, c, d⟩ := h
  rw [a, b, c, d] at h1
  omega
theorem turned_seal (by4 t f : List UInt8) (K n : Nat) (h : K + n ≤ t.length) : turned by4 (t ++ f) K n = turned by4 t K n ++ f := by
  unfold turned
  rw [List.take_append_of_le_length (by omega), List.drop_append_of_le_length (by omega), List.drop_append_of_le_length h, List.take_append_of_le_length (by rw [List.length_drop]; omega)]
  simp only [List.append_assoc]
theorem turned_total (by4 t : List UInt8) (hb : by4.length = 4) (K n : Nat) (hn : n ≤ 4) (h : K + n ≤ t.length) : (turned by4 t K n).length = t.length := by
  have := turned_len by4 t hb K n hn h
  unfold turned
  rw [List.length_append, List.length_append, this, List.length_take, List.length_drop]; omega
theorem turned_diff (by4 t : List UInt8) (hb : by4.length = 4) (K n : Nat) (hn : n ≤ 4) (h : K + n ≤ t.length) : xs2 (turned by4 t K n) t = List.replicate K 0 ++ by4.take n ++ List.replicate (t.length - (K + n)) 0 := by
  have hx := turned_len by4 t hb K n hn h
  have e : t = t.take K ++ ((t.drop K).take n ++ t.drop (K + n)) := by
    rw [← List.drop_drop, List.take_append_drop, List.take_append_drop]
  have l1 : ((t.drop K).take n).length = n := by rw [List.length_take, List.length_drop]; omega
  have l2 : (by4.take n).length = n := by rw [List.length_take]; omega
  have l3 : (t.take K).length = K := by rw [List.length_take]; omega
  have z1 : xs2 (t.take K) (t.take K) = List.replicate K 0 := by rw [xs2_self, l3]
  have z2 : xs2 (xs2 ((t.drop K).take n) (by4.take n)) ((t.drop K).take n) = by4.take n := xs2_back _ _ (by rw [l1, l2])
  have z3 : xs2 (t.drop (K + n)) (t.drop (K + n)) = List.replicate (t.length - (K + n)) 0 := by rw [xs2_self, List.length_drop]
  have : xs2 (turned by4 t K n) t = xs2 (t.take K ++ (xs2 ((t.drop K).take n) (by4.take n) ++ t.drop (K + n))) (t.take K ++ ((t.drop K).take n ++ t.drop (K + n))) := by
    rw [← e]; rfl
  rw [this]
  show List.zipWith _ _ _ = _
  rw [List.zipWith_append rfl, List.zipWith_append (by rw [hx, l1])]
  show xs2 _ _ ++ (xs2 _ _ ++ xs2 _ _) = _
  rw [z1, z2, z3, List.append_assoc]
theorem chk_turned (by4 t : List UInt8) (hb : by4.length = 4) (K n : Nat) (hn : n ≤ 4) (h : K + n ≤ t.length) : chk (turned by4 (sealL t) K n) = true ↔ ∀ b ∈ by4.take n, b = 0 := by
  have hl := turned_total by4 t hb K n hn h
  unfold sealL
  rw [turned_seal by4 t _ K n h]
  have hz : (turned by4 t K n ++ fix4 (crcM 0#32 t).toNat).length - 4 = (turned by4 t K n).length := by rw [List.length_append, fix4_len]; omega
  unfold chk
  rw [hz, List.drop_left, List.take_left, decide_eq_true (by rw [List.length_append, fix4_len]; omega), Bool.true_and, beq_iff_eq]
  have e1 : fix4 (crcM 0#32 t).toNat = fix4 (crcM 0#32 (turned by4 t K n)).toNat ↔ crcM 0#32 (turned by4 t K n) = crcM 0#32 t :=
    ⟨fun e => BitVec.eq_of_toNat_eq (fix4_inj _ _ (crcM 0#32 t).isLt (crcM 0#32 (turned by4 t K n)).isLt e).symm, fun e => by rw [e]⟩
  rw [e1, crcM_diff _ _ hl, turned_diff by4 t hb K n hn h]
  constructor
  · intro e; exact crcL_burst K _ _ (by rw [List.length_take]; omega) e
  · intro e
    have hr : by4.take n = List.replicate n 0 := by
      refine List.eq_replicate_iff.2 ⟨by rw [List.length_take]; omega, e⟩
    rw [hr, List.replicate_append_replicate, List.replicate_append_replicate]
    exact crcL_nulls _
theorem nat8_text (l : List UInt8) : strOfNums (nat8 l) = bs l := by
  rw [nums_bs]; unfold nat8
  rw [List.map_map]
  refine congrArg bs ((List.map_congr_left (fun b _ => ?_)).trans (List.map_id l))
  show UInt8.ofNat (((b.toNat : Nat) : Int).toNat) = b
  rw [Int.toNat_natCast, u8_eta]
theorem turT_is (by4 : List UInt8) (hb : by4.length = 4) : ∀ n, n ≤ 4 → (turT (nat8 by4) n = false ↔ ∀ b ∈ by4.take n, b = 0)
  | 0, _ => by simp [turT]
  | n + 1, h => by
    have hbi : n < by4.length := by omega
    have eb : (nat8 by4).getD n 0 = ((by4[n].toNat : Nat) : Int) := by
      unfold nat8; rw [List.getD_eq_getElem?_getD, List.getElem?_map, List.getElem?_eq_getElem hbi]; rfl
    rw [turT, Bool.or_eq_false_iff, turT_is by4 hb n (by omega), eb, List.take_succ_eq_append_getElem hbi]
    have e1 : (((by4[n].toNat : Nat) : Int) != 0) = false ↔ by4[n] = 0 := by
      rw [bne_eq_false_iff_eq]
      exact ⟨fun e => UInt8.toNat_inj.1 (by simpa using e), fun e => by rw [e]; rfl⟩
    rw [e1]
    constructor
    · rintro ⟨a, b⟩ x hx
      rcases List.mem_append.1 hx with hx | hx
      · exact a x hx
      · rw [List.mem_singleton.1 hx]; exact b
    · intro a
      exact ⟨fun x hx => a x (List.mem_append.2 (.inl hx)), a _ (List.mem_append.2 (.inr (List.mem_singleton.2 rfl)))⟩
theorem byte_nat (a : Int) (h : 0 ≤ a ∧ a ≤ 255) : (((UInt8.ofNat a.toNat).toNat : Nat) : Int) = a := by
  rw [u8_ofNat (by omega)]; omega
theorem law_tells (s : ByteArray) (x a0 a1 a2 a3 : Int) (_ : s.size ≤ 140737488351232) (_ : (Lit.int .i64 x).wf = true) (h0 : 0 ≤ a0 ∧ a0 ≤ 255) (h1 : 0 ≤ a1 ∧ a1 ≤ 255) (h2 : 0 ≤ a2 ∧ a2 ≤ 255) (h3 : 0 ≤ a3 ∧ a3 ≤ 255) (w : World) :
    Calls Try.prog 8 #[.string s, .int .i64 x, .agg #[.int .u8 a0, .int .u8 a1, .int .u8 a2, .int .u8 a3]] w fun e w' => e = .returned (.bool true) ∧ Below w.heap.size w w' := by
  by_cases c : s.size = 0 ∨ 4096 < s.size
  · exact tells_awake 50000 s x a0 a1 a2 a3 w c (seals_is _ (by omega))
  · have hl := len_list s
    obtain ⟨r, hr, e⟩ := and_small x 65535 (by decide)
    have e' : Go.bits .and .i64 x 65535 = (r : Int) := e
    have hlt := Nat.mod_lt r (show 0 < s.size from by omega)
    have hK : Int.tmod (Go.bits .and .i64 x 65535) (s.size : Int) = ((r % s.size : Nat) : Int) := by rw [e']; exact (Int.ofNat_tmod _ _).symm
    obtain ⟨K, hKe⟩ : ∃ K, K = r % s.size := ⟨_, rfl⟩
    rw [← hKe] at hK hlt
    obtain ⟨n, hn⟩ : ∃ n, n = min 4 (s.size - K) := ⟨_, rfl⟩
    obtain ⟨by4, hby⟩ : ∃ l : List UInt8, l = [UInt8.ofNat a0.toNat, UInt8.ofNat a1.toNat, UInt8.ofNat a2.toNat, UInt8.ofNat a3.toNat] := ⟨_, rfl⟩
    have hb : by4.length = 4 := by rw [hby]; rfl
    have hn8 : [a0, a1, a2, a3] = nat8 by4 := by
      rw [hby]; unfold nat8
      simp only [List.map_cons, List.map_nil]
      rw [byte_nat a0 h0, byte_nat a1 h1, byte_nat a2 h2, byte_nat a3 h3]
    have hz : (bs (sealL s.data.toList)).size = s.size + 4 := by rw [bs_size]; unfold sealL; rw [List.length_append, fix4_len, hl]
    have hzl : (sealL s.data.toList).length = s.size + 4 := by rw [← bs_size]; exact hz
    have hbz : bytesOf (bs (sealL s.data.toList)) = nat8 (sealL s.data.toList) := rfl
    have hcur : strOfNums (curT [a0, a1, a2, a3] K n (bytesOf (bs (sealL s.data.toList)))) = bs (turned by4 (sealL s.data.toList) K n) := by
      rw [hn8, hbz, cur_form by4 _ hb K n (by omega) (by omega), nat8_text]
    have htl := turned_total by4 (sealL s.data.toList) hb K n (by omega) (by omega)
    have hc : crc_Check.f 50000 (strOfNums (curT [a0, a1, a2, a3] K n (bytesOf (bs (sealL s.data.toList))))) = some (chk (turned by4 (sealL s.data.toList) K n)) := by
      rw [hcur, check_is _ _ (by rw [bs_size]; omega) (by rw [bs_size]; omega), bs_list]
    refine tells_calls 50000 s x a0 a1 a2 a3 K n _ _ w (by omega) (by omega) hK hlt (by omega) (by omega) (by omega) (seal_is s _ (by omega) (by omega)) hz hc ?_ (seals_is _ (by omega))
    rw [hn8]
    have q1 := chk_turned by4 s.data.toList hb K n (by omega) (by omega)
    have q2 := turT_is by4 hb n (by omega)
    rw [← q2] at q1
    clear q2 hc hcur
    revert q1
    generalize chk (turned by4 (sealL s.data.toList) K n) = A
    generalize turT (nat8 by4) n = B
    cases A <;> cases B <;> simp
end Go.Proofs.Ytcbodnjdbnmfoaa.VaTells
