/- Plain laws on numbers, bytes and the varint form: no program in sight. -/
import Derived.Test.YtgcehbigcokpaaaWWords
import Derived.Test.YtgcehbigcokpaaaWMore
import Derived.Laws.BitsLemmas
namespace Go.Proofs.Ytgcehbigcokpaaa.VLib
open Go.RowKit Go.Proofs.YtgcehbigcokpaaaW.PrintWords Go.Proofs.YtgcehbigcokpaaaW.PrintLast Go.Proofs.YtgcehbigcokpaaaW.PrintMore

theorem w64 {n : Int} (h0 : -9223372036854775808 ≤ n) (h1 : n ≤ 9223372036854775807) : wrap64 n = n := by
  unfold wrap64; omega

theorem wraps_i64 (n : Int) (h₀ : 0 ≤ n) (h₁ : n < 2 ^ 63) : IntKind.i64.wrap n = n := by rw [IntKind.wrap_i64]; omega

theorem or128_nat : ∀ a : Fin 256, (a.val ||| 128) = a.val % 128 + 128 := by decide +kernel
theorem or128 (x : Int) (h0 : 0 ≤ x) (h1 : x < 256) : Go.bits .or .u8 x 128 = x % 128 + 128 := by
  obtain ⟨a, rfl⟩ := Int.eq_ofNat_of_zero_le h0
  have ha : a < 256 := by omega
  have := (bits_nat .u8 8 (by decide) wraps_u8 a 128 (by omega) (by decide)).2
  have e := or128_nat ⟨a, ha⟩
  simp only at e
  rw [show ((128 : Int)) = ((128 : Nat) : Int) from rfl, this, e]
  omega
theorem and127_i64 (x : Int) (h0 : 0 ≤ x) (h1 : x < 9223372036854775808) : Go.bits .and .i64 x 127 = x % 128 :=
  bits_mask .i64 63 (by decide) wraps_i64 7 (by decide) x h0 (by simpa using h1)
theorem and127_u8 (x : Int) (h0 : 0 ≤ x) (h1 : x < 256) : Go.bits .and .u8 x 127 = x % 128 :=
  bits_mask .u8 8 (by decide) wraps_u8 7 (by decide) x h0 (by simpa using h1)
theorem or128_i64 (x : Int) (h0 : 0 ≤ x) (h1 : x < 128) : Go.bits .or .i64 x 128 = x + 128 := by
  obtain ⟨a, rfl⟩ := Int.eq_ofNat_of_zero_le h0
  have ha : a < 256 := by omega
  have := (bits_nat .i64 63 (by decide) wraps_i64 a 128 (by omega) (by decide)).2
  have e := or128_nat ⟨a, ha⟩
  simp only at e
  rw [show ((128 : Int)) = ((128 : Nat) : Int) from rfl, this, e]
  omega
theorem or_low (x y : Int) (i : Nat) (h0 : 0 ≤ x) (h1 : x < 2 ^ i) (y0 : 0 ≤ y) (yd : y % 2 ^ i = 0) (y1 : y < 2 ^ 63) (hi : i ≤ 63) :
    Go.bits .or .i64 x y = x + y := by
  have hx : x < 2 ^ 63 := by
    have hp : 2 ^ i ≤ 2 ^ 63 := Nat.pow_le_pow_right (by decide) hi
    have hp' : ((2 : Int) ^ i) ≤ 2 ^ 63 := by exact_mod_cast hp
    omega
  have hj := bits_join .i64 63 (by decide) wraps_i64 i y x y0 yd y1 h0 h1 hx
  obtain ⟨a, rfl⟩ := Int.eq_ofNat_of_zero_le h0
  obtain ⟨b, rfl⟩ := Int.eq_ofNat_of_zero_le y0
  have e1 := (bits_nat .i64 63 (by decide) wraps_i64 a b (by exact_mod_cast hx) (by exact_mod_cast y1)).2
  have e2 := (bits_nat .i64 63 (by decide) wraps_i64 b a (by exact_mod_cast y1) (by exact_mod_cast hx)).2
  rw [e1, Nat.or_comm, ← e2, hj]; omega

theorem pow7 (i : Nat) : ((2 : Int) ^ (7 * (i + 1))) = 2 ^ (7 * i) * 128 := by
  rw [show 7 * (i + 1) = 7 * i + 7 from rfl, Int.pow_add]; rfl
theorem pow7_nat (i : Nat) : ((2 : Nat) ^ (7 * (i + 1))) = 2 ^ (7 * i) * 128 := by
  rw [show 7 * (i + 1) = 7 * i + 7 from rfl, Nat.pow_add]
theorem pow7_pos (i : Nat) : (0 : Int) < 2 ^ (7 * i) := Int.pow_pos (by decide)

/-- One step of the loop that takes a number. -/
theorem step_or (x b : Int) (i : Nat) (hi : i ≤ 8) (h0 : 0 ≤ x) (h1 : x < 2 ^ (7 * i)) (b0 : 0 ≤ b) (b1 : b ≤ 255) :
    Go.bits .or .i64 x (shl .i64 (wrap64 (Go.bits .and .u8 b 127)) (wrap64 (7 * (i : Int)))) = x + b % 128 * 2 ^ (7 * i) := by
  have e1 : Go.bits .and .u8 b 127 = b % 128 := and127_u8 b b0 (by omega)
  have hp : (2 : Int) ^ (7 * i) ≤ 2 ^ 56 := by
    have : (2 : Nat) ^ (7 * i) ≤ 2 ^ 56 := Nat.pow_le_pow_right (by decide) (by omega)
    exact_mod_cast this
  have hpos := pow7_pos i
  have hm0 : 0 ≤ b % 128 := by omega
  have hm1 : b % 128 ≤ 127 := by omega
  have hb : b % 128 * 2 ^ (7 * i) ≤ 127 * 2 ^ 56 := Int.le_trans (Int.mul_le_mul_of_nonneg_right hm1 (by omega)) (Int.mul_le_mul_of_nonneg_left hp (by decide))
  have hb0 : 0 ≤ b % 128 * 2 ^ (7 * i) := Int.mul_nonneg hm0 (by omega)
  rw [e1, w64 (by omega) (by omega), w64 (by omega) (by omega)]
  have e2 : shl .i64 (b % 128) (7 * (i : Int)) = b % 128 * 2 ^ (7 * i) := by
    unfold shl
    rw [show (7 * (i : Int)).toNat = 7 * i from by omega, Nat.min_eq_left (by show 7 * i ≤ 64; omega)]
    exact wraps_i64 _ hb0 (by omega)
  rw [e2]
  exact or_low x _ (7 * i) h0 h1 hb0 (Int.mul_emod_left _ _) (by omega) (by omega)
theorem step_lt (x b : Int) (i : Nat) (h0 : 0 ≤ x) (h1 : x < 2 ^ (7 * i)) : 0 ≤ x + b % 128 * 2 ^ (7 * i) ∧ x + b % 128 * 2 ^ (7 * i) < 2 ^ (7 * (i + 1)) := by
  have hpos := pow7_pos i
  have hm0 : 0 ≤ b % 128 := by omega
  have hm1 : b % 128 ≤ 127 := by omega
  have hb0 : 0 ≤ b % 128 * 2 ^ (7 * i) := Int.mul_nonneg hm0 (by omega)
  have hb : b % 128 * 2 ^ (7 * i) ≤ 127 * 2 ^ (7 * i) := Int.mul_le_mul_of_nonneg_right hm1 (by omega)
  rw [pow7]; omega

/-! ### Texts as lists of bytes -/
def bs (l : List UInt8) : ByteArray := ⟨l.toArray⟩
theorem bs_list (l : List UInt8) : (bs l).data.toList = l := rfl
theorem bs_size (l : List UInt8) : (bs l).size = l.length := by unfold bs ByteArray.size; simp
theorem bs_of (s : ByteArray) : bs s.data.toList = s := by cases s; rfl
theorem ext_list {a b : ByteArray} (h : a.data.toList = b.data.toList) : a = b := by rw [← bs_of a, ← bs_of b, h]
theorem len_list (s : ByteArray) : s.data.toList.length = s.size := data_length s
theorem bs_append (a b : List UInt8) : bs a ++ bs b = bs (a ++ b) := by
  apply ext_list; simp [bs]
theorem list_append (a b : ByteArray) : (a ++ b).data.toList = a.data.toList ++ b.data.toList := by simp
theorem size_append (a b : ByteArray) : (a ++ b).size = a.size + b.size := by simp
theorem toList_data (s : ByteArray) : s.toList = s.data.toList := by
  have : ∀ (n i : Nat) (r : List UInt8), s.size - i = n → i ≤ s.size → ByteArray.toList.loop s i r = r.reverse ++ s.data.toList.drop i := by
    intro n
    induction n with
    | zero =>
      intro i r h hi
      have : s.data.toList.drop i = [] := List.drop_eq_nil_of_le (by rw [len_list]; omega)
      rw [ByteArray.toList.loop, if_neg (by omega), this, List.append_nil]
    | succ n ih =>
      intro i r h hi
      have hlt : i < s.size := by omega
      rw [ByteArray.toList.loop, if_pos hlt, ih (i + 1) _ (by omega) (by omega)]
      have hd : s.data.toList.drop i = s.data.toList[i]'(by rw [len_list]; exact hlt) :: s.data.toList.drop (i + 1) := (List.getElem_cons_drop (by rw [len_list]; exact hlt)).symm
      rw [hd, List.reverse_cons, List.append_assoc]
      congr 1
      simp only [List.cons_append, List.nil_append, List.cons.injEq, and_true]
      show s.data[i]! = _
      rw [getElem!_pos s.data i hlt]
      simp
  have h := this s.size 0 [] (by omega) (by omega)
  unfold ByteArray.toList
  rw [h]; rfl
theorem toList_inj {a b : ByteArray} : a.toList = b.toList ↔ a = b := by
  rw [toList_data, toList_data]; exact ⟨ext_list, fun h => by rw [h]⟩
theorem bt_list (s : ByteArray) (i : Nat) (h : i < s.data.toList.length) : bt s (i : Int) = ((s.data.toList[i]'h).toNat : Int) := by
  have h' : i < s.size := by rw [← len_list]; exact h
  unfold bt
  rw [dif_pos (by simpa using h')]
  simp; rfl
theorem extract_list (s : ByteArray) (a b : Nat) : (s.extract a b).data.toList = (s.data.toList.take b).drop a := by
  rw [ByteArray.data_extract, Array.toList_extract, List.extract_eq_take_drop, List.drop_take]
theorem nums_bs (xs : List Int) : strOfNums xs = bs (xs.map fun n => UInt8.ofNat n.toNat) := rfl

/-! ### Numbers as bytes, as few as may be -/
def enc (n : Nat) : List UInt8 := if _h : n < 128 then [UInt8.ofNat n] else UInt8.ofNat (n % 128 + 128) :: enc (n / 128)
theorem enc_lt {n : Nat} (h : n < 128) : enc n = [UInt8.ofNat n] := by rw [enc, dif_pos h]
theorem enc_ge {n : Nat} (h : ¬ n < 128) : enc n = UInt8.ofNat (n % 128 + 128) :: enc (n / 128) := by rw [enc, dif_neg h]
theorem enc_pos (n : Nat) : 1 ≤ (enc n).length := by rw [enc]; split <;> simp
theorem enc_len (f : Nat) : ∀ n, n < 128 ^ (f + 1) → (enc n).length ≤ f + 1 := by
  induction f with
  | zero => intro n h; rw [enc_lt (by simpa using h)]; simp
  | succ f ih =>
    intro n h
    by_cases c : n < 128
    · rw [enc_lt c]; simp
    · rw [enc_ge c]
      have : n / 128 < 128 ^ (f + 1) := by
        rw [Nat.div_lt_iff_lt_mul (by decide)]
        rwa [Nat.pow_succ] at h
      have := ih _ this
      simp only [List.length_cons]; omega
theorem enc9 {n : Nat} (h : n ≤ 4611686018427387904) : (enc n).length ≤ 9 := enc_len 8 n (by omega)

/-- The number that bytes begin with: its value, how many bytes it has, why there is none. -/
def dcd : Nat → Bool → List UInt8 → Nat × Nat × Nat
  | 0, _, _ => (0, 0, 11)
  | _ + 1, _, [] => (0, 0, 10)
  | f + 1, first, b :: r =>
    if 128 ≤ b.toNat then
      (if (dcd f false r).2.2 = 0 then (b.toNat % 128 + 128 * (dcd f false r).1, (dcd f false r).2.1 + 1, 0) else (0, 0, (dcd f false r).2.2))
    else if first = false ∧ b.toNat = 0 then (0, 0, 11) else (b.toNat, 1, 0)
def takeN (l : List UInt8) : Nat × Nat × Nat := if (dcd 9 true l).2.2 = 0 ∧ 4611686018427387904 < (dcd 9 true l).1 then (0, 0, 11) else dcd 9 true l

theorem u8_ofNat {n : Nat} (h : n < 256) : (UInt8.ofNat n).toNat = n := by simp; omega
theorem u8_eta (b : UInt8) : UInt8.ofNat b.toNat = b := by simp

theorem dcd_enc (tail : List UInt8) : ∀ (f n : Nat) (first : Bool), (enc n).length ≤ f → (first = true ∨ n ≠ 0) → dcd f first (enc n ++ tail) = (n, (enc n).length, 0) := by
  intro f
  induction f with
  | zero => intro n first h _; have := enc_pos n; omega
  | succ f ih =>
    intro n first h hz
    by_cases c : n < 128
    · rw [enc_lt c]
      simp only [List.cons_append, List.nil_append, dcd, u8_ofNat (show n < 256 by omega), List.length_cons, List.length_nil]
      rw [if_neg (by omega), if_neg (by rintro ⟨h1, h2⟩; rcases hz with h3 | h3 <;> simp_all)]
    · rw [enc_ge c] at h ⊢
      simp only [List.cons_append, dcd, u8_ofNat (show n % 128 + 128 < 256 by omega), List.length_cons] at h ⊢
      have := ih (n / 128) false (by omega) (.inr (by omega))
      rw [if_pos (by omega), this]
      simp only [if_true]
      congr 1
      omega
theorem dcd_short : ∀ (f n j : Nat) (first : Bool), (enc n).length ≤ f → j < (enc n).length → dcd f first ((enc n).take j) = (0, 0, 10) := by
  intro f
  induction f with
  | zero => intro n j first h _; have := enc_pos n; omega
  | succ f ih =>
    intro n j first h hj
    cases j with
    | zero => rfl
    | succ j =>
      by_cases c : n < 128
      · rw [enc_lt c] at hj; simp at hj
      · rw [enc_ge c] at h hj ⊢
        simp only [List.length_cons] at h hj
        simp only [List.take_succ_cons, dcd, u8_ofNat (show n % 128 + 128 < 256 by omega)]
        rw [if_pos (by omega), ih (n / 128) j false (by omega) (by omega)]
        simp
theorem dcd_back : ∀ (f : Nat) (first : Bool) (l : List UInt8) (m k : Nat), dcd f first l = (m, k, 0) → k ≤ l.length ∧ k ≤ f ∧ 1 ≤ k ∧ enc m = l.take k ∧ (first = true ∨ m ≠ 0) := by
  intro f
  induction f with
  | zero => intro first l m k h; simp [dcd] at h
  | succ f ih =>
    intro first l m k h
    cases l with
    | nil => simp [dcd] at h
    | cons b r =>
      simp only [dcd] at h
      by_cases c : 128 ≤ b.toNat
      · rw [if_pos c] at h
        by_cases e : (dcd f false r).2.2 = 0
        · rw [if_pos e] at h
          simp only [Prod.mk.injEq] at h
          obtain ⟨h1, h2, _⟩ := h
          have := ih false r (dcd f false r).1 (dcd f false r).2.1 (by rw [← e])
          obtain ⟨g1, g2, g3, g4, g5⟩ := this
          have hb := b.toNat_lt
          have hm : (dcd f false r).1 ≠ 0 := by rcases g5 with g | g; · cases g
                                                · exact g
          have hge : ¬ m < 128 := by omega
          refine ⟨by simp only [List.length_cons]; omega, by omega, by omega, ?_, .inr (by omega)⟩
          rw [enc_ge hge, show m / 128 = (dcd f false r).1 from by omega, g4, ← h2, List.take_succ_cons, show m % 128 + 128 = b.toNat from by omega, u8_eta]
        · rw [if_neg e] at h
          simp only [Prod.mk.injEq] at h
          exact absurd h.2.2 e
      · rw [if_neg c] at h
        by_cases z : first = false ∧ b.toNat = 0
        · rw [if_pos z] at h; simp at h
        · rw [if_neg z] at h
          simp only [Prod.mk.injEq] at h
          obtain ⟨rfl, rfl, _⟩ := h
          refine ⟨by simp, by omega, by omega, ?_, ?_⟩
          · rw [enc_lt (by omega), u8_eta]; rfl
          · cases first with
            | true => exact .inl rfl
            | false => exact .inr (fun h => z ⟨rfl, h⟩)
theorem dcd_err : ∀ (f : Nat) (first : Bool) (l : List UInt8), (dcd f first l).2.2 ≠ 0 → dcd f first l = (0, 0, (dcd f first l).2.2) := by
  intro f
  induction f with
  | zero => intro first l h; rfl
  | succ f ih =>
    intro first l h
    cases l with
    | nil => rfl
    | cons b r =>
      simp only [dcd] at h ⊢
      by_cases c : 128 ≤ b.toNat
      · simp only [if_pos c] at h ⊢
        by_cases e : (dcd f false r).2.2 = 0
        · simp only [if_pos e] at h; simp at h
        · simp only [if_neg e]
      · simp only [if_neg c] at h ⊢
        by_cases z : first = false ∧ b.toNat = 0
        · simp only [if_pos z]
        · simp only [if_neg z] at h; simp at h
theorem dcd_errs : ∀ (f : Nat) (first : Bool) (l : List UInt8), (dcd f first l).2.2 = 0 ∨ (dcd f first l).2.2 = 10 ∨ (dcd f first l).2.2 = 11 := by
  intro f
  induction f with
  | zero => intro first l; simp [dcd]
  | succ f ih =>
    intro first l
    cases l with
    | nil => simp [dcd]
    | cons b r =>
      have := ih false r
      simp only [dcd]
      split
      · split
        · simp
        · simpa using this
      · split <;> simp
theorem enc_val : ∀ (f n : Nat), (enc n).length ≤ f → n < 128 ^ f := by
  intro f
  induction f with
  | zero => intro n h; have := enc_pos n; omega
  | succ f ih =>
    intro n h
    by_cases c : n < 128
    · exact Nat.lt_of_lt_of_le c (by rw [Nat.pow_succ]; have : 0 < 128 ^ f := Nat.pow_pos (by decide); omega)
    · rw [enc_ge c, List.length_cons] at h
      have := ih (n / 128) (by omega)
      rw [Nat.pow_succ]; omega
theorem takeN_enc (n : Nat) (tail : List UInt8) (h : n ≤ 4611686018427387904) : takeN (enc n ++ tail) = (n, (enc n).length, 0) := by
  unfold takeN
  rw [dcd_enc tail 9 n true (enc9 h) (.inl rfl)]
  rw [if_neg (by simp only; omega)]
theorem takeN_short (n j : Nat) (h : n ≤ 4611686018427387904) (hj : j < (enc n).length) : takeN ((enc n).take j) = (0, 0, 10) := by
  unfold takeN
  rw [dcd_short 9 n j true (enc9 h) hj]
  simp
theorem takeN_back (l : List UInt8) (m k : Nat) (h : takeN l = (m, k, 0)) : k ≤ l.length ∧ 1 ≤ k ∧ k ≤ 9 ∧ enc m = l.take k ∧ m ≤ 4611686018427387904 := by
  unfold takeN at h
  split at h
  · simp at h
  · rename_i c
    have := dcd_back 9 true l m k h
    rw [h] at c
    simp only [true_and] at c
    exact ⟨this.1, this.2.2.1, this.2.1, this.2.2.2.1, by omega⟩
theorem takeN_err (l : List UInt8) (h : (takeN l).2.2 ≠ 0) : takeN l = (0, 0, (takeN l).2.2) := by
  unfold takeN at h ⊢
  split
  · rfl
  · rename_i c; rw [if_neg c] at h; exact dcd_err 9 true l h
theorem takeN_errs (l : List UInt8) : (takeN l).2.2 = 0 ∨ (takeN l).2.2 = 10 ∨ (takeN l).2.2 = 11 := by
  unfold takeN
  split
  · exact .inr (.inr rfl)
  · exact dcd_errs 9 true l
/-- What is told of a number taken, as whole numbers. -/
abbrev outI (q : Nat × Nat × Nat) : Int × Int × Int := ((q.1 : Int), (q.2.1 : Int), (q.2.2 : Int))
/-- What the loop that takes a number comes to, from byte i on. -/
abbrev fromI (x : Int) (i : Nat) (q : Nat × Nat × Nat) : Int × Int × Int :=
  if q.2.2 = 0 then (if x + q.1 * 2 ^ (7 * i) > 4611686018427387904 then (0, 0, 11) else (x + q.1 * 2 ^ (7 * i), (i : Int) + q.2.1, 0)) else (0, 0, (q.2.2 : Int))
theorem fromI_zero (l : List UInt8) : fromI 0 0 (dcd 9 true l) = outI (takeN l) := by
  unfold fromI takeN outI
  by_cases e : (dcd 9 true l).2.2 = 0
  · rw [if_pos e]
    simp only [Nat.mul_zero, Int.pow_zero, Int.mul_one, Int.zero_add, e, true_and, Int.natCast_zero]
    by_cases g : 4611686018427387904 < (dcd 9 true l).1
    · rw [if_pos (by omega), if_pos g]; rfl
    · rw [if_neg (by omega), if_neg g, e]; rfl
  · rw [if_neg e, if_neg (by rintro ⟨h, _⟩; exact e h)]
    have := dcd_err 9 true l e
    rw [this]; rfl
theorem fromI_more (x : Int) (b : UInt8) (i f : Nat) (first : Bool) (r : List UInt8) (hb : 128 ≤ b.toNat) :
    fromI x i (dcd (f + 1) first (b :: r)) = fromI (x + (b.toNat : Int) % 128 * 2 ^ (7 * i)) (i + 1) (dcd f false r) := by
  unfold fromI
  simp only [dcd, if_pos hb]
  by_cases e : (dcd f false r).2.2 = 0
  · rw [if_pos e]
    simp only [if_true]
    rw [if_pos e]
    have ev : x + ((b.toNat % 128 + 128 * (dcd f false r).1 : Nat) : Int) * 2 ^ (7 * i) = x + (b.toNat : Int) % 128 * 2 ^ (7 * i) + ((dcd f false r).1 : Int) * 2 ^ (7 * (i + 1)) := by
      rw [pow7]
      have : ((b.toNat % 128 + 128 * (dcd f false r).1 : Nat) : Int) = (b.toNat : Int) % 128 + 128 * ((dcd f false r).1 : Int) := by omega
      rw [this, Int.add_mul]
      have e2 : 128 * ((dcd f false r).1 : Int) * 2 ^ (7 * i) = ((dcd f false r).1 : Int) * (2 ^ (7 * i) * 128) := by
        rw [Int.mul_comm 128, Int.mul_assoc, Int.mul_comm 128]
      rw [e2]; omega
    rw [ev]
    congr 1
    congr 2
    omega
  · rw [if_neg e, if_neg e]
    simp only
    rw [if_neg e]
theorem fromI_last (x : Int) (b : UInt8) (i f : Nat) (first : Bool) (r : List UInt8) (hb : ¬ 128 ≤ b.toNat) :
    fromI x i (dcd (f + 1) first (b :: r)) = if first = false ∧ b.toNat = 0 then (0, 0, 11) else if x + (b.toNat : Int) % 128 * 2 ^ (7 * i) > 4611686018427387904 then (0, 0, 11) else (x + (b.toNat : Int) % 128 * 2 ^ (7 * i), (i : Int) + 1, 0) := by
  unfold fromI
  simp only [dcd, if_neg hb]
  by_cases z : first = false ∧ b.toNat = 0
  · rw [if_pos z, if_pos z]; rfl
  · rw [if_neg z, if_neg z]
    simp only [if_true]
    rw [show (b.toNat : Int) % 128 = (b.toNat : Int) from by omega]
    rfl
/-- A text with its length ahead, and the text that bytes begin with. -/
def takeX (l : List UInt8) : List UInt8 × Nat × Nat :=
  if (takeN l).2.2 = 0 then
    (if 262144 < (takeN l).1 then ([], 0, 11) else if l.length - (takeN l).2.1 < (takeN l).1 then ([], 0, 10) else ((l.drop (takeN l).2.1).take (takeN l).1, (takeN l).2.1 + (takeN l).1, 0))
  else ([], 0, (takeN l).2.2)
abbrev outT (q : List UInt8 × Nat × Nat) : ByteArray × Int × Int := (bs q.1, (q.2.1 : Int), (q.2.2 : Int))
theorem takeX_text (t tail : List UInt8) (h : t.length ≤ 262144) : takeX (enc t.length ++ (t ++ tail)) = (t, (enc t.length).length + t.length, 0) := by
  unfold takeX
  rw [takeN_enc _ _ (by omega)]
  dsimp only
  rw [if_pos rfl, if_neg (by omega), if_neg (by simp only [List.length_append]; omega), List.drop_left, List.take_left]
theorem takeX_short (t : List UInt8) (j : Nat) (h : t.length ≤ 262144) (hj : j < (enc t.length ++ t).length) : takeX ((enc t.length ++ t).take j) = ([], 0, 10) := by
  unfold takeX
  by_cases c : j < (enc t.length).length
  · rw [List.take_append_of_le_length (by omega), takeN_short _ j (by omega) c]
    dsimp only
    rw [if_neg (by decide)]
  · rw [List.length_append] at hj
    rw [List.take_append, List.take_of_length_le (by omega), takeN_enc _ _ (by omega)]
    dsimp only
    rw [if_pos rfl, if_neg (by omega), if_pos (by simp only [List.length_append, List.length_take]; omega)]
theorem takeX_back (l t : List UInt8) (k : Nat) (h : takeX l = (t, k, 0)) : k ≤ l.length ∧ t.length ≤ 262144 ∧ enc t.length ++ t = l.take k ∧ 1 ≤ k := by
  unfold takeX at h
  by_cases e : (takeN l).2.2 = 0
  · rw [if_pos e] at h
    obtain ⟨h1, h2, h3, h4, h5⟩ := takeN_back l (takeN l).1 (takeN l).2.1 (by rw [← e])
    by_cases g : 262144 < (takeN l).1
    · rw [if_pos g] at h; simp at h
    · rw [if_neg g] at h
      by_cases g2 : l.length - (takeN l).2.1 < (takeN l).1
      · rw [if_pos g2] at h; simp at h
      · rw [if_neg g2] at h
        simp only [Prod.mk.injEq, and_true] at h
        obtain ⟨rfl, rfl⟩ := h
        have hl : (List.take (takeN l).1 (List.drop (takeN l).2.1 l)).length = (takeN l).1 := by
          rw [List.length_take, List.length_drop]; omega
        rw [hl, h4, List.take_add]
        exact ⟨by omega, by omega, rfl, by omega⟩
  · rw [if_neg e] at h
    simp only [Prod.mk.injEq] at h
    exact absurd h.2.2 e
theorem takeX_err (l : List UInt8) (h : (takeX l).2.2 ≠ 0) : takeX l = ([], 0, (takeX l).2.2) := by
  unfold takeX at h ⊢
  by_cases e : (takeN l).2.2 = 0
  · rw [if_pos e] at h ⊢
    by_cases g : 262144 < (takeN l).1
    · rw [if_pos g]
    · rw [if_neg g] at h ⊢
      by_cases g2 : l.length - (takeN l).2.1 < (takeN l).1
      · rw [if_pos g2]
      · rw [if_neg g2] at h; simp at h
  · rw [if_neg e]
theorem and_small (x : Int) (m : Nat) (hm : m < 9223372036854775808) : ∃ r : Nat, r ≤ m ∧ Go.bits .and .i64 x (m : Int) = (r : Int) := by
  refine ⟨((BitVec.ofInt 64 x) &&& (BitVec.ofInt 64 (m : Int))).toNat, ?_, ?_⟩
  · rw [BitVec.toNat_and, BitVec.ofInt_natCast, BitVec.toNat_ofNat]
    exact Nat.le_trans Nat.and_le_right (Nat.mod_le _ _)
  · have h : ((BitVec.ofInt 64 x) &&& (BitVec.ofInt 64 (m : Int))).toNat ≤ m := by
      rw [BitVec.toNat_and, BitVec.ofInt_natCast, BitVec.toNat_ofNat]
      exact Nat.le_trans Nat.and_le_right (Nat.mod_le _ _)
    have hw := wraps_i64 (((BitVec.ofInt 64 x) &&& (BitVec.ofInt 64 (m : Int))).toNat : Int) (Int.natCast_nonneg _) (by omega)
    exact hw
theorem drop_cons (s : ByteArray) (i : Nat) (h : i < s.data.toList.length) : s.data.toList.drop i = s.data.toList[i]'h :: s.data.toList.drop (i + 1) := (List.getElem_cons_drop h).symm
end Go.Proofs.Ytgcehbigcokpaaa.VLib
