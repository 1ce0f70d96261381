import Derived.Test.YtlmoafkmhenejaakOWWords
import Derived.Test.YtlmoafkmhenejaakOWLast
import Derived.Laws.BitsLemmas
import Derived.Test.YtlmoafkmhenejaakOXAx4
import Derived.Test.YtlmoafkmhenejaakOOpn
import Derived.StillTailTactics
section
namespace Go.Proofs.YtlmoafkmhenejaaW.PrintWords
end Go.Proofs.YtlmoafkmhenejaaW.PrintWords
namespace Go.Proofs.YtlmoafkmhenejaaW.PrintLast
end Go.Proofs.YtlmoafkmhenejaaW.PrintLast
namespace Go.Proofs.YtlmoafkmhenejaaW.PrintMore
end Go.Proofs.YtlmoafkmhenejaaW.PrintMore
namespace Go.Proofs.Ytlmoafkmhenejaa.VLib
open Go.RowKit Go.Proofs.YtlmoafkmhenejaaW.PrintWords Go.Proofs.YtlmoafkmhenejaaW.PrintLast Go.Proofs.YtlmoafkmhenejaaW.PrintMore
theorem w64 {n : Int} (h0 : -9223372036854775808 ≤ n) (h1 : n ≤ 9223372036854775807) : wrap64 n = n := by
  unfold wrap64; omega
theorem wraps_i64 (n : Int) (h₀ : 0 ≤ n) (h₁ : n < 2 ^ 63) : IntKind.i64.wrap n = n := by rw [IntKind.wrap_i64]; omega
theorem or128_nat : ∀ a : Fin 256, (a.val ||| 128) = a.val % 128 + 128 := by decide +kernel
theorem or128 (x : Int) (h0 : 0 ≤ x) (h1 : x < 256) : Go.bits .or .u8 x 128 = x % 128 + 128 := by
  obtain ⟨a, rfl⟩ := Int.eq_ofNat_of_zero_le h0
  have ha : a < 256 := by omega
  have := (bits_nat .u8 8 (by decide) wraps_u8 a 128 (by omega) (by decide)).2
  have e := or128_nat ⟨a, ha⟩
  simp only at e
  rw [show ((128 : Int)) = ((128 : Nat) : Int) from rfl, this, e]
  omega
theorem and127_i64 (x : Int) (h0 : 0 ≤ x) (h1 : x < 9223372036854775808) : Go.bits .and .i64 x 127 = x % 128 :=
  bits_mask .i64 63 (by decide) wraps_i64 7 (by decide) x h0 (by simpa using h1)
theorem and127_u8 (x : Int) (h0 : 0 ≤ x) (h1 : x < 256) : Go.bits .and .u8 x 127 = x % 128 :=
  bits_mask .u8 8 (by decide) wraps_u8 7 (by decide) x h0 (by simpa using h1)
theorem or128_i64 (x : Int) (h0 : 0 ≤ x) (h1 : x < 128) : Go.bits .or .i64 x 128 = x + 128 := by
  obtain ⟨a, rfl⟩ := Int.eq_ofNat_of_zero_le h0
  have ha : a < 256 := by omega
  have := (bits_nat .i64 63 (by decide) wraps_i64 a 128 (by omega) (by decide)).2
  have e := or128_nat ⟨a, ha⟩
  simp only at e
  rw [show ((128 : Int)) = ((128 : Nat) : Int) from rfl, this, e]
  omega
theorem or_low (x y : Int) (i : Nat) (h0 : 0 ≤ x) (h1 : x < 2 ^ i) (y0 : 0 ≤ y) (yd : y % 2 ^ i = 0) (y1 : y < 2 ^ 63) (hi : i ≤ 63) :
    Go.bits .or .i64 x y = x + y := by
  have hx : x < 2 ^ 63 := by
    have hp : 2 ^ i ≤ 2 ^ 63 := Nat.pow_le_pow_right (by decide) hi; have hp' : ((2 : Int) ^ i) ≤ 2 ^ 63 := by exact_mod_cast hp
    omega
  have hj := bits_join .i64 63 (by decide) wraps_i64 i y x y0 yd y1 h0 h1 hx
  obtain ⟨a, rfl⟩ := Int.eq_ofNat_of_zero_le h0
  obtain ⟨b, rfl⟩ := Int.eq_ofNat_of_zero_le y0
  have e1 := (bits_nat .i64 63 (by decide) wraps_i64 a b (by exact_mod_cast hx) (by exact_mod_cast y1)).2
  have e2 := (bits_nat .i64 63 (by decide) wraps_i64 b a (by exact_mod_cast y1) (by exact_mod_cast hx)).2
  rw [e1, Nat.or_comm, ← e2, hj]; omega
theorem pow7 (i : Nat) : ((2 : Int) ^ (7 * (i + 1))) = 2 ^ (7 * i) * 128 := by
  rw [show 7 * (i + 1) = 7 * i + 7 from rfl, Int.pow_add]; rfl
theorem pow7_pos (i : Nat) : (0 : Int) < 2 ^ (7 * i) := Int.pow_pos (by decide)
theorem step_or (x b : Int) (i : Nat) (hi : i ≤ 8) (h0 : 0 ≤ x) (h1 : x < 2 ^ (7 * i)) (b0 : 0 ≤ b) (b1 : b ≤ 255) :
    Go.bits .or .i64 x (shl .i64 (wrap64 (Go.bits .and .u8 b 127)) (wrap64 (7 * (i : Int)))) = x + b % 128 * 2 ^ (7 * i) := by
  have e1 : Go.bits .and .u8 b 127 = b % 128 := and127_u8 b b0 (by omega)
  have hp : (2 : Int) ^ (7 * i) ≤ 2 ^ 56 := by
    have : (2 : Nat) ^ (7 * i) ≤ 2 ^ 56 := Nat.pow_le_pow_right (by decide) (by omega)
    exact_mod_cast this
  have hpos := pow7_pos i
  have hm0 : 0 ≤ b % 128 := by omega
  have hm1 : b % 128 ≤ 127 := by omega
  have hb : b % 128 * 2 ^ (7 * i) ≤ 127 * 2 ^ 56 := Int.le_trans (Int.mul_le_mul_of_nonneg_right hm1 (by omega)) (Int.mul_le_mul_of_nonneg_left hp (by decide))
  have hb0 : 0 ≤ b % 128 * 2 ^ (7 * i) := Int.mul_nonneg hm0 (by omega)
  rw [e1, w64 (by omega) (by omega), w64 (by omega) (by omega)]
  have e2 : shl .i64 (b % 128) (7 * (i : Int)) = b % 128 * 2 ^ (7 * i) := by
    unfold shl
    rw [show (7 * (i : Int)).toNat = 7 * i from by omega, Nat.min_eq_left (by show 7 * i ≤ 64; omega)]; exact wraps_i64 _ hb0 (by omega)
  rw [e2]
  exact or_low x _ (7 * i) h0 h1 hb0 (Int.mul_emod_left _ _) (by omega) (by omega)
theorem step_lt (x b : Int) (i : Nat) (h0 : 0 ≤ x) (h1 : x < 2 ^ (7 * i)) : 0 ≤ x + b % 128 * 2 ^ (7 * i) ∧ x + b % 128 * 2 ^ (7 * i) < 2 ^ (7 * (i + 1)) := by
  have hpos := pow7_pos i
  have hm0 : 0 ≤ b % 128 := by omega
  have hm1 : b % 128 ≤ 127 := by omega
  have hb0 : 0 ≤ b % 128 * 2 ^ (7 * i) := Int.mul_nonneg hm0 (by omega)
  have hb : b % 128 * 2 ^ (7 * i) ≤ 127 * 2 ^ (7 * i) := Int.mul_le_mul_of_nonneg_right hm1 (by omega)
  rw [pow7]; omega
def bs (l : List UInt8) : ByteArray := ⟨l.toArray⟩
theorem bs_list (l : List UInt8) : (bs l).data.toList = l := rfl
theorem bs_size (l : List UInt8) : (bs l).size = l.length := by unfold bs ByteArray.size; simp
theorem bs_of (s : ByteArray) : bs s.data.toList = s := by cases s; rfl
theorem ext_list {a b : ByteArray} (h : a.data.toList = b.data.toList) : a = b := by rw [← bs_of a, ← bs_of b, h]
theorem len_list (s : ByteArray) : s.data.toList.length = s.size := data_length s
theorem bs_append (a b : List UInt8) : bs a ++ bs b = bs (a ++ b) := by
  apply ext_list; simp [bs]
theorem list_append (a b : ByteArray) : (a ++ b).data.toList = a.data.toList ++ b.data.toList := by simp
theorem size_append (a b : ByteArray) : (a ++ b).size = a.size + b.size := by simp
theorem toList_data (s : ByteArray) : s.toList = s.data.toList := by
  have : ∀ (n i : Nat) (r : List UInt8), s.size - i = n → i ≤ s.size → ByteArray.toList.loop s i r = r.reverse ++ s.data.toList.drop i := by
    intro n
    induction n with
    | zero =>
      intro i r h hi; have : s.data.toList.drop i = [] := List.drop_eq_nil_of_le (by rw [len_list]; omega); rw [ByteArray.toList.loop, if_neg (by omega), this, List.append_nil]
    | succ n ih =>
      intro i r h hi; have hlt : i < s.size := by omega
      rw [ByteArray.toList.loop, if_pos hlt, ih (i + 1) _ (by omega) (by omega)]; have hd : s.data.toList.drop i = s.data.toList[i]'(by rw [len_list]; exact hlt) :: s.data.toList.drop (i + 1) := (List.getElem_cons_drop (by rw [len_list]; exact hlt)).symm; rw [hd, List.reverse_cons, List.append_assoc]
      congr 1
      simp only [List.cons_append, List.nil_append, List.cons.injEq, and_true]
      show s.data[i]! = _
      rw [getElem!_pos s.data i hlt]
      simp
  have h := this s.size 0 [] (by omega) (by omega)
  unfold ByteArray.toList
  rw [h]; rfl
theorem toList_inj {a b : ByteArray} : a.toList = b.toList ↔ a = b := by
  rw [toList_data, toList_data]; exact ⟨ext_list, fun h => by rw [h]⟩
theorem bt_list (s : ByteArray) (i : Nat) (h : i < s.data.toList.length) : bt s (i : Int) = ((s.data.toList[i]'h).toNat : Int) := by
  have h' : i < s.size := by rw [← len_list]; exact h
  unfold bt
  rw [dif_pos (by simpa using h')]
  simp; rfl
theorem extract_list (s : ByteArray) (a b : Nat) : (s.extract a b).data.toList = (s.data.toList.take b).drop a := by
  rw [ByteArray.data_extract, Array.toList_extract, List.extract_eq_take_drop, List.drop_take]
theorem nums_bs (xs : List Int) : strOfNums xs = bs (xs.map fun n => UInt8.ofNat n.toNat) := rfl
def enc (n : Nat) : List UInt8 := if _h : n < 128 then [UInt8.ofNat n] else UInt8.ofNat (n % 128 + 128) :: enc (n / 128)
theorem enc_lt {n : Nat} (h : n < 128) : enc n = [UInt8.ofNat n] := by rw [enc, dif_pos h]
theorem enc_ge {n : Nat} (h : ¬ n < 128) : enc n = UInt8.ofNat (n % 128 + 128) :: enc (n / 128) := by rw [enc, dif_neg h]
theorem enc_pos (n : Nat) : 1 ≤ (enc n).length := by rw [enc]; split <;> simp
theorem enc_len (f : Nat) : ∀ n, n < 128 ^ (f + 1) → (enc n).length ≤ f + 1 := by
  induction f with
  | zero => intro n h; rw [enc_lt (by simpa using h)]; simp
  | succ f ih =>
    intro n h
    by_cases c : n < 128
    · rw [enc_lt c]; simp
    · rw [enc_ge c]
      have : n / 128 < 128 ^ (f + 1) := by
        rw [Nat.div_lt_iff_lt_mul (by decide)]
        rwa [Nat.pow_succ] at h
      have := ih _ this; simp only [List.length_cons]; omega
theorem enc9 {n : Nat} (h : n ≤ 4611686018427387904) : (enc n).length ≤ 9 := enc_len 8 n (by omega)
def dcd : Nat → Bool → List UInt8 → Nat × Nat × Nat
  | 0, _, _ => (0, 0, 11)
  | _ + 1, _, [] => (0, 0, 10)
  | f + 1, first, b :: r =>
    if 128 ≤ b.toNat then
      (if (dcd f false r).2.2 = 0 then (b.toNat % 128 + 128 * (dcd f false r).1, (dcd f false r).2.1 + 1, 0) else (0, 0, (dcd f false r).2.2))
    else if first = false ∧ b.toNat = 0 then (0, 0, 11) else (b.toNat, 1, 0)
def takeN (l : List UInt8) : Nat × Nat × Nat := if (dcd 9 true l).2.2 = 0 ∧ 4611686018427387904 < (dcd 9 true l).1 then (0, 0, 11) else dcd 9 true l
theorem u8_eta (b : UInt8) : UInt8.ofNat b.toNat = b := by simp
theorem dcd_back : ∀ (f : Nat) (first : Bool) (l : List UInt8) (m k : Nat), dcd f first l = (m, k, 0) → k ≤ l.length ∧ k ≤ f ∧ 1 ≤ k ∧ enc m = l.take k ∧ (first = true ∨ m ≠ 0) := by
  intro f
  induction f with
  | zero => intro first l m k h; simp [dcd] at h
  | succ f ih =>
    intro first l m k h
    cases l with
    | nil => simp [dcd] at h
    | cons b r =>
      simp only [dcd] at h
      by_cases c : 128 ≤ b.toNat
      · rw [if_pos c] at h
        by_cases e : (dcd f false r).2.2 = 0
        · rw [if_pos e] at h; simp only [Prod.mk.injEq] at h; obtain ⟨h1, h2, _⟩ := h; have := ih false r (dcd f false r).1 (dcd f false r).2.1 (by rw [← e]); obtain ⟨g1, g2, g3, g4, g5⟩ := this; have hb := b.toNat_lt
          have hm : (dcd f false r).1 ≠ 0 := by rcases g5 with g | g; · cases g
                                                · exact g
          have hge : ¬ m < 128 := by omega
          refine ⟨by simp only [List.length_cons]; omega, by omega, by omega, ?_, .inr (by omega)⟩; rw [enc_ge hge, show m / 128 = (dcd f false r).1 from by omega, g4, ← h2, List.take_succ_cons, show m % 128 + 128 = b.toNat from by omega, u8_eta]
        · rw [if_neg e] at h; simp only [Prod.mk.injEq] at h; exact absurd h.2.2 e
      · rw [if_neg c] at h
        by_cases z : first = false ∧ b.toNat = 0
        · rw [if_pos z] at h; simp at h
        · rw [if_neg z] at h; simp only [Prod.mk.injEq] at h; obtain ⟨rfl, rfl, _⟩ := h; refine ⟨by simp, by omega, by omega, ?_, ?_⟩
          · rw [enc_lt (by omega), u8_eta]; rfl
          · cases first with
            | true => exact .inl rfl
            | false => exact .inr (fun h => z ⟨rfl, h⟩)
theorem dcd_err : ∀ (f : Nat) (first : Bool) (l : List UInt8), (dcd f first l).2.2 ≠ 0 → dcd f first l = (0, 0, (dcd f first l).2.2) := by
  intro f
  induction f with
  | zero => intro first l h; rfl
  | succ f ih =>
    intro first l h
    cases l with
    | nil => rfl
    | cons b r =>
      simp only [dcd] at h ⊢
      by_cases c : 128 ≤ b.toNat
      · simp only [if_pos c] at h ⊢
        by_cases e : (dcd f false r).2.2 = 0
        · simp only [if_pos e] at h; simp at h
        · simp only [if_neg e]
      · simp only [if_neg c] at h ⊢
        by_cases z : first = false ∧ b.toNat = 0
        · simp only [if_pos z]
        · simp only [if_neg z] at h; simp at h
theorem takeN_back (l : List UInt8) (m k : Nat) (h : takeN l = (m, k, 0)) : k ≤ l.length ∧ 1 ≤ k ∧ k ≤ 9 ∧ enc m = l.take k ∧ m ≤ 4611686018427387904 := by
  unfold takeN at h
  split at h
  · simp at h
  · rename_i c
    have := dcd_back 9 true l m k h; rw [h] at c; simp only [true_and] at c; exact ⟨this.1, this.2.2.1, this.2.1, this.2.2.2.1, by omega⟩
theorem takeN_err (l : List UInt8) (h : (takeN l).2.2 ≠ 0) : takeN l = (0, 0, (takeN l).2.2) := by
  unfold takeN at h ⊢
  split
  · rfl
  · rename_i c; rw [if_neg c] at h; exact dcd_err 9 true l h
abbrev outI (q : Nat × Nat × Nat) : Int × Int × Int := ((q.1 : Int), (q.2.1 : Int), (q.2.2 : Int))
abbrev fromI (x : Int) (i : Nat) (q : Nat × Nat × Nat) : Int × Int × Int :=
  if q.2.2 = 0 then (if x + q.1 * 2 ^ (7 * i) > 4611686018427387904 then (0, 0, 11) else (x + q.1 * 2 ^ (7 * i), (i : Int) + q.2.1, 0)) else (0, 0, (q.2.2 : Int))
theorem fromI_zero (l : List UInt8) : fromI 0 0 (dcd 9 true l) = outI (takeN l) := by
  unfold fromI takeN outI
  by_cases e : (dcd 9 true l).2.2 = 0
  · rw [if_pos e]; simp only [Nat.mul_zero, Int.pow_zero, Int.mul_one, Int.zero_add, e, true_and, Int.natCast_zero]
    by_cases g : 4611686018427387904 < (dcd 9 true l).1
    · rw [if_pos (by omega), if_pos g]; rfl
    · rw [if_neg (by omega), if_neg g, e]; rfl
  · rw [if_neg e, if_neg (by rintro ⟨h, _⟩; exact e h)]; have := dcd_err 9 true l e; rw [this]; rfl
theorem fromI_more (x : Int) (b : UInt8) (i f : Nat) (first : Bool) (r : List UInt8) (hb : 128 ≤ b.toNat) :
    fromI x i (dcd (f + 1) first (b :: r)) = fromI (x + (b.toNat : Int) % 128 * 2 ^ (7 * i)) (i + 1) (dcd f false r) := by
  unfold fromI
  simp only [dcd, if_pos hb]
  by_cases e : (dcd f false r).2.2 = 0
  · rw [if_pos e]; simp only [if_true]; rw [if_pos e]
    have ev : x + ((b.toNat % 128 + 128 * (dcd f false r).1 : Nat) : Int) * 2 ^ (7 * i) = x + (b.toNat : Int) % 128 * 2 ^ (7 * i) + ((dcd f false r).1 : Int) * 2 ^ (7 * (i + 1)) := by
      rw [pow7]; have : ((b.toNat % 128 + 128 * (dcd f false r).1 : Nat) : Int) = (b.toNat : Int) % 128 + 128 * ((dcd f false r).1 : Int) := by omega
      rw [this, Int.add_mul]
      have e2 : 128 * ((dcd f false r).1 : Int) * 2 ^ (7 * i) = ((dcd f false r).1 : Int) * (2 ^ (7 * i) * 128) := by
        rw [Int.mul_comm 128, Int.mul_assoc, Int.mul_comm 128]
      rw [e2]; omega
    rw [ev]
    congr 1
    congr 2
    omega
  · rw [if_neg e, if_neg e]; simp only; rw [if_neg e]
theorem fromI_last (x : Int) (b : UInt8) (i f : Nat) (first : Bool) (r : List UInt8) (hb : ¬ 128 ≤ b.toNat) :
    fromI x i (dcd (f + 1) first (b :: r)) = if first = false ∧ b.toNat = 0 then (0, 0, 11) else if x + (b.toNat : Int) % 128 * 2 ^ (7 * i) > 4611686018427387904 then (0, 0, 11) else (x + (b.toNat : Int) % 128 * 2 ^ (7 * i), (i : Int) + 1, 0) := by
  unfold fromI
  simp only [dcd, if_neg hb]
  by_cases z : first = false ∧ b.toNat = 0
  · rw [if_pos z, if_pos z]; rfl
  · rw [if_neg z, if_neg z]; simp only [if_true]; rw [show (b.toNat : Int) % 128 = (b.toNat : Int) from by omega]
    rfl
def takeX (l : List UInt8) : List UInt8 × Nat × Nat :=
  if (takeN l).2.2 = 0 then
    (if 262144 < (takeN l).1 then ([], 0, 11) else if l.length - (takeN l).2.1 < (takeN l).1 then ([], 0, 10) else ((l.drop (takeN l).2.1).take (takeN l).1, (takeN l).2.1 + (takeN l).1, 0))
  else ([], 0, (takeN l).2.2)
abbrev outT (q : List UInt8 × Nat × Nat) : ByteArray × Int × Int := (bs q.1, (q.2.1 : Int), (q.2.2 : Int))
theorem takeX_back (l t : List UInt8) (k : Nat) (h : takeX l = (t, k, 0)) : k ≤ l.length ∧ t.length ≤ 262144 ∧ enc t.length ++ t = l.take k ∧ 1 ≤ k := by
  unfold takeX at h
  by_cases e : (takeN l).2.2 = 0
  · rw [if_pos e] at h; obtain ⟨h1, h2, h3, h4, h5⟩ := takeN_back l (takeN l).1 (takeN l).2.1 (by rw [← e])
    by_cases g : 262144 < (takeN l).1
    · rw [if_pos g] at h; simp at h
    · rw [if_neg g] at h
      by_cases g2 : l.length - (takeN l).2.1 < (takeN l).1
      · rw [if_pos g2] at h; simp at h
      · rw [if_neg g2] at h; simp only [Prod.mk.injEq, and_true] at h; obtain ⟨rfl, rfl⟩ := h
        have hl : (List.take (takeN l).1 (List.drop (takeN l).2.1 l)).length = (takeN l).1 := by
          rw [List.length_take, List.length_drop]; omega
        rw [hl, h4, List.take_add]; exact ⟨by omega, by omega, rfl, by omega⟩
  · rw [if_neg e] at h; simp only [Prod.mk.injEq] at h; exact absurd h.2.2 e
theorem takeX_err (l : List UInt8) (h : (takeX l).2.2 ≠ 0) : takeX l = ([], 0, (takeX l).2.2) := by
  unfold takeX at h ⊢
  by_cases e : (takeN l).2.2 = 0
  · rw [if_pos e] at h ⊢
    by_cases g : 262144 < (takeN l).1
    · rw [if_pos g]
    · rw [if_neg g] at h ⊢
      by_cases g2 : l.length - (takeN l).2.1 < (takeN l).1
      · rw [if_pos g2]
      · rw [if_neg g2] at h; simp at h
  · rw [if_neg e]
theorem drop_cons (s : ByteArray) (i : Nat) (h : i < s.data.toList.length) : s.data.toList.drop i = s.data.toList[i]'h :: s.data.toList.drop (i + 1) := (List.getElem_cons_drop h).symm
end Go.Proofs.Ytlmoafkmhenejaa.VLib
end
section
namespace Go.Proofs.Ytlmoafkmhenejaa.VLib
end Go.Proofs.Ytlmoafkmhenejaa.VLib
namespace Go.Proofs.Ytlmoafkmhenejaa.Bld
end Go.Proofs.Ytlmoafkmhenejaa.Bld
namespace Go.Proofs.YtlmoafkmhenejaaW.PrintWords
end Go.Proofs.YtlmoafkmhenejaaW.PrintWords
namespace Go.Proofs.YtlmoafkmhenejaaW.PrintLast
end Go.Proofs.YtlmoafkmhenejaaW.PrintLast
namespace Go.Proofs.YtlmoafkmhenejaaW.PrintMore
end Go.Proofs.YtlmoafkmhenejaaW.PrintMore
namespace Go.Proofs.Ytlmoafkmhenejaa.XW
end Go.Proofs.Ytlmoafkmhenejaa.XW
namespace Go.Proofs.Ytlmoafkmhenejaa.XA
open Go.Proofs.Ytlmoafkmhenejaa.VLib Go.Proofs.Ytlmoafkmhenejaa.Bld Go.RowKit Go.Proofs.YtlmoafkmhenejaaW.PrintWords Go.Proofs.YtlmoafkmhenejaaW.PrintLast Go.Proofs.YtlmoafkmhenejaaW.PrintMore Go.Proofs.Ytlmoafkmhenejaa.XW
attribute [local go_sem high] max2_str unary_xor_u32 leq_str geq_str gtr_str
attribute [local go_sem] max2_int min2_int max_two min_two max_three min_three max_four min_four
set_option linter.unusedVariables false
set_option linter.unusedSimpArgs false
theorem append_str_at {P : Program} (w : World) (base : Nat) (t u ty e : TypeId) (i : TypeInfo) (ht : P.underlying t = some (.slice e)) (hu : P.underlying u = some .string) (hi : P.info? e = some i) (hz : i.zero = some (.int .u8 0))
    (hsize : i.size = 1) (hby : i.bytes = 1) (v : Value) (n : Nat) (xs : List Value) (hown : w.ownsRow base e 1 v n xs) (s : ByteArray) (hbytes : n + s.size ≤ 140737488355328) (v' : Value) (w' : World)
    (hr' : (Builtin.append_ #[t, u] ty #[v, .string s]).run P w = .ok v' w') : v'.ownBlock = v.ownBlock ∨ v'.ownBlock = some w.heap.size := by
  have hxl : xs.length = n := by simpa using hown.1
  rcases hown.2 with ⟨rfl, rfl⟩ | ⟨g, cap, cur, rfl, hbg, hg, hnc, hcm, hcs, htake⟩
  · by_cases hm : s.size = 0
    · have hf := Lib.run_firstCells_string (P := P) w 1 s; rw [hm] at hf
      have hr : (Builtin.append_ #[t, u] ty #[.slice none 0 0, .string s]).run P w = .ok (.slice none 0 0) w := by
        simp [Builtin.append_, run_underlying ht, run_underlying hu, sizeOf, typeInfo, hi, hsize, Builtin.lenOf, hm, hf]
      rw [hr] at hr'; injection hr' with hv _
      rw [← hv]; exact .inl rfl
    · have hr := run_append_nil_string (P := P) w t u ty e i (.int .u8 0) ht hu hi hz s (by omega) (by omega) (by rw [hby]; omega); rw [hr] at hr'; injection hr' with hv _
      rw [← hv]; exact .inr rfl
  · by_cases hroom : n + s.size ≤ cap
    · have hcs' : cur.size = cap := by simpa using hcs
      have hr := Lib.run_append_room_string (P := P) w t u ty e i ht hu hi hsize g n cap cur hg s hroom (by omega); rw [hr] at hr'; injection hr' with hv _
      rw [← hv]; exact .inl rfl
    · have holds : ∀ j u, xs[j]? = some u → w.cell? ((⟨g, 0, none⟩ : Addr).add j) = some u := hown.cells (g := g) rfl; have hr := Lib.run_append_grow_string (P := P) w t u ty e i (.int .u8 0) ht hu hi hz ⟨g, 0, none⟩ n cap xs (by rw [hsize]; simpa using hxl) holds s (by omega) (by omega) (by rw [hby]; exact growslice_fits (by omega) (by omega)); rw [hr] at hr'; injection hr' with hv _
      rw [← hv]; exact .inr rfl
theorem wpList_append_str_at {P : Program} {w : World} {ops : Array Oper} {rest : List Oper} {o : Oper} {a : Act} {Q : Exit → Act → World → Prop} (hgd : o.guard = none) (sl x : Operand) (t u : TypeId)
    (ho : o.op = .call { callee := .builtin .append, args := #[sl, x], argTypes := #[t, u] })
    (base : Nat) (e : TypeId) (i : TypeInfo) (ht : P.underlying t = some (.slice e)) (hu : P.underlying u = some .string) (hi : P.info? e = some i) (hz : i.zero = some (.int .u8 0))
    (hsize : i.size = 1) (hby : i.bytes = 1)
    (v : Value) (n : Nat) (xs : List Value) (hs : a.eval sl = v) (hown : w.ownsRow base e 1 v n xs) (s : ByteArray) (hx : a.eval x = .string s)
    (h63 : n + s.size ≤ maxLen) (hbytes : n + s.size ≤ 140737488355328) (hbase : base ≤ w.heap.size)
    (h : ∀ v' w', w'.ownsRow base e 1 v' (n + s.size) (xs ++ Lib.strCells s) → w.grownBy w' v.ownBlock → (v'.ownBlock = v.ownBlock ∨ v'.ownBlock = some w.heap.size) → wpList P ops Q rest (a.put o.dst v') w') : wpList P ops Q (o :: rest) a w := by
  refine wpList_plain hgd fun K hK => ?_
  obtain ⟨v', w', hr, h2, h3, h4⟩ := Lib.run_append_own_string (P := P) w base t u o.type e i ht hu hi hz hsize hby v n xs hown s h63 hbytes hbase
  have hat := append_str_at w base t u o.type e i ht hu hi hz hsize hby v n xs hown s hbytes v' w' hr
  unfold Oper.wp execOp
  simp only [ho, resolve, invoke, builtin, Sem.run_bind, Sem.run_pure, Result.andThen_ok, List.map_toArray, List.map_cons, List.map_nil, hs, hx, hr]
  exact hK _ _ (h v' w' h2 h3 hat)
set_option maxHeartbeats 2000000 in
set_option maxRecDepth 100000 in
theorem WriteString_at (B b : Nat) (v : Value) (u : Bool) (bs : List UInt8) (s : ByteArray) (w : World) (h : Bd w B b v u bs) (hlen : bs.length + s.size ≤ 140737488355328) (hBw : B ≤ w.heap.size) :
    Calls Try.prog 35 #[.pointer (some ⟨b, 0, none⟩), .string s] w fun e w' => ∃ v', e = .returned (.tuple #[.int .i64 s.size, .nilIface]) ∧ Bd w' B b v' true (bs ++ s.data.toList) ∧ Below B w w' ∧ KeepBut w w' b v.ownBlock ∧ (v'.ownBlock = v.ownBlock ∨ ∃ k, v'.ownBlock = some k ∧ w.heap.size ≤ k) := by
  have infoB : (Try.prog.info? 5).map (fun i => (i.zero, i.size, i.bytes)) = some (some (.int .u8 0), 1, 1) := by kernel_rfl
  obtain ⟨i0, hi, hz0, hz1, hz2⟩ := info_parts infoB
  go_enter Try.func35, Try.ntmps35
  go_wp2_with (go_at_call 68; refine (copyCheck_any B b v u bs w h).mono ?_)
  rintro e w1 ⟨rfl, h1, hb1, hk1⟩
  obtain ⟨hB, hbk, hown⟩ := h1
  have hne := Bd.ne (u := true) ⟨hB, hbk, hown⟩
  have hlt := blk_lt hbk
  simp only [if_true] at hbk
  have c0 : w1.cell? ⟨b, 0, none⟩ = some (.pointer (some ⟨b, 0, none⟩)) := (blk_cell hbk 0).trans rfl
  have c1 : w1.cell? ⟨b, 1, none⟩ = some v := (blk_cell hbk 1).trans rfl
  go_wp2_with (at_builtin; refine wpList_append_str_at rfl _ _ 47 9 rfl B 5 i0 Try.underlying47 Try.underlying9 hi hz0 hz1 hz2 _ _ _ rfl hown s rfl ?c3 ?c4 ?c5 ?_)
  case c3 => unfold maxLen; omega
  case c4 => omega
  case c5 => have := hb1.size; omega
  intro v' w2 hown' hgrow hat
  have hb2 : w2.heap[b]? = some (.cells #[.pointer (some ⟨b, 0, none⟩), v] 71 (0, 0)) := blk_grown hbk hgrow (fun e => hne e.symm)
  have d0 : w2.cell? ⟨b, 0, none⟩ = some (.pointer (some ⟨b, 0, none⟩)) := (blk_cell hb2 0).trans rfl
  have d1 : w2.cell? ⟨b, 1, none⟩ = some v := (blk_cell hb2 1).trans rfl
  have f1 : w2.frozen? ⟨b, 1, none⟩ = false := blk_frozen hb2 1
  obtain ⟨ao, n', cap, rfl⟩ : ∃ ao n' cap, v' = .slice ao n' cap := by
    rcases hown'.2 with ⟨hv, _⟩ | ⟨g, cap, cur, hv, _⟩
    · exact ⟨_, _, _, hv⟩
    · exact ⟨_, _, _, hv⟩
  go_wp2
  go_ret2
  have hcells : Lib.byteCells (bs ++ s.data.toList) = Lib.byteCells bs ++ Lib.strCells s := by rw [Lib.byteCells_append, Lib.strCells_eq]
  have hl : (bs ++ s.data.toList).length = bs.length + s.size := by rw [List.length_append, Array.length_toList]; rfl
  have hown2 : w2.ownsRow B 5 1 (.slice ao n' cap) (bs ++ s.data.toList).length (Lib.byteCells (bs ++ s.data.toList)) := by rw [hcells, hl]; exact hown'
  have hne2 := Lib.ownBlock_ne hown2 hb2 (show (71 : Nat) ≠ 5 by decide)
  refine ⟨.slice ao n' cap, rfl, ⟨hB, blk_put hb2 1 _ rfl, own_move hown2 (fun k hk => Below.heap_setCell _ _ _ _ (fun e => hne2 (hk.trans (congrArg some e))))⟩, ?_, ?_, ?_⟩
  · exact (hb1.grown hgrow (by have := hb1.size; omega) (fun k hk => (hown.lt k hk).1)).setCell (p := ⟨b, 1, none⟩) hB _
  · refine ⟨Nat.le_trans hk1.1 (Nat.le_trans hgrow.size (by simp [World.setCell])), fun i hi h1 h2 => ?_⟩; rw [Below.heap_setCell _ _ _ _ h1, hgrow.block i (Nat.lt_of_lt_of_le hi hk1.1) h2]; exact hk1.2 i hi h1 (by simp)
  · rcases hat with h | h
    · exact .inl h
    · exact .inr ⟨_, h, hk1.1⟩
structure Two (w : World) (B f b : Nat) (vf vb : Value) (uf ub : Bool) (fs bs : List UInt8) : Prop where
  foot : Bd w B f vf uf fs
  body : Bd w B b vb ub bs
  ne : f ≠ b
  apart : ∀ k, vf.ownBlock = some k → vb.ownBlock ≠ some k
theorem Two.below {w w1 : World} {B f b : Nat} {vf vb : Value} {uf ub : Bool} {fs bs : List UInt8} (h : Two w B f b vf vb uf ub fs bs) (hb : Below w.heap.size w w1) : Two w1 B f b vf vb uf ub fs bs :=
  ⟨h.foot.below hb, h.body.below hb, h.ne, h.apart⟩
theorem Two.swap {w : World} {B f b : Nat} {vf vb : Value} {uf ub : Bool} {fs bs : List UInt8} (h : Two w B f b vf vb uf ub fs bs) : Two w B b f vb vf ub uf bs fs :=
  ⟨h.body, h.foot, fun e => h.ne e.symm, fun k hk e => h.apart k e hk⟩
theorem Two.wrote {w w1 : World} {B f b : Nat} {vf vb vf' : Value} {uf ub uf' : Bool} {fs bs fs' : List UInt8} (h : Two w B f b vf vb uf ub fs bs) (h1 : Bd w1 B f vf' uf' fs') (hk : KeepBut w w1 f vf.ownBlock) (hat : vf'.ownBlock = vf.ownBlock ∨ ∃ k, vf'.ownBlock = some k ∧ w.heap.size ≤ k) : Two w1 B f b vf' vb uf' ub fs' bs := by
  have hbf : vf.ownBlock ≠ some b := Lib.ownBlock_ne h.foot.2.2 h.body.2.1 (by decide)
  have hfb : vb.ownBlock ≠ some f := Lib.ownBlock_ne h.body.2.2 h.foot.2.1 (by decide)
  refine ⟨h1, h.body.step (hk.2 b h.body.lt (fun e => h.ne e.symm) (fun e => hbf e.symm)) (fun k hk' => ?_), h.ne, fun k hk' e => ?_⟩
  · refine hk.2 k (own_lt h.body.2.2 k hk') (fun e => hfb (by rw [hk', e])) (fun e => h.apart k e.symm hk')
  · rcases hat with h' | ⟨j, hj, hle⟩
    · exact h.apart k (h'.symm.trans hk') e
    · rw [hj] at hk'; injection hk' with hk'
      have := own_lt h.body.2.2 k e
      omega
set_option maxHeartbeats 2000000 in
set_option maxRecDepth 100000 in
theorem num_calls (kk B b : Nat) (v : Value) (u : Bool) (bs : List UInt8) (n : Int) (s : ByteArray) (er : Int) (w : World) (h : Bd w B b v u bs) (hp : varint_Put.f kk n = some (s, er)) (hlen : bs.length + s.size ≤ 140737488355328) (hBw : B ≤ w.heap.size) :
    Calls Try.prog 33 #[.int .i64 n, .pointer (some ⟨b, 0, none⟩)] w fun e w' => ∃ v', e = .returned (.tuple #[]) ∧ Bd w' B b v' true (bs ++ s.data.toList) ∧ Below B w w' ∧ KeepBut w w' b v.ownBlock ∧ (v'.ownBlock = v.ownBlock ∨ ∃ k, v'.ownBlock = some k ∧ w.heap.size ≤ k) := by
  have HH := Aside0.mk h
  have HP := Aside0.mk hp
  have HL := Aside0.mk hlen
  have HZ := Aside0.mk hBw
  clear h hp hlen hBw
  go_enter Try.func33, Try.ntmps33
  go_wp2_with (first | (go_at_call 35; go_loud ((refine (WriteString_at B b v u bs s _ (HH.out.below HB1.out) HL.out (Nat.le_trans HZ.out HB1.out.size)).mono ?_); rintro e w2 ⟨v2, rfl, h2, hb2, hk2, hat2⟩; have H2 := Aside0.mk h2; have HB2 := Aside0.mk hb2; have HK2 := Aside0.mk hk2; have HAT := Aside0.mk hat2; clear h2 hb2 hk2 hat2)) | (go_at_call 34; go_loud ((refine (varint_Put.calls kk n s er _ HP.out).mono ?_); rintro e w1 ⟨rfl, hb1⟩; have HB1 := Aside0.mk hb1; clear hb1)))
  refine bodyPost_end (v := .tuple #[]) (results_none (by rfl) _ _ _) rfl ?_
  have hb1 := HB1.out
  refine ⟨v2, rfl, H2.out, ⟨HB2.out.os.trans hb1.os, HB2.out.tape.trans hb1.tape, HB2.out.output.trans hb1.output, Nat.le_trans hb1.size HB2.out.size, fun k hk => (HB2.out.block k hk).trans (hb1.block k (Nat.lt_of_lt_of_le hk HZ.out))⟩, ⟨Nat.le_trans hb1.size HK2.out.1, fun i hi h1 h2 => (HK2.out.2 i (Nat.lt_of_lt_of_le hi hb1.size) h1 h2).trans (hb1.block i hi)⟩, ?_⟩
  rcases HAT.out with h | ⟨k, h, hle⟩
  · exact .inl h
  · exact .inr ⟨k, h, Nat.le_trans hb1.size hle⟩
set_option maxHeartbeats 2000000 in
set_option maxRecDepth 100000 in
theorem text_calls (kk B b : Nat) (v : Value) (u : Bool) (bs : List UInt8) (n s : ByteArray) (er : Int) (w : World) (h : Bd w B b v u bs) (hp : varint_Text.f kk n = some (s, er)) (hlen : bs.length + s.size ≤ 140737488355328) (hBw : B ≤ w.heap.size) :
    Calls Try.prog 36 #[.string n, .pointer (some ⟨b, 0, none⟩)] w fun e w' => ∃ v', e = .returned (.tuple #[]) ∧ Bd w' B b v' true (bs ++ s.data.toList) ∧ Below B w w' ∧ KeepBut w w' b v.ownBlock ∧ (v'.ownBlock = v.ownBlock ∨ ∃ k, v'.ownBlock = some k ∧ w.heap.size ≤ k) := by
  have HH := Aside0.mk h
  have HP := Aside0.mk hp
  have HL := Aside0.mk hlen
  have HZ := Aside0.mk hBw
  clear h hp hlen hBw
  go_enter Try.func36, Try.ntmps36
  go_wp2_with (first | (go_at_call 35; go_loud ((refine (WriteString_at B b v u bs s _ (HH.out.below HB1.out) HL.out (Nat.le_trans HZ.out HB1.out.size)).mono ?_); rintro e w2 ⟨v2, rfl, h2, hb2, hk2, hat2⟩; have H2 := Aside0.mk h2; have HB2 := Aside0.mk hb2; have HK2 := Aside0.mk hk2; have HAT := Aside0.mk hat2; clear h2 hb2 hk2 hat2)) | (go_at_call 37; go_loud ((refine (varint_Text.calls kk n s er _ HP.out).mono ?_); rintro e w1 ⟨rfl, hb1⟩; have HB1 := Aside0.mk hb1; clear hb1)))
  refine bodyPost_end (v := .tuple #[]) (results_none (by rfl) _ _ _) rfl ?_
  have hb1 := HB1.out
  refine ⟨v2, rfl, H2.out, ⟨HB2.out.os.trans hb1.os, HB2.out.tape.trans hb1.tape, HB2.out.output.trans hb1.output, Nat.le_trans hb1.size HB2.out.size, fun k hk => (HB2.out.block k hk).trans (hb1.block k (Nat.lt_of_lt_of_le hk HZ.out))⟩, ⟨Nat.le_trans hb1.size HK2.out.1, fun i hi h1 h2 => (HK2.out.2 i (Nat.lt_of_lt_of_le hi hb1.size) h1 h2).trans (hb1.block i hi)⟩, ?_⟩
  rcases HAT.out with h | ⟨k, h, hle⟩
  · exact .inl h
  · exact .inr ⟨k, h, Nat.le_trans hb1.size hle⟩
end Go.Proofs.Ytlmoafkmhenejaa.XA
end
