import Derived.Test.YtcfkmcbmambchaakSVLib
namespace Go.Proofs.Ytcfkmcbmambchaa.VLib
end Go.Proofs.Ytcfkmcbmambchaa.VLib
namespace Go.Proofs.YtcfkmcbmambchaaW.PrintWords
end Go.Proofs.YtcfkmcbmambchaaW.PrintWords
namespace Go.Proofs.YtcfkmcbmambchaaW.PrintLast
end Go.Proofs.YtcfkmcbmambchaaW.PrintLast
namespace Go.Proofs.YtcfkmcbmambchaaW.PrintMore
end Go.Proofs.YtcfkmcbmambchaaW.PrintMore
namespace Go.Proofs.Ytcfkmcbmambchaa.CLib
open Go.RowKit Go.Proofs.Ytcfkmcbmambchaa.VLib Go.Proofs.YtcfkmcbmambchaaW.PrintWords Go.Proofs.YtcfkmcbmambchaaW.PrintLast Go.Proofs.YtcfkmcbmambchaaW.PrintMore
def poly : BitVec 32 := 2197175160#32
def bstep (c : BitVec 32) : BitVec 32 := (c >>> 1) ^^^ (if c.getLsbD 0 then poly else 0#32)
def bsteps : Nat → BitVec 32 → BitVec 32
  | 0, c => c
  | n + 1, c => bsteps n (bstep c)
def wide (b : UInt8) : BitVec 32 := BitVec.ofNat 32 b.toNat
def cbyte (c : BitVec 32) (b : UInt8) : BitVec 32 := bsteps 8 (c ^^^ wide b)
def crcL (c : BitVec 32) (l : List UInt8) : BitVec 32 := l.foldl cbyte c
def crcM (s : BitVec 32) (l : List UInt8) : BitVec 32 := ~~~ crcL (~~~ s) l
theorem wraps_u32 (n : Int) (h₀ : 0 ≤ n) (h₁ : n < 2 ^ 32) : IntKind.u32.wrap n = n := by rw [IntKind.wrap_u32]; omega
theorem ofInt_toNat (c : BitVec 32) : BitVec.ofInt 32 (c.toNat : Int) = c := by
  rw [BitVec.ofInt_natCast, BitVec.ofNat_toNat]; simp
theorem xor_u32 (c d : BitVec 32) : Go.bits .xor .u32 (c.toNat : Int) (d.toNat : Int) = ((c ^^^ d).toNat : Int) := by
  have h : Go.bits .xor .u32 (c.toNat : Int) (d.toNat : Int) = IntKind.u32.wrap (((BitVec.ofInt 32 (c.toNat : Int)) ^^^ (BitVec.ofInt 32 (d.toNat : Int))).toNat : Int) := rfl
  rw [h, ofInt_toNat, ofInt_toNat]
  have := (c ^^^ d).isLt
  exact wraps_u32 _ (by omega) (by omega)
theorem and1_u32 (c : BitVec 32) : Go.bits .and .u32 (c.toNat : Int) 1 = ((c.toNat % 2 : Nat) : Int) := by
  have := c.isLt
  have h := (bits_nat .u32 32 (by decide) wraps_u32 c.toNat 1 (by omega) (by decide)).1
  rw [show ((1 : Nat) : Int) = 1 from rfl] at h
  rw [h, Nat.and_one_is_mod]
theorem and1_i64 (a : Nat) (ha : a < 9223372036854775808) : Go.bits .and .i64 (a : Int) 1 = ((a % 2 : Nat) : Int) := by
  have h := (bits_nat .i64 63 (by decide) wraps_i64 a 1 (by omega) (by decide)).1
  rw [show ((1 : Nat) : Int) = 1 from rfl] at h
  rw [h, Nat.and_one_is_mod]
theorem bit0 (c : BitVec 32) : c.getLsbD 0 = decide (c.toNat % 2 = 1) := by
  rw [BitVec.getLsbD, Nat.testBit_zero]
theorem half (c : BitVec 32) : ((c >>> 1).toNat : Int) = (c.toNat : Int) / 2 := by
  rw [BitVec.toNat_ushiftRight, Nat.shiftRight_eq_div_pow]; omega
theorem bstep_one (c : BitVec 32) (h : c.toNat % 2 = 1) : bstep c = (c >>> 1) ^^^ poly := by
  unfold bstep; rw [bit0, if_pos (by simpa using h)]
theorem bstep_zero (c : BitVec 32) (h : ¬ c.toNat % 2 = 1) : bstep c = c >>> 1 := by
  unfold bstep; rw [bit0, if_neg (by simpa using h)]; simp
theorem poly_toNat : ((2197175160 : Int)) = (poly.toNat : Int) := rfl
theorem ones_xor (c : BitVec 32) : Go.bits .xor .u32 4294967295 (c.toNat : Int) = ((~~~ c).toNat : Int) := by
  have h := xor_u32 (BitVec.allOnes 32) c
  rw [BitVec.allOnes_xor] at h
  exact h
theorem low32 (x : Int) : Go.bits .and .i64 x 4294967295 = ((BitVec.ofInt 32 x).toNat : Int) := by
  have h : Go.bits .and .i64 x 4294967295 = IntKind.i64.wrap (((BitVec.ofInt 64 x) &&& (BitVec.ofInt 64 ((4294967295 : Nat) : Int))).toNat : Int) := rfl
  have e : ((BitVec.ofInt 64 x) &&& (BitVec.ofInt 64 ((4294967295 : Nat) : Int))).toNat = (BitVec.ofInt 32 x).toNat := by
    rw [BitVec.toNat_and, BitVec.ofInt_natCast, BitVec.toNat_ofNat, show 4294967295 % 2 ^ 64 = 2 ^ 32 - 1 from rfl, Nat.and_two_pow_sub_one_eq_mod, BitVec.toNat_ofInt, BitVec.toNat_ofInt]
    omega
  have := (BitVec.ofInt 32 x).isLt
  rw [h, e]
  exact wraps_i64 _ (by omega) (by omega)
theorem wide_bt (s : ByteArray) (i : Nat) (h : i < s.data.toList.length) : bt s (i : Int) = ((wide (s.data.toList[i]'h)).toNat : Int) := by
  have hb := (s.data.toList[i]'h).toNat_lt
  rw [bt_list s i h]
  unfold wide
  rw [BitVec.toNat_ofNat, Nat.mod_eq_of_lt (by omega)]
theorem bstep_xor (a b : BitVec 32) : bstep (a ^^^ b) = bstep a ^^^ bstep b := by
  unfold bstep
  rw [BitVec.ushiftRight_xor_distrib, BitVec.getLsbD_xor]
  have e : ∀ x y p : BitVec 32, x ^^^ y = x ^^^ p ^^^ (y ^^^ p) := fun x y p => by
    rw [show x ^^^ p ^^^ (y ^^^ p) = x ^^^ y ^^^ (p ^^^ p) by ac_rfl, BitVec.xor_self, BitVec.xor_zero]
  cases a.getLsbD 0 <;> cases b.getLsbD 0
  · simp
  · simp only [Bool.false_xor, Bool.false_eq_true, if_true, if_false]; rw [BitVec.xor_zero]; ac_rfl
  · simp only [Bool.xor_false, Bool.false_eq_true, if_true, if_false]; rw [BitVec.xor_zero]; ac_rfl
  · simp only [Bool.xor_self, Bool.false_eq_true, if_true, if_false]; rw [BitVec.xor_zero]; exact e _ _ _
theorem bsteps_xor (n : Nat) : ∀ a b : BitVec 32, bsteps n (a ^^^ b) = bsteps n a ^^^ bsteps n b := by
  induction n with
  | zero => intro a b; rfl
  | succ n ih => intro a b; simp only [bsteps]; rw [bstep_xor, ih]
theorem bstep_null : bstep 0#32 = 0#32 := by decide
theorem bstep_inj0 (c : BitVec 32) (h : bstep c = 0#32) : c = 0#32 := by
  unfold bstep at h
  by_cases b : c.getLsbD 0 = true
  · rw [if_pos b] at h
    have h2 := congrArg (fun x : BitVec 32 => x.getLsbD 31) h
    simp [poly] at h2
  · rw [if_neg b, BitVec.xor_zero] at h
    apply BitVec.eq_of_getLsbD_eq
    intro i hi
    cases i with
    | zero => simpa using b
    | succ i =>
      have h2 := congrArg (fun x : BitVec 32 => x.getLsbD i) h
      simp only [BitVec.getLsbD_ushiftRight, BitVec.getLsbD_zero] at h2
      rw [Nat.add_comm] at h2
      rw [h2]; simp
theorem bsteps_inj0 (n : Nat) : ∀ c : BitVec 32, bsteps n c = 0#32 → c = 0#32 := by
  induction n with
  | zero => intro c h; exact h
  | succ n ih => intro c h; exact bstep_inj0 c (ih _ h)
theorem bsteps_null (n : Nat) : bsteps n 0#32 = 0#32 := by
  induction n with
  | zero => rfl
  | succ n ih => simp only [bsteps]; rw [bstep_null, ih]
theorem wide_xor (a b : UInt8) : wide (a ^^^ b) = wide a ^^^ wide b := by
  apply BitVec.eq_of_toNat_eq
  have ha := a.toNat_lt
  have hb := b.toNat_lt
  have hx : a.toNat ^^^ b.toNat < 2 ^ 8 := Nat.xor_lt_two_pow ha hb
  unfold wide
  rw [BitVec.toNat_xor, BitVec.toNat_ofNat, BitVec.toNat_ofNat, BitVec.toNat_ofNat, UInt8.toNat_xor, Nat.mod_eq_of_lt (by omega), Nat.mod_eq_of_lt (by omega), Nat.mod_eq_of_lt (by omega)]
theorem wide_null : wide 0 = 0#32 := rfl
theorem cbyte_xor (c d : BitVec 32) (a b : UInt8) : cbyte (c ^^^ d) (a ^^^ b) = cbyte c a ^^^ cbyte d b := by
  unfold cbyte
  rw [wide_xor, ← bsteps_xor]
  congr 1
  rw [BitVec.xor_assoc, BitVec.xor_assoc, ← BitVec.xor_assoc d, BitVec.xor_comm d, BitVec.xor_assoc]
def xs2 (a b : List UInt8) : List UInt8 := List.zipWith (· ^^^ ·) a b
theorem crcL_xor : ∀ (a b : List UInt8) (c d : BitVec 32), a.length = b.length → crcL (c ^^^ d) (xs2 a b) = crcL c a ^^^ crcL d b := by
  intro a
  induction a with
  | nil => intro b c d h; cases b with
    | nil => rfl
    | cons => simp at h
  | cons x a ih =>
    intro b c d h
    cases b with
    | nil => simp at h
    | cons y b =>
      have := ih b (cbyte c x) (cbyte d y) (by simpa using h)
      rw [← cbyte_xor] at this
      exact this
theorem xs2_len (a b : List UInt8) (h : a.length = b.length) : (xs2 a b).length = a.length := by unfold xs2; rw [List.length_zipWith]; omega
theorem crcL_nulls (n : Nat) : crcL 0#32 (List.replicate n 0) = 0#32 := by
  induction n with
  | zero => rfl
  | succ n ih =>
    rw [List.replicate_succ]
    show crcL (cbyte 0#32 0) _ = _
    rw [show cbyte 0#32 0 = 0#32 from by unfold cbyte; rw [wide_null, BitVec.xor_zero, bsteps_null]]
    exact ih
theorem crcL_inj0 (n : Nat) : ∀ c : BitVec 32, crcL c (List.replicate n 0) = 0#32 → c = 0#32 := by
  induction n with
  | zero => intro c h; exact h
  | succ n ih =>
    intro c h
    rw [List.replicate_succ] at h
    have h1 := ih _ h
    unfold cbyte at h1
    rw [wide_null, BitVec.xor_zero] at h1
    exact bsteps_inj0 8 c h1
def low (l : List UInt8) : BitVec 32 := match l with
  | [] => 0#32
  | b :: r => wide b ^^^ (low r <<< 8)
theorem bsteps8_shl (x : BitVec 32) (h : x.toNat < 2 ^ 24) : bsteps 8 (x <<< 8) = x := by
  have one : ∀ (n : Nat) (y : BitVec 32), n ≤ 7 → y.toNat < 2 ^ 24 → bstep (y <<< (n + 1)) = y <<< n := by
    intro n y hn hy
    have ht : (y <<< (n + 1)).toNat = y.toNat * 2 ^ (n + 1) := by
      rw [BitVec.toNat_shiftLeft, Nat.shiftLeft_eq, Nat.mod_eq_of_lt]
      have : 2 ^ (n + 1) ≤ 2 ^ 8 := Nat.pow_le_pow_right (by decide) (by omega)
      calc y.toNat * 2 ^ (n + 1) ≤ y.toNat * 2 ^ 8 := Nat.mul_le_mul_left _ this
        _ < 2 ^ 24 * 2 ^ 8 := Nat.mul_lt_mul_of_pos_right hy (by decide)
        _ = 2 ^ 32 := rfl
    rw [bstep_zero _ (by rw [ht, Nat.pow_succ, ← Nat.mul_assoc, Nat.mul_mod_left]; decide)]
    apply BitVec.eq_of_toNat_eq
    rw [BitVec.toNat_ushiftRight, ht, Nat.shiftRight_eq_div_pow, BitVec.toNat_shiftLeft, Nat.shiftLeft_eq, Nat.pow_succ 2 n, ← Nat.mul_assoc, Nat.pow_one, Nat.mul_div_cancel _ (by decide), Nat.mod_eq_of_lt]
    have : 2 ^ n ≤ 2 ^ 7 := Nat.pow_le_pow_right (by decide) hn
    calc y.toNat * 2 ^ n ≤ y.toNat * 2 ^ 7 := Nat.mul_le_mul_left _ this
      _ < 2 ^ 24 * 2 ^ 7 := Nat.mul_lt_mul_of_pos_right hy (by decide)
      _ < 2 ^ 32 := by decide
  have go : ∀ n, n ≤ 8 → bsteps n (x <<< n) = x := by
    intro n
    induction n with
    | zero => intro _; show x <<< 0 = x; simp
    | succ n ih => intro hn; simp only [bsteps]; rw [one n x (by omega) h]; exact ih (by omega)
  exact go 8 (by omega)
theorem bsteps_add (m : Nat) : ∀ (n : Nat) (c : BitVec 32), bsteps (m + n) c = bsteps n (bsteps m c) := by
  induction m with
  | zero => intro n c; rw [Nat.zero_add]; rfl
  | succ m ih => intro n c; rw [Nat.succ_add]; exact ih n (bstep c)
theorem low_lt : ∀ (l : List UInt8), l.length ≤ 4 → (low l).toNat < 2 ^ (8 * l.length) := by
  intro l
  induction l with
  | nil => intro _; decide
  | cons b r ih =>
    intro h
    have h1 := ih (by simp at h; omega)
    have hb := b.toNat_lt
    simp only [low, List.length_cons]
    rw [BitVec.toNat_xor]
    apply Nat.xor_lt_two_pow
    · unfold wide; rw [BitVec.toNat_ofNat, Nat.mod_eq_of_lt (by omega)]
      calc b.toNat < 2 ^ 8 := hb
        _ ≤ 2 ^ (8 * (r.length + 1)) := Nat.pow_le_pow_right (by decide) (by omega)
    · rw [BitVec.toNat_shiftLeft, Nat.shiftLeft_eq]
      refine Nat.lt_of_le_of_lt (Nat.mod_le _ _) ?_
      rw [show 8 * (r.length + 1) = 8 * r.length + 8 from rfl, Nat.pow_add]
      exact Nat.mul_lt_mul_of_pos_right h1 (by decide)
theorem crcL_low : ∀ (l : List UInt8) (c : BitVec 32), l.length ≤ 4 → crcL c l = bsteps (8 * l.length) (c ^^^ low l) := by
  intro l
  induction l with
  | nil => intro c _; show c = bsteps 0 (c ^^^ 0#32); rw [BitVec.xor_zero]; rfl
  | cons b r ih =>
    intro c h
    have hr : r.length ≤ 3 := by simp at h; omega
    have h1 : crcL c (b :: r) = crcL (cbyte c b) r := rfl
    rw [h1, ih _ (by omega), List.length_cons, show 8 * (r.length + 1) = 8 + 8 * r.length from by omega, bsteps_add]
    congr 1
    have h24 : (low r).toNat < 2 ^ 24 := Nat.lt_of_lt_of_le (low_lt r (by omega)) (Nat.pow_le_pow_right (by decide) (by omega))
    show _ = bsteps 8 (c ^^^ (wide b ^^^ (low r <<< 8)))
    rw [← BitVec.xor_assoc, bsteps_xor, bsteps8_shl _ h24]
    rfl
theorem low_inj0 : ∀ (l : List UInt8), l.length ≤ 4 → low l = 0#32 → ∀ b ∈ l, b = 0 := by
  intro l
  induction l with
  | nil => intro _ _ b hb; simp at hb
  | cons x r ih =>
    intro h e b hb
    have hr : r.length ≤ 3 := by simp at h; omega
    have h24 : (low r).toNat < 2 ^ 24 := Nat.lt_of_lt_of_le (low_lt r (by omega)) (Nat.pow_le_pow_right (by decide) (by omega))
    have e2 : wide x = low r <<< 8 := by
      have : wide x ^^^ (low r <<< 8) = 0#32 := e
      exact BitVec.xor_eq_zero_iff.1 this
    have t := congrArg BitVec.toNat e2
    have hx := x.toNat_lt
    rw [BitVec.toNat_shiftLeft, Nat.shiftLeft_eq, Nat.mod_eq_of_lt (by omega)] at t
    unfold wide at t
    rw [BitVec.toNat_ofNat, Nat.mod_eq_of_lt (by omega)] at t
    have hl : (low r).toNat = 0 := by omega
    rcases List.mem_cons.1 hb with rfl | hb
    · apply UInt8.toNat_inj.1; show b.toNat = 0; omega
    · exact ih (by omega) (BitVec.eq_of_toNat_eq (by simpa using hl)) b hb
theorem crcL_burst (m n : Nat) (d : List UInt8) (h : d.length ≤ 4) (e : crcL 0#32 (List.replicate m 0 ++ d ++ List.replicate n 0) = 0#32) : ∀ b ∈ d, b = 0 := by
  have h1 : crcL 0#32 (List.replicate m 0 ++ d ++ List.replicate n 0) = crcL (crcL (crcL 0#32 (List.replicate m 0)) d) (List.replicate n 0) := by
    unfold crcL; rw [List.foldl_append, List.foldl_append]
  rw [h1, crcL_nulls] at e
  have e2 := crcL_inj0 n _ e
  rw [crcL_low d _ h, BitVec.zero_xor] at e2
  exact low_inj0 d h (bsteps_inj0 _ _ e2)
theorem crcM_diff (a b : List UInt8) (h : a.length = b.length) : crcM 0#32 a = crcM 0#32 b ↔ crcL 0#32 (xs2 a b) = 0#32 := by
  have e := crcL_xor a b (~~~ 0#32) (~~~ 0#32) h
  rw [BitVec.xor_self] at e
  rw [e, BitVec.xor_eq_zero_iff]
  unfold crcM
  constructor
  · intro h; have := congrArg (fun x => ~~~ x) h; simpa using this
  · intro h; rw [h]
end Go.Proofs.Ytcfkmcbmambchaa.CLib
