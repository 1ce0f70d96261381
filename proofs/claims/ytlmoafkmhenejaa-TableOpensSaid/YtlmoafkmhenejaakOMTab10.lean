import Derived.Test.YtlmoafkmhenejaakOMTab4
import Derived.Test.YtlmoafkmhenejaakOVLib
section
namespace Go.Proofs.Ytlmoafkmhenejaa.VLib
end Go.Proofs.Ytlmoafkmhenejaa.VLib
namespace Go.Proofs.Ytlmoafkmhenejaa.Bld
end Go.Proofs.Ytlmoafkmhenejaa.Bld
namespace Go.Proofs.YtlmoafkmhenejaaW.PrintWords
end Go.Proofs.YtlmoafkmhenejaaW.PrintWords
namespace Go.Proofs.YtlmoafkmhenejaaW.PrintLast
end Go.Proofs.YtlmoafkmhenejaaW.PrintLast
namespace Go.Proofs.YtlmoafkmhenejaaW.PrintMore
end Go.Proofs.YtlmoafkmhenejaaW.PrintMore
namespace Go.Proofs.Ytlmoafkmhenejaa.XW
end Go.Proofs.Ytlmoafkmhenejaa.XW
namespace Go.Proofs.Ytlmoafkmhenejaa.XA
open Go.Proofs.Ytlmoafkmhenejaa.VLib Go.Proofs.Ytlmoafkmhenejaa.Bld Go.RowKit Go.Proofs.YtlmoafkmhenejaaW.PrintWords Go.Proofs.YtlmoafkmhenejaaW.PrintLast Go.Proofs.YtlmoafkmhenejaaW.PrintMore Go.Proofs.Ytlmoafkmhenejaa.XW
attribute [local go_sem high] max2_str unary_xor_u32 leq_str geq_str gtr_str
attribute [local go_sem] max2_int min2_int max_two min_two max_three min_three max_four min_four
set_option linter.unusedVariables false
set_option linter.unusedSimpArgs false
structure S38 where
  f0 : ByteArray
  f1 : ByteArray
def k38 : Kd S38 := Kd.iso (Kd.pair Kd.string Kd.string) (fun x : S38 => (x.f0, x.f1))
end Go.Proofs.Ytlmoafkmhenejaa.XA
end
section
namespace Go.Proofs.Ytlmoafkmhenejaa.VLib
end Go.Proofs.Ytlmoafkmhenejaa.VLib
namespace Go.Proofs.YtlmoafkmhenejaaW.PrintWords
end Go.Proofs.YtlmoafkmhenejaaW.PrintWords
namespace Go.Proofs.YtlmoafkmhenejaaW.PrintLast
end Go.Proofs.YtlmoafkmhenejaaW.PrintLast
namespace Go.Proofs.YtlmoafkmhenejaaW.PrintMore
end Go.Proofs.YtlmoafkmhenejaaW.PrintMore
namespace Go.Proofs.Ytlmoafkmhenejaa.CLib
open Go.RowKit Go.Proofs.Ytlmoafkmhenejaa.VLib Go.Proofs.YtlmoafkmhenejaaW.PrintWords Go.Proofs.YtlmoafkmhenejaaW.PrintLast Go.Proofs.YtlmoafkmhenejaaW.PrintMore
def poly : BitVec 32 := 2197175160#32
def bstep (c : BitVec 32) : BitVec 32 := (c >>> 1) ^^^ (if c.getLsbD 0 then poly else 0#32)
def bsteps : Nat → BitVec 32 → BitVec 32
  | 0, c => c
  | n + 1, c => bsteps n (bstep c)
def wide (b : UInt8) : BitVec 32 := BitVec.ofNat 32 b.toNat
def cbyte (c : BitVec 32) (b : UInt8) : BitVec 32 := bsteps 8 (c ^^^ wide b)
def crcL (c : BitVec 32) (l : List UInt8) : BitVec 32 := l.foldl cbyte c
def crcM (s : BitVec 32) (l : List UInt8) : BitVec 32 := ~~~ crcL (~~~ s) l
theorem wraps_u32 (n : Int) (h₀ : 0 ≤ n) (h₁ : n < 2 ^ 32) : IntKind.u32.wrap n = n := by rw [IntKind.wrap_u32]; omega
theorem ofInt_toNat (c : BitVec 32) : BitVec.ofInt 32 (c.toNat : Int) = c := by
  rw [BitVec.ofInt_natCast, BitVec.ofNat_toNat]; simp
theorem xor_u32 (c d : BitVec 32) : Go.bits .xor .u32 (c.toNat : Int) (d.toNat : Int) = ((c ^^^ d).toNat : Int) := by
  have h : Go.bits .xor .u32 (c.toNat : Int) (d.toNat : Int) = IntKind.u32.wrap (((BitVec.ofInt 32 (c.toNat : Int)) ^^^ (BitVec.ofInt 32 (d.toNat : Int))).toNat : Int) := rfl
  rw [h, ofInt_toNat, ofInt_toNat]
  have := (c ^^^ d).isLt
  exact wraps_u32 _ (by omega) (by omega)
theorem and1_u32 (c : BitVec 32) : Go.bits .and .u32 (c.toNat : Int) 1 = ((c.toNat % 2 : Nat) : Int) := by
  have := c.isLt
  have h := (bits_nat .u32 32 (by decide) wraps_u32 c.toNat 1 (by omega) (by decide)).1
  rw [show ((1 : Nat) : Int) = 1 from rfl] at h
  rw [h, Nat.and_one_is_mod]
theorem xor_i64 (a b : Nat) (ha : a < 9223372036854775808) (hb : b < 9223372036854775808) : Go.bits .xor .i64 (a : Int) (b : Int) = ((a ^^^ b : Nat) : Int) := by
  have h : Go.bits .xor .i64 (a : Int) (b : Int) = IntKind.i64.wrap (((BitVec.ofInt 64 (a : Int)) ^^^ (BitVec.ofInt 64 (b : Int))).toNat : Int) := rfl
  have hx : a ^^^ b < 2 ^ 63 := Nat.xor_lt_two_pow (by omega) (by omega)
  rw [h, BitVec.ofInt_natCast, BitVec.ofInt_natCast, BitVec.toNat_xor, BitVec.toNat_ofNat, BitVec.toNat_ofNat, Nat.mod_eq_of_lt (by omega), Nat.mod_eq_of_lt (by omega)]
  exact wraps_i64 _ (by omega) (by omega)
theorem xor_i64_bv (c d : BitVec 32) : Go.bits .xor .i64 (c.toNat : Int) (d.toNat : Int) = ((c ^^^ d).toNat : Int) := by
  have h1 := c.isLt
  have h2 := d.isLt
  rw [xor_i64 _ _ (by omega) (by omega), BitVec.toNat_xor]
theorem and1_i64 (a : Nat) (ha : a < 9223372036854775808) : Go.bits .and .i64 (a : Int) 1 = ((a % 2 : Nat) : Int) := by
  have h := (bits_nat .i64 63 (by decide) wraps_i64 a 1 (by omega) (by decide)).1
  rw [show ((1 : Nat) : Int) = 1 from rfl] at h
  rw [h, Nat.and_one_is_mod]
theorem bit0 (c : BitVec 32) : c.getLsbD 0 = decide (c.toNat % 2 = 1) := by
  rw [BitVec.getLsbD, Nat.testBit_zero]
theorem half (c : BitVec 32) : ((c >>> 1).toNat : Int) = (c.toNat : Int) / 2 := by
  rw [BitVec.toNat_ushiftRight, Nat.shiftRight_eq_div_pow]; omega
theorem bstep_one (c : BitVec 32) (h : c.toNat % 2 = 1) : bstep c = (c >>> 1) ^^^ poly := by
  unfold bstep; rw [bit0, if_pos (by simpa using h)]
theorem bstep_zero (c : BitVec 32) (h : ¬ c.toNat % 2 = 1) : bstep c = c >>> 1 := by
  unfold bstep; rw [bit0, if_neg (by simpa using h)]; simp
theorem poly_toNat : ((2197175160 : Int)) = (poly.toNat : Int) := rfl
theorem ones_xor (c : BitVec 32) : Go.bits .xor .u32 4294967295 (c.toNat : Int) = ((~~~ c).toNat : Int) := by
  have h := xor_u32 (BitVec.allOnes 32) c
  rw [BitVec.allOnes_xor] at h
  exact h
theorem ones_xor64 (c : BitVec 32) : Go.bits .xor .i64 (c.toNat : Int) 4294967295 = ((~~~ c).toNat : Int) := by
  have h := xor_i64_bv c (BitVec.allOnes 32)
  rw [BitVec.xor_allOnes] at h
  exact h
theorem low32 (x : Int) : Go.bits .and .i64 x 4294967295 = ((BitVec.ofInt 32 x).toNat : Int) := by
  have h : Go.bits .and .i64 x 4294967295 = IntKind.i64.wrap (((BitVec.ofInt 64 x) &&& (BitVec.ofInt 64 ((4294967295 : Nat) : Int))).toNat : Int) := rfl
  have e : ((BitVec.ofInt 64 x) &&& (BitVec.ofInt 64 ((4294967295 : Nat) : Int))).toNat = (BitVec.ofInt 32 x).toNat := by
    rw [BitVec.toNat_and, BitVec.ofInt_natCast, BitVec.toNat_ofNat, show 4294967295 % 2 ^ 64 = 2 ^ 32 - 1 from rfl, Nat.and_two_pow_sub_one_eq_mod, BitVec.toNat_ofInt, BitVec.toNat_ofInt]
    omega
  have := (BitVec.ofInt 32 x).isLt
  rw [h, e]
  exact wraps_i64 _ (by omega) (by omega)
theorem wide_bt (s : ByteArray) (i : Nat) (h : i < s.data.toList.length) : bt s (i : Int) = ((wide (s.data.toList[i]'h)).toNat : Int) := by
  have hb := (s.data.toList[i]'h).toNat_lt
  rw [bt_list s i h]
  unfold wide
  rw [BitVec.toNat_ofNat, Nat.mod_eq_of_lt (by omega)]
def low (l : List UInt8) : BitVec 32 := match l with
  | [] => 0#32
  | b :: r => wide b ^^^ (low r <<< 8)
end Go.Proofs.Ytlmoafkmhenejaa.CLib
end
