import Derived.Test.YtlgcnpdikchllaaXAx2
import Derived.Test.YtlgcnpdikchllaaXAx5
namespace Go.Proofs.Ytlgcnpdikchllaa.XA
open Go.RowKit Go.Proofs.YtlgcnpdikchllaaW.PrintWords Go.Proofs.YtlgcnpdikchllaaW.PrintLast Go.Proofs.YtlgcnpdikchllaaW.PrintMore Go.Proofs.Ytlgcnpdikchllaa.XW
set_option linter.unusedVariables false
set_option maxHeartbeats 1600000 in
set_option maxRecDepth 100000 in
theorem ftells_awake1 (k : Nat) (A0 : Option Addr) (c0 : Nat) (l0 : List ByteArray) (x a0 a1 a2 a3 : Int) (S : ByteArray) (ends : List Int) (w : World) (hr0 : Kd.C Kd.string w A0 l0.length l0) (hc0 : l0.length ≤ c0)
    (hall : sorrellaw03_all.f k l0 = some (S, ends, false)) (haw : sorrellaw03_awake.f k = some true) :
    Calls Try.prog 6 #[.slice A0 l0.length c0, .int .i64 x, .agg #[.int .u8 a0, .int .u8 a1, .int .u8 a2, .int .u8 a3]] w fun e w' => e = .returned (.bool true) ∧ Below w.heap.size w w' := by
  have HC0 := Aside0.mk hc0
  have A3 := Aside0.mk hall
  have HAW := Aside0.mk haw
  have HB0 := Aside0.mk (below_alloc (Below.refl w.heap.size w) (.cells #[.int .u8 a0, .int .u8 a1, .int .u8 a2, .int .u8 a3] 38))
  have HRa := Aside0.mk (Kd.C_alloc hr0 (.cells #[.int .u8 a0, .int .u8 a1, .int .u8 a2, .int .u8 a3] 38))
  clear hr0 hc0 hall haw
  go_enter Try.func6, Try.ntmps6
  go_wp2_with (first | (go_at_call 17; (refine (sorrellaw03_all.calls k _ _ l0 S ends false _ HRa.out HC0.out A3.out).mono ?_); rintro e w1 ⟨v1, rfl, ho1, hb1⟩; have HB1 := Aside0.mk (below_step HB0.out hb1); clear hb1 ho1) | (go_at_call 9; (refine (sorrellaw03_awake.calls k true _ HAW.out).mono ?_); rintro e w7 ⟨rfl, hb7⟩; have HB7 := Aside0.mk (below_step HB1.out hb7); clear hb7))
  go_ret
  exact ⟨rfl, HB7.out⟩
set_option maxHeartbeats 1600000 in
set_option maxRecDepth 100000 in
theorem ftells_awake2 (k : Nat) (A0 : Option Addr) (c0 : Nat) (l0 : List ByteArray) (x a0 a1 a2 a3 : Int) (S : ByteArray) (ends : List Int) (w : World) (hr0 : Kd.C Kd.string w A0 l0.length l0) (hc0 : l0.length ≤ c0)
    (hall : sorrellaw03_all.f k l0 = some (S, ends, true)) (hl0 : (l0.length : Int) = 0) (haw : sorrellaw03_awake.f k = some true) :
    Calls Try.prog 6 #[.slice A0 l0.length c0, .int .i64 x, .agg #[.int .u8 a0, .int .u8 a1, .int .u8 a2, .int .u8 a3]] w fun e w' => e = .returned (.bool true) ∧ Below w.heap.size w w' := by
  have HC0 := Aside0.mk hc0
  have A3 := Aside0.mk hall
  have HAW := Aside0.mk haw
  have HB0 := Aside0.mk (below_alloc (Below.refl w.heap.size w) (.cells #[.int .u8 a0, .int .u8 a1, .int .u8 a2, .int .u8 a3] 38))
  have HRa := Aside0.mk (Kd.C_alloc hr0 (.cells #[.int .u8 a0, .int .u8 a1, .int .u8 a2, .int .u8 a3] 38))
  have l1 : ((l0.length : Int) == 0) = true := beq_iff_eq.mpr hl0
  clear hr0 hc0 hall haw hl0
  go_enter Try.func6, Try.ntmps6
  go_wp2_with (first | (go_at_call 17; (refine (sorrellaw03_all.calls k _ _ l0 S ends true _ HRa.out HC0.out A3.out).mono ?_); rintro e w1 ⟨v1, rfl, ho1, hb1⟩; have HB1 := Aside0.mk (below_step HB0.out hb1); clear hb1 ho1) | (go_at_call 9; (refine (sorrellaw03_awake.calls k true _ HAW.out).mono ?_); rintro e w7 ⟨rfl, hb7⟩; have HB7 := Aside0.mk (below_step HB1.out hb7); clear hb7))
  go_ret
  exact ⟨rfl, HB7.out⟩
end Go.Proofs.Ytlgcnpdikchllaa.XA
