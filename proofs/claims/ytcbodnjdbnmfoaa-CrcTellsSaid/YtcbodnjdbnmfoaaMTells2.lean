import Derived.Test.YtcbodnjdbnmfoaaXAx3
namespace Go.Proofs.Ytcbodnjdbnmfoaa.XA
open Go.RowKit Go.Proofs.YtcbodnjdbnmfoaaW.PrintWords Go.Proofs.YtcbodnjdbnmfoaaW.PrintLast Go.Proofs.YtcbodnjdbnmfoaaW.PrintMore Go.Proofs.Ytcbodnjdbnmfoaa.XW
set_option linter.unusedVariables false
set_option maxHeartbeats 1600000 in
set_option maxRecDepth 100000 in
theorem tells_awake (k : Nat) (s : ByteArray) (x a0 a1 a2 a3 : Int) (w : World) (h : s.size = 0 ∨ 4096 < s.size) (hs : sorrellaw02_seals.f k = some true) :
    Calls Try.prog 8 #[.string s, .int .i64 x, .agg #[.int .u8 a0, .int .u8 a1, .int .u8 a2, .int .u8 a3]] w fun e w' => e = .returned (.bool true) ∧ Below w.heap.size w w' := by
  have HS := Aside0.mk hs
  have HB0 := Aside0.mk (below_alloc (Below.refl w.heap.size w) (.cells #[.int .u8 a0, .int .u8 a1, .int .u8 a2, .int .u8 a3] 27))
  clear hs
  by_cases c : s.size = 0
  · have q0 : ((s.size : Int) == 0) = true := beq_iff_eq.mpr (by omega)
    have q1 : (s.size : Int) = 0 := by omega
    clear h
    go_enter Try.func8, Try.ntmps8
    go_wp2_with (go_at_call 14; (refine (sorrellaw02_seals.calls k true _ HS.out).mono ?_); rintro e w6 ⟨rfl, hb6⟩; have HB6 := Aside0.mk (below_step HB0.out hb6); clear hb6)
    go_ret
    exact ⟨rfl, HB6.out⟩
  · have q0 : ((s.size : Int) == 0) = false := beq_eq_false_iff_ne.mpr (by omega)
    have q1 : decide (4096 < (s.size : Int)) = true := decide_eq_true (by omega)
    have q2 : decide (4096 < s.size) = true := decide_eq_true (by omega)
    clear h
    go_enter Try.func8, Try.ntmps8
    go_wp2_with (go_at_call 14; (refine (sorrellaw02_seals.calls k true _ HS.out).mono ?_); rintro e w6 ⟨rfl, hb6⟩; have HB6 := Aside0.mk (below_step HB0.out hb6); clear hb6)
    go_ret
    exact ⟨rfl, HB6.out⟩
end Go.Proofs.Ytcbodnjdbnmfoaa.XA
