import Derived.Test.YtgcehbigcokpaaakPMBag0
namespace Go.Proofs.YtgcehbigcokpaaaW.PrintWords
end Go.Proofs.YtgcehbigcokpaaaW.PrintWords
namespace Go.Proofs.YtgcehbigcokpaaaW.PrintLast
end Go.Proofs.YtgcehbigcokpaaaW.PrintLast
namespace Go.Proofs.YtgcehbigcokpaaaW.PrintMore
end Go.Proofs.YtgcehbigcokpaaaW.PrintMore
namespace Go.Proofs.Ytgcehbigcokpaaa.XW
end Go.Proofs.Ytgcehbigcokpaaa.XW
namespace Go.Proofs.Ytgcehbigcokpaaa.XA
open Go.RowKit Go.Proofs.YtgcehbigcokpaaaW.PrintWords Go.Proofs.YtgcehbigcokpaaaW.PrintLast Go.Proofs.YtgcehbigcokpaaaW.PrintMore Go.Proofs.Ytgcehbigcokpaaa.XW
attribute [local go_sem high] max2_str unary_xor_u32 leq_str geq_str gtr_str
attribute [local go_sem] max2_int min2_int max_two min_two max_three min_three max_four min_four
set_option linter.unusedVariables false
set_option linter.unusedSimpArgs false
set_option maxHeartbeats 1600000 in
set_option maxRecDepth 100000 in
theorem index_calls (A0 : Option Addr) (c0 : Nat) (l0 : List Int) (n : Int) (W : World) (hr : Kd.C (Kd.int .i64) W A0 l0.length l0) :
    Calls Try.prog 34 #[.slice A0 l0.length c0, .int .i64 n] W fun e w' => (∃ r : Int, e = .returned (.int .i64 r) ∧ (0 ≤ r ↔ n ∈ l0)) ∧ w' = W := by
  have HR := Aside0.mk hr
  have HN := Aside0.mk (Kd.C_max hr)
  clear hr
  go_enter Try.func34, Try.ntmps34
  go_wp2
  go_loopg [8] l0.length (fun kq v8 w' => ∃ (i : Nat), v8 = .int .i64 (i : Int) ∧ Aside0 (i + kq = l0.length) ∧ Aside0 (n ∉ l0.take i) ∧ Aside0 (w' = W))
  case atStart => exact ⟨0, rfl, ⟨Nat.zero_add _⟩, ⟨by simp⟩, ⟨rfl⟩⟩
  case round =>
    obtain ⟨i, rfl, HI, HA, HW⟩ := hrel
    have hw' := HW.out
    subst hw'
    have hI := HI.out
    have hn := HN.out
    cases gk with
    | zero =>
      have c1b : decide ((i : Int) < (l0.length : Int)) = false := decide_eq_false (by omega)
      have c1n : decide (i < l0.length) = false := decide_eq_false (by omega)
      have hA := HA.out
      rw [List.take_of_length_le (by omega)] at hA
      have HA2 := Aside0.mk hA
      clear hI hn hA
      go_wp2
      go_ret
      exact ⟨⟨_, rfl, ⟨fun h => absurd h (by decide), fun h => absurd h HA2.out⟩⟩, rfl⟩
    | succ k1 =>
      have hlt : i < l0.length := by omega
      have c1b : decide ((i : Int) < (l0.length : Int)) = true := decide_eq_true (by omega)
      have c1n : decide (i < l0.length) = true := decide_eq_true (by omega)
      have q1 : (i < l0.length) = True := eq_true (by omega)
      obtain ⟨ad, ea, hx⟩ := Kd.at_int HR.out (i : Int) (by omega) (by omega)
      subst ea
      rw [Int.toNat_natCast] at hx
      have hrd : rd l0 (i : Int) = l0[i] := by unfold rd; rw [Int.toNat_natCast, List.getD_eq_getElem?_getD, List.getElem?_eq_getElem hlt]; rfl
      have hw : wrap64 ((i : Int) + 1) = ((i + 1 : Nat) : Int) := by unfold wrap64; omega
      have HW1 := Aside0.mk hw
      have HI2 : Aside0 (i + 1 + k1 = l0.length) := ⟨by omega⟩
      rw [hrd] at hx
      by_cases c2 : n = l0[i]
      · have hm : n ∈ l0 := by rw [c2]; exact List.getElem_mem hlt
        have HM := Aside0.mk hm
        rw [← c2] at hx
        clear hI hn hrd hw c2 hm
        go_wp2
        go_ret
        exact ⟨⟨_, rfl, ⟨fun _ => HM.out, fun _ => Int.natCast_nonneg _⟩⟩, rfl⟩
      · have HA2 : Aside0 (n ∉ l0.take (i + 1)) := ⟨by
          rw [List.take_succ_eq_append_getElem hlt, List.mem_append, List.mem_singleton]
          intro h
          rcases h with h | h
          · exact HA.out h
          · exact c2 h⟩
        have p2 : (n == l0[i]) = false := beq_eq_false_iff_ne.mpr c2
        clear hI hn hrd hw c2
        go_wp2
        go_roundg k1
        case measure => omega
        case rel => exact ⟨i + 1, by first | (rw [HW1.out]; done) | exact congrArg (Value.int .i64) HW1.out, HI2, HA2, ⟨rfl⟩⟩
set_option maxHeartbeats 1600000 in
set_option maxRecDepth 100000 in
theorem contains_calls (A0 : Option Addr) (c0 : Nat) (l0 : List Int) (n : Int) (W : World) (hr : Kd.C (Kd.int .i64) W A0 l0.length l0) :
    Calls Try.prog 32 #[.slice A0 l0.length c0, .int .i64 n] W fun e w' => e = .returned (.bool (decide (n ∈ l0))) ∧ w' = W := by
  have HR := Aside0.mk hr
  clear hr
  go_enter Try.func32, Try.ntmps32
  go_wp2_with (go_at_call 34; (refine (index_calls _ c0 l0 n _ HR.out).mono ?_); rintro e w2 ⟨⟨r, rfl, hr⟩, rfl⟩)
  go_ret
  exact ⟨by first | exact congrArg (fun b => Ending.returned (.bool b)) (decide_eq_decide.2 hr) | simp [hr], rfl⟩
end Go.Proofs.Ytgcehbigcokpaaa.XA
