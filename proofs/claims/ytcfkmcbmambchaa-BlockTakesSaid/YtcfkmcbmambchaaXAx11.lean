-- Written by a program of this session (wip/xprint.py) out of the translation.
import Derived.Test.YtcfkmcbmambchaaXAx0
import Derived.Test.YtcfkmcbmambchaaXAx8
import Derived.Test.YtcfkmcbmambchaaXAx9
import Derived.Test.YtcfkmcbmambchaaXAx10
namespace Go.Proofs.Ytcfkmcbmambchaa.XA
open Go.RowKit Go.Proofs.YtcfkmcbmambchaaW.PrintWords Go.Proofs.YtcfkmcbmambchaaW.PrintLast Go.Proofs.YtcfkmcbmambchaaW.PrintMore Go.Proofs.Ytcfkmcbmambchaa.XW
attribute [local go_sem high] max2_str unary_xor_u32 leq_str geq_str gtr_str
attribute [local go_sem] max2_int min2_int max_two min_two max_three min_three max_four min_four   -- for this text's walks alone
set_option linter.unusedVariables false
set_option linter.unusedSimpArgs false

/-! ### sorrelref01_Take: function 41 -/
def sorrelref01_Take.l0 : Nat → ByteArray → Int → Int → Option (Int × Int × Int)
  | 0, _, _, _ => none
  | k + 1, x0, x5, x6 => if x6 < 9 then (if x6 ≥ (x0.size : Int) then (some (0, 0, 10)) else (if 0 ≤ x6 then (if x6 < (x0.size : Int) then (if 0 ≤ (wrap64 (7 * x6)) then (if (bt x0 x6) < 128 then (if (bt x0 x6) = 0 then (if x6 > 0 then (some (0, 0, 11)) else (if (Go.bits .or .i64 x5 (shl .i64 (wrap64 (Go.bits .and .u8 (bt x0 x6) 127)) (wrap64 (7 * x6)))) < 0 then (some (0, 0, 11)) else (if (Go.bits .or .i64 x5 (shl .i64 (wrap64 (Go.bits .and .u8 (bt x0 x6) 127)) (wrap64 (7 * x6)))) > 4611686018427387904 then (some (0, 0, 11)) else (some (Go.bits .or .i64 x5 (shl .i64 (wrap64 (Go.bits .and .u8 (bt x0 x6) 127)) (wrap64 (7 * x6))), wrap64 (x6 + 1), 0))))) else (if (Go.bits .or .i64 x5 (shl .i64 (wrap64 (Go.bits .and .u8 (bt x0 x6) 127)) (wrap64 (7 * x6)))) < 0 then (some (0, 0, 11)) else (if (Go.bits .or .i64 x5 (shl .i64 (wrap64 (Go.bits .and .u8 (bt x0 x6) 127)) (wrap64 (7 * x6)))) > 4611686018427387904 then (some (0, 0, 11)) else (some (Go.bits .or .i64 x5 (shl .i64 (wrap64 (Go.bits .and .u8 (bt x0 x6) 127)) (wrap64 (7 * x6))), wrap64 (x6 + 1), 0))))) else (sorrelref01_Take.l0 k x0 (Go.bits .or .i64 x5 (shl .i64 (wrap64 (Go.bits .and .u8 (bt x0 x6) 127)) (wrap64 (7 * x6)))) (wrap64 (x6 + 1)))) else (none)) else (none)) else (none))) else (some (0, 0, 11))
def sorrelref01_Take.f (k : Nat) (a0 : ByteArray) : Option (Int × Int × Int) := sorrelref01_Take.l0 k a0 0 0
theorem sorrelref01_Take.mono_l : ∀ k, (∀ y0 y1 y2, LeO (sorrelref01_Take.l0 k y0 y1 y2) (sorrelref01_Take.l0 (k + 1) y0 y1 y2))
  | 0 => fun _ _ _ r h => by simp [sorrelref01_Take.l0] at h
  | k + 1 => by
    have ih0 := sorrelref01_Take.mono_l k
    · intro y0 y1 y2
      unfold sorrelref01_Take.l0
      repeat' first
      | (with_reducible exact ih0 _ _ _)
      | (with_reducible exact LeO.refl _)
      | (with_reducible exact LeO.none _)
      | (with_reducible refine LeO.ite ?_ ?_)
      | (with_reducible refine LeO.bind ?_ (fun _ => ?_))
      | exact ih0 _ _ _
      | exact LeO.none _
      | refine LeO.ite ?_ ?_
      | refine LeO.bind ?_ (fun _ => ?_)
theorem sorrelref01_Take.mono : ∀ a0 k, LeO (sorrelref01_Take.f k a0) (sorrelref01_Take.f (k + 1) a0) := by
  intro a0 k
  have ih0 := sorrelref01_Take.mono_l k
  unfold sorrelref01_Take.f
  repeat' first
      | (with_reducible exact ih0 _ _ _)
      | (with_reducible exact LeO.refl _)
      | (with_reducible exact LeO.none _)
      | (with_reducible refine LeO.ite ?_ ?_)
      | (with_reducible refine LeO.bind ?_ (fun _ => ?_))
      | exact ih0 _ _ _
      | exact LeO.none _
      | refine LeO.ite ?_ ?_
      | refine LeO.bind ?_ (fun _ => ?_)
set_option maxHeartbeats 8000000 in
set_option maxRecDepth 100000 in
theorem sorrelref01_Take.calls (k : Nat) (a0 : ByteArray) (r1 : Int) (r2 : Int) (r3 : Int) (w : World) (h : sorrelref01_Take.f k a0 = some (r1, r2, r3)) :
    Calls Try.prog 41 #[.string a0] w fun e w' => e = .returned (.tuple #[.int .i64 r1, .int .i64 r2, .int .i64 r3]) ∧ Drawn0 w w' := by
  have H : (sorrelref01_Take.l0 k a0 0 0) = some (r1, r2, r3) := h
  clear h
  have H' := Aside0.mk H
  clear H
  go_enter Try.func41, Try.ntmps41
  go_wp2
  go_loopg [5, 6] k (fun kq v5 v6 w' => ∃ (x5_1 : Int) (x6_1 : Int), v5 = .int .i64 x5_1 ∧ v6 = .int .i64 x6_1 ∧ Aside0 (sorrelref01_Take.l0 kq a0 x5_1 x6_1 = some (r1, r2, r3)) ∧ Aside0 (kq ≤ k) ∧ Drawn0 w w')
  case atStart => exact ⟨(0), (0), (by first | rfl | (simp; done) | (simp [*]; done) | exact isE1 _ | exact isE2 _ | exact isE3 _ | exact isE4 _ | exact congrArg Value.bool (isE1 _) | exact congrArg Value.bool (isE2 _) | exact congrArg Value.bool (isE3 _) | exact congrArg Value.bool (isE4 _)), (by first | rfl | (simp; done) | (simp [*]; done) | exact isE1 _ | exact isE2 _ | exact isE3 _ | exact isE4 _ | exact congrArg Value.bool (isE1 _) | exact congrArg Value.bool (isE2 _) | exact congrArg Value.bool (isE3 _) | exact congrArg Value.bool (isE4 _)), H', ⟨Nat.le_refl _⟩, by repeat (first | exact Drawn0.refl _ | apply Drawn0.step)⟩
  case round =>
    clear H'
    obtain ⟨x5_1, x6_1, rfl, rfl, HA, HK1, ⟨m1, rfl⟩⟩ := hrel
    cases gk with
    | zero => exact absurd HA.out (by simp [sorrelref01_Take.l0])
    | succ k1 =>
      have H := HA.out
      clear HA
      simp only [sorrelref01_Take.l0] at H
      by_cases c2 : x6_1 < 9
      · rw [if_pos c2] at H
        have c2b0 : decide (x6_1 < 9) = true := decide_eq_true c2
        clear c2
        by_cases c3 : x6_1 ≥ (a0.size : Int)
        · rw [if_pos c3] at H
          have c3b0 : decide ((a0.size : Int) ≤ x6_1) = true := decide_eq_true c3
          clear c3
          simp only [Option.some.injEq, Prod.mk.injEq] at H
          obtain ⟨rfl, rfl, rfl⟩ := H
          go_wp2
          go_ret3
          exact ⟨by first | rfl | (simp; done) | (simp [*]; done) | exact isE1 _ | exact isE2 _ | exact isE3 _ | exact isE4 _ | exact congrArg Value.bool (isE1 _) | exact congrArg Value.bool (isE2 _) | exact congrArg Value.bool (isE3 _) | exact congrArg Value.bool (isE4 _), by repeat (first | exact Drawn0.refl _ | apply Drawn0.step)⟩
        · rw [if_neg c3] at H
          have c3b0 : decide ((a0.size : Int) ≤ x6_1) = false := decide_eq_false c3
          clear c3
          by_cases c4 : 0 ≤ x6_1
          · rw [if_pos c4] at H
            have c4b0 : decide (0 ≤ x6_1) = true := decide_eq_true c4
            clear c4
            by_cases c5 : x6_1 < (a0.size : Int)
            · rw [if_pos c5] at H
              have c5b0 : decide (x6_1 < (a0.size : Int)) = true := decide_eq_true c5
              clear c5
              obtain ⟨ji7, hji7⟩ : ∃ j_ : Int, (wrap64 (7 * x6_1)) = j_ := ⟨_, rfl⟩
              replace H : (if 0 ≤ (ji7) then (if (bt a0 x6_1) < 128 then (if (bt a0 x6_1) = 0 then (if x6_1 > 0 then (some (0, 0, 11)) else (if (Go.bits .or .i64 x5_1 (shl .i64 (wrap64 (Go.bits .and .u8 (bt a0 x6_1) 127)) (ji7))) < 0 then (some (0, 0, 11)) else (if (Go.bits .or .i64 x5_1 (shl .i64 (wrap64 (Go.bits .and .u8 (bt a0 x6_1) 127)) (ji7))) > 4611686018427387904 then (some (0, 0, 11)) else (some (Go.bits .or .i64 x5_1 (shl .i64 (wrap64 (Go.bits .and .u8 (bt a0 x6_1) 127)) (ji7)), wrap64 (x6_1 + 1), 0))))) else (if (Go.bits .or .i64 x5_1 (shl .i64 (wrap64 (Go.bits .and .u8 (bt a0 x6_1) 127)) (ji7))) < 0 then (some (0, 0, 11)) else (if (Go.bits .or .i64 x5_1 (shl .i64 (wrap64 (Go.bits .and .u8 (bt a0 x6_1) 127)) (ji7))) > 4611686018427387904 then (some (0, 0, 11)) else (some (Go.bits .or .i64 x5_1 (shl .i64 (wrap64 (Go.bits .and .u8 (bt a0 x6_1) 127)) (ji7)), wrap64 (x6_1 + 1), 0))))) else (sorrelref01_Take.l0 k1 a0 (Go.bits .or .i64 x5_1 (shl .i64 (wrap64 (Go.bits .and .u8 (bt a0 x6_1) 127)) (ji7))) (wrap64 (x6_1 + 1)))) else (none)) = some (r1, r2, r3) := by first | (rw [hji7] at H; exact H) | (simp only [hji7] at H ⊢; exact H)
              have hji7w : (IntKind.i64.wrap (7 * x6_1)) = ji7 := (i64_w _).trans hji7
              by_cases c8 : 0 ≤ (ji7)
              · rw [if_pos c8] at H
                have c8b0 := eq_true c8
                have c8b1 : decide (0 ≤ (ji7)) = true := decide_eq_true c8
                clear c8
                obtain ⟨ji9, hji9⟩ : ∃ j_ : Int, (shl .i64 (wrap64 (Go.bits .and .u8 (bt a0 x6_1) 127)) (ji7)) = j_ := ⟨_, rfl⟩
                replace H : (if (bt a0 x6_1) < 128 then (if (bt a0 x6_1) = 0 then (if x6_1 > 0 then (some (0, 0, 11)) else (if (Go.bits .or .i64 x5_1 (ji9)) < 0 then (some (0, 0, 11)) else (if (Go.bits .or .i64 x5_1 (ji9)) > 4611686018427387904 then (some (0, 0, 11)) else (some (Go.bits .or .i64 x5_1 (ji9), wrap64 (x6_1 + 1), 0))))) else (if (Go.bits .or .i64 x5_1 (ji9)) < 0 then (some (0, 0, 11)) else (if (Go.bits .or .i64 x5_1 (ji9)) > 4611686018427387904 then (some (0, 0, 11)) else (some (Go.bits .or .i64 x5_1 (ji9), wrap64 (x6_1 + 1), 0))))) else (sorrelref01_Take.l0 k1 a0 (Go.bits .or .i64 x5_1 (ji9)) (wrap64 (x6_1 + 1)))) = some (r1, r2, r3) := by first | (rw [hji9] at H; exact H) | (simp only [hji9] at H ⊢; exact H)
                have hji9_ : (IntKind.i64.wrap ((wrap64 (Go.bits .and .u8 (bt a0 x6_1) 127)) * 2 ^ min (ji7).toNat 64)) = ji9 := hji9
                have hji9z : (ji7) ≤ 64 → (IntKind.i64.wrap ((wrap64 (Go.bits .and .u8 (bt a0 x6_1) 127)) * 2 ^ (ji7).toNat)) = ji9 := shl_small hji9
                have hji9y : (wrap64 ((wrap64 (Go.bits .and .u8 (bt a0 x6_1) 127)) * 2 ^ min (ji7).toNat 64)) = ji9 := (i64_w _).symm.trans hji9_
                have hji9x : (ji7) ≤ 64 → (wrap64 ((wrap64 (Go.bits .and .u8 (bt a0 x6_1) 127)) * 2 ^ (ji7).toNat)) = ji9 := fun h_ => (i64_w _).symm.trans (hji9z h_)
                by_cases c11 : (bt a0 x6_1) < 128
                · rw [if_pos c11] at H
                  have c11b0 : decide ((bt a0 x6_1) < 128) = true := decide_eq_true c11
                  clear c11
                  by_cases c13 : (bt a0 x6_1) = 0
                  · rw [if_pos c13] at H
                    have c13b0 : ((bt a0 x6_1) == 0) = true := beq_iff_eq.mpr c13
                    have c13b1 : ((bt a0 x6_1) != 0) = false := bne_eq_false_iff_eq.mpr c13
                    clear c13
                    by_cases c14 : x6_1 > 0
                    · rw [if_pos c14] at H
                      have c14b0 : decide (0 < x6_1) = true := decide_eq_true c14
                      clear c14
                      simp only [Option.some.injEq, Prod.mk.injEq] at H
                      obtain ⟨rfl, rfl, rfl⟩ := H
                      have p6 : 0 ≤ (x6_1 : Int) := of_decide_eq_true (by first | (with_reducible assumption) | assumption)
                      have q6 : x6_1 < (a0.size : Int) := of_decide_eq_true (by first | (with_reducible assumption) | assumption)
                      have hx6 := bt_at a0 x6_1
                      replace p6 := eq_true p6
                      replace q6 := eq_true q6
                      have p10 : 0 ≤ (x6_1 : Int) := of_decide_eq_true (by first | (with_reducible assumption) | assumption)
                      have q10 : x6_1 < (a0.size : Int) := of_decide_eq_true (by first | (with_reducible assumption) | assumption)
                      have hx10 := bt_at a0 x6_1
                      replace p10 := eq_true p10
                      replace q10 := eq_true q10
                      have p12 : 0 ≤ (x6_1 : Int) := of_decide_eq_true (by first | (with_reducible assumption) | assumption)
                      have q12 : x6_1 < (a0.size : Int) := of_decide_eq_true (by first | (with_reducible assumption) | assumption)
                      have hx12 := bt_at a0 x6_1
                      replace p12 := eq_true p12
                      replace q12 := eq_true q12
                      go_wp2
                      go_ret3
                      exact ⟨by first | rfl | (simp; done) | (simp only [← hji7, ← hji9] <;> (first | rfl | simp)) | (simp [*]; done), by repeat (first | exact Drawn0.refl _ | apply Drawn0.step)⟩
                    · rw [if_neg c14] at H
                      have c14b0 : decide (0 < x6_1) = false := decide_eq_false c14
                      clear c14
                      by_cases c15 : (Go.bits .or .i64 x5_1 (ji9)) < 0
                      · rw [if_pos c15] at H
                        have c15b0 : decide ((Go.bits .or .i64 x5_1 (ji9)) < 0) = true := decide_eq_true c15
                        clear c15
                        simp only [Option.some.injEq, Prod.mk.injEq] at H
                        obtain ⟨rfl, rfl, rfl⟩ := H
                        have p6 : 0 ≤ (x6_1 : Int) := of_decide_eq_true (by first | (with_reducible assumption) | assumption)
                        have q6 : x6_1 < (a0.size : Int) := of_decide_eq_true (by first | (with_reducible assumption) | assumption)
                        have hx6 := bt_at a0 x6_1
                        replace p6 := eq_true p6
                        replace q6 := eq_true q6
                        have p10 : 0 ≤ (x6_1 : Int) := of_decide_eq_true (by first | (with_reducible assumption) | assumption)
                        have q10 : x6_1 < (a0.size : Int) := of_decide_eq_true (by first | (with_reducible assumption) | assumption)
                        have hx10 := bt_at a0 x6_1
                        replace p10 := eq_true p10
                        replace q10 := eq_true q10
                        have p12 : 0 ≤ (x6_1 : Int) := of_decide_eq_true (by first | (with_reducible assumption) | assumption)
                        have q12 : x6_1 < (a0.size : Int) := of_decide_eq_true (by first | (with_reducible assumption) | assumption)
                        have hx12 := bt_at a0 x6_1
                        replace p12 := eq_true p12
                        replace q12 := eq_true q12
                        go_wp2
                        go_ret3
                        exact ⟨by first | rfl | (simp; done) | (simp only [← hji7, ← hji9] <;> (first | rfl | simp)) | (simp [*]; done), by repeat (first | exact Drawn0.refl _ | apply Drawn0.step)⟩
                      · rw [if_neg c15] at H
                        have c15b0 : decide ((Go.bits .or .i64 x5_1 (ji9)) < 0) = false := decide_eq_false c15
                        clear c15
                        by_cases c16 : (Go.bits .or .i64 x5_1 (ji9)) > 4611686018427387904
                        · rw [if_pos c16] at H
                          have c16b0 : decide (4611686018427387904 < (Go.bits .or .i64 x5_1 (ji9))) = true := decide_eq_true c16
                          clear c16
                          simp only [Option.some.injEq, Prod.mk.injEq] at H
                          obtain ⟨rfl, rfl, rfl⟩ := H
                          have p6 : 0 ≤ (x6_1 : Int) := of_decide_eq_true (by first | (with_reducible assumption) | assumption)
                          have q6 : x6_1 < (a0.size : Int) := of_decide_eq_true (by first | (with_reducible assumption) | assumption)
                          have hx6 := bt_at a0 x6_1
                          replace p6 := eq_true p6
                          replace q6 := eq_true q6
                          have p10 : 0 ≤ (x6_1 : Int) := of_decide_eq_true (by first | (with_reducible assumption) | assumption)
                          have q10 : x6_1 < (a0.size : Int) := of_decide_eq_true (by first | (with_reducible assumption) | assumption)
                          have hx10 := bt_at a0 x6_1
                          replace p10 := eq_true p10
                          replace q10 := eq_true q10
                          have p12 : 0 ≤ (x6_1 : Int) := of_decide_eq_true (by first | (with_reducible assumption) | assumption)
                          have q12 : x6_1 < (a0.size : Int) := of_decide_eq_true (by first | (with_reducible assumption) | assumption)
                          have hx12 := bt_at a0 x6_1
                          replace p12 := eq_true p12
                          replace q12 := eq_true q12
                          go_wp2
                          go_ret3
                          exact ⟨by first | rfl | (simp; done) | (simp only [← hji7, ← hji9] <;> (first | rfl | simp)) | (simp [*]; done), by repeat (first | exact Drawn0.refl _ | apply Drawn0.step)⟩
                        · rw [if_neg c16] at H
                          have c16b0 : decide (4611686018427387904 < (Go.bits .or .i64 x5_1 (ji9))) = false := decide_eq_false c16
                          clear c16
                          simp only [Option.some.injEq, Prod.mk.injEq] at H
                          obtain ⟨rfl, rfl, rfl⟩ := H
                          have p6 : 0 ≤ (x6_1 : Int) := of_decide_eq_true (by first | (with_reducible assumption) | assumption)
                          have q6 : x6_1 < (a0.size : Int) := of_decide_eq_true (by first | (with_reducible assumption) | assumption)
                          have hx6 := bt_at a0 x6_1
                          replace p6 := eq_true p6
                          replace q6 := eq_true q6
                          have p10 : 0 ≤ (x6_1 : Int) := of_decide_eq_true (by first | (with_reducible assumption) | assumption)
                          have q10 : x6_1 < (a0.size : Int) := of_decide_eq_true (by first | (with_reducible assumption) | assumption)
                          have hx10 := bt_at a0 x6_1
                          replace p10 := eq_true p10
                          replace q10 := eq_true q10
                          have p12 : 0 ≤ (x6_1 : Int) := of_decide_eq_true (by first | (with_reducible assumption) | assumption)
                          have q12 : x6_1 < (a0.size : Int) := of_decide_eq_true (by first | (with_reducible assumption) | assumption)
                          have hx12 := bt_at a0 x6_1
                          replace p12 := eq_true p12
                          replace q12 := eq_true q12
                          go_wp2
                          go_ret3
                          exact ⟨by first | rfl | (simp; done) | (simp only [← hji7, ← hji9] <;> (first | rfl | simp)) | (simp [*]; done), by repeat (first | exact Drawn0.refl _ | apply Drawn0.step)⟩
                  · rw [if_neg c13] at H
                    have c13b0 : ((bt a0 x6_1) == 0) = false := beq_eq_false_iff_ne.mpr c13
                    have c13b1 : ((bt a0 x6_1) != 0) = true := bne_iff_ne.mpr c13
                    by_cases c17 : (Go.bits .or .i64 x5_1 (ji9)) < 0
                    · rw [if_pos c17] at H
                      have c17b0 : decide ((Go.bits .or .i64 x5_1 (ji9)) < 0) = true := decide_eq_true c17
                      clear c17
                      simp only [Option.some.injEq, Prod.mk.injEq] at H
                      obtain ⟨rfl, rfl, rfl⟩ := H
                      have p6 : 0 ≤ (x6_1 : Int) := of_decide_eq_true (by first | (with_reducible assumption) | assumption)
                      have q6 : x6_1 < (a0.size : Int) := of_decide_eq_true (by first | (with_reducible assumption) | assumption)
                      have hx6 := bt_at a0 x6_1
                      replace p6 := eq_true p6
                      replace q6 := eq_true q6
                      have p10 : 0 ≤ (x6_1 : Int) := of_decide_eq_true (by first | (with_reducible assumption) | assumption)
                      have q10 : x6_1 < (a0.size : Int) := of_decide_eq_true (by first | (with_reducible assumption) | assumption)
                      have hx10 := bt_at a0 x6_1
                      replace p10 := eq_true p10
                      replace q10 := eq_true q10
                      have p12 : 0 ≤ (x6_1 : Int) := of_decide_eq_true (by first | (with_reducible assumption) | assumption)
                      have q12 : x6_1 < (a0.size : Int) := of_decide_eq_true (by first | (with_reducible assumption) | assumption)
                      have hx12 := bt_at a0 x6_1
                      replace p12 := eq_true p12
                      replace q12 := eq_true q12
                      go_wp2
                      go_ret3
                      exact ⟨by first | rfl | (simp; done) | (simp only [← hji7, ← hji9] <;> (first | rfl | simp)) | (simp [*]; done), by repeat (first | exact Drawn0.refl _ | apply Drawn0.step)⟩
                    · rw [if_neg c17] at H
                      have c17b0 : decide ((Go.bits .or .i64 x5_1 (ji9)) < 0) = false := decide_eq_false c17
                      clear c17
                      by_cases c18 : (Go.bits .or .i64 x5_1 (ji9)) > 4611686018427387904
                      · rw [if_pos c18] at H
                        have c18b0 : decide (4611686018427387904 < (Go.bits .or .i64 x5_1 (ji9))) = true := decide_eq_true c18
                        clear c18
                        simp only [Option.some.injEq, Prod.mk.injEq] at H
                        obtain ⟨rfl, rfl, rfl⟩ := H
                        have p6 : 0 ≤ (x6_1 : Int) := of_decide_eq_true (by first | (with_reducible assumption) | assumption)
                        have q6 : x6_1 < (a0.size : Int) := of_decide_eq_true (by first | (with_reducible assumption) | assumption)
                        have hx6 := bt_at a0 x6_1
                        replace p6 := eq_true p6
                        replace q6 := eq_true q6
                        have p10 : 0 ≤ (x6_1 : Int) := of_decide_eq_true (by first | (with_reducible assumption) | assumption)
                        have q10 : x6_1 < (a0.size : Int) := of_decide_eq_true (by first | (with_reducible assumption) | assumption)
                        have hx10 := bt_at a0 x6_1
                        replace p10 := eq_true p10
                        replace q10 := eq_true q10
                        have p12 : 0 ≤ (x6_1 : Int) := of_decide_eq_true (by first | (with_reducible assumption) | assumption)
                        have q12 : x6_1 < (a0.size : Int) := of_decide_eq_true (by first | (with_reducible assumption) | assumption)
                        have hx12 := bt_at a0 x6_1
                        replace p12 := eq_true p12
                        replace q12 := eq_true q12
                        go_wp2
                        go_ret3
                        exact ⟨by first | rfl | (simp; done) | (simp only [← hji7, ← hji9] <;> (first | rfl | simp)) | (simp [*]; done), by repeat (first | exact Drawn0.refl _ | apply Drawn0.step)⟩
                      · rw [if_neg c18] at H
                        have c18b0 : decide (4611686018427387904 < (Go.bits .or .i64 x5_1 (ji9))) = false := decide_eq_false c18
                        clear c18
                        simp only [Option.some.injEq, Prod.mk.injEq] at H
                        obtain ⟨rfl, rfl, rfl⟩ := H
                        have p6 : 0 ≤ (x6_1 : Int) := of_decide_eq_true (by first | (with_reducible assumption) | assumption)
                        have q6 : x6_1 < (a0.size : Int) := of_decide_eq_true (by first | (with_reducible assumption) | assumption)
                        have hx6 := bt_at a0 x6_1
                        replace p6 := eq_true p6
                        replace q6 := eq_true q6
                        have p10 : 0 ≤ (x6_1 : Int) := of_decide_eq_true (by first | (with_reducible assumption) | assumption)
                        have q10 : x6_1 < (a0.size : Int) := of_decide_eq_true (by first | (with_reducible assumption) | assumption)
                        have hx10 := bt_at a0 x6_1
                        replace p10 := eq_true p10
                        replace q10 := eq_true q10
                        have p12 : 0 ≤ (x6_1 : Int) := of_decide_eq_true (by first | (with_reducible assumption) | assumption)
                        have q12 : x6_1 < (a0.size : Int) := of_decide_eq_true (by first | (with_reducible assumption) | assumption)
                        have hx12 := bt_at a0 x6_1
                        replace p12 := eq_true p12
                        replace q12 := eq_true q12
                        go_wp2
                        go_ret3
                        exact ⟨by first | rfl | (simp; done) | (simp only [← hji7, ← hji9] <;> (first | rfl | simp)) | (simp [*]; done), by repeat (first | exact Drawn0.refl _ | apply Drawn0.step)⟩
                · rw [if_neg c11] at H
                  have c11b0 : decide ((bt a0 x6_1) < 128) = false := decide_eq_false c11
                  clear c11
                  have H' := Aside0.mk H
                  clear H
                  have p6 : 0 ≤ (x6_1 : Int) := of_decide_eq_true (by first | (with_reducible assumption) | assumption)
                  have q6 : x6_1 < (a0.size : Int) := of_decide_eq_true (by first | (with_reducible assumption) | assumption)
                  have hx6 := bt_at a0 x6_1
                  replace p6 := eq_true p6
                  replace q6 := eq_true q6
                  have p10 : 0 ≤ (x6_1 : Int) := of_decide_eq_true (by first | (with_reducible assumption) | assumption)
                  have q10 : x6_1 < (a0.size : Int) := of_decide_eq_true (by first | (with_reducible assumption) | assumption)
                  have hx10 := bt_at a0 x6_1
                  replace p10 := eq_true p10
                  replace q10 := eq_true q10
                  go_wp2
                  go_roundg k1
                  case measure => have := HK1.out; omega
                  case rel => exact ⟨(Go.bits .or .i64 x5_1 (ji9)), (wrap64 (x6_1 + 1)), (by first | rfl | (simp; done) | (simp only [← hji9] <;> (first | rfl | simp)) | (simp [*]; done)), (by first | rfl | (simp; done) | (simp [*]; done) | exact isE1 _ | exact isE2 _ | exact isE3 _ | exact isE4 _ | exact congrArg Value.bool (isE1 _) | exact congrArg Value.bool (isE2 _) | exact congrArg Value.bool (isE3 _) | exact congrArg Value.bool (isE4 _)), H', ⟨by have := HK1.out; omega⟩, by repeat (first | exact Drawn0.refl _ | apply Drawn0.step)⟩
              · rw [if_neg c8] at H
                exact absurd H (by simp)
            · rw [if_neg c5] at H
              exact absurd H (by simp)
          · rw [if_neg c4] at H
            exact absurd H (by simp)
      · rw [if_neg c2] at H
        have c2b0 : decide (x6_1 < 9) = false := decide_eq_false c2
        clear c2
        simp only [Option.some.injEq, Prod.mk.injEq] at H
        obtain ⟨rfl, rfl, rfl⟩ := H
        go_wp2
        go_ret3
        exact ⟨by first | rfl | (simp; done) | (simp [*]; done) | exact isE1 _ | exact isE2 _ | exact isE3 _ | exact isE4 _ | exact congrArg Value.bool (isE1 _) | exact congrArg Value.bool (isE2 _) | exact congrArg Value.bool (isE3 _) | exact congrArg Value.bool (isE4 _), by repeat (first | exact Drawn0.refl _ | apply Drawn0.step)⟩

/-! ### sorrelref01_TakeText: function 57 -/
def sorrelref01_TakeText.f (k : Nat) (a0 : ByteArray) : Option (ByteArray × Int × Int) := (sorrelref01_Take.f k a0).bind fun bt223 => (if bt223.2.2 = 0 then (if bt223.1 > 262144 then (some ((⟨#[]⟩ : ByteArray), 0, 11)) else (if bt223.1 > (wrap64 ((a0.size : Int) - bt223.2.1)) then (some ((⟨#[]⟩ : ByteArray), 0, 10)) else (if 0 ≤ bt223.2.1 then (if bt223.2.1 ≤ (wrap64 (bt223.2.1 + bt223.1)) then (if (wrap64 (bt223.2.1 + bt223.1)) ≤ (a0.size : Int) then (some (a0.extract (bt223.2.1 : Int).toNat ((wrap64 (bt223.2.1 + bt223.1)) : Int).toNat, wrap64 (bt223.2.1 + bt223.1), 0)) else (none)) else (none)) else (none)))) else (some ((⟨#[]⟩ : ByteArray), 0, bt223.2.2)))
theorem sorrelref01_TakeText.mono : ∀ a0 k, LeO (sorrelref01_TakeText.f k a0) (sorrelref01_TakeText.f (k + 1) a0) := by
  intro a0 k
  unfold sorrelref01_TakeText.f
  repeat' first
      | (with_reducible exact sorrelref01_Take.mono _ _)
      | (with_reducible exact LeO.refl _)
      | (with_reducible exact LeO.none _)
      | (with_reducible refine LeO.ite ?_ ?_)
      | (with_reducible refine LeO.bind ?_ (fun _ => ?_))
      | exact sorrelref01_Take.mono _ _
      | exact LeO.none _
      | refine LeO.ite ?_ ?_
      | refine LeO.bind ?_ (fun _ => ?_)
set_option maxHeartbeats 8000000 in
set_option maxRecDepth 100000 in
theorem sorrelref01_TakeText.calls (k : Nat) (a0 : ByteArray) (r1 : ByteArray) (r2 : Int) (r3 : Int) (w : World) (h : sorrelref01_TakeText.f k a0 = some (r1, r2, r3)) :
    Calls Try.prog 57 #[.string a0] w fun e w' => e = .returned (.tuple #[.string r1, .int .i64 r2, .int .i64 r3]) ∧ Drawn0 w w' := by
  have H : ((sorrelref01_Take.f k a0).bind fun bt223 => (if bt223.2.2 = 0 then (if bt223.1 > 262144 then (some ((⟨#[]⟩ : ByteArray), 0, 11)) else (if bt223.1 > (wrap64 ((a0.size : Int) - bt223.2.1)) then (some ((⟨#[]⟩ : ByteArray), 0, 10)) else (if 0 ≤ bt223.2.1 then (if bt223.2.1 ≤ (wrap64 (bt223.2.1 + bt223.1)) then (if (wrap64 (bt223.2.1 + bt223.1)) ≤ (a0.size : Int) then (some (a0.extract (bt223.2.1 : Int).toNat ((wrap64 (bt223.2.1 + bt223.1)) : Int).toNat, wrap64 (bt223.2.1 + bt223.1), 0)) else (none)) else (none)) else (none)))) else (some ((⟨#[]⟩ : ByteArray), 0, bt223.2.2)))) = some (r1, r2, r3) := h
  clear h
  replace H := Option.bind_eq_some_iff.mp H
  obtain ⟨⟨t223, t224, t225⟩, A20, H⟩ := H
  replace H : (if t225 = 0 then (if t223 > 262144 then (some ((⟨#[]⟩ : ByteArray), 0, 11)) else (if t223 > (wrap64 ((a0.size : Int) - t224)) then (some ((⟨#[]⟩ : ByteArray), 0, 10)) else (if 0 ≤ t224 then (if t224 ≤ (wrap64 (t224 + t223)) then (if (wrap64 (t224 + t223)) ≤ (a0.size : Int) then (some (a0.extract (t224 : Int).toNat ((wrap64 (t224 + t223)) : Int).toNat, wrap64 (t224 + t223), 0)) else (none)) else (none)) else (none)))) else (some ((⟨#[]⟩ : ByteArray), 0, t225))) = some (r1, r2, r3) := H
  have A2 := Aside0.mk A20
  clear A20
  by_cases c3 : t225 = 0
  · rw [if_pos c3] at H
    have c3b0 : (t225 == 0) = true := beq_iff_eq.mpr c3
    have c3b1 : (t225 != 0) = false := bne_eq_false_iff_eq.mpr c3
    clear c3
    by_cases c4 : t223 > 262144
    · rw [if_pos c4] at H
      have c4b0 : decide (262144 < t223) = true := decide_eq_true c4
      clear c4
      simp only [Option.some.injEq, Prod.mk.injEq] at H
      obtain ⟨rfl, rfl, rfl⟩ := H
      go_enter Try.func57, Try.ntmps57
      go_wp2_with (first | ((with_reducible refine gate_callee (f := 41) rfl ?_); refine goesL_ (some 10) rfl rfl Try.func41 (by kernel_rfl) rfl #[.string a0] rfl (by (try simp only [List.map_toArray, List.map_cons, List.map_nil]); first | done | rfl | (simp only [List.length_drop, List.length_take]; rfl)) ?_; (with_reducible refine (sorrelref01_Take.calls k a0 t223 t224 t225 _ A2.out).mono ?_); rintro e w' ⟨rfl, ⟨nd, rfl⟩⟩; refine ⟨_, rfl, ?_⟩))
      go_ret3
      exact ⟨by first | rfl | (simp; done) | (simp [*]; done) | exact isE1 _ | exact isE2 _ | exact isE3 _ | exact isE4 _ | exact congrArg Value.bool (isE1 _) | exact congrArg Value.bool (isE2 _) | exact congrArg Value.bool (isE3 _) | exact congrArg Value.bool (isE4 _), by repeat (first | exact Drawn0.refl _ | apply Drawn0.step)⟩
    · rw [if_neg c4] at H
      have c4b0 : decide (262144 < t223) = false := decide_eq_false c4
      clear c4
      by_cases c5 : t223 > (wrap64 ((a0.size : Int) - t224))
      · rw [if_pos c5] at H
        have c5b0 : decide ((wrap64 ((a0.size : Int) - t224)) < t223) = true := decide_eq_true c5
        clear c5
        simp only [Option.some.injEq, Prod.mk.injEq] at H
        obtain ⟨rfl, rfl, rfl⟩ := H
        go_enter Try.func57, Try.ntmps57
        go_wp2_with (first | ((with_reducible refine gate_callee (f := 41) rfl ?_); refine goesL_ (some 10) rfl rfl Try.func41 (by kernel_rfl) rfl #[.string a0] rfl (by (try simp only [List.map_toArray, List.map_cons, List.map_nil]); first | done | rfl | (simp only [List.length_drop, List.length_take]; rfl)) ?_; (with_reducible refine (sorrelref01_Take.calls k a0 t223 t224 t225 _ A2.out).mono ?_); rintro e w' ⟨rfl, ⟨nd, rfl⟩⟩; refine ⟨_, rfl, ?_⟩))
        go_ret3
        exact ⟨by first | rfl | (simp; done) | (simp [*]; done) | exact isE1 _ | exact isE2 _ | exact isE3 _ | exact isE4 _ | exact congrArg Value.bool (isE1 _) | exact congrArg Value.bool (isE2 _) | exact congrArg Value.bool (isE3 _) | exact congrArg Value.bool (isE4 _), by repeat (first | exact Drawn0.refl _ | apply Drawn0.step)⟩
      · rw [if_neg c5] at H
        have c5b0 : decide ((wrap64 ((a0.size : Int) - t224)) < t223) = false := decide_eq_false c5
        clear c5
        by_cases c6 : 0 ≤ t224
        · rw [if_pos c6] at H
          have c6b0 := eq_true c6
          have c6b1 : decide (0 ≤ t224) = true := decide_eq_true c6
          clear c6
          by_cases c7 : t224 ≤ (wrap64 (t224 + t223))
          · rw [if_pos c7] at H
            have c7b0 := eq_true c7
            have c7b1 : decide (t224 ≤ (wrap64 (t224 + t223))) = true := decide_eq_true c7
            by_cases c8 : (wrap64 (t224 + t223)) ≤ (a0.size : Int)
            · rw [if_pos c8] at H
              have c8b0 := eq_true c8
              have c8b1 : decide ((wrap64 (t224 + t223)) ≤ (a0.size : Int)) = true := decide_eq_true c8
              simp only [Option.some.injEq, Prod.mk.injEq] at H
              obtain ⟨rfl, rfl, rfl⟩ := H
              go_enter Try.func57, Try.ntmps57
              go_wp2_with (first | ((with_reducible refine gate_callee (f := 41) rfl ?_); refine goesL_ (some 10) rfl rfl Try.func41 (by kernel_rfl) rfl #[.string a0] rfl (by (try simp only [List.map_toArray, List.map_cons, List.map_nil]); first | done | rfl | (simp only [List.length_drop, List.length_take]; rfl)) ?_; (with_reducible refine (sorrelref01_Take.calls k a0 t223 t224 t225 _ A2.out).mono ?_); rintro e w' ⟨rfl, ⟨nd, rfl⟩⟩; refine ⟨_, rfl, ?_⟩))
              go_ret3
              exact ⟨by first | rfl | (simp; done) | (simp [*]; done) | exact isE1 _ | exact isE2 _ | exact isE3 _ | exact isE4 _ | exact congrArg Value.bool (isE1 _) | exact congrArg Value.bool (isE2 _) | exact congrArg Value.bool (isE3 _) | exact congrArg Value.bool (isE4 _), by repeat (first | exact Drawn0.refl _ | apply Drawn0.step)⟩
            · rw [if_neg c8] at H
              exact absurd H (by simp)
          · rw [if_neg c7] at H
            exact absurd H (by simp)
        · rw [if_neg c6] at H
          exact absurd H (by simp)
  · rw [if_neg c3] at H
    have c3b0 : (t225 == 0) = false := beq_eq_false_iff_ne.mpr c3
    have c3b1 : (t225 != 0) = true := bne_iff_ne.mpr c3
    simp only [Option.some.injEq, Prod.mk.injEq] at H
    obtain ⟨rfl, rfl, rfl⟩ := H
    go_enter Try.func57, Try.ntmps57
    go_wp2_with (first | ((with_reducible refine gate_callee (f := 41) rfl ?_); refine goesL_ (some 10) rfl rfl Try.func41 (by kernel_rfl) rfl #[.string a0] rfl (by (try simp only [List.map_toArray, List.map_cons, List.map_nil]); first | done | rfl | (simp only [List.length_drop, List.length_take]; rfl)) ?_; (with_reducible refine (sorrelref01_Take.calls k a0 t223 t224 t225 _ A2.out).mono ?_); rintro e w' ⟨rfl, ⟨nd, rfl⟩⟩; refine ⟨_, rfl, ?_⟩))
    go_ret3
    exact ⟨by first | rfl | (simp; done) | (simp [*]; done) | exact isE1 _ | exact isE2 _ | exact isE3 _ | exact isE4 _ | exact congrArg Value.bool (isE1 _) | exact congrArg Value.bool (isE2 _) | exact congrArg Value.bool (isE3 _) | exact congrArg Value.bool (isE4 _), by repeat (first | exact Drawn0.refl _ | apply Drawn0.step)⟩

/-! ### sorrelref09_one: function 42 -/
def sorrelref09_one.f (k : Nat) (s last : ByteArray) : Option (ByteArray × ByteArray × Bool × Int × Int × Bool) :=
  (sorrelref01_Take.f k s).bind fun x =>
  if x.2.2 = 0 then
    (if x.1 ≤ (last.size : Int) then
      (if 0 ≤ x.2.1 then
        (if x.2.1 ≤ (s.size : Int) then
          ((sorrelref01_TakeText.f k (s.extract x.2.1.toNat s.size)).bind fun y =>
          if y.2.2 = 0 then
            (if 0 ≤ wrap64 (x.2.1 + y.2.1) then
              (if wrap64 (x.2.1 + y.2.1) ≤ (s.size : Int) then
                ((sorrelref01_Take.f k (s.extract (wrap64 (x.2.1 + y.2.1)).toNat s.size)).bind fun z =>
                if z.2.2 = 0 then
                  (if 0 ≤ x.1 then
                    (if (last.extract 0 x.1.toNat).size + y.1.size ≤ 9223372036854775807 then
                      ((sorrelref09_common.f k last (last.extract 0 x.1.toNat ++ y.1)).bind fun d =>
                      if d = x.1 then
                        (if Int.tmod z.1 2 = 1 then some (last.extract 0 x.1.toNat ++ y.1, (⟨#[]⟩ : ByteArray), true, wrap64 (Int.tdiv z.1 2), wrap64 (wrap64 (x.2.1 + y.2.1) + z.2.1), true)
                        else
                          (if 0 ≤ wrap64 (wrap64 (x.2.1 + y.2.1) + z.2.1) then
                            (if wrap64 (wrap64 (x.2.1 + y.2.1) + z.2.1) ≤ (s.size : Int) then
                              ((sorrelref01_TakeText.f k (s.extract (wrap64 (wrap64 (x.2.1 + y.2.1) + z.2.1)).toNat s.size)).bind fun v =>
                              some (last.extract 0 x.1.toNat ++ y.1, v.1, false, wrap64 (Int.tdiv z.1 2), wrap64 (wrap64 (wrap64 (x.2.1 + y.2.1) + z.2.1) + v.2.1), (v.2.2 == 0)))
                            else none)
                          else none))
                      else some ((⟨#[]⟩ : ByteArray), (⟨#[]⟩ : ByteArray), false, 0, 0, false))
                    else none)
                  else none)
                else some ((⟨#[]⟩ : ByteArray), (⟨#[]⟩ : ByteArray), false, 0, 0, false))
              else none)
            else none)
          else some ((⟨#[]⟩ : ByteArray), (⟨#[]⟩ : ByteArray), false, 0, 0, false))
        else none)
      else none)
    else some ((⟨#[]⟩ : ByteArray), (⟨#[]⟩ : ByteArray), false, 0, 0, false))
  else some ((⟨#[]⟩ : ByteArray), (⟨#[]⟩ : ByteArray), false, 0, 0, false)
theorem four_put {W : World} {g : Nat} {t : TypeId} {c0 c1 c2 c3 x0 x1 x2 x3 : Value} (h : W.heap[g]? = some (.cells #[c0, c1, c2, c3] t (0, 0))) : ((((W.setCell ⟨g, 0, none⟩ x0).setCell ⟨g, 1, none⟩ x1).setCell ⟨g, 2, none⟩ x2).setCell ⟨g, 3, none⟩ x3).heap[g]? = some (.cells #[x0, x1, x2, x3] t (0, 0)) :=
  blk_put (blk_put (blk_put (blk_put h 0 x0 rfl) 1 x1 rfl) 2 x2 rfl) 3 x3 rfl
theorem sorrelref09_one.mono : ∀ a0 a1 k, LeO (sorrelref09_one.f k a0 a1) (sorrelref09_one.f (k + 1) a0 a1) := by
  intro a0 a1 k
  unfold sorrelref09_one.f
  repeat' first
    | (with_reducible exact sorrelref01_Take.mono _ _)
    | (with_reducible exact sorrelref01_TakeText.mono _ _)
    | (with_reducible exact sorrelref09_common.mono _ _ _)
    | (with_reducible exact LeO.refl _)
    | (with_reducible exact LeO.none _)
    | (with_reducible refine LeO.ite ?_ ?_)
    | (with_reducible refine LeO.bind ?_ (fun _ => ?_))
set_option maxHeartbeats 8000000 in
set_option maxRecDepth 100000 in
theorem sorrelref09_one.calls (k : Nat) (s last : ByteArray) (r1 r2 : ByteArray) (r3 : Bool) (r4 r5 : Int) (r6 : Bool) (w : World) (h : sorrelref09_one.f k s last = some (r1, r2, r3, r4, r5, r6)) :
    Calls Try.prog 42 #[.string s, .string last] w fun e w' => e = .returned (.tuple #[.agg #[.string r1, .string r2, .bool r3, .int .i64 r4], .int .i64 r5, .bool r6]) ∧ Below w.heap.size w w' := by
  have HB := Aside0.mk (Below.refl w.heap.size w)
  unfold sorrelref09_one.f at h
  obtain ⟨⟨n, a, e⟩, hA, h⟩ := Option.bind_eq_some_iff.mp h
  dsimp only at h
  have A1 := Aside0.mk hA
  clear hA
  by_cases c1 : e = 0
  · rw [if_pos c1] at h
    subst c1
    by_cases c2 : n ≤ (last.size : Int)
    · rw [if_pos c2] at h
      by_cases c3 : 0 ≤ a
      · rw [if_pos c3] at h
        by_cases c4 : a ≤ (s.size : Int)
        · rw [if_pos c4] at h
          obtain ⟨⟨t, b, f⟩, hA, h⟩ := Option.bind_eq_some_iff.mp h
          dsimp only at hA h
          have A2 := Aside0.mk hA
          clear hA
          have p2 : decide ((last.size : Int) < n) = false := decide_eq_false (by omega)
          have p2a := eq_true c2
          have p3 := eq_true c3
          have p3b : decide (0 ≤ a) = true := decide_eq_true c3
          have p4 := eq_true c4
          have p4b : decide (a ≤ (s.size : Int)) = true := decide_eq_true c4
          clear c2 c3 c4
          by_cases c5 : f = 0
          · rw [if_pos c5] at h
            subst c5
            obtain ⟨ab, hab⟩ : ∃ j_ : Int, wrap64 (a + b) = j_ := ⟨_, rfl⟩
            rw [hab] at h
            have habw : IntKind.i64.wrap (a + b) = ab := (i64_w _).trans hab
            by_cases c6 : 0 ≤ ab
            · rw [if_pos c6] at h
              by_cases c7 : ab ≤ (s.size : Int)
              · rw [if_pos c7] at h
                obtain ⟨⟨q, c, g⟩, hA, h⟩ := Option.bind_eq_some_iff.mp h
                dsimp only at hA h
                have A3 := Aside0.mk hA
                clear hA
                have p6 := eq_true c6
                have p6b : decide (0 ≤ ab) = true := decide_eq_true c6
                have p7 := eq_true c7
                have p7b : decide (ab ≤ (s.size : Int)) = true := decide_eq_true c7
                clear c6 c7
                by_cases c8 : g = 0
                · rw [if_pos c8] at h
                  subst c8
                  by_cases c9 : 0 ≤ n
                  · rw [if_pos c9] at h
                    by_cases ca : (last.extract 0 n.toNat).size + t.size ≤ 9223372036854775807
                    · rw [if_pos ca] at h
                      have p9 := eq_true c9
                      have p9b : decide (0 ≤ n) = true := decide_eq_true c9
                      have pa := eq_true ca
                      have pab : (9223372036854775807 < (last.extract 0 n.toNat).size + t.size) = False := eq_false (Nat.not_lt.2 ca)
                      clear c9
                      obtain ⟨d, hA, h⟩ := Option.bind_eq_some_iff.mp h
                      have A4 := Aside0.mk hA
                      clear hA
                      by_cases cb : d = n
                      · rw [if_pos cb] at h
                        have pb : (d == n) = true := beq_iff_eq.mpr cb
                        have pbb : (d != n) = false := bne_eq_false_iff_eq.mpr cb
                        clear cb
                        obtain ⟨abc, habc⟩ : ∃ j_ : Int, wrap64 (ab + c) = j_ := ⟨_, rfl⟩
                        rw [habc] at h
                        have habcw : IntKind.i64.wrap (ab + c) = abc := (i64_w _).trans habc
                        by_cases cc : Int.tmod q 2 = 1
                        · rw [if_pos cc] at h
                          have pc : (Int.tmod q 2 == 1) = true := beq_iff_eq.mpr cc
                          clear cc
                          simp only [Option.some.injEq, Prod.mk.injEq] at h
                          obtain ⟨rfl, rfl, rfl, rfl, rfl, rfl⟩ := h
                          go_enter Try.func42, Try.ntmps42
                          go_wp2_with (first | ((with_reducible refine gate_callee (f := 41) rfl ?_); refine goesL_ (some 22) rfl rfl Try.func41 (by kernel_rfl) rfl #[.string s] rfl (by (try simp only [List.map_toArray, List.map_cons, List.map_nil]); first | done | rfl) ?_; (with_reducible refine (sorrelref01_Take.calls k s n a _ _ A1.out).mono ?_); rintro e w' ⟨rfl, ⟨nd, rfl⟩⟩; refine ⟨_, rfl, ?_⟩) | ((with_reducible refine gate_callee (f := 57) rfl ?_); refine goesL_ (some 39) rfl rfl Try.func57 (by kernel_rfl) rfl #[.string (s.extract a.toNat s.size)] rfl (by (try simp only [List.map_toArray, List.map_cons, List.map_nil]); first | done | rfl) ?_; (with_reducible refine (sorrelref01_TakeText.calls k (s.extract a.toNat s.size) t b _ _ A2.out).mono ?_); rintro e w' ⟨rfl, ⟨nd, rfl⟩⟩; refine ⟨_, rfl, ?_⟩) | ((with_reducible refine gate_callee (f := 41) rfl ?_); refine goesL_ (some 52) rfl rfl Try.func41 (by kernel_rfl) rfl #[.string (s.extract ab.toNat s.size)] rfl (by (try simp only [List.map_toArray, List.map_cons, List.map_nil]); first | done | rfl) ?_; (with_reducible refine (sorrelref01_Take.calls k (s.extract ab.toNat s.size) q c _ _ A3.out).mono ?_); rintro e w' ⟨rfl, ⟨nd, rfl⟩⟩; refine ⟨_, rfl, ?_⟩) | (go_at_call 31; (refine (sorrelref09_common.calls k last (last.extract 0 n.toNat ++ t) d _ A4.out).mono ?_); rintro e w' ⟨rfl, ⟨nd, rfl⟩⟩))
                          refine bodyPost_ret (results_ctt rfl _ _ w.heap.size 36 #[.string (last.extract 0 n.toNat ++ t), .string (⟨#[]⟩ : ByteArray), .bool true, .int .i64 (wrap64 (Int.tdiv q 2))] (0, 0) _ rfl (blk_alloc (four_put (blk_drewN (heap_alloc_new w _) _)) _) Try.underlying36 rfl (by kernel_rfl)) rfl ?_
                          exact ⟨rfl, by repeat (first | (with_reducible first | exact HB.out | apply below_alloc | apply pw_below_drewN | apply below_drew1 | refine below_set ?_ (Nat.le_refl _) | refine below_set ?_ (Nat.le_succ _)) | exact HB.out)⟩
                        · rw [if_neg cc] at h
                          have pc : (Int.tmod q 2 == 1) = false := beq_eq_false_iff_ne.mpr cc
                          clear cc
                          by_cases cd : 0 ≤ abc
                          · rw [if_pos cd] at h
                            by_cases ce : abc ≤ (s.size : Int)
                            · rw [if_pos ce] at h
                              obtain ⟨⟨v, b2, f2⟩, hA, h⟩ := Option.bind_eq_some_iff.mp h
                              dsimp only at hA h
                              have A5 := Aside0.mk hA
                              clear hA
                              have pd := eq_true cd
                              have pdb : decide (0 ≤ abc) = true := decide_eq_true cd
                              have pe := eq_true ce
                              have peb : decide (abc ≤ (s.size : Int)) = true := decide_eq_true ce
                              clear cd ce
                              simp only [Option.some.injEq, Prod.mk.injEq] at h
                              obtain ⟨rfl, rfl, rfl, rfl, rfl, rfl⟩ := h
                              go_enter Try.func42, Try.ntmps42
                              go_wp2_with (first | ((with_reducible refine gate_callee (f := 41) rfl ?_); refine goesL_ (some 22) rfl rfl Try.func41 (by kernel_rfl) rfl #[.string s] rfl (by (try simp only [List.map_toArray, List.map_cons, List.map_nil]); first | done | rfl) ?_; (with_reducible refine (sorrelref01_Take.calls k s n a _ _ A1.out).mono ?_); rintro e w' ⟨rfl, ⟨nd, rfl⟩⟩; refine ⟨_, rfl, ?_⟩) | ((with_reducible refine gate_callee (f := 57) rfl ?_); refine goesL_ (some 39) rfl rfl Try.func57 (by kernel_rfl) rfl #[.string (s.extract a.toNat s.size)] rfl (by (try simp only [List.map_toArray, List.map_cons, List.map_nil]); first | done | rfl) ?_; (with_reducible refine (sorrelref01_TakeText.calls k (s.extract a.toNat s.size) t b _ _ A2.out).mono ?_); rintro e w' ⟨rfl, ⟨nd, rfl⟩⟩; refine ⟨_, rfl, ?_⟩) | ((with_reducible refine gate_callee (f := 41) rfl ?_); refine goesL_ (some 52) rfl rfl Try.func41 (by kernel_rfl) rfl #[.string (s.extract ab.toNat s.size)] rfl (by (try simp only [List.map_toArray, List.map_cons, List.map_nil]); first | done | rfl) ?_; (with_reducible refine (sorrelref01_Take.calls k (s.extract ab.toNat s.size) q c _ _ A3.out).mono ?_); rintro e w' ⟨rfl, ⟨nd, rfl⟩⟩; refine ⟨_, rfl, ?_⟩) | (go_at_call 31; (refine (sorrelref09_common.calls k last (last.extract 0 n.toNat ++ t) d _ A4.out).mono ?_); rintro e w' ⟨rfl, ⟨nd, rfl⟩⟩) | ((with_reducible refine gate_callee (f := 57) rfl ?_); refine goesL_ (some 97) rfl rfl Try.func57 (by kernel_rfl) rfl #[.string (s.extract abc.toNat s.size)] rfl (by (try simp only [List.map_toArray, List.map_cons, List.map_nil]); first | done | rfl) ?_; (with_reducible refine (sorrelref01_TakeText.calls k (s.extract abc.toNat s.size) v b2 f2 _ A5.out).mono ?_); rintro e w' ⟨rfl, ⟨nd, rfl⟩⟩; refine ⟨_, rfl, ?_⟩))
                              refine bodyPost_ret (results_ctt rfl _ _ w.heap.size 36 #[.string (last.extract 0 n.toNat ++ t), .string v, .bool false, .int .i64 (wrap64 (Int.tdiv q 2))] (0, 0) _ rfl (four_put (blk_far (blk_drewN (blk_alloc (blk_drewN (heap_alloc_new w _) _) _) _) (p := ⟨w.heap.size + 1, 1, none⟩) (Nat.ne_of_lt (Nat.lt_succ_self _)) _)) Try.underlying36 rfl (by kernel_rfl)) rfl ?_
                              exact ⟨rfl, by repeat (first | (with_reducible first | exact HB.out | apply below_alloc | apply pw_below_drewN | apply below_drew1 | refine below_set ?_ (Nat.le_refl _) | refine below_set ?_ (Nat.le_succ _)) | exact HB.out)⟩
                            · rw [if_neg ce] at h
                              exact absurd h (by simp)
                          · rw [if_neg cd] at h
                            exact absurd h (by simp)
                      · rw [if_neg cb] at h
                        have pb : (d == n) = false := beq_eq_false_iff_ne.mpr cb
                        have pbb : (d != n) = true := bne_iff_ne.mpr cb
                        clear cb
                        simp only [Option.some.injEq, Prod.mk.injEq] at h
                        obtain ⟨rfl, rfl, rfl, rfl, rfl, rfl⟩ := h
                        go_enter Try.func42, Try.ntmps42
                        go_wp2_with (first | ((with_reducible refine gate_callee (f := 41) rfl ?_); refine goesL_ (some 22) rfl rfl Try.func41 (by kernel_rfl) rfl #[.string s] rfl (by (try simp only [List.map_toArray, List.map_cons, List.map_nil]); first | done | rfl) ?_; (with_reducible refine (sorrelref01_Take.calls k s n a _ _ A1.out).mono ?_); rintro e w' ⟨rfl, ⟨nd, rfl⟩⟩; refine ⟨_, rfl, ?_⟩) | ((with_reducible refine gate_callee (f := 57) rfl ?_); refine goesL_ (some 39) rfl rfl Try.func57 (by kernel_rfl) rfl #[.string (s.extract a.toNat s.size)] rfl (by (try simp only [List.map_toArray, List.map_cons, List.map_nil]); first | done | rfl) ?_; (with_reducible refine (sorrelref01_TakeText.calls k (s.extract a.toNat s.size) t b _ _ A2.out).mono ?_); rintro e w' ⟨rfl, ⟨nd, rfl⟩⟩; refine ⟨_, rfl, ?_⟩) | ((with_reducible refine gate_callee (f := 41) rfl ?_); refine goesL_ (some 52) rfl rfl Try.func41 (by kernel_rfl) rfl #[.string (s.extract ab.toNat s.size)] rfl (by (try simp only [List.map_toArray, List.map_cons, List.map_nil]); first | done | rfl) ?_; (with_reducible refine (sorrelref01_Take.calls k (s.extract ab.toNat s.size) q c _ _ A3.out).mono ?_); rintro e w' ⟨rfl, ⟨nd, rfl⟩⟩; refine ⟨_, rfl, ?_⟩) | (go_at_call 31; (refine (sorrelref09_common.calls k last (last.extract 0 n.toNat ++ t) d _ A4.out).mono ?_); rintro e w' ⟨rfl, ⟨nd, rfl⟩⟩))
                        refine bodyPost_ret (results_ctt rfl _ _ w.heap.size 36 #[.string (⟨#[]⟩ : ByteArray), .string (⟨#[]⟩ : ByteArray), .bool false, .int .i64 0] (0, 0) _ rfl (four_put (blk_drewN (heap_alloc_new w _) _)) Try.underlying36 rfl (by kernel_rfl)) rfl ?_
                        exact ⟨rfl, by repeat (first | (with_reducible first | exact HB.out | apply below_alloc | apply pw_below_drewN | apply below_drew1 | refine below_set ?_ (Nat.le_refl _) | refine below_set ?_ (Nat.le_succ _)) | exact HB.out)⟩
                    · rw [if_neg ca] at h
                      exact absurd h (by simp)
                  · rw [if_neg c9] at h
                    exact absurd h (by simp)
                · rw [if_neg c8] at h
                  have p8 : (g == 0) = false := beq_eq_false_iff_ne.mpr c8
                  have p8b : (g != 0) = true := bne_iff_ne.mpr c8
                  clear c8
                  simp only [Option.some.injEq, Prod.mk.injEq] at h
                  obtain ⟨rfl, rfl, rfl, rfl, rfl, rfl⟩ := h
                  go_enter Try.func42, Try.ntmps42
                  go_wp2_with (first | ((with_reducible refine gate_callee (f := 41) rfl ?_); refine goesL_ (some 22) rfl rfl Try.func41 (by kernel_rfl) rfl #[.string s] rfl (by (try simp only [List.map_toArray, List.map_cons, List.map_nil]); first | done | rfl) ?_; (with_reducible refine (sorrelref01_Take.calls k s n a _ _ A1.out).mono ?_); rintro e w' ⟨rfl, ⟨nd, rfl⟩⟩; refine ⟨_, rfl, ?_⟩) | ((with_reducible refine gate_callee (f := 57) rfl ?_); refine goesL_ (some 39) rfl rfl Try.func57 (by kernel_rfl) rfl #[.string (s.extract a.toNat s.size)] rfl (by (try simp only [List.map_toArray, List.map_cons, List.map_nil]); first | done | rfl) ?_; (with_reducible refine (sorrelref01_TakeText.calls k (s.extract a.toNat s.size) t b _ _ A2.out).mono ?_); rintro e w' ⟨rfl, ⟨nd, rfl⟩⟩; refine ⟨_, rfl, ?_⟩) | ((with_reducible refine gate_callee (f := 41) rfl ?_); refine goesL_ (some 52) rfl rfl Try.func41 (by kernel_rfl) rfl #[.string (s.extract ab.toNat s.size)] rfl (by (try simp only [List.map_toArray, List.map_cons, List.map_nil]); first | done | rfl) ?_; (with_reducible refine (sorrelref01_Take.calls k (s.extract ab.toNat s.size) q c _ _ A3.out).mono ?_); rintro e w' ⟨rfl, ⟨nd, rfl⟩⟩; refine ⟨_, rfl, ?_⟩))
                  refine bodyPost_ret (results_ctt rfl _ _ w.heap.size 36 #[.string (⟨#[]⟩ : ByteArray), .string (⟨#[]⟩ : ByteArray), .bool false, .int .i64 0] (0, 0) _ rfl (four_put (blk_drewN (heap_alloc_new w _) _)) Try.underlying36 rfl (by kernel_rfl)) rfl ?_
                  exact ⟨rfl, by repeat (first | (with_reducible first | exact HB.out | apply below_alloc | apply pw_below_drewN | apply below_drew1 | refine below_set ?_ (Nat.le_refl _) | refine below_set ?_ (Nat.le_succ _)) | exact HB.out)⟩
              · rw [if_neg c7] at h
                exact absurd h (by simp)
            · rw [if_neg c6] at h
              exact absurd h (by simp)
          · rw [if_neg c5] at h
            have p5 : (f == 0) = false := beq_eq_false_iff_ne.mpr c5
            have p5b : (f != 0) = true := bne_iff_ne.mpr c5
            clear c5
            simp only [Option.some.injEq, Prod.mk.injEq] at h
            obtain ⟨rfl, rfl, rfl, rfl, rfl, rfl⟩ := h
            go_enter Try.func42, Try.ntmps42
            go_wp2_with (first | ((with_reducible refine gate_callee (f := 41) rfl ?_); refine goesL_ (some 22) rfl rfl Try.func41 (by kernel_rfl) rfl #[.string s] rfl (by (try simp only [List.map_toArray, List.map_cons, List.map_nil]); first | done | rfl) ?_; (with_reducible refine (sorrelref01_Take.calls k s n a _ _ A1.out).mono ?_); rintro e w' ⟨rfl, ⟨nd, rfl⟩⟩; refine ⟨_, rfl, ?_⟩) | ((with_reducible refine gate_callee (f := 57) rfl ?_); refine goesL_ (some 39) rfl rfl Try.func57 (by kernel_rfl) rfl #[.string (s.extract a.toNat s.size)] rfl (by (try simp only [List.map_toArray, List.map_cons, List.map_nil]); first | done | rfl) ?_; (with_reducible refine (sorrelref01_TakeText.calls k (s.extract a.toNat s.size) t b _ _ A2.out).mono ?_); rintro e w' ⟨rfl, ⟨nd, rfl⟩⟩; refine ⟨_, rfl, ?_⟩))
            refine bodyPost_ret (results_ctt rfl _ _ w.heap.size 36 #[.string (⟨#[]⟩ : ByteArray), .string (⟨#[]⟩ : ByteArray), .bool false, .int .i64 0] (0, 0) _ rfl (four_put (blk_drewN (heap_alloc_new w _) _)) Try.underlying36 rfl (by kernel_rfl)) rfl ?_
            exact ⟨rfl, by repeat (first | (with_reducible first | exact HB.out | apply below_alloc | apply pw_below_drewN | apply below_drew1 | refine below_set ?_ (Nat.le_refl _) | refine below_set ?_ (Nat.le_succ _)) | exact HB.out)⟩
        · rw [if_neg c4] at h
          exact absurd h (by simp)
      · rw [if_neg c3] at h
        exact absurd h (by simp)
    · rw [if_neg c2] at h
      have p2 : decide ((last.size : Int) < n) = true := decide_eq_true (by omega)
      clear c2
      simp only [Option.some.injEq, Prod.mk.injEq] at h
      obtain ⟨rfl, rfl, rfl, rfl, rfl, rfl⟩ := h
      go_enter Try.func42, Try.ntmps42
      go_wp2_with (first | ((with_reducible refine gate_callee (f := 41) rfl ?_); refine goesL_ (some 22) rfl rfl Try.func41 (by kernel_rfl) rfl #[.string s] rfl (by (try simp only [List.map_toArray, List.map_cons, List.map_nil]); first | done | rfl) ?_; (with_reducible refine (sorrelref01_Take.calls k s n a _ _ A1.out).mono ?_); rintro e w' ⟨rfl, ⟨nd, rfl⟩⟩; refine ⟨_, rfl, ?_⟩))
      refine bodyPost_ret (results_ctt rfl _ _ w.heap.size 36 #[.string (⟨#[]⟩ : ByteArray), .string (⟨#[]⟩ : ByteArray), .bool false, .int .i64 0] (0, 0) _ rfl (four_put (blk_drewN (heap_alloc_new w _) _)) Try.underlying36 rfl (by kernel_rfl)) rfl ?_
      exact ⟨rfl, by repeat (first | (with_reducible first | exact HB.out | apply below_alloc | apply pw_below_drewN | apply below_drew1 | refine below_set ?_ (Nat.le_refl _) | refine below_set ?_ (Nat.le_succ _)) | exact HB.out)⟩
  · rw [if_neg c1] at h
    have p1 : (e == 0) = false := beq_eq_false_iff_ne.mpr c1
    have p1b : (e != 0) = true := bne_iff_ne.mpr c1
    clear c1
    simp only [Option.some.injEq, Prod.mk.injEq] at h
    obtain ⟨rfl, rfl, rfl, rfl, rfl, rfl⟩ := h
    go_enter Try.func42, Try.ntmps42
    go_wp2_with (first | ((with_reducible refine gate_callee (f := 41) rfl ?_); refine goesL_ (some 22) rfl rfl Try.func41 (by kernel_rfl) rfl #[.string s] rfl (by (try simp only [List.map_toArray, List.map_cons, List.map_nil]); first | done | rfl) ?_; (with_reducible refine (sorrelref01_Take.calls k s n a _ _ A1.out).mono ?_); rintro e w' ⟨rfl, ⟨nd, rfl⟩⟩; refine ⟨_, rfl, ?_⟩))
    refine bodyPost_ret (results_ctt rfl _ _ w.heap.size 36 #[.string (⟨#[]⟩ : ByteArray), .string (⟨#[]⟩ : ByteArray), .bool false, .int .i64 0] (0, 0) _ rfl (four_put (blk_drewN (heap_alloc_new w _) _)) Try.underlying36 rfl (by kernel_rfl)) rfl ?_
    exact ⟨rfl, by repeat (first | (with_reducible first | exact HB.out | apply below_alloc | apply pw_below_drewN | apply below_drew1 | refine below_set ?_ (Nat.le_refl _) | refine below_set ?_ (Nat.le_succ _)) | exact HB.out)⟩

/-! ### sorrelref09_Take: function 16 -/
def sorrelref09_Take.l0 : Nat → ByteArray → Int → Int → List S36 → ByteArray → Int → Option (List S36 × Int)
  | 0, _, _, _, _, _, _ => none
  | k + 1, S, n, p, out, last, i =>
    if i < n then
      (if 0 ≤ p then (if p ≤ (S.size : Int) then
        ((sorrelref09_one.f k (S.extract p.toNat S.size) last).bind fun x =>
          if x.2.2.2.2.2 = true then
            (if out.length < 2932031007402 then sorrelref09_Take.l0 k S n (wrap64 (p + x.2.2.2.2.1)) (out ++ [(⟨x.1, x.2.1, x.2.2.1, x.2.2.2.1⟩ : S36)]) x.1 (wrap64 (i + 1)) else none)
          else some ([], 90))
      else none) else none)
    else (if p = (S.size : Int) then ((sorrelref09_Check.f k out).bind fun e => if e = 0 then some (out, 0) else some ([], 90)) else some ([], 90))
def sorrelref09_Take.f (k : Nat) (a0 : ByteArray) : Option (List S36 × Int) :=
  (sorrelref02_Check.f k a0).bind fun c => if c = true then
    (if 0 ≤ wrap64 ((a0.size : Int) - 4) then
      (if wrap64 ((a0.size : Int) - 4) ≤ (a0.size : Int) then
        ((sorrelref01_Take.f k (a0.extract 0 (wrap64 ((a0.size : Int) - 4)).toNat)).bind fun x =>
          if x.2.2 = 0 then (if x.1 > 4096 then some ([], 90) else sorrelref09_Take.l0 k (a0.extract 0 (wrap64 ((a0.size : Int) - 4)).toNat) x.1 x.2.1 [] (⟨#[]⟩ : ByteArray) 0) else some ([], 90))
      else none)
    else none)
  else some ([], 90)
theorem sorrelref09_Take.mono_l : ∀ k, (∀ y0 y1 y2 y3 y4 y5, LeO (sorrelref09_Take.l0 k y0 y1 y2 y3 y4 y5) (sorrelref09_Take.l0 (k + 1) y0 y1 y2 y3 y4 y5))
  | 0 => fun _ _ _ _ _ _ r h => by simp [sorrelref09_Take.l0] at h
  | k + 1 => by
    have ih0 := sorrelref09_Take.mono_l k
    intro y0 y1 y2 y3 y4 y5
    unfold sorrelref09_Take.l0
    repeat' first
      | (with_reducible exact ih0 _ _ _ _ _ _)
      | (with_reducible exact sorrelref09_one.mono _ _ _)
      | (with_reducible exact sorrelref09_Check.mono _ _)
      | (with_reducible exact LeO.refl _)
      | (with_reducible exact LeO.none _)
      | (with_reducible refine LeO.ite ?_ ?_)
      | (with_reducible refine LeO.bind ?_ (fun _ => ?_))
theorem sorrelref09_Take.mono : ∀ a0 k, LeO (sorrelref09_Take.f k a0) (sorrelref09_Take.f (k + 1) a0) := by
  intro a0 k
  have ih0 := sorrelref09_Take.mono_l k
  unfold sorrelref09_Take.f
  repeat' first
    | (with_reducible exact ih0 _ _ _ _ _ _)
    | (with_reducible exact sorrelref02_Check.mono _ _)
    | (with_reducible exact sorrelref01_Take.mono _ _)
    | (with_reducible exact LeO.refl _)
    | (with_reducible exact LeO.none _)
    | (with_reducible refine LeO.ite ?_ ?_)
    | (with_reducible refine LeO.bind ?_ (fun _ => ?_))
set_option maxHeartbeats 8000000 in
set_option maxRecDepth 100000 in
theorem sorrelref09_Take.calls (k : Nat) (a0 : ByteArray) (r1 : List S36) (r2 : Int) (w : World) (h : sorrelref09_Take.f k a0 = some (r1, r2)) :
    Calls Try.prog 16 #[.string a0] w fun e w' => ∃ v0_ : Value, e = .returned (.tuple #[v0_, .int .i64 r2]) ∧ Kd.R k36 36 w' w.heap.size (fun _ => True) v0_ r1 ∧ Below w.heap.size w w' := by
  unfold sorrelref09_Take.f at h
  obtain ⟨c, hA, h⟩ := Option.bind_eq_some_iff.mp h
  have A1 := Aside0.mk hA
  clear hA
  cases c with
  | false =>
    rw [if_neg (by decide)] at h
    simp only [Option.some.injEq, Prod.mk.injEq] at h
    obtain ⟨rfl, rfl⟩ := h
    go_enter Try.func16, Try.ntmps16
    go_wp2_with (go_at_call 40; (refine (sorrelref02_Check.calls k a0 false _ A1.out).mono ?_); rintro e w1 ⟨rfl, hb1⟩; have HB1 := Aside0.mk hb1; clear hb1)
    go_ret2
    exact ⟨_, rfl, Kd.R_nil _ _ _ _ _, HB1.out⟩
  | true =>
    rw [if_pos rfl] at h
    obtain ⟨ji, hji⟩ : ∃ j_ : Int, wrap64 ((a0.size : Int) - 4) = j_ := ⟨_, rfl⟩
    rw [hji] at h
    have hjiw : IntKind.i64.wrap ((a0.size : Int) - 4) = ji := (i64_w _).trans hji
    by_cases c2 : 0 ≤ ji
    · rw [if_pos c2] at h
      by_cases c3 : ji ≤ (a0.size : Int)
      · rw [if_pos c3] at h
        have p2 := eq_true c2
        have p3 := eq_true c3
        have p2b : decide (0 ≤ ji) = true := decide_eq_true c2
        have p3b : decide (ji ≤ (a0.size : Int)) = true := decide_eq_true c3
        obtain ⟨S, hS⟩ : ∃ S, a0.extract 0 ji.toNat = S := ⟨_, rfl⟩
        rw [hS] at h
        obtain ⟨⟨n, p, e⟩, hN, h⟩ := Option.bind_eq_some_iff.mp h
        dsimp only at h
        have A2 := Aside0.mk hN
        clear hN c2 c3
        by_cases c4 : e = 0
        · rw [if_pos c4] at h
          subst c4
          by_cases c5 : n > 4096
          · rw [if_pos c5] at h
            have c5b : decide (4096 < n) = true := decide_eq_true c5
            clear c5
            simp only [Option.some.injEq, Prod.mk.injEq] at h
            obtain ⟨rfl, rfl⟩ := h
            go_enter Try.func16, Try.ntmps16
            go_wp2_with (first | (go_at_call 40; (refine (sorrelref02_Check.calls k a0 true _ A1.out).mono ?_); rintro e w1 ⟨rfl, hb1⟩; have HB1 := Aside0.mk hb1; clear hb1) | (go_at_call 41; (refine (sorrelref01_Take.calls k S n p _ _ A2.out).mono ?_); rintro e w2 ⟨rfl, ⟨nd, rfl⟩⟩))
            go_ret2
            exact ⟨_, rfl, Kd.R_nil _ _ _ _ _, (by repeat (first | (with_reducible first | exact HB1.out | apply below_alloc | apply pw_below_drewN | apply below_drew1) | exact HB1.out))⟩
          · rw [if_neg c5] at h
            have c5b : decide (4096 < n) = false := decide_eq_false c5
            clear c5
            have H' := Aside0.mk h
            clear h
            go_enter Try.func16, Try.ntmps16
            go_wp2_with (first | (go_at_call 40; (refine (sorrelref02_Check.calls k a0 true _ A1.out).mono ?_); rintro e w1 ⟨rfl, hb1⟩; have HB1 := Aside0.mk hb1; clear hb1) | (go_at_call 41; (refine (sorrelref01_Take.calls k S n p _ _ A2.out).mono ?_); rintro e w2 ⟨rfl, ⟨nd, rfl⟩⟩))
            go_loopg [5, 7, 8, 9] k (fun kq v5 v7 v8 v9 w' => ∃ (p : Int) (out : List S36) (last : ByteArray) (i : Int), v5 = .int .i64 p ∧ v8 = .string last ∧ v9 = .int .i64 i ∧ Aside0 (sorrelref09_Take.l0 kq S n p out last i = some (r1, r2)) ∧ Aside0 (kq ≤ k) ∧ Aside0 (Kd.R k36 36 w' w.heap.size (fun _ => True) v7 out) ∧ Aside0 (Below w.heap.size w w'))
            case atStart => exact ⟨_, [], _, 0, rfl, rfl, rfl, H', ⟨Nat.le_refl _⟩, ⟨Kd.R_nil _ _ _ _ _⟩, ⟨(by repeat (first | (with_reducible first | exact HB1.out | apply below_alloc | apply pw_below_drewN | apply below_drew1) | exact HB1.out))⟩⟩
            case round =>
              clear H'
              obtain ⟨p, out, last, i, rfl, rfl, rfl, HA, HKQ, HO, HB⟩ := hrel
              cases gk with
              | zero => exact absurd HA.out (by simp [sorrelref09_Take.l0])
              | succ k1 =>
                have H := HA.out
                clear HA
                simp only [sorrelref09_Take.l0] at H
                by_cases ci : i < n
                · rw [if_pos ci] at H
                  have cib : decide (i < n) = true := decide_eq_true ci
                  clear ci
                  by_cases c6 : 0 ≤ p
                  · rw [if_pos c6] at H
                    by_cases c7 : p ≤ (S.size : Int)
                    · rw [if_pos c7] at H
                      have p6 := eq_true c6
                      have p6b : decide (0 ≤ p) = true := decide_eq_true c6
                      have p7 := eq_true c7
                      have p7b : decide (p ≤ (S.size : Int)) = true := decide_eq_true c7
                      clear c6 c7
                      obtain ⟨⟨K, V, G, Q, z, ok⟩, hX, H⟩ := Option.bind_eq_some_iff.mp H
                      dsimp only at hX H
                      have X1 := Aside0.mk hX
                      clear hX
                      cases ok with
                      | false =>
                        rw [if_neg (by decide)] at H
                        simp only [Option.some.injEq, Prod.mk.injEq] at H
                        obtain ⟨rfl, rfl⟩ := H
                        go_wp2_with (first | (go_at_call 42; (refine (sorrelref09_one.calls k1 (S.extract p.toNat S.size) last K V G Q z _ _ X1.out).mono ?_); rintro e w5 ⟨rfl, hb⟩; have HB2 := Aside0.mk (below_step HB.out hb); have HO2 := Aside0.mk (Kd.R_below HO.out hb); clear hb))
                        go_ret2
                        exact ⟨_, rfl, Kd.R_nil _ _ _ _ _, (by repeat (first | (with_reducible first | exact HB2.out | apply below_alloc | apply pw_below_drewN | apply below_drew1) | exact HB2.out))⟩
                      | true =>
                        rw [if_pos rfl] at H
                        by_cases c8 : out.length < 2932031007402
                        · rw [if_pos c8] at H
                          have LM := Aside0.mk c8
                          have H' := Aside0.mk H
                          clear H c8
                          go_wp2_with (first | (go_at_call 42; (refine (sorrelref09_one.calls k1 (S.extract p.toNat S.size) last K V G Q z _ _ X1.out).mono ?_); rintro e w5 ⟨rfl, hb⟩; have HB2 := Aside0.mk (below_step HB.out hb); have HO2 := Aside0.mk (Kd.R_below HO.out hb); clear hb) | ((with_reducible refine gate_builtin (b := .append) (xs := #[.tmp 49, .tmp 51]) rfl ?_); at_builtin; refine Kd.R_append k36 (w0 := w) w.heap.size rfl (.tmp 49) (.tmp 51) 22 36 (.agg #[(.string ⟨#[]⟩), (.string ⟨#[]⟩), (.bool false), (.int .i64 0)]) 48 rfl Try.underlying22 info36 rfl (by decide) (by omega) u7 out (⟨K, V, G, Q⟩ : S36) [.string K, .string V, .bool G, .int .i64 Q] (fun _ => True) (fun _ => False) rfl (by first | (go_simp; done) | (go_simp; rfl)) ?aP (fun _ hk => hk.elim) ?aF ?aO ?aB ?aS ?aL ?_; (case aP => exact k36_mkM _ _ _ (⟨K, V, G, Q⟩ : S36)); (case aB => exact (by repeat (first | (with_reducible first | exact HB2.out | apply below_alloc | apply pw_below_drewN | apply below_drew1) | exact HB2.out))); (case aF => exact (fun _ _ => trivial)); (case aO => exact (by (with_reducible repeat (first | apply Kd.R_alloc | apply Kd.R_drewN | apply Kd.R_drew)); exact HO2.out)); (case aS => exact (below_size (by repeat (first | (with_reducible first | exact HB2.out | apply below_alloc | apply pw_below_drewN | apply below_drew1) | exact HB2.out)))); (case aL => have := LM.out; omega); intro v9 w9 ho hb hg hat; have he := blk_grown (g := w5.heap.size) (o := .cells #[.string K, .string V, .bool G, .int .i64 Q] 36 (0, 0)) (heap_alloc_new w5 _) hg (fun e => Nat.lt_irrefl _ (Kd.R_lt HO2.out _ e.symm)); have hy0 := (blk_cell he 0).trans rfl; have HO9 := Aside0.mk ho; have HB9 := Aside0.mk hb; clear ho hb hg hat he))
                          go_roundg k1
                          case measure => have := HKQ.out; omega
                          case rel => exact ⟨_, _, _, _, rfl, rfl, rfl, H', ⟨by have := HKQ.out; omega⟩, HO9, HB9⟩
                        · rw [if_neg c8] at H
                          exact absurd H (by simp)
                    · rw [if_neg c7] at H
                      exact absurd H (by simp)
                  · rw [if_neg c6] at H
                    exact absurd H (by simp)
                · rw [if_neg ci] at H
                  have cib : decide (i < n) = false := decide_eq_false ci
                  clear ci
                  by_cases ce : p = (S.size : Int)
                  · rw [if_pos ce] at H
                    have ce0 : (p == (S.size : Int)) = true := beq_iff_eq.mpr ce
                    have ce1 : (p != (S.size : Int)) = false := bne_eq_false_iff_eq.mpr ce
                    obtain ⟨e, hE, H⟩ := Option.bind_eq_some_iff.mp H
                    have E1 := Aside0.mk hE
                    clear hE ce
                    obtain ⟨Ao, co, eo⟩ := Kd.R_slice HO.out
                    subst eo
                    by_cases c7 : e = 0
                    · rw [if_pos c7] at H
                      subst c7
                      simp only [Option.some.injEq, Prod.mk.injEq] at H
                      obtain ⟨rfl, rfl⟩ := H
                      go_wp2_with (first | (go_at_call 14; (refine (sorrelref09_Check.calls k1 _ _ out _ _ (Kd.R_reads' HO.out).2.2 (Kd.R_reads' HO.out).2.1 E1.out).mono ?_); rintro e w5 ⟨rfl, hbe⟩; have HBE := Aside0.mk hbe; clear hbe))
                      go_ret2
                      exact ⟨_, rfl, Kd.R_below HO.out HBE.out, below_step HB.out HBE.out⟩
                    · rw [if_neg c7] at H
                      have c7b : (e == 0) = false := beq_eq_false_iff_ne.mpr c7
                      have c7c : (e != 0) = true := bne_iff_ne.mpr c7
                      clear c7
                      simp only [Option.some.injEq, Prod.mk.injEq] at H
                      obtain ⟨rfl, rfl⟩ := H
                      go_wp2_with (first | (go_at_call 14; (refine (sorrelref09_Check.calls k1 _ _ out _ _ (Kd.R_reads' HO.out).2.2 (Kd.R_reads' HO.out).2.1 E1.out).mono ?_); rintro e w5 ⟨rfl, hbe⟩; have HBE := Aside0.mk hbe; clear hbe))
                      go_ret2
                      exact ⟨_, rfl, Kd.R_nil _ _ _ _ _, below_step HB.out HBE.out⟩
                  · rw [if_neg ce] at H
                    have ce0 : (p == (S.size : Int)) = false := beq_eq_false_iff_ne.mpr ce
                    have ce1 : (p != (S.size : Int)) = true := bne_iff_ne.mpr ce
                    clear ce
                    simp only [Option.some.injEq, Prod.mk.injEq] at H
                    obtain ⟨rfl, rfl⟩ := H
                    go_wp2
                    go_ret2
                    exact ⟨_, rfl, Kd.R_nil _ _ _ _ _, HB.out⟩
        · rw [if_neg c4] at h
          have p4 : (e == 0) = false := beq_eq_false_iff_ne.mpr c4
          have p4b : (e != 0) = true := bne_iff_ne.mpr c4
          clear c4
          simp only [Option.some.injEq, Prod.mk.injEq] at h
          obtain ⟨rfl, rfl⟩ := h
          go_enter Try.func16, Try.ntmps16
          go_wp2_with (first | (go_at_call 40; (refine (sorrelref02_Check.calls k a0 true _ A1.out).mono ?_); rintro e w1 ⟨rfl, hb1⟩; have HB1 := Aside0.mk hb1; clear hb1) | (go_at_call 41; (refine (sorrelref01_Take.calls k S n p _ _ A2.out).mono ?_); rintro e w2 ⟨rfl, ⟨nd, rfl⟩⟩))
          go_ret2
          exact ⟨_, rfl, Kd.R_nil _ _ _ _ _, (by repeat (first | (with_reducible first | exact HB1.out | apply below_alloc | apply pw_below_drewN | apply below_drew1) | exact HB1.out))⟩
      · rw [if_neg c3] at h
        exact absurd h (by simp)
    · rw [if_neg c2] at h
      exact absurd h (by simp)

end Go.Proofs.Ytcfkmcbmambchaa.XA
