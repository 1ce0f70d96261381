-- Written by a program of this session (wip/xprint.py) out of the translation.
import Derived.Test.YthjgnnldpepdfaaXAx0
namespace Go.Proofs.Ythjgnnldpepdfaa.XA
open Go.RowKit Go.Proofs.YthjgnnldpepdfaaW.PrintWords Go.Proofs.YthjgnnldpepdfaaW.PrintLast Go.Proofs.YthjgnnldpepdfaaW.PrintMore Go.Proofs.Ythjgnnldpepdfaa.XW
attribute [local go_sem high] max2_str unary_xor_u32 leq_str geq_str gtr_str
attribute [local go_sem] max2_int min2_int max_two min_two max_three min_three max_four min_four   -- for this text's walks alone
set_option linter.unusedVariables false
set_option linter.unusedSimpArgs false

/-! ### sorrellaw08_few: function 9 -/
mutual
def sorrellaw08_few.l0 : Nat → List ByteArray → Int → Option (Bool)
  | 0, _, _ => none
  | k + 1, x0, x3 => if x3 < (x0.length : Int) then (sorrellaw08_few.j1 k x0 x3 (decide (x3 < 100))) else (sorrellaw08_few.j1 k x0 x3 false)
def sorrellaw08_few.j1 : Nat → List ByteArray → Int → Bool → Option (Bool)
  | 0, _, _, _ => none
  | k + 1, x0, x3, x11 => if x11 = true then (if 0 ≤ x3 then (if x3 < (x0.length : Int) then (if ((rdOf ByteArray.empty x0 x3).size : Int) > 256 then (some false) else (sorrellaw08_few.l0 k x0 (wrap64 (x3 + 1)))) else (none)) else (none)) else (some (decide ((x0.length : Int) ≤ 100)))
end
def sorrellaw08_few.f (k : Nat) (l0 : List ByteArray) : Option (Bool) := sorrellaw08_few.l0 k l0 0
theorem sorrellaw08_few.mono_l : ∀ k, (∀ y0 y1, LeO (sorrellaw08_few.l0 k y0 y1) (sorrellaw08_few.l0 (k + 1) y0 y1)) ∧ (∀ y0 y1 y2, LeO (sorrellaw08_few.j1 k y0 y1 y2) (sorrellaw08_few.j1 (k + 1) y0 y1 y2))
  | 0 => ⟨fun _ _ r h => by simp [sorrellaw08_few.l0] at h, fun _ _ _ r h => by simp [sorrellaw08_few.j1] at h⟩
  | k + 1 => by
    obtain ⟨ih0, ih1⟩ := sorrellaw08_few.mono_l k
    refine ⟨?_, ?_⟩
    · intro y0 y1
      unfold sorrellaw08_few.l0
      repeat' first
      | (with_reducible exact ih0 _ _)
      | (with_reducible exact ih1 _ _ _)
      | (with_reducible exact LeO.refl _)
      | (with_reducible exact LeO.none _)
      | (with_reducible refine LeO.ite ?_ ?_)
      | (with_reducible refine LeO.bind ?_ (fun _ => ?_))
      | exact ih0 _ _
      | exact ih1 _ _ _
      | exact LeO.none _
      | refine LeO.ite ?_ ?_
      | refine LeO.bind ?_ (fun _ => ?_)
    · intro y0 y1 y2
      unfold sorrellaw08_few.j1
      repeat' first
      | (with_reducible exact ih0 _ _)
      | (with_reducible exact ih1 _ _ _)
      | (with_reducible exact LeO.refl _)
      | (with_reducible exact LeO.none _)
      | (with_reducible refine LeO.ite ?_ ?_)
      | (with_reducible refine LeO.bind ?_ (fun _ => ?_))
      | exact ih0 _ _
      | exact ih1 _ _ _
      | exact LeO.none _
      | refine LeO.ite ?_ ?_
      | refine LeO.bind ?_ (fun _ => ?_)
theorem sorrellaw08_few.mono : ∀ a0 k, LeO (sorrellaw08_few.f k a0) (sorrellaw08_few.f (k + 1) a0) := by
  intro a0 k
  obtain ⟨ih0, ih1⟩ := sorrellaw08_few.mono_l k
  unfold sorrellaw08_few.f
  repeat' first
      | (with_reducible exact ih0 _ _)
      | (with_reducible exact ih1 _ _ _)
      | (with_reducible exact LeO.refl _)
      | (with_reducible exact LeO.none _)
      | (with_reducible refine LeO.ite ?_ ?_)
      | (with_reducible refine LeO.bind ?_ (fun _ => ?_))
      | exact ih0 _ _
      | exact ih1 _ _ _
      | exact LeO.none _
      | refine LeO.ite ?_ ?_
      | refine LeO.bind ?_ (fun _ => ?_)
set_option maxHeartbeats 8000000 in
set_option maxRecDepth 100000 in
theorem sorrellaw08_few.calls (k : Nat) (A0 : Option Addr) (c0 : Nat) (l0 : List ByteArray) (r : Bool) (w : World) (hr0 : Kd.C Kd.string w A0 l0.length l0) (hc0 : l0.length ≤ c0) (h : sorrellaw08_few.f k l0 = some r) :
    Calls Try.prog 9 #[.slice A0 l0.length c0] w fun e w' => e = .returned (.bool r) ∧ Drawn0 w w' := by
  have HR0 := Aside0.mk hr0
  have HC0 := Aside0.mk hc0
  clear hr0 hc0
  have H : (sorrellaw08_few.l0 k l0 0) = some r := h
  clear h
  have H' := Aside0.mk H
  clear H
  go_enter Try.func9, Try.ntmps9
  go_wp2
  go_loopg [3] k (fun kq v3 w' => ∃ (x3_1 : Int), v3 = .int .i64 x3_1 ∧ Aside0 (sorrellaw08_few.l0 kq l0 x3_1 = some r) ∧ Aside0 (kq ≤ k) ∧ Drawn0 w w')
  case atStart => exact ⟨(0), (by first | rfl | (simp; done) | (simp [*]; done) | exact isE1 _ | exact isE2 _ | exact isE3 _ | exact isE4 _ | exact congrArg Value.bool (isE1 _) | exact congrArg Value.bool (isE2 _) | exact congrArg Value.bool (isE3 _) | exact congrArg Value.bool (isE4 _)), H', ⟨Nat.le_refl _⟩, by repeat (first | exact Drawn0.refl _ | apply Drawn0.step)⟩
  case round =>
    clear H'
    obtain ⟨x3_1, rfl, HA, HK1, ⟨m1, rfl⟩⟩ := hrel
    cases gk with
    | zero => exact absurd HA.out (by simp [sorrellaw08_few.l0])
    | succ k1 =>
      have H := HA.out
      clear HA
      simp only [sorrellaw08_few.l0] at H
      have HC2 := Aside0.mk H
      clear H
      go_upto_region 2 with (fail)
      go_cut [11] (fun v11 wc => ∃ (kq : Nat) (x11_1 : Bool), v11 = .bool x11_1 ∧ Aside0 (sorrellaw08_few.j1 kq l0 x3_1 x11_1 = some r) ∧ Aside0 (kq ≤ k1) ∧ Drawn0 w wc)
      case first =>
        have H := HC2.out
        clear HC2
        by_cases c3 : x3_1 < (l0.length : Int)
        · rw [if_pos c3] at H
          have c3b0 : decide (x3_1 < (l0.length : Int)) = true := decide_eq_true c3
          clear c3
          (first | rw [c3b0] | (simp only [i64_w, i32_w]; rw [c3b0]) | skip)
          have H' := Aside0.mk H
          clear H
          go_wp2
          go_meet
          case rel => exact ⟨_, (decide (x3_1 < 100)), (by first | rfl | (simp; done) | (simp [*]; done) | exact isE1 _ | exact isE2 _ | exact isE3 _ | exact isE4 _ | exact congrArg Value.bool (isE1 _) | exact congrArg Value.bool (isE2 _) | exact congrArg Value.bool (isE3 _) | exact congrArg Value.bool (isE4 _)), H', ⟨by have := HK1.out; first | omega | exact Nat.le_refl _⟩, by repeat (first | exact Drawn0.refl _ | apply Drawn0.step)⟩
        · rw [if_neg c3] at H
          have c3b0 : decide (x3_1 < (l0.length : Int)) = false := decide_eq_false c3
          clear c3
          (first | rw [c3b0] | (simp only [i64_w, i32_w]; rw [c3b0]) | skip)
          have H' := Aside0.mk H
          clear H
          go_wp2
          go_meet
          case rel => exact ⟨_, (false), (by first | rfl | (simp; done) | (simp [*]; done) | exact isE1 _ | exact isE2 _ | exact isE3 _ | exact isE4 _ | exact congrArg Value.bool (isE1 _) | exact congrArg Value.bool (isE2 _) | exact congrArg Value.bool (isE3 _) | exact congrArg Value.bool (isE4 _)), H', ⟨by have := HK1.out; first | omega | exact Nat.le_refl _⟩, by repeat (first | exact Drawn0.refl _ | apply Drawn0.step)⟩
      case rest =>
        clear HC2
        try clear p2
        try clear c3
        try clear c3b0
        obtain ⟨kq, x11_1, rfl, HA, HJ1, ⟨mc1, rfl⟩⟩ := hcut
        cases kq with
        | zero => exact absurd HA.out (by simp [sorrellaw08_few.j1])
        | succ kj1 =>
          have H := HA.out
          clear HA
          simp only [sorrellaw08_few.j1] at H
          by_cases c4 : x11_1 = true
          · subst c4
            have H1 : (if 0 ≤ x3_1 then (if x3_1 < (l0.length : Int) then (if ((rdOf ByteArray.empty l0 x3_1).size : Int) > 256 then (some false) else (sorrellaw08_few.l0 kj1 l0 (wrap64 (x3_1 + 1)))) else (none)) else (none)) = some r := by rw [if_pos rfl] at H; exact H
            clear H
            have H := H1
            clear H1
            by_cases c5 : 0 ≤ x3_1
            · rw [if_pos c5] at H
              have c5b0 : decide (0 ≤ x3_1) = true := decide_eq_true c5
              clear c5
              by_cases c6 : x3_1 < (l0.length : Int)
              · rw [if_pos c6] at H
                have c6b0 : decide (x3_1 < (l0.length : Int)) = true := decide_eq_true c6
                clear c6
                by_cases c7 : ((rdOf ByteArray.empty l0 x3_1).size : Int) > 256
                · rw [if_pos c7] at H
                  have c7b0 : decide (256 < ((rdOf ByteArray.empty l0 x3_1).size : Int)) = true := decide_eq_true c7
                  have c7b1 : decide (256 < (rdOf ByteArray.empty l0 x3_1).size) = true := decide_eq_true (by omega)
                  clear c7
                  obtain rfl := Option.some.inj H
                  have p101 : 0 ≤ (x3_1 : Int) := of_decide_eq_true (by first | (with_reducible assumption) | assumption)
                  have q101 : x3_1 < (l0.length : Int) := of_decide_eq_true (by first | (with_reducible assumption) | assumption)
                  obtain ⟨ad101, e101, hx101_0⟩ := Kd.at_string HR0.out x3_1 p101 q101
                  cases e101
                  replace p101 := eq_true p101
                  replace q101 := eq_true q101
                  go_wp2
                  go_ret
                  exact ⟨by first | rfl | (simp; done) | (simp [*]; done) | exact isE1 _ | exact isE2 _ | exact isE3 _ | exact isE4 _ | exact congrArg Value.bool (isE1 _) | exact congrArg Value.bool (isE2 _) | exact congrArg Value.bool (isE3 _) | exact congrArg Value.bool (isE4 _), by repeat (first | exact Drawn0.refl _ | apply Drawn0.step)⟩
                · rw [if_neg c7] at H
                  have c7b0 : decide (256 < ((rdOf ByteArray.empty l0 x3_1).size : Int)) = false := decide_eq_false c7
                  have c7b1 : decide (256 < (rdOf ByteArray.empty l0 x3_1).size) = false := decide_eq_false (by omega)
                  clear c7
                  have H' := Aside0.mk H
                  clear H
                  have p101 : 0 ≤ (x3_1 : Int) := of_decide_eq_true (by first | (with_reducible assumption) | assumption)
                  have q101 : x3_1 < (l0.length : Int) := of_decide_eq_true (by first | (with_reducible assumption) | assumption)
                  obtain ⟨ad101, e101, hx101_0⟩ := Kd.at_string HR0.out x3_1 p101 q101
                  cases e101
                  replace p101 := eq_true p101
                  replace q101 := eq_true q101
                  go_wp2
                  go_roundg kj1
                  case measure => have := HK1.out; have := HJ1.out; omega
                  case rel => exact ⟨(wrap64 (x3_1 + 1)), (by first | rfl | (simp; done) | (simp [*]; done) | exact isE1 _ | exact isE2 _ | exact isE3 _ | exact isE4 _ | exact congrArg Value.bool (isE1 _) | exact congrArg Value.bool (isE2 _) | exact congrArg Value.bool (isE3 _) | exact congrArg Value.bool (isE4 _)), H', ⟨by have := HK1.out; have := HJ1.out; omega⟩, by repeat (first | exact Drawn0.refl _ | apply Drawn0.step)⟩
              · rw [if_neg c6] at H
                exact absurd H (by simp)
            · rw [if_neg c5] at H
              exact absurd H (by simp)
          · replace c4 := Bool.eq_false_iff.mpr c4
            subst c4
            have H1 : (some (decide ((l0.length : Int) ≤ 100))) = some r := by rw [if_neg (show ¬ (false = true) by decide)] at H; exact H
            clear H
            have H := H1
            clear H1
            obtain rfl := Option.some.inj H
            go_wp2
            go_ret
            exact ⟨by first | rfl | (simp; done) | (simp [*]; done) | exact isE1 _ | exact isE2 _ | exact isE3 _ | exact isE4 _ | exact congrArg Value.bool (isE1 _) | exact congrArg Value.bool (isE2 _) | exact congrArg Value.bool (isE3 _) | exact congrArg Value.bool (isE4 _), by repeat (first | exact Drawn0.refl _ | apply Drawn0.step)⟩

/-! ### bloom_Size: function 15 -/
def bloom_Size.f (a0 : Int) : Option (Int) := some (8 * (mx 8 ((((mn (mx a0 0) 4096) * 10) + 7) / 8)))
set_option maxHeartbeats 8000000 in
set_option maxRecDepth 100000 in
theorem bloom_Size.calls (a0 : Int) (r : Int) (w : World) (h : bloom_Size.f a0 = some r) :
    Calls Try.prog 15 #[.int .i64 a0] w fun e w' => e = .returned (.int .i64 r) ∧ Below w.heap.size w w' := by
  have HB := Aside0.mk (Below.refl w.heap.size w)
  have H : (some (8 * (mx 8 ((((mn (mx a0 0) 4096) * 10) + 7) / 8)))) = some r := h
  clear h
  obtain ⟨ji2, hji2⟩ : ∃ j_ : Int, (mx a0 0) = j_ := ⟨_, rfl⟩
  replace H : (some (8 * (mx 8 ((((mn (ji2) 4096) * 10) + 7) / 8)))) = some r := by first | (rw [hji2] at H; exact H) | (simp only [hji2] at H ⊢; exact H)
  (try (have hji2l : 0 ≤ ji2 := by (rw [← hji2]; unfold mx; (repeat' split) <;> omega)))
  (try (have hji2m : 0 ≤ ji2 := by omega))
  have hji2_ : (if a0 < 0 then 0 else a0) = ji2 := hji2
  obtain ⟨ji3, hji3⟩ : ∃ j_ : Int, (mn (ji2) 4096) = j_ := ⟨_, rfl⟩
  replace H : (some (8 * (mx 8 ((((ji3) * 10) + 7) / 8)))) = some r := by first | (rw [hji3] at H; exact H) | (simp only [hji3] at H ⊢; exact H)
  have hji3_ : (if 4096 < (ji2) then 4096 else (ji2)) = ji3 := hji3
  obtain ⟨ji4, hji4⟩ : ∃ j_ : Int, (mx 8 ((((ji3) * 10) + 7) / 8)) = j_ := ⟨_, rfl⟩
  replace H : (some (8 * (ji4))) = some r := by first | (rw [hji4] at H; exact H) | (simp only [hji4] at H ⊢; exact H)
  have hji4_ : (if 8 < ((((ji3) * 10) + 7) / 8) then ((((ji3) * 10) + 7) / 8) else 8) = ji4 := hji4
  obtain rfl := Option.some.inj H
  go_enter Try.func15, Try.ntmps15
  go_wp2
  go_ret
  exact ⟨by first | rfl | (simp [errW_none, errW_some] <;> rfl) | (simp only [← hji2, ← hji3, ← hji4]; first | rfl | (simp [errW_none, errW_some] <;> rfl)) | (simp [*, errW_none, errW_some] <;> rfl), by repeat (first | (with_reducible first | exact HB.out | apply below_alloc | apply pw_below_drewN | apply below_drew1) | exact HB.out)⟩

/-! ### crc_More: function 23 -/
mutual
def crc_More.l0 : Nat → ByteArray → Int → Int → Int → Option (Int)
  | 0, _, _, _, _ => none
  | k + 1, x1, x5, x13, x14 => if x14 < x13 then (if 0 ≤ x14 then (if x14 < (x1.size : Int) then (crc_More.l1 k x1 (Go.bits .xor .u32 x5 ((bt x1 x14) % 4294967296)) x13 x14 0) else (none)) else (none)) else (some (wrap64 (Go.bits .xor .u32 4294967295 x5)))
def crc_More.l1 : Nat → ByteArray → Int → Int → Int → Int → Option (Int)
  | 0, _, _, _, _, _ => none
  | k + 1, x1, x5, x13, x14, x23 => if x23 < 8 then (if (Go.bits .and .u32 x5 1) = 1 then (crc_More.l1 k x1 (Go.bits .xor .u32 (x5 / 2) 2197175160) x13 x14 (wrap64 (x23 + 1))) else (crc_More.l1 k x1 (x5 / 2) x13 x14 (wrap64 (x23 + 1)))) else (crc_More.l0 k x1 x5 x13 (wrap64 (x14 + 1)))
end
def crc_More.f (k : Nat) (a0 : Int) (a1 : ByteArray) : Option (Int) := crc_More.l0 k a1 (Go.bits .xor .u32 4294967295 ((Go.bits .and .i64 a0 4294967295) % 4294967296)) (a1.size : Int) 0
theorem crc_More.mono_l : ∀ k, (∀ y0 y1 y2 y3, LeO (crc_More.l0 k y0 y1 y2 y3) (crc_More.l0 (k + 1) y0 y1 y2 y3)) ∧ (∀ y0 y1 y2 y3 y4, LeO (crc_More.l1 k y0 y1 y2 y3 y4) (crc_More.l1 (k + 1) y0 y1 y2 y3 y4))
  | 0 => ⟨fun _ _ _ _ r h => by simp [crc_More.l0] at h, fun _ _ _ _ _ r h => by simp [crc_More.l1] at h⟩
  | k + 1 => by
    obtain ⟨ih0, ih1⟩ := crc_More.mono_l k
    refine ⟨?_, ?_⟩
    · intro y0 y1 y2 y3
      unfold crc_More.l0
      repeat' first
      | (with_reducible exact ih0 _ _ _ _)
      | (with_reducible exact ih1 _ _ _ _ _)
      | (with_reducible exact LeO.refl _)
      | (with_reducible exact LeO.none _)
      | (with_reducible refine LeO.ite ?_ ?_)
      | (with_reducible refine LeO.bind ?_ (fun _ => ?_))
      | exact ih0 _ _ _ _
      | exact ih1 _ _ _ _ _
      | exact LeO.none _
      | refine LeO.ite ?_ ?_
      | refine LeO.bind ?_ (fun _ => ?_)
    · intro y0 y1 y2 y3 y4
      unfold crc_More.l1
      repeat' first
      | (with_reducible exact ih0 _ _ _ _)
      | (with_reducible exact ih1 _ _ _ _ _)
      | (with_reducible exact LeO.refl _)
      | (with_reducible exact LeO.none _)
      | (with_reducible refine LeO.ite ?_ ?_)
      | (with_reducible refine LeO.bind ?_ (fun _ => ?_))
      | exact ih0 _ _ _ _
      | exact ih1 _ _ _ _ _
      | exact LeO.none _
      | refine LeO.ite ?_ ?_
      | refine LeO.bind ?_ (fun _ => ?_)
theorem crc_More.mono : ∀ a0 a1 k, LeO (crc_More.f k a0 a1) (crc_More.f (k + 1) a0 a1) := by
  intro a0 a1 k
  obtain ⟨ih0, ih1⟩ := crc_More.mono_l k
  unfold crc_More.f
  repeat' first
      | (with_reducible exact ih0 _ _ _ _)
      | (with_reducible exact ih1 _ _ _ _ _)
      | (with_reducible exact LeO.refl _)
      | (with_reducible exact LeO.none _)
      | (with_reducible refine LeO.ite ?_ ?_)
      | (with_reducible refine LeO.bind ?_ (fun _ => ?_))
      | exact ih0 _ _ _ _
      | exact ih1 _ _ _ _ _
      | exact LeO.none _
      | refine LeO.ite ?_ ?_
      | refine LeO.bind ?_ (fun _ => ?_)
set_option maxHeartbeats 8000000 in
set_option maxRecDepth 100000 in
theorem crc_More.calls (k : Nat) (a0 : Int) (a1 : ByteArray) (r : Int) (w : World) (h : crc_More.f k a0 a1 = some r) :
    Calls Try.prog 23 #[.int .i64 a0, .string a1] w fun e w' => e = .returned (.int .i64 r) ∧ Drawn0 w w' := by
  have H : (crc_More.l0 k a1 (Go.bits .xor .u32 4294967295 ((Go.bits .and .i64 a0 4294967295) % 4294967296)) (a1.size : Int) 0) = some r := h
  clear h
  have H' := Aside0.mk H
  clear H
  go_enter Try.func23, Try.ntmps23
  go_wp2
  go_loopg [5, 14] k (fun kq v5 v14 w' => ∃ (x5_1 : Int) (x14_1 : Int), v5 = .int .u32 x5_1 ∧ v14 = .int .i64 x14_1 ∧ Aside0 (crc_More.l0 kq a1 x5_1 (a1.size : Int) x14_1 = some r) ∧ Aside0 (kq ≤ k) ∧ Drawn0 w w')
  case atStart => exact ⟨(Go.bits .xor .u32 4294967295 ((Go.bits .and .i64 a0 4294967295) % 4294967296)), (0), (by first | rfl | (simp; done) | (simp [*]; done) | exact isE1 _ | exact isE2 _ | exact isE3 _ | exact isE4 _ | exact congrArg Value.bool (isE1 _) | exact congrArg Value.bool (isE2 _) | exact congrArg Value.bool (isE3 _) | exact congrArg Value.bool (isE4 _)), (by first | rfl | (simp; done) | (simp [*]; done) | exact isE1 _ | exact isE2 _ | exact isE3 _ | exact isE4 _ | exact congrArg Value.bool (isE1 _) | exact congrArg Value.bool (isE2 _) | exact congrArg Value.bool (isE3 _) | exact congrArg Value.bool (isE4 _)), H', ⟨Nat.le_refl _⟩, by repeat (first | exact Drawn0.refl _ | apply Drawn0.step)⟩
  case round =>
    clear H'
    try clear c2
    try clear p2
    obtain ⟨x5_1, x14_1, rfl, rfl, HA, HK1, ⟨m1, rfl⟩⟩ := hrel
    cases gk with
    | zero => exact absurd HA.out (by simp [crc_More.l0])
    | succ k1 =>
      have H := HA.out
      clear HA
      simp only [crc_More.l0] at H
      by_cases c3 : x14_1 < (a1.size : Int)
      · rw [if_pos c3] at H
        have c3b0 : decide (x14_1 < (a1.size : Int)) = true := decide_eq_true c3
        clear c3
        by_cases c4 : 0 ≤ x14_1
        · rw [if_pos c4] at H
          have c4b0 : decide (0 ≤ x14_1) = true := decide_eq_true c4
          clear c4
          by_cases c5 : x14_1 < (a1.size : Int)
          · rw [if_pos c5] at H
            have c5b0 : decide (x14_1 < (a1.size : Int)) = true := decide_eq_true c5
            clear c5
            have H' := Aside0.mk H
            clear H
            have p6 : 0 ≤ (x14_1 : Int) := of_decide_eq_true (by first | (with_reducible assumption) | assumption)
            have q6 : x14_1 < (a1.size : Int) := of_decide_eq_true (by first | (with_reducible assumption) | assumption)
            have hx6 := bt_at a1 x14_1
            replace p6 := eq_true p6
            replace q6 := eq_true q6
            go_wp2
            go_loopg [5, 23] k1 (fun kq v5 v23 w' => ∃ (x5_2 : Int) (x23_2 : Int), v5 = .int .u32 x5_2 ∧ v23 = .int .i64 x23_2 ∧ Aside0 (crc_More.l1 kq a1 x5_2 (a1.size : Int) x14_1 x23_2 = some r) ∧ Aside0 (kq ≤ k1) ∧ Drawn0 w w')
            case atStart => exact ⟨(Go.bits .xor .u32 x5_1 ((bt a1 x14_1) % 4294967296)), (0), (by first | rfl | (simp; done) | (simp [*]; done) | exact isE1 _ | exact isE2 _ | exact isE3 _ | exact isE4 _ | exact congrArg Value.bool (isE1 _) | exact congrArg Value.bool (isE2 _) | exact congrArg Value.bool (isE3 _) | exact congrArg Value.bool (isE4 _)), (by first | rfl | (simp; done) | (simp [*]; done) | exact isE1 _ | exact isE2 _ | exact isE3 _ | exact isE4 _ | exact congrArg Value.bool (isE1 _) | exact congrArg Value.bool (isE2 _) | exact congrArg Value.bool (isE3 _) | exact congrArg Value.bool (isE4 _)), H', ⟨Nat.le_refl _⟩, by repeat (first | exact Drawn0.refl _ | apply Drawn0.step)⟩
            case round =>
              clear H'
              try clear c2
              try clear p2
              try clear c3
              try clear c3b0
              try clear c4
              try clear c4b0
              try clear c5
              try clear c5b0
              try clear p6
              try clear q6
              try clear hx6
              try clear p2
              try clear p6
              try clear q6
              obtain ⟨x5_2, x23_2, rfl, rfl, HA, HK2, ⟨m2, rfl⟩⟩ := hrel
              cases gk with
              | zero => exact absurd HA.out (by simp [crc_More.l1])
              | succ k2 =>
                have H := HA.out
                clear HA
                simp only [crc_More.l1] at H
                by_cases c7 : x23_2 < 8
                · rw [if_pos c7] at H
                  have c7b0 : decide (x23_2 < 8) = true := decide_eq_true c7
                  clear c7
                  by_cases c8 : (Go.bits .and .u32 x5_2 1) = 1
                  · rw [if_pos c8] at H
                    have c8b0 : ((Go.bits .and .u32 x5_2 1) == 1) = true := beq_iff_eq.mpr c8
                    have c8b1 : ((Go.bits .and .u32 x5_2 1) != 1) = false := bne_eq_false_iff_eq.mpr c8
                    clear c8
                    have H' := Aside0.mk H
                    clear H
                    go_wp2
                    go_roundg k2
                    case measure => have := HK1.out; have := HK2.out; omega
                    case rel => exact ⟨(Go.bits .xor .u32 (x5_2 / 2) 2197175160), (wrap64 (x23_2 + 1)), (by first | rfl | (simp; done) | (simp [*]; done) | exact isE1 _ | exact isE2 _ | exact isE3 _ | exact isE4 _ | exact congrArg Value.bool (isE1 _) | exact congrArg Value.bool (isE2 _) | exact congrArg Value.bool (isE3 _) | exact congrArg Value.bool (isE4 _)), (by first | rfl | (simp; done) | (simp [*]; done) | exact isE1 _ | exact isE2 _ | exact isE3 _ | exact isE4 _ | exact congrArg Value.bool (isE1 _) | exact congrArg Value.bool (isE2 _) | exact congrArg Value.bool (isE3 _) | exact congrArg Value.bool (isE4 _)), H', ⟨by have := HK1.out; have := HK2.out; omega⟩, by repeat (first | exact Drawn0.refl _ | apply Drawn0.step)⟩
                  · rw [if_neg c8] at H
                    have c8b0 : ((Go.bits .and .u32 x5_2 1) == 1) = false := beq_eq_false_iff_ne.mpr c8
                    have c8b1 : ((Go.bits .and .u32 x5_2 1) != 1) = true := bne_iff_ne.mpr c8
                    have H' := Aside0.mk H
                    clear H
                    go_wp2
                    go_roundg k2
                    case measure => have := HK1.out; have := HK2.out; omega
                    case rel => exact ⟨(x5_2 / 2), (wrap64 (x23_2 + 1)), (by first | rfl | (simp; done) | (simp [*]; done) | exact isE1 _ | exact isE2 _ | exact isE3 _ | exact isE4 _ | exact congrArg Value.bool (isE1 _) | exact congrArg Value.bool (isE2 _) | exact congrArg Value.bool (isE3 _) | exact congrArg Value.bool (isE4 _)), (by first | rfl | (simp; done) | (simp [*]; done) | exact isE1 _ | exact isE2 _ | exact isE3 _ | exact isE4 _ | exact congrArg Value.bool (isE1 _) | exact congrArg Value.bool (isE2 _) | exact congrArg Value.bool (isE3 _) | exact congrArg Value.bool (isE4 _)), H', ⟨by have := HK1.out; have := HK2.out; omega⟩, by repeat (first | exact Drawn0.refl _ | apply Drawn0.step)⟩
                · rw [if_neg c7] at H
                  have c7b0 : decide (x23_2 < 8) = false := decide_eq_false c7
                  clear c7
                  have H' := Aside0.mk H
                  clear H
                  go_wp2
                  go_roundg k2
                  case measure => have := HK1.out; have := HK2.out; omega
                  case rel => exact ⟨(x5_2), (wrap64 (x14_1 + 1)), (by first | rfl | (simp; done) | (simp [*]; done) | exact isE1 _ | exact isE2 _ | exact isE3 _ | exact isE4 _ | exact congrArg Value.bool (isE1 _) | exact congrArg Value.bool (isE2 _) | exact congrArg Value.bool (isE3 _) | exact congrArg Value.bool (isE4 _)), (by first | rfl | (simp; done) | (simp [*]; done) | exact isE1 _ | exact isE2 _ | exact isE3 _ | exact isE4 _ | exact congrArg Value.bool (isE1 _) | exact congrArg Value.bool (isE2 _) | exact congrArg Value.bool (isE3 _) | exact congrArg Value.bool (isE4 _)), H', ⟨by have := HK1.out; have := HK2.out; omega⟩, by repeat (first | exact Drawn0.refl _ | apply Drawn0.step)⟩
          · rw [if_neg c5] at H
            exact absurd H (by simp)
        · rw [if_neg c4] at H
          exact absurd H (by simp)
      · rw [if_neg c3] at H
        have c3b0 : decide (x14_1 < (a1.size : Int)) = false := decide_eq_false c3
        clear c3
        obtain rfl := Option.some.inj H
        go_wp2
        go_ret
        exact ⟨by first | rfl | (simp; done) | (simp [*]; done) | exact isE1 _ | exact isE2 _ | exact isE3 _ | exact isE4 _ | exact congrArg Value.bool (isE1 _) | exact congrArg Value.bool (isE2 _) | exact congrArg Value.bool (isE3 _) | exact congrArg Value.bool (isE4 _), by repeat (first | exact Drawn0.refl _ | apply Drawn0.step)⟩

/-! ### crc_Sum: function 21 -/
def crc_Sum.f (k : Nat) (a0 : ByteArray) : Option (Int) := (crc_More.f k 0 a0).bind fun t102 => (some t102)
theorem crc_Sum.mono : ∀ a0 k, LeO (crc_Sum.f k a0) (crc_Sum.f (k + 1) a0) := by
  intro a0 k
  unfold crc_Sum.f
  repeat' first
      | (with_reducible exact crc_More.mono _ _ _)
      | (with_reducible exact LeO.refl _)
      | (with_reducible exact LeO.none _)
      | (with_reducible refine LeO.ite ?_ ?_)
      | (with_reducible refine LeO.bind ?_ (fun _ => ?_))
      | exact crc_More.mono _ _ _
      | exact LeO.none _
      | refine LeO.ite ?_ ?_
      | refine LeO.bind ?_ (fun _ => ?_)
set_option maxHeartbeats 8000000 in
set_option maxRecDepth 100000 in
theorem crc_Sum.calls (k : Nat) (a0 : ByteArray) (r : Int) (w : World) (h : crc_Sum.f k a0 = some r) :
    Calls Try.prog 21 #[.string a0] w fun e w' => e = .returned (.int .i64 r) ∧ Drawn0 w w' := by
  have H : ((crc_More.f k 0 a0).bind fun t102 => (some t102)) = some r := h
  clear h
  replace H := Option.bind_eq_some_iff.mp H
  obtain ⟨t102, A20, H⟩ := H
  replace H : (some t102) = some r := H
  have A2 := Aside0.mk A20
  clear A20
  obtain rfl := Option.some.inj H
  go_enter Try.func21, Try.ntmps21
  go_wp2_with (first | ((with_reducible refine gate_callee (f := 23) rfl ?_); refine goesL_ (some 4) rfl rfl Try.func23 (by kernel_rfl) rfl #[.int .i64 0, .string a0] rfl (by (try simp only [List.map_toArray, List.map_cons, List.map_nil]); first | done | rfl | (simp only [List.length_drop, List.length_take]; rfl)) ?_; (with_reducible refine (crc_More.calls k 0 a0 t102 _ A2.out).mono ?_); rintro e w' ⟨rfl, ⟨nd, rfl⟩⟩; refine ⟨_, rfl, ?_⟩))
  go_ret
  exact ⟨by first | rfl | (simp; done) | (simp [*]; done) | exact isE1 _ | exact isE2 _ | exact isE3 _ | exact isE4 _ | exact congrArg Value.bool (isE1 _) | exact congrArg Value.bool (isE2 _) | exact congrArg Value.bool (isE3 _) | exact congrArg Value.bool (isE4 _), by repeat (first | exact Drawn0.refl _ | apply Drawn0.step)⟩

-- NOT PRINTED: function 17 (bloom_places)

/-! ### bloom_Make: function 11 -/
set_option maxHeartbeats 1600000 in
set_option maxRecDepth 100000 in
theorem bloom_Make.one (w0 : World) (g : Nat) (v : Value) (xs : List Int) (p : Int) (W : World) (hb0 : W.heap[g]? = some (.cells #[v] 34 (0, 0))) (hge : w0.heap.size ≤ g)
    (hR : Kd.R (Kd.int .u8) 5 W w0.heap.size (fun _ => True) v xs) (hB : Below w0.heap.size w0 W) (h1 : 0 ≤ wrap64 (Int.tdiv p 8)) (h2 : wrap64 (Int.tdiv p 8) < (xs.length : Int)) (h3 : 0 ≤ Int.tmod p 8) :
    Calls Try.prog 18 #[.int .i64 p, .pointer (some ⟨g, 0, none⟩)] W fun e w' => e = .returned (.bool true) ∧ w'.heap[g]? = some (.cells #[v] 34 (0, 0)) ∧
      Kd.R (Kd.int .u8) 5 w' w0.heap.size (fun _ => True) v (xs.set (wrap64 (Int.tdiv p 8)).toNat (Go.bits .or .u8 (rd xs (wrap64 (Int.tdiv p 8))) (shl .u8 1 (Int.tmod p 8)))) ∧ Below w0.heap.size w0 w' := by
  have hne := Kd.R_ne hR hb0 (by decide)
  obtain ⟨ji1, hji1⟩ : ∃ j_ : Int, (wrap64 (Int.tdiv p 8)) = j_ := ⟨_, rfl⟩
  rw [hji1] at h1 h2 ⊢
  have hji1w : (IntKind.i64.wrap (Int.tdiv p 8)) = ji1 := (i64_w _).trans hji1
  obtain ⟨ji2, hji2⟩ : ∃ j_ : Int, (Int.tmod p 8) = j_ := ⟨_, rfl⟩
  rw [hji2] at h3 ⊢
  obtain ⟨ji3, hji3⟩ : ∃ j_ : Int, (shl .u8 1 ji2) = j_ := ⟨_, rfl⟩
  rw [hji3]
  have hji3_ : (IntKind.u8.wrap (1 * 2 ^ min (ji2).toNat 8)) = ji3 := hji3
  have hji3z : (ji2) ≤ 8 → (IntKind.u8.wrap (1 * 2 ^ (ji2).toNat)) = ji3 := shl_small hji3
  have hji3u : (IntKind.u8.wrap (2 ^ min (ji2).toNat 8)) = ji3 := by have h_ := hji3_; rw [Int.one_mul] at h_; exact h_
  have hji3v : (ji2) ≤ 8 → (IntKind.u8.wrap (2 ^ (ji2).toNat)) = ji3 := fun hle_ => by have h_ := hji3z hle_; rw [Int.one_mul] at h_; exact h_
  obtain ⟨go, co, eo, gb, gl, cl, HG⟩ := Kd.R_form hR (by omega)
  subst eo
  have hge2 : g ≠ go := fun e => hne (by rw [e]; rfl)
  have HR2 := Kd.R_drew hR
  have HB2 := below_drew1 hB
  have HK2 := blk_drew hb0
  have hc : W.cell? ⟨g, 0, none⟩ = some (.slice (some ⟨go, 0, none⟩) xs.length co) := (blk_cell hb0 0).trans rfl
  obtain ⟨ad, ea, hx⟩ := Kd.at_int (Kd.R_reads' hR).2.2 ji1 h1 h2
  cases ea
  obtain ⟨hx2, hf2⟩ := Kd.R_celln 0 HR2 ji1 h1 h2
  have HP := Kd.R_putn HR2 ji1 (Go.bits .or .u8 (rd xs ji1) ji3)
  have c1 : decide (0 ≤ ji1) = true := decide_eq_true h1
  have c2 : decide (ji1 < (xs.length : Int)) = true := decide_eq_true h2
  have c3b1 : decide (0 ≤ ji2) = true := decide_eq_true h3
  have p10 := eq_true h1
  have q10 := eq_true h2
  have p12 := eq_true h3
  obtain ⟨y, hy⟩ : ∃ y : List Int, y = xs.set ji1.toNat (Go.bits .or .u8 (rd xs ji1) ji3) := ⟨_, rfl⟩
  rw [← hy] at HP ⊢
  have HPA := Aside0.mk HP
  have HYA := Aside0.mk hy
  have HBA := Aside0.mk HB2
  have HKA := Aside0.mk HK2
  have HNA := Aside0.mk hge2
  clear HP hy HB2 HK2 hR hB hb0 HR2 hne HG gl cl
  simp only [add_plain] at hx
  go_enter Try.func18, Try.ntmps18
  go_wp2
  go_still_tail 10, (by kernel_rfl)
  change wpList _ _ _ _ _ W.drew
  generalize W.drew = w2 at hx2 hf2 HPA HBA HKA ⊢
  go_wp2
  go_ret
  exact ⟨rfl, blk_far HKA.out HNA.out _, HPA.out, below_set HBA.out gb⟩
def bloom_Make.l1 : Nat → List Int → Int → Int → Int → Int → Option (List Int)
  | 0, _, _, _, _, _ => none
  | k + 1, xs, a, b, n, i => if i < 6 then (if n = 0 then (none) else (if 0 ≤ (wrap64 (Int.tdiv (Int.tmod (wrap64 (a + (wrap64 (i * b)))) n) 8)) then (if (wrap64 (Int.tdiv (Int.tmod (wrap64 (a + (wrap64 (i * b)))) n) 8)) < (xs.length : Int) then (if 0 ≤ (Int.tmod (Int.tmod (wrap64 (a + (wrap64 (i * b)))) n) 8) then (bloom_Make.l1 k (xs.set (wrap64 (Int.tdiv (Int.tmod (wrap64 (a + (wrap64 (i * b)))) n) 8)).toNat (Go.bits .or .u8 (rd xs (wrap64 (Int.tdiv (Int.tmod (wrap64 (a + (wrap64 (i * b)))) n) 8))) (shl .u8 1 (Int.tmod (Int.tmod (wrap64 (a + (wrap64 (i * b)))) n) 8)))) a b n (wrap64 (i + 1))) else (none)) else (none)) else (none))) else (some xs)
def bloom_Make.one_f (k : Nat) (key : ByteArray) (xs : List Int) (n : Int) : Option (List Int) := (crc_Sum.f k key).bind fun ta => (if key.size + 1 ≤ 9223372036854775807 then ((crc_Sum.f k (key ++ (⟨#[35]⟩ : ByteArray))).bind fun tb => (bloom_Make.l1 k xs ta (Go.bits .or .i64 tb 1) n 0)) else (none))
def bloom_Make.l0 : Nat → List ByteArray → Int → List Int → Int → Option (ByteArray × Int)
  | 0, _, _, _, _ => none
  | k + 1, ks, n, xs, i => if i < (ks.length : Int) then (if 0 ≤ i then ((bloom_Make.one_f k (rdOf ByteArray.empty ks i) xs n).bind fun ys => (bloom_Make.l0 k ks n ys (wrap64 (i + 1)))) else (none)) else (some (strOfNums xs, 0))
def bloom_Make.f (k : Nat) (ks : List ByteArray) : Option (ByteArray × Int) := if (ks.length : Int) > 4096 then (some ((⟨#[]⟩ : ByteArray), 2)) else ((bloom_Size.f (ks.length : Int)).bind fun n => (if 0 ≤ (wrap64 (Int.tdiv n 8)) then (if (wrap64 (Int.tdiv n 8) : Int).toNat ≤ 281474976710656 then (bloom_Make.l0 k ks n (List.replicate (wrap64 (Int.tdiv n 8) : Int).toNat 0) 0) else (none)) else (none)))
set_option maxHeartbeats 1600000 in
set_option maxRecDepth 100000 in
theorem bloom_Make.each (k : Nat) (w0 : World) (g : Nat) (v : Value) (xs ys : List Int) (key : ByteArray) (n : Int) (W : World) (hb0 : W.heap[g]? = some (.cells #[v] 34 (0, 0))) (hge : w0.heap.size ≤ g)
    (hR : Kd.R (Kd.int .u8) 5 W w0.heap.size (fun _ => True) v xs) (hB : Below w0.heap.size w0 W) (h : bloom_Make.one_f k key xs n = some ys) :
    Calls Try.prog 17 #[.string key, .int .i64 n, .func (Fn.func 18) #[] #[.pointer (some ⟨g, 0, none⟩)]] W fun e w' => e = .returned (.bool true) ∧ w'.heap[g]? = some (.cells #[v] 34 (0, 0)) ∧
      Kd.R (Kd.int .u8) 5 w' w0.heap.size (fun _ => True) v ys ∧ Below w0.heap.size w0 w' := by
  unfold bloom_Make.one_f at h
  obtain ⟨ta, hA, h⟩ := Option.bind_eq_some_iff.mp h
  by_cases c5 : key.size + 1 ≤ 9223372036854775807
  · rw [if_pos c5] at h
    obtain ⟨tb, hBs, h⟩ := Option.bind_eq_some_iff.mp h
    have HK := Aside0.mk hb0
    have HO := Aside0.mk hR
    have HB := Aside0.mk hB
    have A4 := Aside0.mk hA
    have A6 := Aside0.mk hBs
    clear hb0 hA hBs hR hB
    have c5b0 := eq_true c5
    have c5b1 : decide (key.size + 1 ≤ 9223372036854775807) = true := decide_eq_true c5
    try have c5b2 : (9223372036854775807 < key.size + 1) = False := eq_false (Nat.not_lt.2 c5)
    obtain ⟨b, hb⟩ : ∃ b : Int, Go.bits .or .i64 tb 1 = b := ⟨_, rfl⟩
    rw [hb] at h
    have H' := Aside0.mk h
    clear h c5
    go_enter Try.func17, Try.ntmps17
    go_wp2_with (first | ((with_reducible refine gate_callee (f := 21) rfl ?_); refine goesL_ (some 11) rfl rfl Try.func21 (by kernel_rfl) rfl #[.string key] rfl (by (try simp only [List.map_toArray, List.map_cons, List.map_nil]); first | done | rfl) ?_; (with_reducible refine (crc_Sum.calls k key ta _ A4.out).mono ?_); rintro e w' ⟨rfl, ⟨nd, rfl⟩⟩; refine ⟨_, rfl, ?_⟩) | ((with_reducible refine gate_callee (f := 21) rfl ?_); refine goesL_ (some 14) rfl rfl Try.func21 (by kernel_rfl) rfl #[.string (key ++ (⟨#[35]⟩ : ByteArray))] rfl (by (try simp only [List.map_toArray, List.map_cons, List.map_nil]); first | done | rfl) ?_; (with_reducible refine (crc_Sum.calls k (key ++ (⟨#[35]⟩ : ByteArray)) tb _ A6.out).mono ?_); rintro e w' ⟨rfl, ⟨nd, rfl⟩⟩; refine ⟨_, rfl, ?_⟩))
    go_loopg [16] k (fun kq v16 w' => ∃ (zs : List Int) (i : Int), v16 = .int .i64 i ∧ Aside0 (bloom_Make.l1 kq zs ta b n i = some ys) ∧ Aside0 (kq ≤ k) ∧ Aside0 (w'.heap[g]? = some (.cells #[v] 34 (0, 0))) ∧ Aside0 (Kd.R (Kd.int .u8) 5 w' w0.heap.size (fun _ => True) v zs) ∧ Aside0 (Below w0.heap.size w0 w'))
    case atStart => exact ⟨xs, 0, rfl, H', ⟨Nat.le_refl _⟩, HK, ⟨by (with_reducible repeat (first | apply Kd.R_alloc | apply Kd.R_drewN | apply Kd.R_drew)); exact HO.out⟩, ⟨by repeat (first | (with_reducible first | exact HB.out | apply pw_below_drewN | apply below_drew1) | exact HB.out)⟩⟩
    case round =>
      clear H' HK HO HB
      obtain ⟨zs, i, rfl, HA, HK1, HK, HO, HB⟩ := hrel
      cases gk with
      | zero => exact absurd HA.out (by simp [bloom_Make.l1])
      | succ k1 =>
        have H := HA.out
        clear HA
        simp only [bloom_Make.l1] at H
        by_cases c2 : i < 6
        · rw [if_pos c2] at H
          have c2b0 : decide (i < 6) = true := decide_eq_true c2
          clear c2
          by_cases c7 : n = 0
          · rw [if_pos c7] at H
            exact absurd H (by simp)
          · rw [if_neg c7] at H
            have c7b0 : (n == 0) = false := beq_eq_false_iff_ne.mpr c7
            have c7b1 : (n != 0) = true := bne_iff_ne.mpr c7
            obtain ⟨p, hp⟩ : ∃ p : Int, Int.tmod (wrap64 (ta + (wrap64 (i * b)))) n = p := ⟨_, rfl⟩
            rw [hp] at H
            by_cases d1 : 0 ≤ wrap64 (Int.tdiv p 8)
            · rw [if_pos d1] at H
              by_cases d2 : wrap64 (Int.tdiv p 8) < (zs.length : Int)
              · rw [if_pos d2] at H
                by_cases d3 : 0 ≤ Int.tmod p 8
                · rw [if_pos d3] at H
                  have A1 := Aside0.mk d1
                  have A2 := Aside0.mk d2
                  have A3 := Aside0.mk d3
                  clear d1 d2 d3
                  have H' := Aside0.mk H
                  clear H
                  go_wp2_with (go_at_call 18; (try rw [hp]); (refine (bloom_Make.one w0 g v zs p _ HK.out hge HO.out HB.out A1.out A2.out A3.out).mono ?_); rintro e w7 ⟨rfl, hk7, ho7, hb7⟩; have HK7 := Aside0.mk hk7; have HO7 := Aside0.mk ho7; have HB7 := Aside0.mk hb7; clear hk7 ho7 hb7)
                  go_roundg k1
                  case measure => have := HK1.out; omega
                  case rel => exact ⟨_, wrap64 (i + 1), (by first | rfl | (simp; done) | (simp [*]; done)), H', ⟨by have := HK1.out; omega⟩, HK7, HO7, HB7⟩
                · rw [if_neg d3] at H
                  exact absurd H (by simp)
              · rw [if_neg d2] at H
                exact absurd H (by simp)
            · rw [if_neg d1] at H
              exact absurd H (by simp)
        · rw [if_neg c2] at H
          have c2b0 : decide (i < 6) = false := decide_eq_false c2
          clear c2
          obtain rfl := Option.some.inj H
          go_wp2
          go_ret
          exact ⟨rfl, HK.out, HO.out, HB.out⟩
  · rw [if_neg c5] at h
    exact absurd h (by simp)
set_option maxHeartbeats 3200000 in
set_option maxRecDepth 100000 in
theorem bloom_Make.calls (k : Nat) (A0 : Option Addr) (c0 : Nat) (l0 : List ByteArray) (r1 : ByteArray) (r2 : Int) (w : World) (hr0 : Kd.C Kd.string w A0 l0.length l0) (hc0 : l0.length ≤ c0) (h : bloom_Make.f k l0 = some (r1, r2)) :
    Calls Try.prog 11 #[.slice A0 l0.length c0] w fun e w' => e = .returned (.tuple #[.string r1, .int .i64 r2]) ∧ Below w.heap.size w w' := by
  have HR0 := Aside0.mk hr0
  have HC0 := Aside0.mk hc0
  clear hr0 hc0
  have HB := Aside0.mk (Below.refl w.heap.size w)
  have H : (if (l0.length : Int) > 4096 then (some ((⟨#[]⟩ : ByteArray), 2)) else ((bloom_Size.f (l0.length : Int)).bind fun n => (if 0 ≤ (wrap64 (Int.tdiv n 8)) then (if (wrap64 (Int.tdiv n 8) : Int).toNat ≤ 281474976710656 then (bloom_Make.l0 k l0 n (List.replicate (wrap64 (Int.tdiv n 8) : Int).toNat 0) 0) else (none)) else (none)))) = some (r1, r2) := h
  clear h
  by_cases c2 : (l0.length : Int) > 4096
  · rw [if_pos c2] at H
    have c2b0 : decide (4096 < (l0.length : Int)) = true := decide_eq_true c2
    have c2b1 : decide (4096 < l0.length) = true := decide_eq_true (by omega)
    clear c2
    simp only [Option.some.injEq, Prod.mk.injEq] at H
    obtain ⟨rfl, rfl⟩ := H
    go_enter Try.func11, Try.ntmps11
    go_wp2
    go_ret2
    exact ⟨rfl, by repeat (first | (with_reducible first | exact HB.out | apply below_alloc | apply pw_below_drewN | apply below_drew1) | exact HB.out)⟩
  · rw [if_neg c2] at H
    have c2b0 : decide (4096 < (l0.length : Int)) = false := decide_eq_false c2
    have c2b1 : decide (4096 < l0.length) = false := decide_eq_false (by omega)
    clear c2
    replace H := Option.bind_eq_some_iff.mp H
    obtain ⟨n, A30, H⟩ := H
    replace H : (if 0 ≤ (wrap64 (Int.tdiv n 8)) then (if (wrap64 (Int.tdiv n 8) : Int).toNat ≤ 281474976710656 then (bloom_Make.l0 k l0 n (List.replicate (wrap64 (Int.tdiv n 8) : Int).toNat 0) 0) else (none)) else (none)) = some (r1, r2) := H
    have A3 := Aside0.mk A30
    clear A30
    obtain ⟨ji4, hji4⟩ : ∃ j_ : Int, (wrap64 (Int.tdiv n 8)) = j_ := ⟨_, rfl⟩
    rw [hji4] at H
    have hji4w : (IntKind.i64.wrap (Int.tdiv n 8)) = ji4 := (i64_w _).trans hji4
    by_cases c5 : 0 ≤ (ji4)
    · rw [if_pos c5] at H
      have c5b0 := eq_true c5
      have c5b1 : decide (0 ≤ (ji4)) = true := decide_eq_true c5
      clear c5
      by_cases c6 : (ji4 : Int).toNat ≤ 281474976710656
      · rw [if_pos c6] at H
        have c6b0 := eq_true c6
        have c6b1 : decide ((ji4 : Int).toNat ≤ 281474976710656) = true := decide_eq_true c6
        clear c6
        obtain ⟨y114, hy114⟩ : ∃ y_ : List Int, y_ = (List.replicate (ji4 : Int).toNat 0) := ⟨_, rfl⟩
        rw [← hy114] at H
        have Ny114 := Aside0.mk hy114
        clear hy114
        have H' := Aside0.mk H
        clear H
        go_enter Try.func11, Try.ntmps11
        go_wp2_with (first | ((with_reducible refine gate_callee (f := 15) rfl ?_); refine goesL_ (some 13) rfl rfl Try.func15 (by kernel_rfl) rfl #[.int .i64 (l0.length : Int)] rfl (by (try simp only [List.map_toArray, List.map_cons, List.map_nil]); first | done | rfl | (simp only [List.length_drop, List.length_take]; rfl)) ?_; (with_reducible refine (bloom_Size.calls (l0.length : Int) n _ A3.out).mono ?_); rintro e w7 ⟨rfl, hb⟩; refine ⟨_, rfl, ?_⟩; have n0_ := Aside0.mk (below_step (by repeat (first | (with_reducible first | exact HB.out | apply below_alloc | apply pw_below_drewN | apply below_drew1) | exact HB.out)) hb); clear HB; have HB := n0_; clear n0_; (try clear hb); (try clear hb2); (try clear hk); (try clear hi)) | ((with_reducible refine gate_dst (N := 16) rfl ?_); refine Kd.R_make (Kd.int .u8) _ 5 rfl (N := 16) rfl 34 _ _ rfl ji4 rfl rfl Try.underlying34 (.int .u8 0) 1 info5 rfl (by decide) (by omega) 0 (ok := fun _ => True) (okp := fun _ => True) rfl (fun _ hk => hk) trivial (of_decide_eq_true (by first | (with_reducible assumption) | assumption)) (Nat.le_trans (Nat.mul_le_mul_right _ (of_decide_eq_true (by first | (with_reducible assumption) | assumption) : ji4.toNat ≤ 281474976710656)) (by omega)) (Below.refl _ _) (Nat.le_refl _) ?_; intro v115 w8 ho9 hb hg_ hnew_; clear hg_ hnew_; (first | rw [← Ny114.out] at ho9 | (simp only [Int.reduceToNat] at ho9; rw [← Ny114.out] at ho9)); have n0_ := Aside0.mk (Kd.R_lower ho9 (below_size (by repeat (first | (with_reducible first | exact HB.out | apply below_alloc | apply pw_below_drewN | apply below_drew1) | exact HB.out)))); have n1_ := Aside0.mk (below_step (by repeat (first | (with_reducible first | exact HB.out | apply below_alloc | apply pw_below_drewN | apply below_drew1) | exact HB.out)) hb); clear HB; have HO116 := n0_; have HB := n1_; clear n0_ n1_; clear hb ho9; obtain ⟨Ax, cx, ex⟩ := Kd.R_slice HO116.out; subst ex; ((have hg9 := Aside0.mk (below_size HB.out); have HK9 := Aside0.mk (heap_alloc_new w8 (.cells #[.slice Ax y114.length cx] 34)); have HO9 := Aside0.mk (Kd.R_alloc HO116.out (.cells #[.slice Ax y114.length cx] 34)); have HB9 := Aside0.mk (below_alloc HB.out (.cells #[.slice Ax y114.length cx] 34))))))
        go_loopg [19] k (fun kq v19 w' => ∃ (zs : List Int) (i : Int), v19 = .int .i64 i ∧ Aside0 (bloom_Make.l0 kq l0 n zs i = some (r1, r2)) ∧ Aside0 (kq ≤ k) ∧ Aside0 (w'.heap[w8.heap.size]? = some (.cells #[(.slice Ax y114.length cx)] 34 (0, 0))) ∧ Aside0 (Kd.R (Kd.int .u8) 5 w' w.heap.size (fun _ => True) (.slice Ax y114.length cx) zs) ∧ Aside0 (Below w.heap.size w w'))
        case atStart => exact ⟨y114, 0, rfl, H', ⟨Nat.le_refl _⟩, HK9, HO9, HB9⟩
        case round =>
          clear H' HO116 HB HK9 HO9 HB9
          obtain ⟨zs, i, rfl, HA, HK1, HK, HO, HB⟩ := hrel
          cases gk with
          | zero => exact absurd HA.out (by simp [bloom_Make.l0])
          | succ k1 =>
            have H := HA.out
            clear HA
            simp only [bloom_Make.l0] at H
            by_cases c10 : i < (l0.length : Int)
            · rw [if_pos c10] at H
              have c10b0 : decide (i < (l0.length : Int)) = true := decide_eq_true c10
              by_cases c12 : 0 ≤ i
              · rw [if_pos c12] at H
                have c12b0 : decide (0 ≤ i) = true := decide_eq_true c12
                obtain ⟨ys, A14, H⟩ := Option.bind_eq_some_iff.mp H
                have B14 := Aside0.mk A14
                have H' := Aside0.mk H
                clear H A14
                obtain ⟨ad117, e117, hx117_0⟩ := Kd.at_string HR0.out i c12 c10
                cases e117
                replace hx117_0 := (HB.out.cell (World.block_lt_of_cell? w _ hx117_0)).trans hx117_0
                have p117 := eq_true c12
                have q117 := eq_true c10
                clear c10 c12
                go_wp2_with (go_at_call 17; go_loud ((refine (bloom_Make.each k1 w w8.heap.size (.slice Ax y114.length cx) zs ys _ n _ HK.out hg9.out HO.out HB.out B14.out).mono ?_); rintro e w7 ⟨rfl, hk7, ho7, hb7⟩; have HK7 := Aside0.mk hk7; have HO7 := Aside0.mk ho7; have HB7 := Aside0.mk hb7; clear hk7 ho7 hb7))
                go_roundg k1
                case measure => have := HK1.out; omega
                case rel => exact ⟨_, wrap64 (i + 1), (by first | rfl | (simp; done) | (simp [*]; done)), H', ⟨by have := HK1.out; omega⟩, HK7, HO7, HB7⟩
              · rw [if_neg c12] at H
                exact absurd H (by simp)
            · rw [if_neg c10] at H
              have c10b0 : decide (i < (l0.length : Int)) = false := decide_eq_false c10
              clear c10
              simp only [Option.some.injEq, Prod.mk.injEq] at H
              obtain ⟨rfl, rfl⟩ := H
              have hc : wr.cell? ⟨w8.heap.size, 0, none⟩ = some (.slice Ax y114.length cx) := (blk_cell HK.out 0).trans rfl
              have hcv25 := own_string (P := Try.prog) Try.underlying34 Try.underlying5 Try.underlying9 (Kd.own_of_R HO.out)
              go_wp2
              go_ret2
              exact ⟨rfl, HB.out⟩
      · rw [if_neg c6] at H
        exact absurd H (by simp)
    · rw [if_neg c5] at H
      exact absurd H (by simp)
theorem bloom_Make.mono_1 : ∀ k, (∀ y0 y1 y2 y3 y4, LeO (bloom_Make.l1 k y0 y1 y2 y3 y4) (bloom_Make.l1 (k + 1) y0 y1 y2 y3 y4))
  | 0 => fun _ _ _ _ _ r h => by simp [bloom_Make.l1] at h
  | k + 1 => by
    have ih0 := bloom_Make.mono_1 k
    intro y0 y1 y2 y3 y4
    unfold bloom_Make.l1
    repeat' first
      | (with_reducible exact ih0 _ _ _ _ _)
      | (with_reducible exact LeO.refl _)
      | (with_reducible exact LeO.none _)
      | (with_reducible refine LeO.ite ?_ ?_)
theorem bloom_Make.mono_f : ∀ y0 y1 y2 k, LeO (bloom_Make.one_f k y0 y1 y2) (bloom_Make.one_f (k + 1) y0 y1 y2) := by
  intro y0 y1 y2 k
  have ih0 := bloom_Make.mono_1 k
  unfold bloom_Make.one_f
  repeat' first
    | (with_reducible exact ih0 _ _ _ _ _)
    | (with_reducible exact crc_Sum.mono _ _)
    | (with_reducible exact LeO.refl _)
    | (with_reducible exact LeO.none _)
    | (with_reducible refine LeO.ite ?_ ?_)
    | (with_reducible refine LeO.bind ?_ (fun _ => ?_))
theorem bloom_Make.mono_l : ∀ k, (∀ y0 y1 y2 y3, LeO (bloom_Make.l0 k y0 y1 y2 y3) (bloom_Make.l0 (k + 1) y0 y1 y2 y3))
  | 0 => fun _ _ _ _ r h => by simp [bloom_Make.l0] at h
  | k + 1 => by
    have ih0 := bloom_Make.mono_l k
    intro y0 y1 y2 y3
    unfold bloom_Make.l0
    repeat' first
      | (with_reducible exact ih0 _ _ _ _)
      | (with_reducible exact bloom_Make.mono_f _ _ _ _)
      | (with_reducible exact LeO.refl _)
      | (with_reducible exact LeO.none _)
      | (with_reducible refine LeO.ite ?_ ?_)
      | (with_reducible refine LeO.bind ?_ (fun _ => ?_))
theorem bloom_Make.mono : ∀ a0 k, LeO (bloom_Make.f k a0) (bloom_Make.f (k + 1) a0) := by
  intro a0 k
  have ih0 := bloom_Make.mono_l k
  unfold bloom_Make.f
  repeat' first
    | (with_reducible exact ih0 _ _ _ _)
    | (with_reducible exact LeO.refl _)
    | (with_reducible exact LeO.none _)
    | (with_reducible refine LeO.ite ?_ ?_)
    | (with_reducible refine LeO.bind ?_ (fun _ => ?_))

/-! ### bloom_Has: function 13 -/
set_option maxHeartbeats 1600000 in
set_option maxRecDepth 100000 in
theorem bloom_Has.one (g : Nat) (s : ByteArray) (p : Int) (W : World) (hb0 : W.heap[g]? = some (.cells #[.string s] 9 (0, 0)))
    (h1 : 0 ≤ wrap64 (Int.tdiv p 8)) (h2 : wrap64 (Int.tdiv p 8) < (s.size : Int)) (h3 : 0 ≤ Int.tmod p 8) :
    Calls Try.prog 20 #[.int .i64 p, .pointer (some ⟨g, 0, none⟩)] W fun e w' => e = .returned (.bool (Go.bits .and .u8 (bt s (wrap64 (Int.tdiv p 8))) (shl .u8 1 (Int.tmod p 8)) != 0)) ∧ Drawn0 W w' := by
  have HK := Aside0.mk hb0
  have hc : W.cell? ⟨g, 0, none⟩ = some (.string s) := (blk_cell hb0 0).trans rfl
  have hf := blk_frozen hb0 0
  clear hb0
  obtain ⟨ji1, hji1⟩ : ∃ j_ : Int, (wrap64 (Int.tdiv p 8)) = j_ := ⟨_, rfl⟩
  rw [hji1] at h1 h2 ⊢
  have hji1w : (IntKind.i64.wrap (Int.tdiv p 8)) = ji1 := (i64_w _).trans hji1
  obtain ⟨ji2, hji2⟩ : ∃ j_ : Int, (Int.tmod p 8) = j_ := ⟨_, rfl⟩
  rw [hji2] at h3 ⊢
  obtain ⟨ji3, hji3⟩ : ∃ j_ : Int, (shl .u8 1 ji2) = j_ := ⟨_, rfl⟩
  rw [hji3]
  have hji3_ : (IntKind.u8.wrap (1 * 2 ^ min (ji2).toNat 8)) = ji3 := hji3
  have hji3z : (ji2) ≤ 8 → (IntKind.u8.wrap (1 * 2 ^ (ji2).toNat)) = ji3 := shl_small hji3
  have hji3u : (IntKind.u8.wrap (2 ^ min (ji2).toNat 8)) = ji3 := by have h_ := hji3_; rw [Int.one_mul] at h_; exact h_
  have hji3v : (ji2) ≤ 8 → (IntKind.u8.wrap (2 ^ (ji2).toNat)) = ji3 := fun hle_ => by have h_ := hji3z hle_; rw [Int.one_mul] at h_; exact h_
  have hx10 := bt_at s ji1
  have c1 : decide (0 ≤ ji1) = true := decide_eq_true h1
  have c2 : decide (ji1 < (s.size : Int)) = true := decide_eq_true h2
  have c3b1 : decide (0 ≤ ji2) = true := decide_eq_true h3
  have p10 := eq_true h1
  have q10 := eq_true h2
  have p12 := eq_true h3
  go_enter Try.func20, Try.ntmps20
  go_wp2
  go_quiet (fail)
  go_wp2
  go_ret
  exact ⟨by first | rfl | (simp; done) | (simp only [← hji1, ← hji2, ← hji3] <;> (first | rfl | simp)) | (simp [*]; done), by repeat (first | exact Drawn0.refl _ | apply Drawn0.step)⟩
def bloom_Has.l0 : Nat → ByteArray → Int → Int → Int → Int → Option (Bool)
  | 0, _, _, _, _, _ => none
  | k + 1, s, a, b, n, i => if i < 6 then (if n = 0 then (none) else (if 0 ≤ (wrap64 (Int.tdiv (Int.tmod (wrap64 (a + (wrap64 (i * b)))) n) 8)) then (if (wrap64 (Int.tdiv (Int.tmod (wrap64 (a + (wrap64 (i * b)))) n) 8)) < (s.size : Int) then (if 0 ≤ (Int.tmod (Int.tmod (wrap64 (a + (wrap64 (i * b)))) n) 8) then (if (Go.bits .and .u8 (bt s (wrap64 (Int.tdiv (Int.tmod (wrap64 (a + (wrap64 (i * b)))) n) 8))) (shl .u8 1 (Int.tmod (Int.tmod (wrap64 (a + (wrap64 (i * b)))) n) 8)) != 0) = true then (bloom_Has.l0 k s a b n (wrap64 (i + 1))) else (some false)) else (none)) else (none)) else (none))) else (some true)
def bloom_Has.f (k : Nat) (s : ByteArray) (key : ByteArray) : Option (Bool) := if s.toList = ([] : List UInt8) then (some true) else ((crc_Sum.f k key).bind fun ta => (if key.size + 1 ≤ 9223372036854775807 then ((crc_Sum.f k (key ++ (⟨#[35]⟩ : ByteArray))).bind fun tb => (bloom_Has.l0 k s ta (Go.bits .or .i64 tb 1) (wrap64 (8 * (s.size : Int))) 0)) else (none)))
set_option maxHeartbeats 1600000 in
set_option maxRecDepth 100000 in
theorem bloom_Has.each (k : Nat) (g : Nat) (s : ByteArray) (key : ByteArray) (n ta tb : Int) (r : Bool) (W : World) (hb0 : W.heap[g]? = some (.cells #[.string s] 9 (0, 0)))
    (hA : crc_Sum.f k key = some ta) (c5 : key.size + 1 ≤ 9223372036854775807) (hB : crc_Sum.f k (key ++ (⟨#[35]⟩ : ByteArray)) = some tb) (h : bloom_Has.l0 k s ta (Go.bits .or .i64 tb 1) n 0 = some r) :
    Calls Try.prog 17 #[.string key, .int .i64 n, .func (Fn.func 20) #[] #[.pointer (some ⟨g, 0, none⟩)]] W fun e w' => e = .returned (.bool r) ∧ Drawn0 W w' := by
  have HK := Aside0.mk hb0
  have A4 := Aside0.mk hA
  have A6 := Aside0.mk hB
  clear hb0 hA hB
  have c5b0 := eq_true c5
  have c5b1 : decide (key.size + 1 ≤ 9223372036854775807) = true := decide_eq_true c5
  try have c5b2 : (9223372036854775807 < key.size + 1) = False := eq_false (Nat.not_lt.2 c5)
  obtain ⟨b, hb⟩ : ∃ b : Int, Go.bits .or .i64 tb 1 = b := ⟨_, rfl⟩
  rw [hb] at h
  have H' := Aside0.mk h
  clear h c5
  go_enter Try.func17, Try.ntmps17
  go_wp2_with (first | ((with_reducible refine gate_callee (f := 21) rfl ?_); refine goesL_ (some 11) rfl rfl Try.func21 (by kernel_rfl) rfl #[.string key] rfl (by (try simp only [List.map_toArray, List.map_cons, List.map_nil]); first | done | rfl) ?_; (with_reducible refine (crc_Sum.calls k key ta _ A4.out).mono ?_); rintro e w' ⟨rfl, ⟨nd, rfl⟩⟩; refine ⟨_, rfl, ?_⟩) | ((with_reducible refine gate_callee (f := 21) rfl ?_); refine goesL_ (some 14) rfl rfl Try.func21 (by kernel_rfl) rfl #[.string (key ++ (⟨#[35]⟩ : ByteArray))] rfl (by (try simp only [List.map_toArray, List.map_cons, List.map_nil]); first | done | rfl) ?_; (with_reducible refine (crc_Sum.calls k (key ++ (⟨#[35]⟩ : ByteArray)) tb _ A6.out).mono ?_); rintro e w' ⟨rfl, ⟨nd, rfl⟩⟩; refine ⟨_, rfl, ?_⟩))
  go_loopg [16] k (fun kq v16 w' => ∃ (i : Int), v16 = .int .i64 i ∧ Aside0 (bloom_Has.l0 kq s ta b n i = some r) ∧ Aside0 (kq ≤ k) ∧ Drawn0 W w')
  case atStart => exact ⟨0, rfl, H', ⟨Nat.le_refl _⟩, by repeat (first | exact Drawn0.refl _ | apply Drawn0.step)⟩
  case round =>
    clear H'
    obtain ⟨i, rfl, HA, HK1, ⟨m1, rfl⟩⟩ := hrel
    cases gk with
    | zero => exact absurd HA.out (by simp [bloom_Has.l0])
    | succ k1 =>
      have H := HA.out
      clear HA
      simp only [bloom_Has.l0] at H
      by_cases c2 : i < 6
      · rw [if_pos c2] at H
        have c2b0 : decide (i < 6) = true := decide_eq_true c2
        clear c2
        by_cases c7 : n = 0
        · rw [if_pos c7] at H
          exact absurd H (by simp)
        · rw [if_neg c7] at H
          have c7b0 : (n == 0) = false := beq_eq_false_iff_ne.mpr c7
          have c7b1 : (n != 0) = true := bne_iff_ne.mpr c7
          obtain ⟨p, hp⟩ : ∃ p : Int, Int.tmod (wrap64 (ta + (wrap64 (i * b)))) n = p := ⟨_, rfl⟩
          rw [hp] at H
          by_cases d1 : 0 ≤ wrap64 (Int.tdiv p 8)
          · rw [if_pos d1] at H
            by_cases d2 : wrap64 (Int.tdiv p 8) < (s.size : Int)
            · rw [if_pos d2] at H
              by_cases d3 : 0 ≤ Int.tmod p 8
              · rw [if_pos d3] at H
                have A1 := Aside0.mk d1
                have A2 := Aside0.mk d2
                have A3 := Aside0.mk d3
                clear d1 d2 d3
                obtain ⟨q, hq⟩ : ∃ q : Bool, (Go.bits .and .u8 (bt s (wrap64 (Int.tdiv p 8))) (shl .u8 1 (Int.tmod p 8)) != 0) = q := ⟨_, rfl⟩
                rw [hq] at H
                have AQ := Aside0.mk hq
                clear hq
                cases q with
                | true =>
                  rw [if_pos rfl] at H
                  have H' := Aside0.mk H
                  clear H
                  go_wp2_with (go_at_call 20; (try rw [hp]); (refine (bloom_Has.one g s p (W.drewN m1) (blk_drewN HK.out m1) A1.out A2.out A3.out).mono ?_); rintro e w7 ⟨he, ⟨nd, hw7⟩⟩; rw [AQ.out] at he; subst he; subst hw7)
                  go_roundg k1
                  case measure => have := HK1.out; omega
                  case rel => exact ⟨wrap64 (i + 1), (by first | rfl | (simp; done) | (simp [*]; done)), H', ⟨by have := HK1.out; omega⟩, by repeat (first | exact Drawn0.refl _ | apply Drawn0.step)⟩
                | false =>
                  rw [if_neg (by decide)] at H
                  obtain rfl := Option.some.inj H
                  go_wp2_with (go_at_call 20; (try rw [hp]); (refine (bloom_Has.one g s p (W.drewN m1) (blk_drewN HK.out m1) A1.out A2.out A3.out).mono ?_); rintro e w7 ⟨he, ⟨nd, hw7⟩⟩; rw [AQ.out] at he; subst he; subst hw7)
                  go_ret
                  exact ⟨rfl, by repeat (first | exact Drawn0.refl _ | apply Drawn0.step)⟩
              · rw [if_neg d3] at H
                exact absurd H (by simp)
            · rw [if_neg d2] at H
              exact absurd H (by simp)
          · rw [if_neg d1] at H
            exact absurd H (by simp)
      · rw [if_neg c2] at H
        have c2b0 : decide (i < 6) = false := decide_eq_false c2
        clear c2
        obtain rfl := Option.some.inj H
        go_wp2
        go_ret
        exact ⟨rfl, by repeat (first | exact Drawn0.refl _ | apply Drawn0.step)⟩
set_option maxHeartbeats 1600000 in
set_option maxRecDepth 100000 in
theorem bloom_Has.calls (k : Nat) (a0 : ByteArray) (a1 : ByteArray) (r : Bool) (w : World) (h : bloom_Has.f k a0 a1 = some r) :
    Calls Try.prog 13 #[.string a0, .string a1] w fun e w' => e = .returned (.bool r) ∧ Below w.heap.size w w' := by
  unfold bloom_Has.f at h
  have hk0 := heap_alloc_new w (.cells #[.string a0] 9)
  have hc0 : (w.alloc (.cells #[.string a0] 9)).cell? ⟨w.heap.size, 0, none⟩ = some (.string a0) := (blk_cell hk0 0).trans rfl
  have HB := Aside0.mk (below_alloc (Below.refl w.heap.size w) (.cells #[.string a0] 9))
  by_cases c : a0.toList = ([] : List UInt8)
  · rw [if_pos c] at h
    obtain rfl := Option.some.inj h
    have cb0 : (a0.toList == ([] : List UInt8)) = true := beq_iff_eq.mpr c
    have cb1 : a0.toList.isEmpty = true := by rw [c]; rfl
    go_enter Try.func13, Try.ntmps13
    go_wp2
    go_ret
    exact ⟨by first | rfl | (simp; done) | (simp [*]; done), by repeat (first | (with_reducible first | exact HB.out | apply below_alloc | apply pw_below_drewN | apply below_drew1) | exact HB.out)⟩
  · rw [if_neg c] at h
    have cb0 : (a0.toList == ([] : List UInt8)) = false := beq_eq_false_iff_ne.mpr c
    have cb1 : a0.toList.isEmpty = false := by rw [isE3]; exact cb0
    obtain ⟨ta, A4, h⟩ := Option.bind_eq_some_iff.mp h
    by_cases c5 : a1.size + 1 ≤ 9223372036854775807
    · rw [if_pos c5] at h
      obtain ⟨tb, A6, h⟩ := Option.bind_eq_some_iff.mp h
      have H := Aside0.mk h
      have B4 := Aside0.mk A4
      have B5 := Aside0.mk c5
      have B6 := Aside0.mk A6
      clear h A4 A6 c5
      go_enter Try.func13, Try.ntmps13
      go_wp2_with (go_at_call 17; (refine (bloom_Has.each k w.heap.size a0 a1 _ ta tb r _ (heap_alloc_new w _) B4.out B5.out B6.out H.out).mono ?_); rintro e w7 ⟨rfl, ⟨nd, rfl⟩⟩)
      go_ret
      exact ⟨by first | rfl | (simp; done) | (simp [*]; done), by repeat (first | (with_reducible first | exact HB.out | apply below_alloc | apply pw_below_drewN | apply below_drew1) | exact HB.out)⟩
    · rw [if_neg c5] at h
      exact absurd h (by simp)
theorem bloom_Has.mono_l : ∀ k, (∀ y0 y1 y2 y3 y4, LeO (bloom_Has.l0 k y0 y1 y2 y3 y4) (bloom_Has.l0 (k + 1) y0 y1 y2 y3 y4))
  | 0 => fun _ _ _ _ _ r h => by simp [bloom_Has.l0] at h
  | k + 1 => by
    have ih0 := bloom_Has.mono_l k
    intro y0 y1 y2 y3 y4
    unfold bloom_Has.l0
    repeat' first
      | (with_reducible exact ih0 _ _ _ _ _)
      | (with_reducible exact LeO.refl _)
      | (with_reducible exact LeO.none _)
      | (with_reducible refine LeO.ite ?_ ?_)
theorem bloom_Has.mono : ∀ a0 a1 k, LeO (bloom_Has.f k a0 a1) (bloom_Has.f (k + 1) a0 a1) := by
  intro a0 a1 k
  have ih0 := bloom_Has.mono_l k
  unfold bloom_Has.f
  repeat' first
    | (with_reducible exact ih0 _ _ _ _ _)
    | (with_reducible exact crc_Sum.mono _ _)
    | (with_reducible exact LeO.refl _)
    | (with_reducible exact LeO.none _)
    | (with_reducible refine LeO.ite ?_ ?_)
    | (with_reducible refine LeO.bind ?_ (fun _ => ?_))

end Go.Proofs.Ythjgnnldpepdfaa.XA
