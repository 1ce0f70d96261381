-- PRINTED BY print.sh 35421559b90ae4d0a3588c463048766b98c2df88dd9212a6774a882060cdf62d: not written by this session
import Derived.Test.YtgcmgbjinommpaaPVarintCutsx0
import Derived.Test.YtgcmgbjinommpaaPVarintCutsx1
namespace Go.Proofs.Ytgcmgbjinommpaa.PVarintCuts
open Go.RowKit Go.Proofs.YtgcmgbjinommpaaW.PrintWords Go.Proofs.YtgcmgbjinommpaaW.PrintLast Go.Proofs.YtgcmgbjinommpaaW.PrintMore
attribute [local go_sem] max2_int min2_int max_two min_two max_three min_three max_four min_four   -- for this text's walks alone
set_option linter.unusedVariables false
set_option linter.unusedSimpArgs false

/-! ### sorrellaw01_VarintCuts: function 8 -/
def sorrellaw01_VarintCuts.j0 : Nat → Int → ByteArray → ByteArray → Bool → Option (Bool)
  | 0, _, _, _, _ => none
  | k + 1, x2, x7, x9, x47 => if x47 = true then (some false) else (if (x7.size : Int) = 0 then (none) else (if 0 ≤ (Int.tmod (Go.bits .and .i64 x2 65535) (x7.size : Int)) then (if (Int.tmod (Go.bits .and .i64 x2 65535) (x7.size : Int)) ≤ (x7.size : Int) then ((varint_Take.f k (x7.extract 0 ((Int.tmod (Go.bits .and .i64 x2 65535) (x7.size : Int)) : Int).toNat)).bind fun bt122 => (if (x9.size : Int) = 0 then (none) else (if 0 ≤ (Int.tmod (Go.bits .and .i64 x2 65535) (x9.size : Int)) then (if (Int.tmod (Go.bits .and .i64 x2 65535) (x9.size : Int)) ≤ (x9.size : Int) then ((varint_TakeText.f k (x9.extract 0 ((Int.tmod (Go.bits .and .i64 x2 65535) (x9.size : Int)) : Int).toNat)).bind fun bt125 => (if bt122.1 = 0 then (if bt122.2.1 = 0 then (if bt122.2.2 = 10 then (if bt125.1.toList = ([] : List UInt8) then (if bt125.2.1 = 0 then (if bt125.2.2 = 10 then ((sorrellaw01_numbers.f k).bind fun t128 => (some t128)) else (some false)) else (some false)) else (some false)) else (some false)) else (some false)) else (some false))) else (none)) else (none)))) else (none)) else (none)))
def sorrellaw01_VarintCuts.f (k : Nat) (a0 : Int) (a1 : ByteArray) (a2 : Int) : Option (Bool) := if (a1.size : Int) > 4096 then ((sorrellaw01_numbers.f k).bind fun t117 => (some t117)) else ((varint_Put.f k (Go.bits .and .i64 a0 4611686018427387903)).bind fun bt118 => ((varint_Text.f k a1).bind fun bt120 => (if bt118.2 = 0 then (if bt120.2 = 0 then (if (bt118.1.size : Int) = 0 then (sorrellaw01_VarintCuts.j0 k a2 bt118.1 bt120.1 true) else (sorrellaw01_VarintCuts.j0 k a2 bt118.1 bt120.1 ((bt120.1.size : Int) == 0))) else (sorrellaw01_VarintCuts.j0 k a2 bt118.1 bt120.1 true)) else (sorrellaw01_VarintCuts.j0 k a2 bt118.1 bt120.1 true))))
theorem sorrellaw01_VarintCuts.mono_l : ∀ k, (∀ y0 y1 y2 y3, LeO (sorrellaw01_VarintCuts.j0 k y0 y1 y2 y3) (sorrellaw01_VarintCuts.j0 (k + 1) y0 y1 y2 y3))
  | 0 => fun _ _ _ _ r h => by simp [sorrellaw01_VarintCuts.j0] at h
  | k + 1 => by
    have ih0 := sorrellaw01_VarintCuts.mono_l k
    · intro y0 y1 y2 y3
      unfold sorrellaw01_VarintCuts.j0
      repeat' first
      | (with_reducible exact ih0 _ _ _ _)
      | (with_reducible exact sorrellaw01_numbers.mono _)
      | (with_reducible exact varint_Put.mono _ _)
      | (with_reducible exact varint_Take.mono _ _)
      | (with_reducible exact varint_TakeText.mono _ _)
      | (with_reducible exact varint_Text.mono _ _)
      | (with_reducible exact LeO.refl _)
      | (with_reducible exact LeO.none _)
      | (with_reducible refine LeO.ite ?_ ?_)
      | (with_reducible refine LeO.bind ?_ (fun _ => ?_))
      | exact ih0 _ _ _ _
      | exact sorrellaw01_numbers.mono _
      | exact varint_Put.mono _ _
      | exact varint_Take.mono _ _
      | exact varint_TakeText.mono _ _
      | exact varint_Text.mono _ _
      | exact LeO.none _
      | refine LeO.ite ?_ ?_
      | refine LeO.bind ?_ (fun _ => ?_)
theorem sorrellaw01_VarintCuts.mono : ∀ a0 a1 a2 k, LeO (sorrellaw01_VarintCuts.f k a0 a1 a2) (sorrellaw01_VarintCuts.f (k + 1) a0 a1 a2) := by
  intro a0 a1 a2 k
  have ih0 := sorrellaw01_VarintCuts.mono_l k
  unfold sorrellaw01_VarintCuts.f
  repeat' first
      | (with_reducible exact ih0 _ _ _ _)
      | (with_reducible exact sorrellaw01_numbers.mono _)
      | (with_reducible exact varint_Put.mono _ _)
      | (with_reducible exact varint_Take.mono _ _)
      | (with_reducible exact varint_TakeText.mono _ _)
      | (with_reducible exact varint_Text.mono _ _)
      | (with_reducible exact LeO.refl _)
      | (with_reducible exact LeO.none _)
      | (with_reducible refine LeO.ite ?_ ?_)
      | (with_reducible refine LeO.bind ?_ (fun _ => ?_))
      | exact ih0 _ _ _ _
      | exact sorrellaw01_numbers.mono _
      | exact varint_Put.mono _ _
      | exact varint_Take.mono _ _
      | exact varint_TakeText.mono _ _
      | exact varint_Text.mono _ _
      | exact LeO.none _
      | refine LeO.ite ?_ ?_
      | refine LeO.bind ?_ (fun _ => ?_)
set_option maxHeartbeats 8000000 in
set_option maxRecDepth 100000 in
theorem sorrellaw01_VarintCuts.calls (k : Nat) (a0 : Int) (a1 : ByteArray) (a2 : Int) (r : Bool) (w : World) (h : sorrellaw01_VarintCuts.f k a0 a1 a2 = some r) :
    Calls Try.prog 8 #[.int .i64 a0, .string a1, .int .i64 a2] w fun e w' => e = .returned (.bool r) ∧ Below w.heap.size w w' := by
  have HB := Aside0.mk (Below.refl w.heap.size w)
  have H : (if (a1.size : Int) > 4096 then ((sorrellaw01_numbers.f k).bind fun t117 => (some t117)) else ((varint_Put.f k (Go.bits .and .i64 a0 4611686018427387903)).bind fun bt118 => ((varint_Text.f k a1).bind fun bt120 => (if bt118.2 = 0 then (if bt120.2 = 0 then (if (bt118.1.size : Int) = 0 then (sorrellaw01_VarintCuts.j0 k a2 bt118.1 bt120.1 true) else (sorrellaw01_VarintCuts.j0 k a2 bt118.1 bt120.1 ((bt120.1.size : Int) == 0))) else (sorrellaw01_VarintCuts.j0 k a2 bt118.1 bt120.1 true)) else (sorrellaw01_VarintCuts.j0 k a2 bt118.1 bt120.1 true))))) = some r := h
  clear h
  by_cases c4 : (a1.size : Int) > 4096
  · rw [if_pos c4] at H
    have c4b0 : decide (4096 < (a1.size : Int)) = true := decide_eq_true c4
    have c4b1 : decide (4096 < a1.size) = true := decide_eq_true (by omega)
    clear c4
    replace H := Option.bind_eq_some_iff.mp H
    obtain ⟨t117, A50, H⟩ := H
    replace H : (some t117) = some r := H
    have A5 := Aside0.mk A50
    clear A50
    obtain rfl := Option.some.inj H
    go_enter Try.func8, Try.ntmps8
    go_wp2_with (first | ((with_reducible refine gate_callee (f := 16) rfl ?_); refine goesL_ (some 20) rfl rfl Try.func16 (by kernel_rfl) rfl #[] rfl (by (try simp only [List.map_toArray, List.map_cons, List.map_nil]); first | done | rfl | (simp only [List.length_drop, List.length_take]; rfl)) ?_; (with_reducible refine (sorrellaw01_numbers.calls k  t117 _ A5.out).mono ?_); rintro e w6 ⟨rfl, hb⟩; refine ⟨_, rfl, ?_⟩; have n0_ := Aside0.mk (below_step (by repeat (first | (with_reducible first | exact HB.out | apply below_alloc | apply pw_below_drewN | apply below_drew1) | exact HB.out)) hb); clear HB; have HB := n0_; clear n0_; (try clear hb); (try clear hb2); (try clear hk); (try clear hi)))
    go_ret
    exact ⟨by first | rfl | (simp [errW_none, errW_some] <;> rfl) | (simp [*, errW_none, errW_some] <;> rfl), by repeat (first | (with_reducible first | exact HB.out | apply below_alloc | apply pw_below_drewN | apply below_drew1) | exact HB.out)⟩
  · rw [if_neg c4] at H
    have c4b0 : decide (4096 < (a1.size : Int)) = false := decide_eq_false c4
    have c4b1 : decide (4096 < a1.size) = false := decide_eq_false (by omega)
    clear c4
    replace H := Option.bind_eq_some_iff.mp H
    obtain ⟨⟨t118, t119⟩, A70, H⟩ := H
    replace H : ((varint_Text.f k a1).bind fun bt120 => (if t119 = 0 then (if bt120.2 = 0 then (if (t118.size : Int) = 0 then (sorrellaw01_VarintCuts.j0 k a2 t118 bt120.1 true) else (sorrellaw01_VarintCuts.j0 k a2 t118 bt120.1 ((bt120.1.size : Int) == 0))) else (sorrellaw01_VarintCuts.j0 k a2 t118 bt120.1 true)) else (sorrellaw01_VarintCuts.j0 k a2 t118 bt120.1 true))) = some r := H
    have A7 := Aside0.mk A70
    clear A70
    replace H := Option.bind_eq_some_iff.mp H
    obtain ⟨⟨t120, t121⟩, A80, H⟩ := H
    replace H : (if t119 = 0 then (if t121 = 0 then (if (t118.size : Int) = 0 then (sorrellaw01_VarintCuts.j0 k a2 t118 t120 true) else (sorrellaw01_VarintCuts.j0 k a2 t118 t120 ((t120.size : Int) == 0))) else (sorrellaw01_VarintCuts.j0 k a2 t118 t120 true)) else (sorrellaw01_VarintCuts.j0 k a2 t118 t120 true)) = some r := H
    have A8 := Aside0.mk A80
    clear A80
    have HC9 := Aside0.mk H
    clear H
    go_enter Try.func8, Try.ntmps8
    go_upto_region 5 with (first | ((with_reducible refine gate_callee (f := 14) rfl ?_); refine goesL_ (some 24) rfl rfl Try.func14 (by kernel_rfl) rfl #[.int .i64 (Go.bits .and .i64 a0 4611686018427387903)] rfl (by (try simp only [List.map_toArray, List.map_cons, List.map_nil]); first | done | rfl | (simp only [List.length_drop, List.length_take]; rfl)) ?_; (with_reducible refine (varint_Put.calls k (Go.bits .and .i64 a0 4611686018427387903) t118 t119 _ A7.out).mono ?_); rintro e w10 ⟨rfl, hb⟩; refine ⟨_, rfl, ?_⟩; have n0_ := Aside0.mk (below_step (by repeat (first | (with_reducible first | exact HB.out | apply below_alloc | apply pw_below_drewN | apply below_drew1) | exact HB.out)) hb); clear HB; have HB := n0_; clear n0_; (try clear hb); (try clear hb2); (try clear hk); (try clear hi)) | ((with_reducible refine gate_callee (f := 19) rfl ?_); refine goesL_ (some 29) rfl rfl Try.func19 (by kernel_rfl) rfl #[.string a1] rfl (by (try simp only [List.map_toArray, List.map_cons, List.map_nil]); first | done | rfl | (simp only [List.length_drop, List.length_take]; rfl)) ?_; (with_reducible refine (varint_Text.calls k a1 t120 t121 _ A8.out).mono ?_); rintro e w11 ⟨rfl, hb⟩; refine ⟨_, rfl, ?_⟩; have n0_ := Aside0.mk (below_step (by repeat (first | (with_reducible first | exact HB.out | apply below_alloc | apply pw_below_drewN | apply below_drew1) | exact HB.out)) hb); clear HB; have HB := n0_; clear n0_; (try clear hb); (try clear hb2); (try clear hk); (try clear hi)))
    (try simp only [Act.put, List.setIfInBounds_toArray, List.set_cons_zero, List.set_cons_succ])
    go_cut [47] (fun v47 wc => ∃ (kq : Nat) (x47_8 : Bool), v47 = .bool x47_8 ∧ Aside0 (sorrellaw01_VarintCuts.j0 kq a2 t118 t120 x47_8 = some r) ∧ Aside0 (kq ≤ k) ∧ Aside0 (Below w.heap.size w wc))
    case first =>
      have H := HC9.out
      clear HC9
      by_cases c12 : t119 = 0
      · rw [if_pos c12] at H
        have c12b0 : (t119 == 0) = true := beq_iff_eq.mpr c12
        have c12b1 : (t119 != 0) = false := bne_eq_false_iff_eq.mpr c12
        clear c12
        (first | rw [c12b0] | (simp only [i64_w, i32_w]; rw [c12b0]) | skip)
        by_cases c13 : t121 = 0
        · rw [if_pos c13] at H
          have c13b0 : (t121 == 0) = true := beq_iff_eq.mpr c13
          have c13b1 : (t121 != 0) = false := bne_eq_false_iff_eq.mpr c13
          clear c13
          by_cases c14 : (t118.size : Int) = 0
          · rw [if_pos c14] at H
            have c14b0 : ((t118.size : Int) == 0) = true := beq_iff_eq.mpr c14
            have c14b1 : ((t118.size : Int) != 0) = false := bne_eq_false_iff_eq.mpr c14
            clear c14
            have H' := Aside0.mk H
            clear H
            go_wp2
            go_meet
            case rel => exact ⟨_, (true), (by first | rfl | (simp; done) | (simp [*]; done)), H', ⟨by first | omega | exact Nat.le_refl _⟩, ⟨by repeat (first | (with_reducible first | exact HB.out | apply below_alloc | apply pw_below_drewN | apply below_drew1) | exact HB.out)⟩⟩
          · rw [if_neg c14] at H
            have c14b0 : ((t118.size : Int) == 0) = false := beq_eq_false_iff_ne.mpr c14
            have c14b1 : ((t118.size : Int) != 0) = true := bne_iff_ne.mpr c14
            have H' := Aside0.mk H
            clear H
            go_wp2
            go_meet
            case rel => exact ⟨_, (((t120.size : Int) == 0)), (by first | rfl | (simp; done) | (simp [*]; done)), H', ⟨by first | omega | exact Nat.le_refl _⟩, ⟨by repeat (first | (with_reducible first | exact HB.out | apply below_alloc | apply pw_below_drewN | apply below_drew1) | exact HB.out)⟩⟩
        · rw [if_neg c13] at H
          have c13b0 : (t121 == 0) = false := beq_eq_false_iff_ne.mpr c13
          have c13b1 : (t121 != 0) = true := bne_iff_ne.mpr c13
          have H' := Aside0.mk H
          clear H
          go_wp2
          go_meet
          case rel => exact ⟨_, (true), (by first | rfl | (simp; done) | (simp [*]; done)), H', ⟨by first | omega | exact Nat.le_refl _⟩, ⟨by repeat (first | (with_reducible first | exact HB.out | apply below_alloc | apply pw_below_drewN | apply below_drew1) | exact HB.out)⟩⟩
      · rw [if_neg c12] at H
        have c12b0 : (t119 == 0) = false := beq_eq_false_iff_ne.mpr c12
        have c12b1 : (t119 != 0) = true := bne_iff_ne.mpr c12
        (first | rw [c12b0] | (simp only [i64_w, i32_w]; rw [c12b0]) | skip)
        have H' := Aside0.mk H
        clear H
        go_wp2
        go_meet
        case rel => exact ⟨_, (true), (by first | rfl | (simp; done) | (simp [*]; done)), H', ⟨by first | omega | exact Nat.le_refl _⟩, ⟨by repeat (first | (with_reducible first | exact HB.out | apply below_alloc | apply pw_below_drewN | apply below_drew1) | exact HB.out)⟩⟩
    case rest =>
      clear HC9
      try clear c1
      try clear p2
      try clear c4
      try clear c4b0
      try clear c4b1
      try clear c8
      try clear c12
      try clear c12b0
      try clear c12b1
      try clear c13
      try clear c13b0
      try clear c13b1
      try clear c14
      try clear c14b0
      try clear c14b1
      obtain ⟨kq, x47_8, rfl, HA, HJ8, HB⟩ := hcut
      cases kq with
      | zero => exact absurd HA.out (by simp [sorrellaw01_VarintCuts.j0])
      | succ kj8 =>
        have H := HA.out
        clear HA
        simp only [sorrellaw01_VarintCuts.j0] at H
        by_cases c15 : x47_8 = true
        · subst c15
          have H1 : (some false) = some r := by rw [if_pos rfl] at H; exact H
          clear H
          have H := H1
          clear H1
          obtain rfl := Option.some.inj H
          go_wp2
          go_ret
          exact ⟨by first | rfl | (simp [errW_none, errW_some] <;> rfl) | (simp [*, errW_none, errW_some] <;> rfl), by repeat (first | (with_reducible first | exact HB.out | apply below_alloc | apply pw_below_drewN | apply below_drew1) | exact HB.out)⟩
        · replace c15 := Bool.eq_false_iff.mpr c15
          subst c15
          have H1 : (if (t118.size : Int) = 0 then (none) else (if 0 ≤ (Int.tmod (Go.bits .and .i64 a2 65535) (t118.size : Int)) then (if (Int.tmod (Go.bits .and .i64 a2 65535) (t118.size : Int)) ≤ (t118.size : Int) then ((varint_Take.f kj8 (t118.extract 0 ((Int.tmod (Go.bits .and .i64 a2 65535) (t118.size : Int)) : Int).toNat)).bind fun bt122 => (if (t120.size : Int) = 0 then (none) else (if 0 ≤ (Int.tmod (Go.bits .and .i64 a2 65535) (t120.size : Int)) then (if (Int.tmod (Go.bits .and .i64 a2 65535) (t120.size : Int)) ≤ (t120.size : Int) then ((varint_TakeText.f kj8 (t120.extract 0 ((Int.tmod (Go.bits .and .i64 a2 65535) (t120.size : Int)) : Int).toNat)).bind fun bt125 => (if bt122.1 = 0 then (if bt122.2.1 = 0 then (if bt122.2.2 = 10 then (if bt125.1.toList = ([] : List UInt8) then (if bt125.2.1 = 0 then (if bt125.2.2 = 10 then ((sorrellaw01_numbers.f kj8).bind fun t128 => (some t128)) else (some false)) else (some false)) else (some false)) else (some false)) else (some false)) else (some false))) else (none)) else (none)))) else (none)) else (none))) = some r := by rw [if_neg (show ¬ (false = true) by decide)] at H; exact H
          clear H
          have H := H1
          clear H1
          by_cases c16 : (t118.size : Int) = 0
          · rw [if_pos c16] at H
            exact absurd H (by simp)
          · rw [if_neg c16] at H
            have c16b0 : ((t118.size : Int) == 0) = false := beq_eq_false_iff_ne.mpr c16
            have c16b1 : ((t118.size : Int) != 0) = true := bne_iff_ne.mpr c16
            obtain ⟨ji17, hji17⟩ : ∃ j_ : Int, (Int.tmod (Go.bits .and .i64 a2 65535) (t118.size : Int)) = j_ := ⟨_, rfl⟩
            replace H : (if 0 ≤ (ji17) then (if (ji17) ≤ (t118.size : Int) then ((varint_Take.f kj8 (t118.extract 0 ((ji17) : Int).toNat)).bind fun bt122 => (if (t120.size : Int) = 0 then (none) else (if 0 ≤ (Int.tmod (Go.bits .and .i64 a2 65535) (t120.size : Int)) then (if (Int.tmod (Go.bits .and .i64 a2 65535) (t120.size : Int)) ≤ (t120.size : Int) then ((varint_TakeText.f kj8 (t120.extract 0 ((Int.tmod (Go.bits .and .i64 a2 65535) (t120.size : Int)) : Int).toNat)).bind fun bt125 => (if bt122.1 = 0 then (if bt122.2.1 = 0 then (if bt122.2.2 = 10 then (if bt125.1.toList = ([] : List UInt8) then (if bt125.2.1 = 0 then (if bt125.2.2 = 10 then ((sorrellaw01_numbers.f kj8).bind fun t128 => (some t128)) else (some false)) else (some false)) else (some false)) else (some false)) else (some false)) else (some false))) else (none)) else (none)))) else (none)) else (none)) = some r := by first | (rw [hji17] at H; exact H) | (simp only [hji17] at H ⊢; exact H)
            by_cases c18 : 0 ≤ (ji17)
            · rw [if_pos c18] at H
              have c18b0 := eq_true c18
              have c18b1 : decide (0 ≤ (ji17)) = true := decide_eq_true c18
              clear c18
              by_cases c19 : (ji17) ≤ (t118.size : Int)
              · rw [if_pos c19] at H
                have c19b0 := eq_true c19
                have c19b1 : decide ((ji17) ≤ (t118.size : Int)) = true := decide_eq_true c19
                clear c19
                replace H := Option.bind_eq_some_iff.mp H
                obtain ⟨⟨t122, t123, t124⟩, A200, H⟩ := H
                replace H : (if (t120.size : Int) = 0 then (none) else (if 0 ≤ (Int.tmod (Go.bits .and .i64 a2 65535) (t120.size : Int)) then (if (Int.tmod (Go.bits .and .i64 a2 65535) (t120.size : Int)) ≤ (t120.size : Int) then ((varint_TakeText.f kj8 (t120.extract 0 ((Int.tmod (Go.bits .and .i64 a2 65535) (t120.size : Int)) : Int).toNat)).bind fun bt125 => (if t122 = 0 then (if t123 = 0 then (if t124 = 10 then (if bt125.1.toList = ([] : List UInt8) then (if bt125.2.1 = 0 then (if bt125.2.2 = 10 then ((sorrellaw01_numbers.f kj8).bind fun t128 => (some t128)) else (some false)) else (some false)) else (some false)) else (some false)) else (some false)) else (some false))) else (none)) else (none))) = some r := H
                have A20 := Aside0.mk A200
                clear A200
                by_cases c21 : (t120.size : Int) = 0
                · rw [if_pos c21] at H
                  exact absurd H (by simp)
                · rw [if_neg c21] at H
                  have c21b0 : ((t120.size : Int) == 0) = false := beq_eq_false_iff_ne.mpr c21
                  have c21b1 : ((t120.size : Int) != 0) = true := bne_iff_ne.mpr c21
                  obtain ⟨ji22, hji22⟩ : ∃ j_ : Int, (Int.tmod (Go.bits .and .i64 a2 65535) (t120.size : Int)) = j_ := ⟨_, rfl⟩
                  replace H : (if 0 ≤ (ji22) then (if (ji22) ≤ (t120.size : Int) then ((varint_TakeText.f kj8 (t120.extract 0 ((ji22) : Int).toNat)).bind fun bt125 => (if t122 = 0 then (if t123 = 0 then (if t124 = 10 then (if bt125.1.toList = ([] : List UInt8) then (if bt125.2.1 = 0 then (if bt125.2.2 = 10 then ((sorrellaw01_numbers.f kj8).bind fun t128 => (some t128)) else (some false)) else (some false)) else (some false)) else (some false)) else (some false)) else (some false))) else (none)) else (none)) = some r := by first | (rw [hji22] at H; exact H) | (simp only [hji22] at H ⊢; exact H)
                  (try rw [hji22] at A20)
                  by_cases c23 : 0 ≤ (ji22)
                  · rw [if_pos c23] at H
                    have c23b0 := eq_true c23
                    have c23b1 : decide (0 ≤ (ji22)) = true := decide_eq_true c23
                    clear c23
                    by_cases c24 : (ji22) ≤ (t120.size : Int)
                    · rw [if_pos c24] at H
                      have c24b0 := eq_true c24
                      have c24b1 : decide ((ji22) ≤ (t120.size : Int)) = true := decide_eq_true c24
                      clear c24
                      replace H := Option.bind_eq_some_iff.mp H
                      obtain ⟨⟨t125, t126, t127⟩, A250, H⟩ := H
                      replace H : (if t122 = 0 then (if t123 = 0 then (if t124 = 10 then (if t125.toList = ([] : List UInt8) then (if t126 = 0 then (if t127 = 10 then ((sorrellaw01_numbers.f kj8).bind fun t128 => (some t128)) else (some false)) else (some false)) else (some false)) else (some false)) else (some false)) else (some false)) = some r := H
                      have A25 := Aside0.mk A250
                      clear A250
                      by_cases c26 : t122 = 0
                      · rw [if_pos c26] at H
                        have c26b0 : (t122 == 0) = true := beq_iff_eq.mpr c26
                        have c26b1 : (t122 != 0) = false := bne_eq_false_iff_eq.mpr c26
                        clear c26
                        by_cases c27 : t123 = 0
                        · rw [if_pos c27] at H
                          have c27b0 : (t123 == 0) = true := beq_iff_eq.mpr c27
                          have c27b1 : (t123 != 0) = false := bne_eq_false_iff_eq.mpr c27
                          clear c27
                          by_cases c28 : t124 = 10
                          · rw [if_pos c28] at H
                            have c28b0 : (t124 == 10) = true := beq_iff_eq.mpr c28
                            have c28b1 : (t124 != 10) = false := bne_eq_false_iff_eq.mpr c28
                            clear c28
                            by_cases c29 : t125.toList = ([] : List UInt8)
                            · rw [if_pos c29] at H
                              have c29b0 : (t125.toList == ([] : List UInt8)) = true := beq_iff_eq.mpr c29
                              have c29b1 : (t125.toList != ([] : List UInt8)) = false := bne_eq_false_iff_eq.mpr c29
                              clear c29
                              by_cases c30 : t126 = 0
                              · rw [if_pos c30] at H
                                have c30b0 : (t126 == 0) = true := beq_iff_eq.mpr c30
                                have c30b1 : (t126 != 0) = false := bne_eq_false_iff_eq.mpr c30
                                clear c30
                                by_cases c31 : t127 = 10
                                · rw [if_pos c31] at H
                                  have c31b0 : (t127 == 10) = true := beq_iff_eq.mpr c31
                                  have c31b1 : (t127 != 10) = false := bne_eq_false_iff_eq.mpr c31
                                  clear c31
                                  replace H := Option.bind_eq_some_iff.mp H
                                  obtain ⟨t128, A320, H⟩ := H
                                  replace H : (some t128) = some r := H
                                  have A32 := Aside0.mk A320
                                  clear A320
                                  obtain rfl := Option.some.inj H
                                  go_wp2_with (first | ((with_reducible refine gate_callee (f := 17) rfl ?_); refine goesL_ (some 56) rfl rfl Try.func17 (by kernel_rfl) rfl #[.string (t118.extract 0 ((ji17) : Int).toNat)] rfl (by (try simp only [List.map_toArray, List.map_cons, List.map_nil]); first | done | (simp only [hji17]; rfl) | rfl | (simp only [List.length_drop, List.length_take]; rfl)) ?_; (with_reducible refine (varint_Take.calls kj8 (t118.extract 0 ((ji17) : Int).toNat) t122 t123 t124 _ A20.out).mono ?_); rintro e w' ⟨rfl, ⟨nd, rfl⟩⟩; refine ⟨_, rfl, ?_⟩) | ((with_reducible refine gate_callee (f := 20) rfl ?_); refine goesL_ (some 68) rfl rfl Try.func20 (by kernel_rfl) rfl #[.string (t120.extract 0 ((ji22) : Int).toNat)] rfl (by (try simp only [List.map_toArray, List.map_cons, List.map_nil]); first | done | (simp only [hji22]; rfl) | rfl | (simp only [List.length_drop, List.length_take]; rfl)) ?_; (with_reducible refine (varint_TakeText.calls kj8 (t120.extract 0 ((ji22) : Int).toNat) t125 t126 t127 _ A25.out).mono ?_); rintro e w' ⟨rfl, ⟨nd, rfl⟩⟩; refine ⟨_, rfl, ?_⟩) | (go_at_call 16; (with_reducible refine (sorrellaw01_numbers.calls kj8  t128 _ A32.out).mono ?_); rintro e w33 ⟨rfl, hb⟩; have n0_ := Aside0.mk (below_step (by repeat (first | (with_reducible first | exact HB.out | apply below_alloc | apply pw_below_drewN | apply below_drew1) | exact HB.out)) hb); clear HB; have HB := n0_; clear n0_; (try clear hb); (try clear hb2); (try clear hk); (try clear hi)))
                                  go_ret
                                  exact ⟨by first | rfl | (simp [errW_none, errW_some] <;> rfl) | (simp only [← hji17, ← hji22]; first | rfl | (simp [errW_none, errW_some] <;> rfl)) | (simp [*, errW_none, errW_some] <;> rfl), by repeat (first | (with_reducible first | exact HB.out | apply below_alloc | apply pw_below_drewN | apply below_drew1) | exact HB.out)⟩
                                · rw [if_neg c31] at H
                                  have c31b0 : (t127 == 10) = false := beq_eq_false_iff_ne.mpr c31
                                  have c31b1 : (t127 != 10) = true := bne_iff_ne.mpr c31
                                  obtain rfl := Option.some.inj H
                                  go_wp2_with (first | ((with_reducible refine gate_callee (f := 17) rfl ?_); refine goesL_ (some 56) rfl rfl Try.func17 (by kernel_rfl) rfl #[.string (t118.extract 0 ((ji17) : Int).toNat)] rfl (by (try simp only [List.map_toArray, List.map_cons, List.map_nil]); first | done | (simp only [hji17]; rfl) | rfl | (simp only [List.length_drop, List.length_take]; rfl)) ?_; (with_reducible refine (varint_Take.calls kj8 (t118.extract 0 ((ji17) : Int).toNat) t122 t123 t124 _ A20.out).mono ?_); rintro e w' ⟨rfl, ⟨nd, rfl⟩⟩; refine ⟨_, rfl, ?_⟩) | ((with_reducible refine gate_callee (f := 20) rfl ?_); refine goesL_ (some 68) rfl rfl Try.func20 (by kernel_rfl) rfl #[.string (t120.extract 0 ((ji22) : Int).toNat)] rfl (by (try simp only [List.map_toArray, List.map_cons, List.map_nil]); first | done | (simp only [hji22]; rfl) | rfl | (simp only [List.length_drop, List.length_take]; rfl)) ?_; (with_reducible refine (varint_TakeText.calls kj8 (t120.extract 0 ((ji22) : Int).toNat) t125 t126 t127 _ A25.out).mono ?_); rintro e w' ⟨rfl, ⟨nd, rfl⟩⟩; refine ⟨_, rfl, ?_⟩))
                                  go_ret
                                  exact ⟨by first | rfl | (simp [errW_none, errW_some] <;> rfl) | (simp only [← hji17, ← hji22]; first | rfl | (simp [errW_none, errW_some] <;> rfl)) | (simp [*, errW_none, errW_some] <;> rfl), by repeat (first | (with_reducible first | exact HB.out | apply below_alloc | apply pw_below_drewN | apply below_drew1) | exact HB.out)⟩
                              · rw [if_neg c30] at H
                                have c30b0 : (t126 == 0) = false := beq_eq_false_iff_ne.mpr c30
                                have c30b1 : (t126 != 0) = true := bne_iff_ne.mpr c30
                                obtain rfl := Option.some.inj H
                                go_wp2_with (first | ((with_reducible refine gate_callee (f := 17) rfl ?_); refine goesL_ (some 56) rfl rfl Try.func17 (by kernel_rfl) rfl #[.string (t118.extract 0 ((ji17) : Int).toNat)] rfl (by (try simp only [List.map_toArray, List.map_cons, List.map_nil]); first | done | (simp only [hji17]; rfl) | rfl | (simp only [List.length_drop, List.length_take]; rfl)) ?_; (with_reducible refine (varint_Take.calls kj8 (t118.extract 0 ((ji17) : Int).toNat) t122 t123 t124 _ A20.out).mono ?_); rintro e w' ⟨rfl, ⟨nd, rfl⟩⟩; refine ⟨_, rfl, ?_⟩) | ((with_reducible refine gate_callee (f := 20) rfl ?_); refine goesL_ (some 68) rfl rfl Try.func20 (by kernel_rfl) rfl #[.string (t120.extract 0 ((ji22) : Int).toNat)] rfl (by (try simp only [List.map_toArray, List.map_cons, List.map_nil]); first | done | (simp only [hji22]; rfl) | rfl | (simp only [List.length_drop, List.length_take]; rfl)) ?_; (with_reducible refine (varint_TakeText.calls kj8 (t120.extract 0 ((ji22) : Int).toNat) t125 t126 t127 _ A25.out).mono ?_); rintro e w' ⟨rfl, ⟨nd, rfl⟩⟩; refine ⟨_, rfl, ?_⟩))
                                go_ret
                                exact ⟨by first | rfl | (simp [errW_none, errW_some] <;> rfl) | (simp only [← hji17, ← hji22]; first | rfl | (simp [errW_none, errW_some] <;> rfl)) | (simp [*, errW_none, errW_some] <;> rfl), by repeat (first | (with_reducible first | exact HB.out | apply below_alloc | apply pw_below_drewN | apply below_drew1) | exact HB.out)⟩
                            · rw [if_neg c29] at H
                              have c29b0 : (t125.toList == ([] : List UInt8)) = false := beq_eq_false_iff_ne.mpr c29
                              have c29b1 : (t125.toList != ([] : List UInt8)) = true := bne_iff_ne.mpr c29
                              obtain rfl := Option.some.inj H
                              go_wp2_with (first | ((with_reducible refine gate_callee (f := 17) rfl ?_); refine goesL_ (some 56) rfl rfl Try.func17 (by kernel_rfl) rfl #[.string (t118.extract 0 ((ji17) : Int).toNat)] rfl (by (try simp only [List.map_toArray, List.map_cons, List.map_nil]); first | done | (simp only [hji17]; rfl) | rfl | (simp only [List.length_drop, List.length_take]; rfl)) ?_; (with_reducible refine (varint_Take.calls kj8 (t118.extract 0 ((ji17) : Int).toNat) t122 t123 t124 _ A20.out).mono ?_); rintro e w' ⟨rfl, ⟨nd, rfl⟩⟩; refine ⟨_, rfl, ?_⟩) | ((with_reducible refine gate_callee (f := 20) rfl ?_); refine goesL_ (some 68) rfl rfl Try.func20 (by kernel_rfl) rfl #[.string (t120.extract 0 ((ji22) : Int).toNat)] rfl (by (try simp only [List.map_toArray, List.map_cons, List.map_nil]); first | done | (simp only [hji22]; rfl) | rfl | (simp only [List.length_drop, List.length_take]; rfl)) ?_; (with_reducible refine (varint_TakeText.calls kj8 (t120.extract 0 ((ji22) : Int).toNat) t125 t126 t127 _ A25.out).mono ?_); rintro e w' ⟨rfl, ⟨nd, rfl⟩⟩; refine ⟨_, rfl, ?_⟩))
                              go_ret
                              exact ⟨by first | rfl | (simp [errW_none, errW_some] <;> rfl) | (simp only [← hji17, ← hji22]; first | rfl | (simp [errW_none, errW_some] <;> rfl)) | (simp [*, errW_none, errW_some] <;> rfl), by repeat (first | (with_reducible first | exact HB.out | apply below_alloc | apply pw_below_drewN | apply below_drew1) | exact HB.out)⟩
                          · rw [if_neg c28] at H
                            have c28b0 : (t124 == 10) = false := beq_eq_false_iff_ne.mpr c28
                            have c28b1 : (t124 != 10) = true := bne_iff_ne.mpr c28
                            obtain rfl := Option.some.inj H
                            go_wp2_with (first | ((with_reducible refine gate_callee (f := 17) rfl ?_); refine goesL_ (some 56) rfl rfl Try.func17 (by kernel_rfl) rfl #[.string (t118.extract 0 ((ji17) : Int).toNat)] rfl (by (try simp only [List.map_toArray, List.map_cons, List.map_nil]); first | done | (simp only [hji17]; rfl) | rfl | (simp only [List.length_drop, List.length_take]; rfl)) ?_; (with_reducible refine (varint_Take.calls kj8 (t118.extract 0 ((ji17) : Int).toNat) t122 t123 t124 _ A20.out).mono ?_); rintro e w' ⟨rfl, ⟨nd, rfl⟩⟩; refine ⟨_, rfl, ?_⟩) | ((with_reducible refine gate_callee (f := 20) rfl ?_); refine goesL_ (some 68) rfl rfl Try.func20 (by kernel_rfl) rfl #[.string (t120.extract 0 ((ji22) : Int).toNat)] rfl (by (try simp only [List.map_toArray, List.map_cons, List.map_nil]); first | done | (simp only [hji22]; rfl) | rfl | (simp only [List.length_drop, List.length_take]; rfl)) ?_; (with_reducible refine (varint_TakeText.calls kj8 (t120.extract 0 ((ji22) : Int).toNat) t125 t126 t127 _ A25.out).mono ?_); rintro e w' ⟨rfl, ⟨nd, rfl⟩⟩; refine ⟨_, rfl, ?_⟩))
                            go_ret
                            exact ⟨by first | rfl | (simp [errW_none, errW_some] <;> rfl) | (simp only [← hji17, ← hji22]; first | rfl | (simp [errW_none, errW_some] <;> rfl)) | (simp [*, errW_none, errW_some] <;> rfl), by repeat (first | (with_reducible first | exact HB.out | apply below_alloc | apply pw_below_drewN | apply below_drew1) | exact HB.out)⟩
                        · rw [if_neg c27] at H
                          have c27b0 : (t123 == 0) = false := beq_eq_false_iff_ne.mpr c27
                          have c27b1 : (t123 != 0) = true := bne_iff_ne.mpr c27
                          obtain rfl := Option.some.inj H
                          go_wp2_with (first | ((with_reducible refine gate_callee (f := 17) rfl ?_); refine goesL_ (some 56) rfl rfl Try.func17 (by kernel_rfl) rfl #[.string (t118.extract 0 ((ji17) : Int).toNat)] rfl (by (try simp only [List.map_toArray, List.map_cons, List.map_nil]); first | done | (simp only [hji17]; rfl) | rfl | (simp only [List.length_drop, List.length_take]; rfl)) ?_; (with_reducible refine (varint_Take.calls kj8 (t118.extract 0 ((ji17) : Int).toNat) t122 t123 t124 _ A20.out).mono ?_); rintro e w' ⟨rfl, ⟨nd, rfl⟩⟩; refine ⟨_, rfl, ?_⟩) | ((with_reducible refine gate_callee (f := 20) rfl ?_); refine goesL_ (some 68) rfl rfl Try.func20 (by kernel_rfl) rfl #[.string (t120.extract 0 ((ji22) : Int).toNat)] rfl (by (try simp only [List.map_toArray, List.map_cons, List.map_nil]); first | done | (simp only [hji22]; rfl) | rfl | (simp only [List.length_drop, List.length_take]; rfl)) ?_; (with_reducible refine (varint_TakeText.calls kj8 (t120.extract 0 ((ji22) : Int).toNat) t125 t126 t127 _ A25.out).mono ?_); rintro e w' ⟨rfl, ⟨nd, rfl⟩⟩; refine ⟨_, rfl, ?_⟩))
                          go_ret
                          exact ⟨by first | rfl | (simp [errW_none, errW_some] <;> rfl) | (simp only [← hji17, ← hji22]; first | rfl | (simp [errW_none, errW_some] <;> rfl)) | (simp [*, errW_none, errW_some] <;> rfl), by repeat (first | (with_reducible first | exact HB.out | apply below_alloc | apply pw_below_drewN | apply below_drew1) | exact HB.out)⟩
                      · rw [if_neg c26] at H
                        have c26b0 : (t122 == 0) = false := beq_eq_false_iff_ne.mpr c26
                        have c26b1 : (t122 != 0) = true := bne_iff_ne.mpr c26
                        obtain rfl := Option.some.inj H
                        go_wp2_with (first | ((with_reducible refine gate_callee (f := 17) rfl ?_); refine goesL_ (some 56) rfl rfl Try.func17 (by kernel_rfl) rfl #[.string (t118.extract 0 ((ji17) : Int).toNat)] rfl (by (try simp only [List.map_toArray, List.map_cons, List.map_nil]); first | done | (simp only [hji17]; rfl) | rfl | (simp only [List.length_drop, List.length_take]; rfl)) ?_; (with_reducible refine (varint_Take.calls kj8 (t118.extract 0 ((ji17) : Int).toNat) t122 t123 t124 _ A20.out).mono ?_); rintro e w' ⟨rfl, ⟨nd, rfl⟩⟩; refine ⟨_, rfl, ?_⟩) | ((with_reducible refine gate_callee (f := 20) rfl ?_); refine goesL_ (some 68) rfl rfl Try.func20 (by kernel_rfl) rfl #[.string (t120.extract 0 ((ji22) : Int).toNat)] rfl (by (try simp only [List.map_toArray, List.map_cons, List.map_nil]); first | done | (simp only [hji22]; rfl) | rfl | (simp only [List.length_drop, List.length_take]; rfl)) ?_; (with_reducible refine (varint_TakeText.calls kj8 (t120.extract 0 ((ji22) : Int).toNat) t125 t126 t127 _ A25.out).mono ?_); rintro e w' ⟨rfl, ⟨nd, rfl⟩⟩; refine ⟨_, rfl, ?_⟩))
                        go_ret
                        exact ⟨by first | rfl | (simp [errW_none, errW_some] <;> rfl) | (simp only [← hji17, ← hji22]; first | rfl | (simp [errW_none, errW_some] <;> rfl)) | (simp [*, errW_none, errW_some] <;> rfl), by repeat (first | (with_reducible first | exact HB.out | apply below_alloc | apply pw_below_drewN | apply below_drew1) | exact HB.out)⟩
                    · rw [if_neg c24] at H
                      exact absurd H (by simp)
                  · rw [if_neg c23] at H
                    exact absurd H (by simp)
              · rw [if_neg c19] at H
                exact absurd H (by simp)
            · rw [if_neg c18] at H
              exact absurd H (by simp)

/-- THE ONE PURE STATEMENT of sorrellaw01_VarintCuts: yours. -/
def sorrellaw01_VarintCuts.Pure : Prop := ∀ (a0 : Int) (a1 : ByteArray) (a2 : Int), (Lit.int .i64 a0).wf = true → a1.size ≤ 140737488351232 → (Lit.int .i64 a2).wf = true → ∃ k, sorrellaw01_VarintCuts.f k a0 a1 a2 = some true
theorem sorrellaw01_VarintCuts.walk (P : sorrellaw01_VarintCuts.Pure) (a0 : Int) (a1 : ByteArray) (a2 : Int) (w : World) (w0 : (Lit.int .i64 a0).wf = true) (w1 : a1.size ≤ 140737488351232) (w2 : (Lit.int .i64 a2).wf = true) :
    Calls Try.prog 8 #[.int .i64 a0, .string a1, .int .i64 a2] w fun e w' => e = .returned (.bool true) ∧ Below w.heap.size w w' := by
  obtain ⟨k, h⟩ := P a0 a1 a2 w0 w1 w2
  refine (sorrellaw01_VarintCuts.calls k a0 a1 a2 true w h).mono ?_
  rintro e w' ⟨rfl, hd⟩
  exact ⟨rfl, hd⟩

end Go.Proofs.Ytgcmgbjinommpaa.PVarintCuts
