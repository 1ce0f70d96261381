import Derived.Test.YtcfkmcbmambchaakFXAx0
import Derived.Test.YtcfkmcbmambchaakFXAx1
import Derived.Test.YtcfkmcbmambchaakFXAx2
import Derived.Test.YtcfkmcbmambchaakFXAx6
import Derived.Test.YtcfkmcbmambchaakFXAx7
import Derived.Test.YtcfkmcbmambchaakFXAx14
namespace Go.Proofs.YtcfkmcbmambchaaW.PrintWords
end Go.Proofs.YtcfkmcbmambchaaW.PrintWords
namespace Go.Proofs.YtcfkmcbmambchaaW.PrintLast
end Go.Proofs.YtcfkmcbmambchaaW.PrintLast
namespace Go.Proofs.YtcfkmcbmambchaaW.PrintMore
end Go.Proofs.YtcfkmcbmambchaaW.PrintMore
namespace Go.Proofs.Ytcfkmcbmambchaa.XW
end Go.Proofs.Ytcfkmcbmambchaa.XW
namespace Go.Proofs.Ytcfkmcbmambchaa.XA
open Go.RowKit Go.Proofs.YtcfkmcbmambchaaW.PrintWords Go.Proofs.YtcfkmcbmambchaaW.PrintLast Go.Proofs.YtcfkmcbmambchaaW.PrintMore Go.Proofs.Ytcfkmcbmambchaa.XW
attribute [local go_sem high] max2_str unary_xor_u32 leq_str geq_str gtr_str
attribute [local go_sem] max2_int min2_int max_two min_two max_three min_three max_four min_four   -- for this text's walks alone
set_option linter.unusedVariables false
set_option linter.unusedSimpArgs false
attribute [local go_sem high] eqA36
mutual
def sorrellaw09_BlockFinds.j0 : Nat → List (S36) → ByteArray → Int → Bool → Option (Bool)
  | 0, _, _, _, _ => none
  | k + 1, x0, x1, x2, x25 => if x25 = true then ((sorrellaw09_awake.f k).bind fun t314 => (some t314)) else ((sorrellaw09_made.f k x0).bind fun t315 => ((block_Find.f k t315 x1 x2).bind fun bt318 => ((sorrelref09_Find.f k t315 x1 x2).bind fun bt324 => ((block_Find.f k x0 x1 x2).bind fun bt330 => ((sorrelref09_Find.f k x0 x1 x2).bind fun bt336 => (if (!(bt318.1.toList == bt324.1.toList) || (!(bt318.2.1.toList == bt324.2.1.toList) || (!(bt318.2.2.1 == bt324.2.2.1) || (!(bt318.2.2.2.1 == bt324.2.2.2.1))))) = true then (sorrellaw09_BlockFinds.j1 k x1 x2 t315 bt318.2.2.2.2 true bt318.1 bt318.2.1 bt318.2.2.1 bt318.2.2.2.1) else (if (bt318.2.2.2.2 != bt324.2.2.2.2) = true then (sorrellaw09_BlockFinds.j1 k x1 x2 t315 bt318.2.2.2.2 true bt318.1 bt318.2.1 bt318.2.2.1 bt318.2.2.2.1) else (if (!(bt330.1.toList == bt336.1.toList) || (!(bt330.2.1.toList == bt336.2.1.toList) || (!(bt330.2.2.1 == bt336.2.2.1) || (!(bt330.2.2.2.1 == bt336.2.2.2.1))))) = true then (sorrellaw09_BlockFinds.j1 k x1 x2 t315 bt318.2.2.2.2 true bt318.1 bt318.2.1 bt318.2.2.1 bt318.2.2.2.1) else (sorrellaw09_BlockFinds.j1 k x1 x2 t315 bt318.2.2.2.2 (bt330.2.2.2.2 != bt336.2.2.2.2) bt318.1 bt318.2.1 bt318.2.2.1 bt318.2.2.2.1)))))))))
def sorrellaw09_BlockFinds.j1 : Nat → ByteArray → Int → List (S36) → Bool → Bool → ByteArray → ByteArray → Bool → Int → Option (Bool)
  | 0, _, _, _, _, _, _, _, _, _ => none
  | k + 1, x1, x2, x7, x9, x74, x324000, x324001, x324002, x324003 => if x74 = true then (none) else (sorrellaw09_BlockFinds.l0 k x1 x2 x7 x9 0 0 x324000 x324001 x324002 x324003)
def sorrellaw09_BlockFinds.l0 : Nat → ByteArray → Int → List (S36) → Bool → Int → Int → ByteArray → ByteArray → Bool → Int → Option (Bool)
  | 0, _, _, _, _, _, _, _, _, _, _ => none
  | k + 1, x1, x2, x7, x9, x16, x17, x324000, x324001, x324002, x324003 => if x17 < (x7.length : Int) then (if 0 ≤ x17 then (if ((rd_T36 x7 x17).f0).toList = x1.toList then (if ((rd_T36 x7 x17).f3) ≤ x2 then (if ((rd_T36 x7 x17).f3) ≥ x16 then (sorrellaw09_BlockFinds.l0 k x1 x2 x7 x9 ((rd_T36 x7 x17).f3) (wrap64 (x17 + 1)) x324000 x324001 x324002 x324003) else (sorrellaw09_BlockFinds.l0 k x1 x2 x7 x9 x16 (wrap64 (x17 + 1)) x324000 x324001 x324002 x324003)) else (sorrellaw09_BlockFinds.l0 k x1 x2 x7 x9 x16 (wrap64 (x17 + 1)) x324000 x324001 x324002 x324003)) else (sorrellaw09_BlockFinds.l0 k x1 x2 x7 x9 x16 (wrap64 (x17 + 1)) x324000 x324001 x324002 x324003)) else (none)) else (if (x9 == (decide (x16 > 0))) = true then (if x324003 = x16 then ((sorrellaw09_awake.f k).bind fun t346 => (some t346)) else (none)) else (none))
end
def sorrellaw09_BlockFinds.f (k : Nat) (l0 : List (S36)) (a1 : ByteArray) (a2 : Int) : Option (Bool) := (sorrellaw09_light.f k l0).bind fun t313 => (if t313 = true then (sorrellaw09_BlockFinds.j0 k l0 a1 a2 (decide ((a1.size : Int) > 100))) else (sorrellaw09_BlockFinds.j0 k l0 a1 a2 true))
set_option maxHeartbeats 8000000 in
set_option maxRecDepth 100000 in
theorem sorrellaw09_BlockFinds.calls (k : Nat) (A0 : Option Addr) (c0 : Nat) (l0 : List (S36)) (a1 : ByteArray) (a2 : Int) (r : Bool) (w : World) (hr0 : Kd.C k36 w A0 l0.length l0) (hc0 : l0.length ≤ c0) (h : sorrellaw09_BlockFinds.f k l0 a1 a2 = some r) :
    Calls Try.prog 6 #[.slice A0 l0.length c0, .string a1, .int .i64 a2] w fun e w' => e = .returned (.bool r) ∧ Below w.heap.size w w' := by
  have hu36 := Try.underlying36
  have HR0 := Aside0.mk hr0
  have HC0 := Aside0.mk hc0
  clear hr0 hc0
  have HB := Aside0.mk (Below.refl w.heap.size w)
  have H : ((sorrellaw09_light.f k l0).bind fun t313 => (if t313 = true then (sorrellaw09_BlockFinds.j0 k l0 a1 a2 (decide ((a1.size : Int) > 100))) else (sorrellaw09_BlockFinds.j0 k l0 a1 a2 true))) = some r := h
  clear h
  have HC4 := Aside0.mk H
  clear H
  go_enter Try.func6, Try.ntmps6
  go_upto_region 1 with (fail)
  go_cut [25] (fun v25 wc => ∃ (kq : Nat) (x25_3 : Bool), v25 = .bool x25_3 ∧ Aside0 (sorrellaw09_BlockFinds.j0 kq l0 a1 a2 x25_3 = some r) ∧ Aside0 (kq ≤ k) ∧ Aside0 (Below w.heap.size w wc))
  case first =>
    have H := HC4.out
    clear HC4
    replace H := Option.bind_eq_some_iff.mp H
    obtain ⟨t313, A50, H⟩ := H
    replace H : (if t313 = true then (sorrellaw09_BlockFinds.j0 k l0 a1 a2 (decide ((a1.size : Int) > 100))) else (sorrellaw09_BlockFinds.j0 k l0 a1 a2 true)) = some r := H
    have A5 := Aside0.mk A50
    clear A50
    by_cases c6 : t313 = true
    · subst c6
      have H1 : (sorrellaw09_BlockFinds.j0 k l0 a1 a2 (decide ((a1.size : Int) > 100))) = some r := by rw [if_pos rfl] at H; exact H
      clear H
      have H := H1
      clear H1
      have H' := Aside0.mk H
      clear H
      go_wp2_with (first | ((with_reducible refine gate_callee (f := 9) rfl ?_); refine goesL_ (some 19) rfl rfl Try.func9 (by kernel_rfl) rfl #[.slice A0 l0.length c0] rfl (by (try simp only [List.map_toArray, List.map_cons, List.map_nil]); first | done | rfl | (simp only [List.length_drop, List.length_take]; rfl)) ?_; (with_reducible refine (sorrellaw09_light.calls k _ _ l0 true _ ?side1 ?side2 A5.out).mono ?_); (case side1 => repeat (first | exact (Kd.C_below HR0.out HB.out) | (with_reducible refine Kd.C_alloc ?_ _) | (with_reducible refine Kd.C_drewN ?_ _) | (with_reducible refine Kd.C_drew ?_))); (case side2 => exact HC0.out); rintro e w' ⟨rfl, ⟨nd, rfl⟩⟩; refine ⟨_, rfl, ?_⟩))
      go_meet
      case rel => exact ⟨_, (decide ((a1.size : Int) > 100)), (by first | rfl | (simp; done) | (simp [*]; done) | exact isE1 _ | exact isE2 _ | exact isE3 _ | exact isE4 _ | exact congrArg Value.bool (isE1 _) | exact congrArg Value.bool (isE2 _) | exact congrArg Value.bool (isE3 _) | exact congrArg Value.bool (isE4 _)), H', ⟨by first | omega | exact Nat.le_refl _⟩, ⟨by repeat (first | (with_reducible first | exact HB.out | apply below_alloc | apply pw_below_drewN | apply below_drew1) | exact HB.out)⟩⟩
    · replace c6 := Bool.eq_false_iff.mpr c6
      subst c6
      have H1 : (sorrellaw09_BlockFinds.j0 k l0 a1 a2 true) = some r := by rw [if_neg (show ¬ (false = true) by decide)] at H; exact H
      clear H
      have H := H1
      clear H1
      have H' := Aside0.mk H
      clear H
      go_wp2_with (first | ((with_reducible refine gate_callee (f := 9) rfl ?_); refine goesL_ (some 19) rfl rfl Try.func9 (by kernel_rfl) rfl #[.slice A0 l0.length c0] rfl (by (try simp only [List.map_toArray, List.map_cons, List.map_nil]); first | done | rfl | (simp only [List.length_drop, List.length_take]; rfl)) ?_; (with_reducible refine (sorrellaw09_light.calls k _ _ l0 false _ ?side1 ?side2 A5.out).mono ?_); (case side1 => repeat (first | exact (Kd.C_below HR0.out HB.out) | (with_reducible refine Kd.C_alloc ?_ _) | (with_reducible refine Kd.C_drewN ?_ _) | (with_reducible refine Kd.C_drew ?_))); (case side2 => exact HC0.out); rintro e w' ⟨rfl, ⟨nd, rfl⟩⟩; refine ⟨_, rfl, ?_⟩))
      go_meet
      case rel => exact ⟨_, (true), (by first | rfl | (simp; done) | (simp [*]; done) | exact isE1 _ | exact isE2 _ | exact isE3 _ | exact isE4 _ | exact congrArg Value.bool (isE1 _) | exact congrArg Value.bool (isE2 _) | exact congrArg Value.bool (isE3 _) | exact congrArg Value.bool (isE4 _)), H', ⟨by first | omega | exact Nat.le_refl _⟩, ⟨by repeat (first | (with_reducible first | exact HB.out | apply below_alloc | apply pw_below_drewN | apply below_drew1) | exact HB.out)⟩⟩
  case rest =>
    clear HC4
    try clear p2
    try clear c6
    obtain ⟨kq, x25_3, rfl, HA, HJ3, HB⟩ := hcut
    cases kq with
    | zero => exact absurd HA.out (by simp [sorrellaw09_BlockFinds.j0])
    | succ kj3 =>
      have H := HA.out
      clear HA
      simp only [sorrellaw09_BlockFinds.j0] at H
      by_cases c7 : x25_3 = true
      · subst c7
        have H1 : ((sorrellaw09_awake.f kj3).bind fun t314 => (some t314)) = some r := by rw [if_pos rfl] at H; exact H
        clear H
        have H := H1
        clear H1
        replace H := Option.bind_eq_some_iff.mp H
        obtain ⟨t314, A80, H⟩ := H
        replace H : (some t314) = some r := H
        have A8 := Aside0.mk A80
        clear A80
        obtain rfl := Option.some.inj H
        go_wp2_with (first | ((with_reducible refine gate_callee (f := 10) rfl ?_); refine goesL_ (some 26) rfl rfl Try.func10 (by kernel_rfl) rfl #[] rfl (by (try simp only [List.map_toArray, List.map_cons, List.map_nil]); first | done | rfl | (simp only [List.length_drop, List.length_take]; rfl)) ?_; (with_reducible refine (sorrellaw09_awake.calls kj3  t314 _ A8.out).mono ?_); rintro e w9 ⟨rfl, hb⟩; refine ⟨_, rfl, ?_⟩; have n0_ := Aside0.mk (below_step (by repeat (first | (with_reducible first | exact HB.out | apply below_alloc | apply pw_below_drewN | apply below_drew1) | exact HB.out)) hb); clear HB; have HB := n0_; clear n0_; (try clear hb); (try clear hb2); (try clear hk); (try clear hi)))
        go_ret
        exact ⟨by first | rfl | (simp [errW_none, errW_some] <;> rfl) | (simp [*, errW_none, errW_some] <;> rfl), by repeat (first | (with_reducible first | exact HB.out | apply below_alloc | apply pw_below_drewN | apply below_drew1) | exact HB.out)⟩
      · replace c7 := Bool.eq_false_iff.mpr c7
        subst c7
        have H1 : ((sorrellaw09_made.f kj3 l0).bind fun t315 => ((block_Find.f kj3 t315 a1 a2).bind fun bt318 => ((sorrelref09_Find.f kj3 t315 a1 a2).bind fun bt324 => ((block_Find.f kj3 l0 a1 a2).bind fun bt330 => ((sorrelref09_Find.f kj3 l0 a1 a2).bind fun bt336 => (if (!(bt318.1.toList == bt324.1.toList) || (!(bt318.2.1.toList == bt324.2.1.toList) || (!(bt318.2.2.1 == bt324.2.2.1) || (!(bt318.2.2.2.1 == bt324.2.2.2.1))))) = true then (sorrellaw09_BlockFinds.j1 kj3 a1 a2 t315 bt318.2.2.2.2 true bt318.1 bt318.2.1 bt318.2.2.1 bt318.2.2.2.1) else (if (bt318.2.2.2.2 != bt324.2.2.2.2) = true then (sorrellaw09_BlockFinds.j1 kj3 a1 a2 t315 bt318.2.2.2.2 true bt318.1 bt318.2.1 bt318.2.2.1 bt318.2.2.2.1) else (if (!(bt330.1.toList == bt336.1.toList) || (!(bt330.2.1.toList == bt336.2.1.toList) || (!(bt330.2.2.1 == bt336.2.2.1) || (!(bt330.2.2.2.1 == bt336.2.2.2.1))))) = true then (sorrellaw09_BlockFinds.j1 kj3 a1 a2 t315 bt318.2.2.2.2 true bt318.1 bt318.2.1 bt318.2.2.1 bt318.2.2.2.1) else (sorrellaw09_BlockFinds.j1 kj3 a1 a2 t315 bt318.2.2.2.2 (bt330.2.2.2.2 != bt336.2.2.2.2) bt318.1 bt318.2.1 bt318.2.2.1 bt318.2.2.2.1))))))))) = some r := by rw [if_neg (show ¬ (false = true) by decide)] at H; exact H
        clear H
        have H := H1
        clear H1
        replace H := Option.bind_eq_some_iff.mp H
        obtain ⟨t315, A100, H⟩ := H
        replace H : ((block_Find.f kj3 t315 a1 a2).bind fun bt318 => ((sorrelref09_Find.f kj3 t315 a1 a2).bind fun bt324 => ((block_Find.f kj3 l0 a1 a2).bind fun bt330 => ((sorrelref09_Find.f kj3 l0 a1 a2).bind fun bt336 => (if (!(bt318.1.toList == bt324.1.toList) || (!(bt318.2.1.toList == bt324.2.1.toList) || (!(bt318.2.2.1 == bt324.2.2.1) || (!(bt318.2.2.2.1 == bt324.2.2.2.1))))) = true then (sorrellaw09_BlockFinds.j1 kj3 a1 a2 t315 bt318.2.2.2.2 true bt318.1 bt318.2.1 bt318.2.2.1 bt318.2.2.2.1) else (if (bt318.2.2.2.2 != bt324.2.2.2.2) = true then (sorrellaw09_BlockFinds.j1 kj3 a1 a2 t315 bt318.2.2.2.2 true bt318.1 bt318.2.1 bt318.2.2.1 bt318.2.2.2.1) else (if (!(bt330.1.toList == bt336.1.toList) || (!(bt330.2.1.toList == bt336.2.1.toList) || (!(bt330.2.2.1 == bt336.2.2.1) || (!(bt330.2.2.2.1 == bt336.2.2.2.1))))) = true then (sorrellaw09_BlockFinds.j1 kj3 a1 a2 t315 bt318.2.2.2.2 true bt318.1 bt318.2.1 bt318.2.2.1 bt318.2.2.2.1) else (sorrellaw09_BlockFinds.j1 kj3 a1 a2 t315 bt318.2.2.2.2 (bt330.2.2.2.2 != bt336.2.2.2.2) bt318.1 bt318.2.1 bt318.2.2.1 bt318.2.2.2.1)))))))) = some r := H
        have A10 := Aside0.mk A100
        clear A100
        replace H := Option.bind_eq_some_iff.mp H
        obtain ⟨⟨t318, t319, t320, t321, t322⟩, A110, H⟩ := H
        replace H : ((sorrelref09_Find.f kj3 t315 a1 a2).bind fun bt324 => ((block_Find.f kj3 l0 a1 a2).bind fun bt330 => ((sorrelref09_Find.f kj3 l0 a1 a2).bind fun bt336 => (if (!(t318.toList == bt324.1.toList) || (!(t319.toList == bt324.2.1.toList) || (!(t320 == bt324.2.2.1) || (!(t321 == bt324.2.2.2.1))))) = true then (sorrellaw09_BlockFinds.j1 kj3 a1 a2 t315 t322 true t318 t319 t320 t321) else (if (t322 != bt324.2.2.2.2) = true then (sorrellaw09_BlockFinds.j1 kj3 a1 a2 t315 t322 true t318 t319 t320 t321) else (if (!(bt330.1.toList == bt336.1.toList) || (!(bt330.2.1.toList == bt336.2.1.toList) || (!(bt330.2.2.1 == bt336.2.2.1) || (!(bt330.2.2.2.1 == bt336.2.2.2.1))))) = true then (sorrellaw09_BlockFinds.j1 kj3 a1 a2 t315 t322 true t318 t319 t320 t321) else (sorrellaw09_BlockFinds.j1 kj3 a1 a2 t315 t322 (bt330.2.2.2.2 != bt336.2.2.2.2) t318 t319 t320 t321))))))) = some r := H
        have A11 := Aside0.mk A110
        clear A110
        replace H := Option.bind_eq_some_iff.mp H
        obtain ⟨⟨t324, t325, t326, t327, t328⟩, A120, H⟩ := H
        replace H : ((block_Find.f kj3 l0 a1 a2).bind fun bt330 => ((sorrelref09_Find.f kj3 l0 a1 a2).bind fun bt336 => (if (!(t318.toList == t324.toList) || (!(t319.toList == t325.toList) || (!(t320 == t326) || (!(t321 == t327))))) = true then (sorrellaw09_BlockFinds.j1 kj3 a1 a2 t315 t322 true t318 t319 t320 t321) else (if (t322 != t328) = true then (sorrellaw09_BlockFinds.j1 kj3 a1 a2 t315 t322 true t318 t319 t320 t321) else (if (!(bt330.1.toList == bt336.1.toList) || (!(bt330.2.1.toList == bt336.2.1.toList) || (!(bt330.2.2.1 == bt336.2.2.1) || (!(bt330.2.2.2.1 == bt336.2.2.2.1))))) = true then (sorrellaw09_BlockFinds.j1 kj3 a1 a2 t315 t322 true t318 t319 t320 t321) else (sorrellaw09_BlockFinds.j1 kj3 a1 a2 t315 t322 (bt330.2.2.2.2 != bt336.2.2.2.2) t318 t319 t320 t321)))))) = some r := H
        have A12 := Aside0.mk A120
        clear A120
        replace H := Option.bind_eq_some_iff.mp H
        obtain ⟨⟨t330, t331, t332, t333, t334⟩, A130, H⟩ := H
        replace H : ((sorrelref09_Find.f kj3 l0 a1 a2).bind fun bt336 => (if (!(t318.toList == t324.toList) || (!(t319.toList == t325.toList) || (!(t320 == t326) || (!(t321 == t327))))) = true then (sorrellaw09_BlockFinds.j1 kj3 a1 a2 t315 t322 true t318 t319 t320 t321) else (if (t322 != t328) = true then (sorrellaw09_BlockFinds.j1 kj3 a1 a2 t315 t322 true t318 t319 t320 t321) else (if (!(t330.toList == bt336.1.toList) || (!(t331.toList == bt336.2.1.toList) || (!(t332 == bt336.2.2.1) || (!(t333 == bt336.2.2.2.1))))) = true then (sorrellaw09_BlockFinds.j1 kj3 a1 a2 t315 t322 true t318 t319 t320 t321) else (sorrellaw09_BlockFinds.j1 kj3 a1 a2 t315 t322 (t334 != bt336.2.2.2.2) t318 t319 t320 t321))))) = some r := H
        have A13 := Aside0.mk A130
        clear A130
        replace H := Option.bind_eq_some_iff.mp H
        obtain ⟨⟨t336, t337, t338, t339, t340⟩, A140, H⟩ := H
        replace H : (if (!(t318.toList == t324.toList) || (!(t319.toList == t325.toList) || (!(t320 == t326) || (!(t321 == t327))))) = true then (sorrellaw09_BlockFinds.j1 kj3 a1 a2 t315 t322 true t318 t319 t320 t321) else (if (t322 != t328) = true then (sorrellaw09_BlockFinds.j1 kj3 a1 a2 t315 t322 true t318 t319 t320 t321) else (if (!(t330.toList == t336.toList) || (!(t331.toList == t337.toList) || (!(t332 == t338) || (!(t333 == t339))))) = true then (sorrellaw09_BlockFinds.j1 kj3 a1 a2 t315 t322 true t318 t319 t320 t321) else (sorrellaw09_BlockFinds.j1 kj3 a1 a2 t315 t322 (t334 != t340) t318 t319 t320 t321)))) = some r := H
        have A14 := Aside0.mk A140
        clear A140
        have HC15 := Aside0.mk H
        clear H
        go_upto_region 8 with (first | ((with_reducible refine gate_callee (f := 18) rfl ?_); refine goesL_ (some 28) rfl rfl Try.func18 (by kernel_rfl) rfl #[.slice A0 l0.length c0] rfl (by (try simp only [List.map_toArray, List.map_cons, List.map_nil]); first | done | rfl | (simp only [List.length_drop, List.length_take]; rfl)) ?_; (with_reducible refine (sorrellaw09_made.calls kj3 _ _ l0 t315 _ ?side1 ?side2 A10.out).mono ?_); (case side1 => repeat (first | exact (Kd.C_below HR0.out HB.out) | (with_reducible refine Kd.C_alloc ?_ _) | (with_reducible refine Kd.C_drewN ?_ _) | (with_reducible refine Kd.C_drew ?_))); (case side2 => exact HC0.out); rintro e w16 ⟨v316, rfl, ho0, hb⟩; refine ⟨_, rfl, ?_⟩; have n0_ := Aside0.mk (Kd.R_lower ho0 (below_size (by repeat (first | (with_reducible first | exact HB.out | apply below_alloc | apply pw_below_drewN | apply below_drew1) | exact HB.out)))); have n1_ := Aside0.mk (below_step (by repeat (first | (with_reducible first | exact HB.out | apply below_alloc | apply pw_below_drewN | apply below_drew1) | exact HB.out)) hb); clear HB; have HO317 := n0_; have HB := n1_; clear n0_ n1_; (try clear hb); (try clear hb2); (try clear hk); (try clear hi); (try clear ho0); obtain ⟨Ao17, co17, eo17⟩ := Kd.R_slice HO317.out; subst eo17) | ((with_reducible refine gate_callee (f := 19) rfl ?_); refine goesL_ (some 33) rfl rfl Try.func19 (by kernel_rfl) rfl #[.slice Ao17 t315.length co17, .string a1, .int .i64 a2] rfl (by (try simp only [List.map_toArray, List.map_cons, List.map_nil]); first | done | rfl | (simp only [List.length_drop, List.length_take]; rfl)) ?_; (with_reducible refine (block_Find.calls kj3 _ _ t315 a1 a2 t318 t319 t320 t321 t322 _ ?side1 ?side2 A11.out).mono ?_); (case side1 => repeat (first | exact (Kd.R_reads' HO317.out).2.2 | (with_reducible refine Kd.C_alloc ?_ _) | (with_reducible refine Kd.C_drewN ?_ _) | (with_reducible refine Kd.C_drew ?_))); (case side2 => exact (Kd.R_reads' HO317.out).2.1); rintro e w18 ⟨rfl, hb⟩; refine ⟨_, rfl, ?_⟩; have n0_ := Aside0.mk (Kd.R_below (by (with_reducible repeat (first | apply Kd.R_alloc | apply Kd.R_drewN | apply Kd.R_drew)); exact HO317.out) hb); have n1_ := Aside0.mk (below_step (by repeat (first | (with_reducible first | exact HB.out | apply below_alloc | apply pw_below_drewN | apply below_drew1) | exact HB.out)) hb); clear HO317; clear HB; have HO317 := n0_; have HB := n1_; clear n0_ n1_; (try clear hb); (try clear hb2); (try clear hk); (try clear hi)) | ((with_reducible refine gate_dst (N := 8) rfl ?_); (try (refine gate_guard (by rfl) ?_; dsimp only)); refine box_event ?hg (N := 8) ?hd (cs := #[.string (⟨#[]⟩ : ByteArray), .string (⟨#[]⟩ : ByteArray), .bool false, .int .i64 0]) (t := 36) ?hr ?_; (case hd => rfl); (case hg => rfl); (case hr => first | (go_simp; done) | (go_simp; rfl)); intro gb323 hg w19 hbox hb; have n0_ := Aside0.mk (Kd.R_below (Kd.R_elderB (by (with_reducible repeat (first | apply Kd.R_alloc | apply Kd.R_drewN | apply Kd.R_drew)); exact HO317.out) gb323 (Nat.le_of_eq hg.symm)) hb); have n1_ := Aside0.mk (below_step (by repeat (first | (with_reducible first | exact HB.out | apply below_alloc | apply pw_below_drewN | apply below_drew1) | exact HB.out)) hb); have n2_ := Aside0.mk (hbox); have n3_ := Aside0.mk ((by rw [hg]; exact (below_size (by repeat (first | (with_reducible first | exact HB.out | apply below_alloc | apply pw_below_drewN | apply below_drew1) | exact HB.out))) : w.heap.size ≤ gb323)); have n4_ := Aside0.mk ((by rw [hg]; exact (below_size (by repeat (first | (with_reducible first | exact HB.out | apply below_alloc | apply pw_below_drewN | apply below_drew1) | exact HB.out))) : w.heap.size ≤ gb323)); clear HO317; clear HB; have HO317 := n0_; have HB := n1_; have BK323 := n2_; have GW323 := n3_; have GE323 := n4_; clear n0_ n1_ n2_ n3_ n4_; clear hb hbox hg; have hcz20_0 : w19.cell? ⟨gb323, 0, none⟩ = some (.string (⟨#[]⟩ : ByteArray)) := (blk_cell BK323.out 0).trans rfl; have hcz20_1 : w19.cell? ⟨gb323, 1, none⟩ = some (.string (⟨#[]⟩ : ByteArray)) := (blk_cell BK323.out 1).trans rfl; have hcz20_2 : w19.cell? ⟨gb323, 2, none⟩ = some (.bool false) := (blk_cell BK323.out 2).trans rfl; have hcz20_3 : w19.cell? ⟨gb323, 3, none⟩ = some (.int .i64 0) := (blk_cell BK323.out 3).trans rfl; have hfz20_0 := blk_frozen BK323.out 0; have hfz20_1 := blk_frozen BK323.out 1; have hfz20_2 := blk_frozen BK323.out 2; have hfz20_3 := blk_frozen BK323.out 3) | ((with_reducible refine gate_callee (f := 20) rfl ?_); refine goesL_ (some 40) rfl rfl Try.func20 (by kernel_rfl) rfl #[.slice Ao17 t315.length co17, .string a1, .int .i64 a2] rfl (by (try simp only [List.map_toArray, List.map_cons, List.map_nil]); first | done | rfl | (simp only [List.length_drop, List.length_take]; rfl)) ?_; (with_reducible refine (sorrelref09_Find.calls kj3 _ _ t315 a1 a2 t324 t325 t326 t327 t328 _ ?side1 ?side2 A12.out).mono ?_); (case side1 => refine (Kd.R_reads' (e := 36) (base := w.heap.size) (ok := fun k_ => (True ∧ k_ ≠ gb323)) (n := t315.length) (c := co17) ?_).2.2; exact (by (with_reducible repeat (first | apply Kd.R_alloc | apply Kd.R_drewN | apply Kd.R_drew)); exact (Kd.R_mono (Kd.R_far (p := ⟨gb323, 3, none⟩) (Kd.R_far (p := ⟨gb323, 2, none⟩) (Kd.R_far (p := ⟨gb323, 1, none⟩) (Kd.R_far (p := ⟨gb323, 0, none⟩) (Kd.R_mono HO317.out (fun k_ hk => (⟨hk, hk.2⟩ : _ ∧ k_ ≠ gb323))) (fun _ hk => hk.2) (.string t318)) (fun _ hk => hk.2) (.string t319)) (fun _ hk => hk.2) (.bool t320)) (fun _ hk => hk.2) (.int .i64 t321)) (fun _ h_ => h_.1)))); (case side2 => exact (Kd.R_reads' HO317.out).2.1); rintro e w21 ⟨rfl, hb⟩; refine ⟨_, rfl, ?_⟩; have n0_ := Aside0.mk (Kd.R_below (by (with_reducible repeat (first | apply Kd.R_alloc | apply Kd.R_drewN | apply Kd.R_drew)); exact (Kd.R_mono (Kd.R_far (p := ⟨gb323, 3, none⟩) (Kd.R_far (p := ⟨gb323, 2, none⟩) (Kd.R_far (p := ⟨gb323, 1, none⟩) (Kd.R_far (p := ⟨gb323, 0, none⟩) (Kd.R_mono HO317.out (fun k_ hk => (⟨hk, hk.2⟩ : _ ∧ k_ ≠ gb323))) (fun _ hk => hk.2) (.string t318)) (fun _ hk => hk.2) (.string t319)) (fun _ hk => hk.2) (.bool t320)) (fun _ hk => hk.2) (.int .i64 t321)) (fun _ h_ => h_.1))) hb); have n1_ := Aside0.mk (blk_below (g := gb323) (o := .cells #[.string t318, .string t319, .bool t320, .int .i64 t321] 36 (0, 0)) (by (with_reducible repeat (first | refine blk_drewN ?_ _ | refine blk_drew ?_ | refine blk_alloc ?_ _)); refine blk_put (cs := #[.string t318, .string t319, .bool t320, .int .i64 0]) ?_ 3 _ rfl; (with_reducible repeat (first | refine blk_drewN ?_ _ | refine blk_drew ?_ | refine blk_alloc ?_ _)); refine blk_put (cs := #[.string t318, .string t319, .bool false, .int .i64 0]) ?_ 2 _ rfl; (with_reducible repeat (first | refine blk_drewN ?_ _ | refine blk_drew ?_ | refine blk_alloc ?_ _)); refine blk_put (cs := #[.string t318, .string (⟨#[]⟩ : ByteArray), .bool false, .int .i64 0]) ?_ 1 _ rfl; (with_reducible repeat (first | refine blk_drewN ?_ _ | refine blk_drew ?_ | refine blk_alloc ?_ _)); refine blk_put (cs := #[.string (⟨#[]⟩ : ByteArray), .string (⟨#[]⟩ : ByteArray), .bool false, .int .i64 0]) ?_ 0 _ rfl; (with_reducible repeat (first | refine blk_drewN ?_ _ | refine blk_drew ?_ | refine blk_alloc ?_ _)); exact BK323.out) hb); have n2_ := Aside0.mk (below_step (by repeat (first | (with_reducible first | exact HB.out | apply below_alloc | apply pw_below_drewN | apply below_drew1 | refine below_set ?_ GE323.out) | exact HB.out)) hb); clear HO317; clear BK323; clear HB; have HO317 := n0_; have BK323 := n1_; have HB := n2_; clear n0_ n1_ n2_; (try clear hb); (try clear hb2); (try clear hk); (try clear hi)) | ((with_reducible refine gate_dst (N := 10) rfl ?_); (try (refine gate_guard (by rfl) ?_; dsimp only)); refine box_event ?hg (N := 10) ?hd (cs := #[.string (⟨#[]⟩ : ByteArray), .string (⟨#[]⟩ : ByteArray), .bool false, .int .i64 0]) (t := 36) ?hr ?_; (case hd => rfl); (case hg => rfl); (case hr => first | (go_simp; done) | (go_simp; rfl)); intro gb329 hg w22 hbox hb; have n0_ := Aside0.mk (Kd.R_below (Kd.R_elderB (by (with_reducible repeat (first | apply Kd.R_alloc | apply Kd.R_drewN | apply Kd.R_drew)); exact HO317.out) gb329 (Nat.le_of_eq hg.symm)) hb); have n1_ := Aside0.mk (blk_below (g := gb323) (o := .cells #[.string t318, .string t319, .bool t320, .int .i64 t321] 36 (0, 0)) (by (with_reducible repeat (first | refine blk_drewN ?_ _ | refine blk_drew ?_ | refine blk_alloc ?_ _)); exact BK323.out) hb); have n2_ := Aside0.mk (below_step (by repeat (first | (with_reducible first | exact HB.out | apply below_alloc | apply pw_below_drewN | apply below_drew1 | refine below_set ?_ GE323.out) | exact HB.out)) hb); have n3_ := Aside0.mk (hbox); have n4_ := Aside0.mk ((by rw [hg]; exact (below_size (by repeat (first | (with_reducible first | exact HB.out | apply below_alloc | apply pw_below_drewN | apply below_drew1 | refine below_set ?_ GE323.out) | exact HB.out))) : w.heap.size ≤ gb329)); have n5_ := Aside0.mk ((by rw [hg]; exact (below_size (by repeat (first | (with_reducible first | exact HB.out | apply below_alloc | apply pw_below_drewN | apply below_drew1 | refine below_set ?_ GE323.out) | exact HB.out))) : w.heap.size ≤ gb329)); have n6_ := Aside0.mk ((by rw [hg]; exact Nat.ne_of_lt (blk_lt (g := gb323) (o := .cells #[.string t318, .string t319, .bool t320, .int .i64 t321] 36 (0, 0)) (by (with_reducible repeat (first | refine blk_drewN ?_ _ | refine blk_drew ?_ | refine blk_alloc ?_ _)); exact BK323.out)) : gb323 ≠ gb329)); have n7_ := Aside0.mk ((by rw [hg]; exact Nat.ne_of_gt (blk_lt (g := gb323) (o := .cells #[.string t318, .string t319, .bool t320, .int .i64 t321] 36 (0, 0)) (by (with_reducible repeat (first | refine blk_drewN ?_ _ | refine blk_drew ?_ | refine blk_alloc ?_ _)); exact BK323.out)) : gb329 ≠ gb323)); clear HO317; clear BK323; clear HB; have HO317 := n0_; have BK323 := n1_; have HB := n2_; have BK329 := n3_; have GW329 := n4_; have GE329 := n5_; have NB323_329 := n6_; have NB329_323 := n7_; clear n0_ n1_ n2_ n3_ n4_ n5_ n6_ n7_; clear hb hbox hg; have hnb23 := NB329_323.out; have hnc23 := NB323_329.out; have hcz24_0 : w22.cell? ⟨gb329, 0, none⟩ = some (.string (⟨#[]⟩ : ByteArray)) := (blk_cell BK329.out 0).trans rfl; have hcz24_1 : w22.cell? ⟨gb329, 1, none⟩ = some (.string (⟨#[]⟩ : ByteArray)) := (blk_cell BK329.out 1).trans rfl; have hcz24_2 : w22.cell? ⟨gb329, 2, none⟩ = some (.bool false) := (blk_cell BK329.out 2).trans rfl; have hcz24_3 : w22.cell? ⟨gb329, 3, none⟩ = some (.int .i64 0) := (blk_cell BK329.out 3).trans rfl; have hfz24_0 := blk_frozen BK329.out 0; have hfz24_1 := blk_frozen BK329.out 1; have hfz24_2 := blk_frozen BK329.out 2; have hfz24_3 := blk_frozen BK329.out 3) | ((with_reducible refine gate_callee (f := 19) rfl ?_); refine goesL_ (some 47) rfl rfl Try.func19 (by kernel_rfl) rfl #[.slice A0 l0.length c0, .string a1, .int .i64 a2] rfl (by (try simp only [List.map_toArray, List.map_cons, List.map_nil]); first | done | rfl | (simp only [List.length_drop, List.length_take]; rfl)) ?_; (with_reducible refine (block_Find.calls kj3 _ _ l0 a1 a2 t330 t331 t332 t333 t334 _ ?side1 ?side2 A13.out).mono ?_); (case side1 => exact Kd.C_below HR0.out (by repeat (first | (with_reducible first | exact HB.out | apply below_alloc | apply pw_below_drewN | apply below_drew1 | refine below_set ?_ GE323.out | refine below_set ?_ GE329.out) | exact HB.out))); (case side2 => exact HC0.out); rintro e w25 ⟨rfl, hb⟩; refine ⟨_, rfl, ?_⟩; have n0_ := Aside0.mk (Kd.R_below (by (with_reducible repeat (first | apply Kd.R_alloc | apply Kd.R_drewN | apply Kd.R_drew)); exact (Kd.R_mono (Kd.R_far (p := ⟨gb329, 3, none⟩) (Kd.R_far (p := ⟨gb329, 2, none⟩) (Kd.R_far (p := ⟨gb329, 1, none⟩) (Kd.R_far (p := ⟨gb329, 0, none⟩) (Kd.R_mono HO317.out (fun k_ hk => (⟨hk, hk.2⟩ : _ ∧ k_ ≠ gb329))) (fun _ hk => hk.2) (.string t324)) (fun _ hk => hk.2) (.string t325)) (fun _ hk => hk.2) (.bool t326)) (fun _ hk => hk.2) (.int .i64 t327)) (fun _ h_ => h_.1))) hb); have n1_ := Aside0.mk (blk_below (g := gb323) (o := .cells #[.string t318, .string t319, .bool t320, .int .i64 t321] 36 (0, 0)) (by (with_reducible repeat (first | refine blk_drewN ?_ _ | refine blk_drew ?_ | refine blk_alloc ?_ _)); refine blk_far ?_ NB323_329.out _; (with_reducible repeat (first | refine blk_drewN ?_ _ | refine blk_drew ?_ | refine blk_alloc ?_ _)); refine blk_far ?_ NB323_329.out _; (with_reducible repeat (first | refine blk_drewN ?_ _ | refine blk_drew ?_ | refine blk_alloc ?_ _)); refine blk_far ?_ NB323_329.out _; (with_reducible repeat (first | refine blk_drewN ?_ _ | refine blk_drew ?_ | refine blk_alloc ?_ _)); refine blk_far ?_ NB323_329.out _; (with_reducible repeat (first | refine blk_drewN ?_ _ | refine blk_drew ?_ | refine blk_alloc ?_ _)); exact BK323.out) hb); have n2_ := Aside0.mk (blk_below (g := gb329) (o := .cells #[.string t324, .string t325, .bool t326, .int .i64 t327] 36 (0, 0)) (by (with_reducible repeat (first | refine blk_drewN ?_ _ | refine blk_drew ?_ | refine blk_alloc ?_ _)); refine blk_put (cs := #[.string t324, .string t325, .bool t326, .int .i64 0]) ?_ 3 _ rfl; (with_reducible repeat (first | refine blk_drewN ?_ _ | refine blk_drew ?_ | refine blk_alloc ?_ _)); refine blk_put (cs := #[.string t324, .string t325, .bool false, .int .i64 0]) ?_ 2 _ rfl; (with_reducible repeat (first | refine blk_drewN ?_ _ | refine blk_drew ?_ | refine blk_alloc ?_ _)); refine blk_put (cs := #[.string t324, .string (⟨#[]⟩ : ByteArray), .bool false, .int .i64 0]) ?_ 1 _ rfl; (with_reducible repeat (first | refine blk_drewN ?_ _ | refine blk_drew ?_ | refine blk_alloc ?_ _)); refine blk_put (cs := #[.string (⟨#[]⟩ : ByteArray), .string (⟨#[]⟩ : ByteArray), .bool false, .int .i64 0]) ?_ 0 _ rfl; (with_reducible repeat (first | refine blk_drewN ?_ _ | refine blk_drew ?_ | refine blk_alloc ?_ _)); exact BK329.out) hb); have n3_ := Aside0.mk (below_step (by repeat (first | (with_reducible first | exact HB.out | apply below_alloc | apply pw_below_drewN | apply below_drew1 | refine below_set ?_ GE323.out | refine below_set ?_ GE329.out) | exact HB.out)) hb); clear HO317; clear BK323; clear BK329; clear HB; have HO317 := n0_; have BK323 := n1_; have BK329 := n2_; have HB := n3_; clear n0_ n1_ n2_ n3_; (try clear hb); (try clear hb2); (try clear hk); (try clear hi)) | ((with_reducible refine gate_dst (N := 12) rfl ?_); (try (refine gate_guard (by rfl) ?_; dsimp only)); refine box_event ?hg (N := 12) ?hd (cs := #[.string (⟨#[]⟩ : ByteArray), .string (⟨#[]⟩ : ByteArray), .bool false, .int .i64 0]) (t := 36) ?hr ?_; (case hd => rfl); (case hg => rfl); (case hr => first | (go_simp; done) | (go_simp; rfl)); intro gb335 hg w26 hbox hb; have n0_ := Aside0.mk (Kd.R_below (Kd.R_elderB (by (with_reducible repeat (first | apply Kd.R_alloc | apply Kd.R_drewN | apply Kd.R_drew)); exact HO317.out) gb335 (Nat.le_of_eq hg.symm)) hb); have n1_ := Aside0.mk (blk_below (g := gb323) (o := .cells #[.string t318, .string t319, .bool t320, .int .i64 t321] 36 (0, 0)) (by (with_reducible repeat (first | refine blk_drewN ?_ _ | refine blk_drew ?_ | refine blk_alloc ?_ _)); exact BK323.out) hb); have n2_ := Aside0.mk (blk_below (g := gb329) (o := .cells #[.string t324, .string t325, .bool t326, .int .i64 t327] 36 (0, 0)) (by (with_reducible repeat (first | refine blk_drewN ?_ _ | refine blk_drew ?_ | refine blk_alloc ?_ _)); exact BK329.out) hb); have n3_ := Aside0.mk (below_step (by repeat (first | (with_reducible first | exact HB.out | apply below_alloc | apply pw_below_drewN | apply below_drew1 | refine below_set ?_ GE323.out | refine below_set ?_ GE329.out) | exact HB.out)) hb); have n4_ := Aside0.mk (hbox); have n5_ := Aside0.mk ((by rw [hg]; exact (below_size (by repeat (first | (with_reducible first | exact HB.out | apply below_alloc | apply pw_below_drewN | apply below_drew1 | refine below_set ?_ GE323.out | refine below_set ?_ GE329.out) | exact HB.out))) : w.heap.size ≤ gb335)); have n6_ := Aside0.mk ((by rw [hg]; exact (below_size (by repeat (first | (with_reducible first | exact HB.out | apply below_alloc | apply pw_below_drewN | apply below_drew1 | refine below_set ?_ GE323.out | refine below_set ?_ GE329.out) | exact HB.out))) : w.heap.size ≤ gb335)); have n7_ := Aside0.mk ((by rw [hg]; exact Nat.ne_of_lt (blk_lt (g := gb323) (o := .cells #[.string t318, .string t319, .bool t320, .int .i64 t321] 36 (0, 0)) (by (with_reducible repeat (first | refine blk_drewN ?_ _ | refine blk_drew ?_ | refine blk_alloc ?_ _)); exact BK323.out)) : gb323 ≠ gb335)); have n8_ := Aside0.mk ((by rw [hg]; exact Nat.ne_of_gt (blk_lt (g := gb323) (o := .cells #[.string t318, .string t319, .bool t320, .int .i64 t321] 36 (0, 0)) (by (with_reducible repeat (first | refine blk_drewN ?_ _ | refine blk_drew ?_ | refine blk_alloc ?_ _)); exact BK323.out)) : gb335 ≠ gb323)); have n9_ := Aside0.mk ((by rw [hg]; exact Nat.ne_of_lt (blk_lt (g := gb329) (o := .cells #[.string t324, .string t325, .bool t326, .int .i64 t327] 36 (0, 0)) (by (with_reducible repeat (first | refine blk_drewN ?_ _ | refine blk_drew ?_ | refine blk_alloc ?_ _)); exact BK329.out)) : gb329 ≠ gb335)); have n10_ := Aside0.mk ((by rw [hg]; exact Nat.ne_of_gt (blk_lt (g := gb329) (o := .cells #[.string t324, .string t325, .bool t326, .int .i64 t327] 36 (0, 0)) (by (with_reducible repeat (first | refine blk_drewN ?_ _ | refine blk_drew ?_ | refine blk_alloc ?_ _)); exact BK329.out)) : gb335 ≠ gb329)); clear HO317; clear BK323; clear BK329; clear HB; have HO317 := n0_; have BK323 := n1_; have BK329 := n2_; have HB := n3_; have BK335 := n4_; have GW335 := n5_; have GE335 := n6_; have NB323_335 := n7_; have NB335_323 := n8_; have NB329_335 := n9_; have NB335_329 := n10_; clear n0_ n1_ n2_ n3_ n4_ n5_ n6_ n7_ n8_ n9_ n10_; clear hb hbox hg; have hnb27 := NB335_323.out; have hnc27 := NB323_335.out; have hnb28 := NB335_329.out; have hnc28 := NB329_335.out; have hcz29_0 : w26.cell? ⟨gb335, 0, none⟩ = some (.string (⟨#[]⟩ : ByteArray)) := (blk_cell BK335.out 0).trans rfl; have hcz29_1 : w26.cell? ⟨gb335, 1, none⟩ = some (.string (⟨#[]⟩ : ByteArray)) := (blk_cell BK335.out 1).trans rfl; have hcz29_2 : w26.cell? ⟨gb335, 2, none⟩ = some (.bool false) := (blk_cell BK335.out 2).trans rfl; have hcz29_3 : w26.cell? ⟨gb335, 3, none⟩ = some (.int .i64 0) := (blk_cell BK335.out 3).trans rfl; have hfz29_0 := blk_frozen BK335.out 0; have hfz29_1 := blk_frozen BK335.out 1; have hfz29_2 := blk_frozen BK335.out 2; have hfz29_3 := blk_frozen BK335.out 3) | ((with_reducible refine gate_callee (f := 20) rfl ?_); refine goesL_ (some 54) rfl rfl Try.func20 (by kernel_rfl) rfl #[.slice A0 l0.length c0, .string a1, .int .i64 a2] rfl (by (try simp only [List.map_toArray, List.map_cons, List.map_nil]); first | done | rfl | (simp only [List.length_drop, List.length_take]; rfl)) ?_; (with_reducible refine (sorrelref09_Find.calls kj3 _ _ l0 a1 a2 t336 t337 t338 t339 t340 _ ?side1 ?side2 A14.out).mono ?_); (case side1 => exact Kd.C_below HR0.out (by repeat (first | (with_reducible first | exact HB.out | apply below_alloc | apply pw_below_drewN | apply below_drew1 | refine below_set ?_ GE323.out | refine below_set ?_ GE329.out | refine below_set ?_ GE335.out) | exact HB.out))); (case side2 => exact HC0.out); rintro e w30 ⟨rfl, hb⟩; refine ⟨_, rfl, ?_⟩; have n0_ := Aside0.mk (Kd.R_below (by (with_reducible repeat (first | apply Kd.R_alloc | apply Kd.R_drewN | apply Kd.R_drew)); exact (Kd.R_mono (Kd.R_far (p := ⟨gb335, 3, none⟩) (Kd.R_far (p := ⟨gb335, 2, none⟩) (Kd.R_far (p := ⟨gb335, 1, none⟩) (Kd.R_far (p := ⟨gb335, 0, none⟩) (Kd.R_mono HO317.out (fun k_ hk => (⟨hk, hk.2⟩ : _ ∧ k_ ≠ gb335))) (fun _ hk => hk.2) (.string t330)) (fun _ hk => hk.2) (.string t331)) (fun _ hk => hk.2) (.bool t332)) (fun _ hk => hk.2) (.int .i64 t333)) (fun _ h_ => h_.1))) hb); have n1_ := Aside0.mk (blk_below (g := gb323) (o := .cells #[.string t318, .string t319, .bool t320, .int .i64 t321] 36 (0, 0)) (by (with_reducible repeat (first | refine blk_drewN ?_ _ | refine blk_drew ?_ | refine blk_alloc ?_ _)); refine blk_far ?_ NB323_335.out _; (with_reducible repeat (first | refine blk_drewN ?_ _ | refine blk_drew ?_ | refine blk_alloc ?_ _)); refine blk_far ?_ NB323_335.out _; (with_reducible repeat (first | refine blk_drewN ?_ _ | refine blk_drew ?_ | refine blk_alloc ?_ _)); refine blk_far ?_ NB323_335.out _; (with_reducible repeat (first | refine blk_drewN ?_ _ | refine blk_drew ?_ | refine blk_alloc ?_ _)); refine blk_far ?_ NB323_335.out _; (with_reducible repeat (first | refine blk_drewN ?_ _ | refine blk_drew ?_ | refine blk_alloc ?_ _)); exact BK323.out) hb); have n2_ := Aside0.mk (blk_below (g := gb329) (o := .cells #[.string t324, .string t325, .bool t326, .int .i64 t327] 36 (0, 0)) (by (with_reducible repeat (first | refine blk_drewN ?_ _ | refine blk_drew ?_ | refine blk_alloc ?_ _)); refine blk_far ?_ NB329_335.out _; (with_reducible repeat (first | refine blk_drewN ?_ _ | refine blk_drew ?_ | refine blk_alloc ?_ _)); refine blk_far ?_ NB329_335.out _; (with_reducible repeat (first | refine blk_drewN ?_ _ | refine blk_drew ?_ | refine blk_alloc ?_ _)); refine blk_far ?_ NB329_335.out _; (with_reducible repeat (first | refine blk_drewN ?_ _ | refine blk_drew ?_ | refine blk_alloc ?_ _)); refine blk_far ?_ NB329_335.out _; (with_reducible repeat (first | refine blk_drewN ?_ _ | refine blk_drew ?_ | refine blk_alloc ?_ _)); exact BK329.out) hb); have n3_ := Aside0.mk (blk_below (g := gb335) (o := .cells #[.string t330, .string t331, .bool t332, .int .i64 t333] 36 (0, 0)) (by (with_reducible repeat (first | refine blk_drewN ?_ _ | refine blk_drew ?_ | refine blk_alloc ?_ _)); refine blk_put (cs := #[.string t330, .string t331, .bool t332, .int .i64 0]) ?_ 3 _ rfl; (with_reducible repeat (first | refine blk_drewN ?_ _ | refine blk_drew ?_ | refine blk_alloc ?_ _)); refine blk_put (cs := #[.string t330, .string t331, .bool false, .int .i64 0]) ?_ 2 _ rfl; (with_reducible repeat (first | refine blk_drewN ?_ _ | refine blk_drew ?_ | refine blk_alloc ?_ _)); refine blk_put (cs := #[.string t330, .string (⟨#[]⟩ : ByteArray), .bool false, .int .i64 0]) ?_ 1 _ rfl; (with_reducible repeat (first | refine blk_drewN ?_ _ | refine blk_drew ?_ | refine blk_alloc ?_ _)); refine blk_put (cs := #[.string (⟨#[]⟩ : ByteArray), .string (⟨#[]⟩ : ByteArray), .bool false, .int .i64 0]) ?_ 0 _ rfl; (with_reducible repeat (first | refine blk_drewN ?_ _ | refine blk_drew ?_ | refine blk_alloc ?_ _)); exact BK335.out) hb); have n4_ := Aside0.mk (below_step (by repeat (first | (with_reducible first | exact HB.out | apply below_alloc | apply pw_below_drewN | apply below_drew1 | refine below_set ?_ GE323.out | refine below_set ?_ GE329.out | refine below_set ?_ GE335.out) | exact HB.out)) hb); clear HO317; clear BK323; clear BK329; clear BK335; clear HB; have HO317 := n0_; have BK323 := n1_; have BK329 := n2_; have BK335 := n3_; have HB := n4_; clear n0_ n1_ n2_ n3_ n4_; (try clear hb); (try clear hb2); (try clear hk); (try clear hi)) | ((with_reducible refine gate_dst (N := 14) rfl ?_); (try (refine gate_guard (by rfl) ?_; dsimp only)); refine box_event ?hg (N := 14) ?hd (cs := #[.string (⟨#[]⟩ : ByteArray), .string (⟨#[]⟩ : ByteArray), .bool false, .int .i64 0]) (t := 36) ?hr ?_; (case hd => rfl); (case hg => rfl); (case hr => first | (go_simp; done) | (go_simp; rfl)); intro gb341 hg w31 hbox hb; have n0_ := Aside0.mk (Kd.R_below (Kd.R_elderB (by (with_reducible repeat (first | apply Kd.R_alloc | apply Kd.R_drewN | apply Kd.R_drew)); exact HO317.out) gb341 (Nat.le_of_eq hg.symm)) hb); have n1_ := Aside0.mk (blk_below (g := gb323) (o := .cells #[.string t318, .string t319, .bool t320, .int .i64 t321] 36 (0, 0)) (by (with_reducible repeat (first | refine blk_drewN ?_ _ | refine blk_drew ?_ | refine blk_alloc ?_ _)); exact BK323.out) hb); have n2_ := Aside0.mk (blk_below (g := gb329) (o := .cells #[.string t324, .string t325, .bool t326, .int .i64 t327] 36 (0, 0)) (by (with_reducible repeat (first | refine blk_drewN ?_ _ | refine blk_drew ?_ | refine blk_alloc ?_ _)); exact BK329.out) hb); have n3_ := Aside0.mk (blk_below (g := gb335) (o := .cells #[.string t330, .string t331, .bool t332, .int .i64 t333] 36 (0, 0)) (by (with_reducible repeat (first | refine blk_drewN ?_ _ | refine blk_drew ?_ | refine blk_alloc ?_ _)); exact BK335.out) hb); have n4_ := Aside0.mk (below_step (by repeat (first | (with_reducible first | exact HB.out | apply below_alloc | apply pw_below_drewN | apply below_drew1 | refine below_set ?_ GE323.out | refine below_set ?_ GE329.out | refine below_set ?_ GE335.out) | exact HB.out)) hb); have n5_ := Aside0.mk (hbox); have n6_ := Aside0.mk ((by rw [hg]; exact (below_size (by repeat (first | (with_reducible first | exact HB.out | apply below_alloc | apply pw_below_drewN | apply below_drew1 | refine below_set ?_ GE323.out | refine below_set ?_ GE329.out | refine below_set ?_ GE335.out) | exact HB.out))) : w.heap.size ≤ gb341)); have n7_ := Aside0.mk ((by rw [hg]; exact (below_size (by repeat (first | (with_reducible first | exact HB.out | apply below_alloc | apply pw_below_drewN | apply below_drew1 | refine below_set ?_ GE323.out | refine below_set ?_ GE329.out | refine below_set ?_ GE335.out) | exact HB.out))) : w.heap.size ≤ gb341)); have n8_ := Aside0.mk ((by rw [hg]; exact Nat.ne_of_lt (blk_lt (g := gb323) (o := .cells #[.string t318, .string t319, .bool t320, .int .i64 t321] 36 (0, 0)) (by (with_reducible repeat (first | refine blk_drewN ?_ _ | refine blk_drew ?_ | refine blk_alloc ?_ _)); exact BK323.out)) : gb323 ≠ gb341)); have n9_ := Aside0.mk ((by rw [hg]; exact Nat.ne_of_gt (blk_lt (g := gb323) (o := .cells #[.string t318, .string t319, .bool t320, .int .i64 t321] 36 (0, 0)) (by (with_reducible repeat (first | refine blk_drewN ?_ _ | refine blk_drew ?_ | refine blk_alloc ?_ _)); exact BK323.out)) : gb341 ≠ gb323)); have n10_ := Aside0.mk ((by rw [hg]; exact Nat.ne_of_lt (blk_lt (g := gb329) (o := .cells #[.string t324, .string t325, .bool t326, .int .i64 t327] 36 (0, 0)) (by (with_reducible repeat (first | refine blk_drewN ?_ _ | refine blk_drew ?_ | refine blk_alloc ?_ _)); exact BK329.out)) : gb329 ≠ gb341)); have n11_ := Aside0.mk ((by rw [hg]; exact Nat.ne_of_gt (blk_lt (g := gb329) (o := .cells #[.string t324, .string t325, .bool t326, .int .i64 t327] 36 (0, 0)) (by (with_reducible repeat (first | refine blk_drewN ?_ _ | refine blk_drew ?_ | refine blk_alloc ?_ _)); exact BK329.out)) : gb341 ≠ gb329)); have n12_ := Aside0.mk ((by rw [hg]; exact Nat.ne_of_lt (blk_lt (g := gb335) (o := .cells #[.string t330, .string t331, .bool t332, .int .i64 t333] 36 (0, 0)) (by (with_reducible repeat (first | refine blk_drewN ?_ _ | refine blk_drew ?_ | refine blk_alloc ?_ _)); exact BK335.out)) : gb335 ≠ gb341)); have n13_ := Aside0.mk ((by rw [hg]; exact Nat.ne_of_gt (blk_lt (g := gb335) (o := .cells #[.string t330, .string t331, .bool t332, .int .i64 t333] 36 (0, 0)) (by (with_reducible repeat (first | refine blk_drewN ?_ _ | refine blk_drew ?_ | refine blk_alloc ?_ _)); exact BK335.out)) : gb341 ≠ gb335)); clear HO317; clear BK323; clear BK329; clear BK335; clear HB; have HO317 := n0_; have BK323 := n1_; have BK329 := n2_; have BK335 := n3_; have HB := n4_; have BK341 := n5_; have GW341 := n6_; have GE341 := n7_; have NB323_341 := n8_; have NB341_323 := n9_; have NB329_341 := n10_; have NB341_329 := n11_; have NB335_341 := n12_; have NB341_335 := n13_; clear n0_ n1_ n2_ n3_ n4_ n5_ n6_ n7_ n8_ n9_ n10_ n11_ n12_ n13_; clear hb hbox hg; have hnb32 := NB341_323.out; have hnc32 := NB323_341.out; have hnb33 := NB341_329.out; have hnc33 := NB329_341.out; have hnb34 := NB341_335.out; have hnc34 := NB335_341.out; have hcz35_0 : w31.cell? ⟨gb341, 0, none⟩ = some (.string (⟨#[]⟩ : ByteArray)) := (blk_cell BK341.out 0).trans rfl; have hcz35_1 : w31.cell? ⟨gb341, 1, none⟩ = some (.string (⟨#[]⟩ : ByteArray)) := (blk_cell BK341.out 1).trans rfl; have hcz35_2 : w31.cell? ⟨gb341, 2, none⟩ = some (.bool false) := (blk_cell BK341.out 2).trans rfl; have hcz35_3 : w31.cell? ⟨gb341, 3, none⟩ = some (.int .i64 0) := (blk_cell BK341.out 3).trans rfl; have hfz35_0 := blk_frozen BK341.out 0; have hfz35_1 := blk_frozen BK341.out 1; have hfz35_2 := blk_frozen BK341.out 2; have hfz35_3 := blk_frozen BK341.out 3))
        (try simp only [Act.put, List.setIfInBounds_toArray, List.set_cons_zero, List.set_cons_succ])
        go_cut [74] (fun v74 wc => ∃ (kq : Nat) (x74_14 : Bool), v74 = .bool x74_14 ∧ Aside0 (sorrellaw09_BlockFinds.j1 kq a1 a2 t315 t322 x74_14 t318 t319 t320 t321 = some r) ∧ Aside0 (kq ≤ kj3) ∧ Aside0 (Kd.R k36 36 wc w.heap.size (fun k_ => k_ ≠ gb323 ∧ k_ ≠ gb329 ∧ k_ ≠ gb335 ∧ k_ ≠ gb341) (.slice Ao17 t315.length co17) t315) ∧ Aside0 (wc.heap[gb323]? = some (.cells #[.string t318, .string t319, .bool t320, .int .i64 t321] 36 (0, 0))) ∧ Aside0 (wc.heap[gb329]? = some (.cells #[.string t324, .string t325, .bool t326, .int .i64 t327] 36 (0, 0))) ∧ Aside0 (wc.heap[gb335]? = some (.cells #[.string t330, .string t331, .bool t332, .int .i64 t333] 36 (0, 0))) ∧ Aside0 (wc.heap[gb341]? = some (.cells #[.string t336, .string t337, .bool t338, .int .i64 t339] 36 (0, 0))) ∧ Aside0 (Below w.heap.size w wc))
        case first =>
          have H := HC15.out
          clear HC15
          by_cases c36 : (!(t318.toList == t324.toList) || (!(t319.toList == t325.toList) || (!(t320 == t326) || (!(t321 == t327))))) = true
          · rw [if_pos c36] at H
            have c36b0 : (!(t318.toList == t324.toList) || (!(t319.toList == t325.toList) || (!(t320 == t326) || (!(t321 == t327))))) = true := c36
            clear c36
            (first | rw [c36b0] | (simp only [i64_w, i32_w]; rw [c36b0]) | skip)
            have H' := Aside0.mk H
            clear H
            have hnb37 := NB323_329.out
            have hnc37 := NB329_323.out
            have hnb38 := NB323_335.out
            have hnc38 := NB335_323.out
            have hnb39 := NB323_341.out
            have hnc39 := NB341_323.out
            have hcz40_0 : w31.cell? ⟨gb323, 0, none⟩ = some (.string t318) := (blk_cell BK323.out 0).trans rfl
            have hcz40_1 : w31.cell? ⟨gb323, 1, none⟩ = some (.string t319) := (blk_cell BK323.out 1).trans rfl
            have hcz40_2 : w31.cell? ⟨gb323, 2, none⟩ = some (.bool t320) := (blk_cell BK323.out 2).trans rfl
            have hcz40_3 : w31.cell? ⟨gb323, 3, none⟩ = some (.int .i64 t321) := (blk_cell BK323.out 3).trans rfl
            have hfz40_0 := blk_frozen BK323.out 0
            have hfz40_1 := blk_frozen BK323.out 1
            have hfz40_2 := blk_frozen BK323.out 2
            have hfz40_3 := blk_frozen BK323.out 3
            have hnb41 := NB329_335.out
            have hnc41 := NB335_329.out
            have hnb42 := NB329_341.out
            have hnc42 := NB341_329.out
            have hcz43_0 : w31.cell? ⟨gb329, 0, none⟩ = some (.string t324) := (blk_cell BK329.out 0).trans rfl
            have hcz43_1 : w31.cell? ⟨gb329, 1, none⟩ = some (.string t325) := (blk_cell BK329.out 1).trans rfl
            have hcz43_2 : w31.cell? ⟨gb329, 2, none⟩ = some (.bool t326) := (blk_cell BK329.out 2).trans rfl
            have hcz43_3 : w31.cell? ⟨gb329, 3, none⟩ = some (.int .i64 t327) := (blk_cell BK329.out 3).trans rfl
            have hfz43_0 := blk_frozen BK329.out 0
            have hfz43_1 := blk_frozen BK329.out 1
            have hfz43_2 := blk_frozen BK329.out 2
            have hfz43_3 := blk_frozen BK329.out 3
            go_wp2
            go_meet
            case rel => exact ⟨_, (true), (by first | rfl | (simp; done) | (simp [*]; done) | exact isE1 _ | exact isE2 _ | exact isE3 _ | exact isE4 _ | exact congrArg Value.bool (isE1 _) | exact congrArg Value.bool (isE2 _) | exact congrArg Value.bool (isE3 _) | exact congrArg Value.bool (isE4 _)), H', ⟨by have := HJ3.out; first | omega | exact Nat.le_refl _⟩, ⟨by (with_reducible repeat (first | apply Kd.R_alloc | apply Kd.R_drewN | apply Kd.R_drew)); exact Kd.R_mono (Kd.R_far (p := ⟨gb341, 3, none⟩) (Kd.R_far (p := ⟨gb341, 2, none⟩) (Kd.R_far (p := ⟨gb341, 1, none⟩) (Kd.R_far (p := ⟨gb341, 0, none⟩) (Kd.R_mono HO317.out (fun k_ hk => (⟨hk, hk.2⟩ : _ ∧ k_ ≠ gb341))) (fun _ hk => hk.2) (.string t336)) (fun _ hk => hk.2) (.string t337)) (fun _ hk => hk.2) (.bool t338)) (fun _ hk => hk.2) (.int .i64 t339)) (fun _ hk => ⟨hk.1.1.1.1.2, ⟨hk.1.1.1.2, ⟨hk.1.1.2, hk.1.2⟩⟩⟩)⟩, ⟨by (with_reducible repeat (first | refine blk_drewN ?_ _ | refine blk_drew ?_ | refine blk_alloc ?_ _)); refine blk_far ?_ NB323_341.out _; (with_reducible repeat (first | refine blk_drewN ?_ _ | refine blk_drew ?_ | refine blk_alloc ?_ _)); refine blk_far ?_ NB323_341.out _; (with_reducible repeat (first | refine blk_drewN ?_ _ | refine blk_drew ?_ | refine blk_alloc ?_ _)); refine blk_far ?_ NB323_341.out _; (with_reducible repeat (first | refine blk_drewN ?_ _ | refine blk_drew ?_ | refine blk_alloc ?_ _)); refine blk_far ?_ NB323_341.out _; (with_reducible repeat (first | refine blk_drewN ?_ _ | refine blk_drew ?_ | refine blk_alloc ?_ _)); exact BK323.out⟩, ⟨by (with_reducible repeat (first | refine blk_drewN ?_ _ | refine blk_drew ?_ | refine blk_alloc ?_ _)); refine blk_far ?_ NB329_341.out _; (with_reducible repeat (first | refine blk_drewN ?_ _ | refine blk_drew ?_ | refine blk_alloc ?_ _)); refine blk_far ?_ NB329_341.out _; (with_reducible repeat (first | refine blk_drewN ?_ _ | refine blk_drew ?_ | refine blk_alloc ?_ _)); refine blk_far ?_ NB329_341.out _; (with_reducible repeat (first | refine blk_drewN ?_ _ | refine blk_drew ?_ | refine blk_alloc ?_ _)); refine blk_far ?_ NB329_341.out _; (with_reducible repeat (first | refine blk_drewN ?_ _ | refine blk_drew ?_ | refine blk_alloc ?_ _)); exact BK329.out⟩, ⟨by (with_reducible repeat (first | refine blk_drewN ?_ _ | refine blk_drew ?_ | refine blk_alloc ?_ _)); refine blk_far ?_ NB335_341.out _; (with_reducible repeat (first | refine blk_drewN ?_ _ | refine blk_drew ?_ | refine blk_alloc ?_ _)); refine blk_far ?_ NB335_341.out _; (with_reducible repeat (first | refine blk_drewN ?_ _ | refine blk_drew ?_ | refine blk_alloc ?_ _)); refine blk_far ?_ NB335_341.out _; (with_reducible repeat (first | refine blk_drewN ?_ _ | refine blk_drew ?_ | refine blk_alloc ?_ _)); refine blk_far ?_ NB335_341.out _; (with_reducible repeat (first | refine blk_drewN ?_ _ | refine blk_drew ?_ | refine blk_alloc ?_ _)); exact BK335.out⟩, ⟨by (with_reducible repeat (first | refine blk_drewN ?_ _ | refine blk_drew ?_ | refine blk_alloc ?_ _)); refine blk_put (cs := #[.string t336, .string t337, .bool t338, .int .i64 0]) ?_ 3 _ rfl; (with_reducible repeat (first | refine blk_drewN ?_ _ | refine blk_drew ?_ | refine blk_alloc ?_ _)); refine blk_put (cs := #[.string t336, .string t337, .bool false, .int .i64 0]) ?_ 2 _ rfl; (with_reducible repeat (first | refine blk_drewN ?_ _ | refine blk_drew ?_ | refine blk_alloc ?_ _)); refine blk_put (cs := #[.string t336, .string (⟨#[]⟩ : ByteArray), .bool false, .int .i64 0]) ?_ 1 _ rfl; (with_reducible repeat (first | refine blk_drewN ?_ _ | refine blk_drew ?_ | refine blk_alloc ?_ _)); refine blk_put (cs := #[.string (⟨#[]⟩ : ByteArray), .string (⟨#[]⟩ : ByteArray), .bool false, .int .i64 0]) ?_ 0 _ rfl; (with_reducible repeat (first | refine blk_drewN ?_ _ | refine blk_drew ?_ | refine blk_alloc ?_ _)); exact BK341.out⟩, ⟨by repeat (first | (with_reducible first | exact HB.out | apply below_alloc | apply pw_below_drewN | apply below_drew1 | refine below_set ?_ GE323.out | refine below_set ?_ GE329.out | refine below_set ?_ GE335.out | refine below_set ?_ GE341.out) | exact HB.out)⟩⟩
          · rw [if_neg c36] at H
            have c36b0 : (!(t318.toList == t324.toList) || (!(t319.toList == t325.toList) || (!(t320 == t326) || (!(t321 == t327))))) = false := by simpa using c36
            clear c36
            (first | rw [c36b0] | (simp only [i64_w, i32_w]; rw [c36b0]) | skip)
            by_cases c44 : (t322 != t328) = true
            · rw [if_pos c44] at H
              have c44b0 : (t322 != t328) = true := c44
              (try (have c44b1 : decide (t322 = t328) = false := by simpa using c44))
              (try (have c44b2 : (t322 == t328) = false := by simpa using c44))
              (try (have c44b3 : ¬ (t322 = t328) := by simpa using c44))
              clear c44
              have H' := Aside0.mk H
              clear H
              have hnb45 := NB323_329.out
              have hnc45 := NB329_323.out
              have hnb46 := NB323_335.out
              have hnc46 := NB335_323.out
              have hnb47 := NB323_341.out
              have hnc47 := NB341_323.out
              have hcz48_0 : w31.cell? ⟨gb323, 0, none⟩ = some (.string t318) := (blk_cell BK323.out 0).trans rfl
              have hcz48_1 : w31.cell? ⟨gb323, 1, none⟩ = some (.string t319) := (blk_cell BK323.out 1).trans rfl
              have hcz48_2 : w31.cell? ⟨gb323, 2, none⟩ = some (.bool t320) := (blk_cell BK323.out 2).trans rfl
              have hcz48_3 : w31.cell? ⟨gb323, 3, none⟩ = some (.int .i64 t321) := (blk_cell BK323.out 3).trans rfl
              have hfz48_0 := blk_frozen BK323.out 0
              have hfz48_1 := blk_frozen BK323.out 1
              have hfz48_2 := blk_frozen BK323.out 2
              have hfz48_3 := blk_frozen BK323.out 3
              have hnb49 := NB329_335.out
              have hnc49 := NB335_329.out
              have hnb50 := NB329_341.out
              have hnc50 := NB341_329.out
              have hcz51_0 : w31.cell? ⟨gb329, 0, none⟩ = some (.string t324) := (blk_cell BK329.out 0).trans rfl
              have hcz51_1 : w31.cell? ⟨gb329, 1, none⟩ = some (.string t325) := (blk_cell BK329.out 1).trans rfl
              have hcz51_2 : w31.cell? ⟨gb329, 2, none⟩ = some (.bool t326) := (blk_cell BK329.out 2).trans rfl
              have hcz51_3 : w31.cell? ⟨gb329, 3, none⟩ = some (.int .i64 t327) := (blk_cell BK329.out 3).trans rfl
              have hfz51_0 := blk_frozen BK329.out 0
              have hfz51_1 := blk_frozen BK329.out 1
              have hfz51_2 := blk_frozen BK329.out 2
              have hfz51_3 := blk_frozen BK329.out 3
              go_wp2
              go_meet
              case rel => exact ⟨_, (true), (by first | rfl | (simp; done) | (simp [*]; done) | exact isE1 _ | exact isE2 _ | exact isE3 _ | exact isE4 _ | exact congrArg Value.bool (isE1 _) | exact congrArg Value.bool (isE2 _) | exact congrArg Value.bool (isE3 _) | exact congrArg Value.bool (isE4 _)), H', ⟨by have := HJ3.out; first | omega | exact Nat.le_refl _⟩, ⟨by (with_reducible repeat (first | apply Kd.R_alloc | apply Kd.R_drewN | apply Kd.R_drew)); exact Kd.R_mono (Kd.R_far (p := ⟨gb341, 3, none⟩) (Kd.R_far (p := ⟨gb341, 2, none⟩) (Kd.R_far (p := ⟨gb341, 1, none⟩) (Kd.R_far (p := ⟨gb341, 0, none⟩) (Kd.R_mono HO317.out (fun k_ hk => (⟨hk, hk.2⟩ : _ ∧ k_ ≠ gb341))) (fun _ hk => hk.2) (.string t336)) (fun _ hk => hk.2) (.string t337)) (fun _ hk => hk.2) (.bool t338)) (fun _ hk => hk.2) (.int .i64 t339)) (fun _ hk => ⟨hk.1.1.1.1.2, ⟨hk.1.1.1.2, ⟨hk.1.1.2, hk.1.2⟩⟩⟩)⟩, ⟨by (with_reducible repeat (first | refine blk_drewN ?_ _ | refine blk_drew ?_ | refine blk_alloc ?_ _)); refine blk_far ?_ NB323_341.out _; (with_reducible repeat (first | refine blk_drewN ?_ _ | refine blk_drew ?_ | refine blk_alloc ?_ _)); refine blk_far ?_ NB323_341.out _; (with_reducible repeat (first | refine blk_drewN ?_ _ | refine blk_drew ?_ | refine blk_alloc ?_ _)); refine blk_far ?_ NB323_341.out _; (with_reducible repeat (first | refine blk_drewN ?_ _ | refine blk_drew ?_ | refine blk_alloc ?_ _)); refine blk_far ?_ NB323_341.out _; (with_reducible repeat (first | refine blk_drewN ?_ _ | refine blk_drew ?_ | refine blk_alloc ?_ _)); exact BK323.out⟩, ⟨by (with_reducible repeat (first | refine blk_drewN ?_ _ | refine blk_drew ?_ | refine blk_alloc ?_ _)); refine blk_far ?_ NB329_341.out _; (with_reducible repeat (first | refine blk_drewN ?_ _ | refine blk_drew ?_ | refine blk_alloc ?_ _)); refine blk_far ?_ NB329_341.out _; (with_reducible repeat (first | refine blk_drewN ?_ _ | refine blk_drew ?_ | refine blk_alloc ?_ _)); refine blk_far ?_ NB329_341.out _; (with_reducible repeat (first | refine blk_drewN ?_ _ | refine blk_drew ?_ | refine blk_alloc ?_ _)); refine blk_far ?_ NB329_341.out _; (with_reducible repeat (first | refine blk_drewN ?_ _ | refine blk_drew ?_ | refine blk_alloc ?_ _)); exact BK329.out⟩, ⟨by (with_reducible repeat (first | refine blk_drewN ?_ _ | refine blk_drew ?_ | refine blk_alloc ?_ _)); refine blk_far ?_ NB335_341.out _; (with_reducible repeat (first | refine blk_drewN ?_ _ | refine blk_drew ?_ | refine blk_alloc ?_ _)); refine blk_far ?_ NB335_341.out _; (with_reducible repeat (first | refine blk_drewN ?_ _ | refine blk_drew ?_ | refine blk_alloc ?_ _)); refine blk_far ?_ NB335_341.out _; (with_reducible repeat (first | refine blk_drewN ?_ _ | refine blk_drew ?_ | refine blk_alloc ?_ _)); refine blk_far ?_ NB335_341.out _; (with_reducible repeat (first | refine blk_drewN ?_ _ | refine blk_drew ?_ | refine blk_alloc ?_ _)); exact BK335.out⟩, ⟨by (with_reducible repeat (first | refine blk_drewN ?_ _ | refine blk_drew ?_ | refine blk_alloc ?_ _)); refine blk_put (cs := #[.string t336, .string t337, .bool t338, .int .i64 0]) ?_ 3 _ rfl; (with_reducible repeat (first | refine blk_drewN ?_ _ | refine blk_drew ?_ | refine blk_alloc ?_ _)); refine blk_put (cs := #[.string t336, .string t337, .bool false, .int .i64 0]) ?_ 2 _ rfl; (with_reducible repeat (first | refine blk_drewN ?_ _ | refine blk_drew ?_ | refine blk_alloc ?_ _)); refine blk_put (cs := #[.string t336, .string (⟨#[]⟩ : ByteArray), .bool false, .int .i64 0]) ?_ 1 _ rfl; (with_reducible repeat (first | refine blk_drewN ?_ _ | refine blk_drew ?_ | refine blk_alloc ?_ _)); refine blk_put (cs := #[.string (⟨#[]⟩ : ByteArray), .string (⟨#[]⟩ : ByteArray), .bool false, .int .i64 0]) ?_ 0 _ rfl; (with_reducible repeat (first | refine blk_drewN ?_ _ | refine blk_drew ?_ | refine blk_alloc ?_ _)); exact BK341.out⟩, ⟨by repeat (first | (with_reducible first | exact HB.out | apply below_alloc | apply pw_below_drewN | apply below_drew1 | refine below_set ?_ GE323.out | refine below_set ?_ GE329.out | refine below_set ?_ GE335.out | refine below_set ?_ GE341.out) | exact HB.out)⟩⟩
            · rw [if_neg c44] at H
              have c44b0 : (t322 != t328) = false := by simpa using c44
              (try (have c44b1 : decide (t322 = t328) = true := by simpa using c44))
              (try (have c44b2 : (t322 == t328) = true := by simpa using c44))
              clear c44
              by_cases c52 : (!(t330.toList == t336.toList) || (!(t331.toList == t337.toList) || (!(t332 == t338) || (!(t333 == t339))))) = true
              · rw [if_pos c52] at H
                have c52b0 : (!(t330.toList == t336.toList) || (!(t331.toList == t337.toList) || (!(t332 == t338) || (!(t333 == t339))))) = true := c52
                clear c52
                have H' := Aside0.mk H
                clear H
                have hnb53 := NB323_329.out
                have hnc53 := NB329_323.out
                have hnb54 := NB323_335.out
                have hnc54 := NB335_323.out
                have hnb55 := NB323_341.out
                have hnc55 := NB341_323.out
                have hcz56_0 : w31.cell? ⟨gb323, 0, none⟩ = some (.string t318) := (blk_cell BK323.out 0).trans rfl
                have hcz56_1 : w31.cell? ⟨gb323, 1, none⟩ = some (.string t319) := (blk_cell BK323.out 1).trans rfl
                have hcz56_2 : w31.cell? ⟨gb323, 2, none⟩ = some (.bool t320) := (blk_cell BK323.out 2).trans rfl
                have hcz56_3 : w31.cell? ⟨gb323, 3, none⟩ = some (.int .i64 t321) := (blk_cell BK323.out 3).trans rfl
                have hfz56_0 := blk_frozen BK323.out 0
                have hfz56_1 := blk_frozen BK323.out 1
                have hfz56_2 := blk_frozen BK323.out 2
                have hfz56_3 := blk_frozen BK323.out 3
                have hnb57 := NB329_335.out
                have hnc57 := NB335_329.out
                have hnb58 := NB329_341.out
                have hnc58 := NB341_329.out
                have hcz59_0 : w31.cell? ⟨gb329, 0, none⟩ = some (.string t324) := (blk_cell BK329.out 0).trans rfl
                have hcz59_1 : w31.cell? ⟨gb329, 1, none⟩ = some (.string t325) := (blk_cell BK329.out 1).trans rfl
                have hcz59_2 : w31.cell? ⟨gb329, 2, none⟩ = some (.bool t326) := (blk_cell BK329.out 2).trans rfl
                have hcz59_3 : w31.cell? ⟨gb329, 3, none⟩ = some (.int .i64 t327) := (blk_cell BK329.out 3).trans rfl
                have hfz59_0 := blk_frozen BK329.out 0
                have hfz59_1 := blk_frozen BK329.out 1
                have hfz59_2 := blk_frozen BK329.out 2
                have hfz59_3 := blk_frozen BK329.out 3
                have hnb60 := NB335_341.out
                have hnc60 := NB341_335.out
                have hcz61_0 : w31.cell? ⟨gb335, 0, none⟩ = some (.string t330) := (blk_cell BK335.out 0).trans rfl
                have hcz61_1 : w31.cell? ⟨gb335, 1, none⟩ = some (.string t331) := (blk_cell BK335.out 1).trans rfl
                have hcz61_2 : w31.cell? ⟨gb335, 2, none⟩ = some (.bool t332) := (blk_cell BK335.out 2).trans rfl
                have hcz61_3 : w31.cell? ⟨gb335, 3, none⟩ = some (.int .i64 t333) := (blk_cell BK335.out 3).trans rfl
                have hfz61_0 := blk_frozen BK335.out 0
                have hfz61_1 := blk_frozen BK335.out 1
                have hfz61_2 := blk_frozen BK335.out 2
                have hfz61_3 := blk_frozen BK335.out 3
                have hcz62_0 : w31.cell? ⟨gb341, 0, none⟩ = some (.string (⟨#[]⟩ : ByteArray)) := (blk_cell BK341.out 0).trans rfl
                have hcz62_1 : w31.cell? ⟨gb341, 1, none⟩ = some (.string (⟨#[]⟩ : ByteArray)) := (blk_cell BK341.out 1).trans rfl
                have hcz62_2 : w31.cell? ⟨gb341, 2, none⟩ = some (.bool false) := (blk_cell BK341.out 2).trans rfl
                have hcz62_3 : w31.cell? ⟨gb341, 3, none⟩ = some (.int .i64 0) := (blk_cell BK341.out 3).trans rfl
                have hfz62_0 := blk_frozen BK341.out 0
                have hfz62_1 := blk_frozen BK341.out 1
                have hfz62_2 := blk_frozen BK341.out 2
                have hfz62_3 := blk_frozen BK341.out 3
                go_wp2
                go_meet
                case rel => exact ⟨_, (true), (by first | rfl | (simp; done) | (simp [*]; done) | exact isE1 _ | exact isE2 _ | exact isE3 _ | exact isE4 _ | exact congrArg Value.bool (isE1 _) | exact congrArg Value.bool (isE2 _) | exact congrArg Value.bool (isE3 _) | exact congrArg Value.bool (isE4 _)), H', ⟨by have := HJ3.out; first | omega | exact Nat.le_refl _⟩, ⟨by (with_reducible repeat (first | apply Kd.R_alloc | apply Kd.R_drewN | apply Kd.R_drew)); exact Kd.R_mono (Kd.R_far (p := ⟨gb341, 3, none⟩) (Kd.R_far (p := ⟨gb341, 2, none⟩) (Kd.R_far (p := ⟨gb341, 1, none⟩) (Kd.R_far (p := ⟨gb341, 0, none⟩) (Kd.R_mono HO317.out (fun k_ hk => (⟨hk, hk.2⟩ : _ ∧ k_ ≠ gb341))) (fun _ hk => hk.2) (.string t336)) (fun _ hk => hk.2) (.string t337)) (fun _ hk => hk.2) (.bool t338)) (fun _ hk => hk.2) (.int .i64 t339)) (fun _ hk => ⟨hk.1.1.1.1.2, ⟨hk.1.1.1.2, ⟨hk.1.1.2, hk.1.2⟩⟩⟩)⟩, ⟨by (with_reducible repeat (first | refine blk_drewN ?_ _ | refine blk_drew ?_ | refine blk_alloc ?_ _)); refine blk_far ?_ NB323_341.out _; (with_reducible repeat (first | refine blk_drewN ?_ _ | refine blk_drew ?_ | refine blk_alloc ?_ _)); refine blk_far ?_ NB323_341.out _; (with_reducible repeat (first | refine blk_drewN ?_ _ | refine blk_drew ?_ | refine blk_alloc ?_ _)); refine blk_far ?_ NB323_341.out _; (with_reducible repeat (first | refine blk_drewN ?_ _ | refine blk_drew ?_ | refine blk_alloc ?_ _)); refine blk_far ?_ NB323_341.out _; (with_reducible repeat (first | refine blk_drewN ?_ _ | refine blk_drew ?_ | refine blk_alloc ?_ _)); exact BK323.out⟩, ⟨by (with_reducible repeat (first | refine blk_drewN ?_ _ | refine blk_drew ?_ | refine blk_alloc ?_ _)); refine blk_far ?_ NB329_341.out _; (with_reducible repeat (first | refine blk_drewN ?_ _ | refine blk_drew ?_ | refine blk_alloc ?_ _)); refine blk_far ?_ NB329_341.out _; (with_reducible repeat (first | refine blk_drewN ?_ _ | refine blk_drew ?_ | refine blk_alloc ?_ _)); refine blk_far ?_ NB329_341.out _; (with_reducible repeat (first | refine blk_drewN ?_ _ | refine blk_drew ?_ | refine blk_alloc ?_ _)); refine blk_far ?_ NB329_341.out _; (with_reducible repeat (first | refine blk_drewN ?_ _ | refine blk_drew ?_ | refine blk_alloc ?_ _)); exact BK329.out⟩, ⟨by (with_reducible repeat (first | refine blk_drewN ?_ _ | refine blk_drew ?_ | refine blk_alloc ?_ _)); refine blk_far ?_ NB335_341.out _; (with_reducible repeat (first | refine blk_drewN ?_ _ | refine blk_drew ?_ | refine blk_alloc ?_ _)); refine blk_far ?_ NB335_341.out _; (with_reducible repeat (first | refine blk_drewN ?_ _ | refine blk_drew ?_ | refine blk_alloc ?_ _)); refine blk_far ?_ NB335_341.out _; (with_reducible repeat (first | refine blk_drewN ?_ _ | refine blk_drew ?_ | refine blk_alloc ?_ _)); refine blk_far ?_ NB335_341.out _; (with_reducible repeat (first | refine blk_drewN ?_ _ | refine blk_drew ?_ | refine blk_alloc ?_ _)); exact BK335.out⟩, ⟨by (with_reducible repeat (first | refine blk_drewN ?_ _ | refine blk_drew ?_ | refine blk_alloc ?_ _)); refine blk_put (cs := #[.string t336, .string t337, .bool t338, .int .i64 0]) ?_ 3 _ rfl; (with_reducible repeat (first | refine blk_drewN ?_ _ | refine blk_drew ?_ | refine blk_alloc ?_ _)); refine blk_put (cs := #[.string t336, .string t337, .bool false, .int .i64 0]) ?_ 2 _ rfl; (with_reducible repeat (first | refine blk_drewN ?_ _ | refine blk_drew ?_ | refine blk_alloc ?_ _)); refine blk_put (cs := #[.string t336, .string (⟨#[]⟩ : ByteArray), .bool false, .int .i64 0]) ?_ 1 _ rfl; (with_reducible repeat (first | refine blk_drewN ?_ _ | refine blk_drew ?_ | refine blk_alloc ?_ _)); refine blk_put (cs := #[.string (⟨#[]⟩ : ByteArray), .string (⟨#[]⟩ : ByteArray), .bool false, .int .i64 0]) ?_ 0 _ rfl; (with_reducible repeat (first | refine blk_drewN ?_ _ | refine blk_drew ?_ | refine blk_alloc ?_ _)); exact BK341.out⟩, ⟨by repeat (first | (with_reducible first | exact HB.out | apply below_alloc | apply pw_below_drewN | apply below_drew1 | refine below_set ?_ GE323.out | refine below_set ?_ GE329.out | refine below_set ?_ GE335.out | refine below_set ?_ GE341.out) | exact HB.out)⟩⟩
              · rw [if_neg c52] at H
                have c52b0 : (!(t330.toList == t336.toList) || (!(t331.toList == t337.toList) || (!(t332 == t338) || (!(t333 == t339))))) = false := by simpa using c52
                clear c52
                have H' := Aside0.mk H
                clear H
                have hnb63 := NB323_329.out
                have hnc63 := NB329_323.out
                have hnb64 := NB323_335.out
                have hnc64 := NB335_323.out
                have hnb65 := NB323_341.out
                have hnc65 := NB341_323.out
                have hcz66_0 : w31.cell? ⟨gb323, 0, none⟩ = some (.string t318) := (blk_cell BK323.out 0).trans rfl
                have hcz66_1 : w31.cell? ⟨gb323, 1, none⟩ = some (.string t319) := (blk_cell BK323.out 1).trans rfl
                have hcz66_2 : w31.cell? ⟨gb323, 2, none⟩ = some (.bool t320) := (blk_cell BK323.out 2).trans rfl
                have hcz66_3 : w31.cell? ⟨gb323, 3, none⟩ = some (.int .i64 t321) := (blk_cell BK323.out 3).trans rfl
                have hfz66_0 := blk_frozen BK323.out 0
                have hfz66_1 := blk_frozen BK323.out 1
                have hfz66_2 := blk_frozen BK323.out 2
                have hfz66_3 := blk_frozen BK323.out 3
                have hnb67 := NB329_335.out
                have hnc67 := NB335_329.out
                have hnb68 := NB329_341.out
                have hnc68 := NB341_329.out
                have hcz69_0 : w31.cell? ⟨gb329, 0, none⟩ = some (.string t324) := (blk_cell BK329.out 0).trans rfl
                have hcz69_1 : w31.cell? ⟨gb329, 1, none⟩ = some (.string t325) := (blk_cell BK329.out 1).trans rfl
                have hcz69_2 : w31.cell? ⟨gb329, 2, none⟩ = some (.bool t326) := (blk_cell BK329.out 2).trans rfl
                have hcz69_3 : w31.cell? ⟨gb329, 3, none⟩ = some (.int .i64 t327) := (blk_cell BK329.out 3).trans rfl
                have hfz69_0 := blk_frozen BK329.out 0
                have hfz69_1 := blk_frozen BK329.out 1
                have hfz69_2 := blk_frozen BK329.out 2
                have hfz69_3 := blk_frozen BK329.out 3
                have hnb70 := NB335_341.out
                have hnc70 := NB341_335.out
                have hcz71_0 : w31.cell? ⟨gb335, 0, none⟩ = some (.string t330) := (blk_cell BK335.out 0).trans rfl
                have hcz71_1 : w31.cell? ⟨gb335, 1, none⟩ = some (.string t331) := (blk_cell BK335.out 1).trans rfl
                have hcz71_2 : w31.cell? ⟨gb335, 2, none⟩ = some (.bool t332) := (blk_cell BK335.out 2).trans rfl
                have hcz71_3 : w31.cell? ⟨gb335, 3, none⟩ = some (.int .i64 t333) := (blk_cell BK335.out 3).trans rfl
                have hfz71_0 := blk_frozen BK335.out 0
                have hfz71_1 := blk_frozen BK335.out 1
                have hfz71_2 := blk_frozen BK335.out 2
                have hfz71_3 := blk_frozen BK335.out 3
                have hcz72_0 : w31.cell? ⟨gb341, 0, none⟩ = some (.string (⟨#[]⟩ : ByteArray)) := (blk_cell BK341.out 0).trans rfl
                have hcz72_1 : w31.cell? ⟨gb341, 1, none⟩ = some (.string (⟨#[]⟩ : ByteArray)) := (blk_cell BK341.out 1).trans rfl
                have hcz72_2 : w31.cell? ⟨gb341, 2, none⟩ = some (.bool false) := (blk_cell BK341.out 2).trans rfl
                have hcz72_3 : w31.cell? ⟨gb341, 3, none⟩ = some (.int .i64 0) := (blk_cell BK341.out 3).trans rfl
                have hfz72_0 := blk_frozen BK341.out 0
                have hfz72_1 := blk_frozen BK341.out 1
                have hfz72_2 := blk_frozen BK341.out 2
                have hfz72_3 := blk_frozen BK341.out 3
                go_wp2
                go_meet
                case rel => exact ⟨_, ((t334 != t340)), (by first | rfl | (simp; done) | (simp [*]; done) | exact isE1 _ | exact isE2 _ | exact isE3 _ | exact isE4 _ | exact congrArg Value.bool (isE1 _) | exact congrArg Value.bool (isE2 _) | exact congrArg Value.bool (isE3 _) | exact congrArg Value.bool (isE4 _)), H', ⟨by have := HJ3.out; first | omega | exact Nat.le_refl _⟩, ⟨by (with_reducible repeat (first | apply Kd.R_alloc | apply Kd.R_drewN | apply Kd.R_drew)); exact Kd.R_mono (Kd.R_far (p := ⟨gb341, 3, none⟩) (Kd.R_far (p := ⟨gb341, 2, none⟩) (Kd.R_far (p := ⟨gb341, 1, none⟩) (Kd.R_far (p := ⟨gb341, 0, none⟩) (Kd.R_mono HO317.out (fun k_ hk => (⟨hk, hk.2⟩ : _ ∧ k_ ≠ gb341))) (fun _ hk => hk.2) (.string t336)) (fun _ hk => hk.2) (.string t337)) (fun _ hk => hk.2) (.bool t338)) (fun _ hk => hk.2) (.int .i64 t339)) (fun _ hk => ⟨hk.1.1.1.1.2, ⟨hk.1.1.1.2, ⟨hk.1.1.2, hk.1.2⟩⟩⟩)⟩, ⟨by (with_reducible repeat (first | refine blk_drewN ?_ _ | refine blk_drew ?_ | refine blk_alloc ?_ _)); refine blk_far ?_ NB323_341.out _; (with_reducible repeat (first | refine blk_drewN ?_ _ | refine blk_drew ?_ | refine blk_alloc ?_ _)); refine blk_far ?_ NB323_341.out _; (with_reducible repeat (first | refine blk_drewN ?_ _ | refine blk_drew ?_ | refine blk_alloc ?_ _)); refine blk_far ?_ NB323_341.out _; (with_reducible repeat (first | refine blk_drewN ?_ _ | refine blk_drew ?_ | refine blk_alloc ?_ _)); refine blk_far ?_ NB323_341.out _; (with_reducible repeat (first | refine blk_drewN ?_ _ | refine blk_drew ?_ | refine blk_alloc ?_ _)); exact BK323.out⟩, ⟨by (with_reducible repeat (first | refine blk_drewN ?_ _ | refine blk_drew ?_ | refine blk_alloc ?_ _)); refine blk_far ?_ NB329_341.out _; (with_reducible repeat (first | refine blk_drewN ?_ _ | refine blk_drew ?_ | refine blk_alloc ?_ _)); refine blk_far ?_ NB329_341.out _; (with_reducible repeat (first | refine blk_drewN ?_ _ | refine blk_drew ?_ | refine blk_alloc ?_ _)); refine blk_far ?_ NB329_341.out _; (with_reducible repeat (first | refine blk_drewN ?_ _ | refine blk_drew ?_ | refine blk_alloc ?_ _)); refine blk_far ?_ NB329_341.out _; (with_reducible repeat (first | refine blk_drewN ?_ _ | refine blk_drew ?_ | refine blk_alloc ?_ _)); exact BK329.out⟩, ⟨by (with_reducible repeat (first | refine blk_drewN ?_ _ | refine blk_drew ?_ | refine blk_alloc ?_ _)); refine blk_far ?_ NB335_341.out _; (with_reducible repeat (first | refine blk_drewN ?_ _ | refine blk_drew ?_ | refine blk_alloc ?_ _)); refine blk_far ?_ NB335_341.out _; (with_reducible repeat (first | refine blk_drewN ?_ _ | refine blk_drew ?_ | refine blk_alloc ?_ _)); refine blk_far ?_ NB335_341.out _; (with_reducible repeat (first | refine blk_drewN ?_ _ | refine blk_drew ?_ | refine blk_alloc ?_ _)); refine blk_far ?_ NB335_341.out _; (with_reducible repeat (first | refine blk_drewN ?_ _ | refine blk_drew ?_ | refine blk_alloc ?_ _)); exact BK335.out⟩, ⟨by (with_reducible repeat (first | refine blk_drewN ?_ _ | refine blk_drew ?_ | refine blk_alloc ?_ _)); refine blk_put (cs := #[.string t336, .string t337, .bool t338, .int .i64 0]) ?_ 3 _ rfl; (with_reducible repeat (first | refine blk_drewN ?_ _ | refine blk_drew ?_ | refine blk_alloc ?_ _)); refine blk_put (cs := #[.string t336, .string t337, .bool false, .int .i64 0]) ?_ 2 _ rfl; (with_reducible repeat (first | refine blk_drewN ?_ _ | refine blk_drew ?_ | refine blk_alloc ?_ _)); refine blk_put (cs := #[.string t336, .string (⟨#[]⟩ : ByteArray), .bool false, .int .i64 0]) ?_ 1 _ rfl; (with_reducible repeat (first | refine blk_drewN ?_ _ | refine blk_drew ?_ | refine blk_alloc ?_ _)); refine blk_put (cs := #[.string (⟨#[]⟩ : ByteArray), .string (⟨#[]⟩ : ByteArray), .bool false, .int .i64 0]) ?_ 0 _ rfl; (with_reducible repeat (first | refine blk_drewN ?_ _ | refine blk_drew ?_ | refine blk_alloc ?_ _)); exact BK341.out⟩, ⟨by repeat (first | (with_reducible first | exact HB.out | apply below_alloc | apply pw_below_drewN | apply below_drew1 | refine below_set ?_ GE323.out | refine below_set ?_ GE329.out | refine below_set ?_ GE335.out | refine below_set ?_ GE341.out) | exact HB.out)⟩⟩
        case rest =>
          clear HC15
          try clear c1
          try clear c2
          try clear p2
          try clear c3
          try clear c4
          try clear c5
          try clear c6
          try clear c7
          try clear c9
          try clear c10
          try clear c18
          try clear c19
          try clear c20
          try clear c23
          try clear c27
          try clear c28
          try clear c32
          try clear c33
          try clear c34
          try clear c36
          try clear c36b0
          try clear c37
          try clear c38
          try clear c39
          try clear c41
          try clear c42
          try clear c44
          try clear c44b0
          try clear c44b1
          try clear c44b2
          try clear c45
          try clear c46
          try clear c47
          try clear c49
          try clear c50
          try clear c52
          try clear c52b0
          try clear c53
          try clear c54
          try clear c55
          try clear c57
          try clear c58
          try clear c60
          try clear c63
          try clear c64
          try clear c65
          try clear c67
          try clear c68
          try clear c70
          try clear hcz20_0
          try clear hcz20_1
          try clear hcz20_2
          try clear hcz20_3
          try clear hcz24_0
          try clear hcz24_1
          try clear hcz24_2
          try clear hcz24_3
          try clear hcz29_0
          try clear hcz29_1
          try clear hcz29_2
          try clear hcz29_3
          try clear hcz35_0
          try clear hcz35_1
          try clear hcz35_2
          try clear hcz35_3
          try clear hcz40_0
          try clear hcz40_1
          try clear hcz40_2
          try clear hcz40_3
          try clear hcz43_0
          try clear hcz43_1
          try clear hcz43_2
          try clear hcz43_3
          try clear hcz48_0
          try clear hcz48_1
          try clear hcz48_2
          try clear hcz48_3
          try clear hcz51_0
          try clear hcz51_1
          try clear hcz51_2
          try clear hcz51_3
          try clear hcz56_0
          try clear hcz56_1
          try clear hcz56_2
          try clear hcz56_3
          try clear hcz59_0
          try clear hcz59_1
          try clear hcz59_2
          try clear hcz59_3
          try clear hcz61_0
          try clear hcz61_1
          try clear hcz61_2
          try clear hcz61_3
          try clear hcz62_0
          try clear hcz62_1
          try clear hcz62_2
          try clear hcz62_3
          try clear hcz66_0
          try clear hcz66_1
          try clear hcz66_2
          try clear hcz66_3
          try clear hcz69_0
          try clear hcz69_1
          try clear hcz69_2
          try clear hcz69_3
          try clear hcz71_0
          try clear hcz71_1
          try clear hcz71_2
          try clear hcz71_3
          try clear hcz72_0
          try clear hcz72_1
          try clear hcz72_2
          try clear hcz72_3
          try clear hfz20_0
          try clear hfz20_1
          try clear hfz20_2
          try clear hfz20_3
          try clear hfz24_0
          try clear hfz24_1
          try clear hfz24_2
          try clear hfz24_3
          try clear hfz29_0
          try clear hfz29_1
          try clear hfz29_2
          try clear hfz29_3
          try clear hfz35_0
          try clear hfz35_1
          try clear hfz35_2
          try clear hfz35_3
          try clear hfz40_0
          try clear hfz40_1
          try clear hfz40_2
          try clear hfz40_3
          try clear hfz43_0
          try clear hfz43_1
          try clear hfz43_2
          try clear hfz43_3
          try clear hfz48_0
          try clear hfz48_1
          try clear hfz48_2
          try clear hfz48_3
          try clear hfz51_0
          try clear hfz51_1
          try clear hfz51_2
          try clear hfz51_3
          try clear hfz56_0
          try clear hfz56_1
          try clear hfz56_2
          try clear hfz56_3
          try clear hfz59_0
          try clear hfz59_1
          try clear hfz59_2
          try clear hfz59_3
          try clear hfz61_0
          try clear hfz61_1
          try clear hfz61_2
          try clear hfz61_3
          try clear hfz62_0
          try clear hfz62_1
          try clear hfz62_2
          try clear hfz62_3
          try clear hfz66_0
          try clear hfz66_1
          try clear hfz66_2
          try clear hfz66_3
          try clear hfz69_0
          try clear hfz69_1
          try clear hfz69_2
          try clear hfz69_3
          try clear hfz71_0
          try clear hfz71_1
          try clear hfz71_2
          try clear hfz71_3
          try clear hfz72_0
          try clear hfz72_1
          try clear hfz72_2
          try clear hfz72_3
          try clear p2
          obtain ⟨kq, x74_14, rfl, HA, HJ14, HO_7, BK323, BK329, BK335, BK341, HB⟩ := hcut
          cases kq with
          | zero => exact absurd HA.out (by simp [sorrellaw09_BlockFinds.j1])
          | succ kj14 =>
            have H := HA.out
            clear HA
            simp only [sorrellaw09_BlockFinds.j1] at H
            by_cases c73 : x74_14 = true
            · subst c73
              have H1 : (none) = some r := by rw [if_pos rfl] at H; exact H
              clear H
              have H := H1
              clear H1
              exact absurd H (by simp)
            · replace c73 := Bool.eq_false_iff.mpr c73
              subst c73
              have H1 : (sorrellaw09_BlockFinds.l0 kj14 a1 a2 t315 t322 0 0 t318 t319 t320 t321) = some r := by rw [if_neg (show ¬ (false = true) by decide)] at H; exact H
              clear H
              have H := H1
              clear H1
              have H' := Aside0.mk H
              clear H
              go_wp2
              go_loopg [16, 17] kj14 (fun kq v16 v17 w' => ∃ (x16_3 : Int) (x17_3 : Int), v16 = .int .i64 x16_3 ∧ v17 = .int .i64 x17_3 ∧ Aside0 (sorrellaw09_BlockFinds.l0 kq a1 a2 t315 t322 x16_3 x17_3 t318 t319 t320 t321 = some r) ∧ Aside0 (kq ≤ kj14) ∧ Aside0 (Kd.R k36 36 w' w.heap.size (fun k_ => k_ ≠ gb323 ∧ k_ ≠ gb329 ∧ k_ ≠ gb335 ∧ k_ ≠ gb341) (.slice Ao17 t315.length co17) t315) ∧ Aside0 (w'.heap[gb323]? = some (.cells #[.string t318, .string t319, .bool t320, .int .i64 t321] 36 (0, 0))) ∧ Aside0 (w'.heap[gb329]? = some (.cells #[.string t324, .string t325, .bool t326, .int .i64 t327] 36 (0, 0))) ∧ Aside0 (w'.heap[gb335]? = some (.cells #[.string t330, .string t331, .bool t332, .int .i64 t333] 36 (0, 0))) ∧ Aside0 (w'.heap[gb341]? = some (.cells #[.string t336, .string t337, .bool t338, .int .i64 t339] 36 (0, 0))) ∧ Aside0 (Below w.heap.size w w'))
              case atStart => exact ⟨(0), (0), (by first | rfl | (simp; done) | (simp [*]; done) | exact isE1 _ | exact isE2 _ | exact isE3 _ | exact isE4 _ | exact congrArg Value.bool (isE1 _) | exact congrArg Value.bool (isE2 _) | exact congrArg Value.bool (isE3 _) | exact congrArg Value.bool (isE4 _)), (by first | rfl | (simp; done) | (simp [*]; done) | exact isE1 _ | exact isE2 _ | exact isE3 _ | exact isE4 _ | exact congrArg Value.bool (isE1 _) | exact congrArg Value.bool (isE2 _) | exact congrArg Value.bool (isE3 _) | exact congrArg Value.bool (isE4 _)), H', ⟨Nat.le_refl _⟩, ⟨by (with_reducible repeat (first | apply Kd.R_alloc | apply Kd.R_drewN | apply Kd.R_drew)); exact HO_7.out⟩, ⟨by (with_reducible repeat (first | refine blk_drewN ?_ _ | refine blk_drew ?_ | refine blk_alloc ?_ _)); exact BK323.out⟩, ⟨by (with_reducible repeat (first | refine blk_drewN ?_ _ | refine blk_drew ?_ | refine blk_alloc ?_ _)); exact BK329.out⟩, ⟨by (with_reducible repeat (first | refine blk_drewN ?_ _ | refine blk_drew ?_ | refine blk_alloc ?_ _)); exact BK335.out⟩, ⟨by (with_reducible repeat (first | refine blk_drewN ?_ _ | refine blk_drew ?_ | refine blk_alloc ?_ _)); exact BK341.out⟩, ⟨by repeat (first | (with_reducible first | exact HB.out | apply below_alloc | apply pw_below_drewN | apply below_drew1 | refine below_set ?_ GE323.out | refine below_set ?_ GE329.out | refine below_set ?_ GE335.out | refine below_set ?_ GE341.out) | exact HB.out)⟩⟩
              case round =>
                clear H'
                try clear c1
                try clear c2
                try clear p2
                try clear c3
                try clear c4
                try clear c5
                try clear c6
                try clear c7
                try clear c9
                try clear c10
                try clear c18
                try clear c19
                try clear c20
                try clear c23
                try clear c27
                try clear c28
                try clear c32
                try clear c33
                try clear c34
                try clear c36
                try clear c36b0
                try clear c37
                try clear c38
                try clear c39
                try clear c41
                try clear c42
                try clear c44
                try clear c44b0
                try clear c44b1
                try clear c44b2
                try clear c45
                try clear c46
                try clear c47
                try clear c49
                try clear c50
                try clear c52
                try clear c52b0
                try clear c53
                try clear c54
                try clear c55
                try clear c57
                try clear c58
                try clear c60
                try clear c63
                try clear c64
                try clear c65
                try clear c67
                try clear c68
                try clear c70
                try clear c73
                try clear hcz20_0
                try clear hcz20_1
                try clear hcz20_2
                try clear hcz20_3
                try clear hcz24_0
                try clear hcz24_1
                try clear hcz24_2
                try clear hcz24_3
                try clear hcz29_0
                try clear hcz29_1
                try clear hcz29_2
                try clear hcz29_3
                try clear hcz35_0
                try clear hcz35_1
                try clear hcz35_2
                try clear hcz35_3
                try clear hcz40_0
                try clear hcz40_1
                try clear hcz40_2
                try clear hcz40_3
                try clear hcz43_0
                try clear hcz43_1
                try clear hcz43_2
                try clear hcz43_3
                try clear hcz48_0
                try clear hcz48_1
                try clear hcz48_2
                try clear hcz48_3
                try clear hcz51_0
                try clear hcz51_1
                try clear hcz51_2
                try clear hcz51_3
                try clear hcz56_0
                try clear hcz56_1
                try clear hcz56_2
                try clear hcz56_3
                try clear hcz59_0
                try clear hcz59_1
                try clear hcz59_2
                try clear hcz59_3
                try clear hcz61_0
                try clear hcz61_1
                try clear hcz61_2
                try clear hcz61_3
                try clear hcz62_0
                try clear hcz62_1
                try clear hcz62_2
                try clear hcz62_3
                try clear hcz66_0
                try clear hcz66_1
                try clear hcz66_2
                try clear hcz66_3
                try clear hcz69_0
                try clear hcz69_1
                try clear hcz69_2
                try clear hcz69_3
                try clear hcz71_0
                try clear hcz71_1
                try clear hcz71_2
                try clear hcz71_3
                try clear hcz72_0
                try clear hcz72_1
                try clear hcz72_2
                try clear hcz72_3
                try clear hfz20_0
                try clear hfz20_1
                try clear hfz20_2
                try clear hfz20_3
                try clear hfz24_0
                try clear hfz24_1
                try clear hfz24_2
                try clear hfz24_3
                try clear hfz29_0
                try clear hfz29_1
                try clear hfz29_2
                try clear hfz29_3
                try clear hfz35_0
                try clear hfz35_1
                try clear hfz35_2
                try clear hfz35_3
                try clear hfz40_0
                try clear hfz40_1
                try clear hfz40_2
                try clear hfz40_3
                try clear hfz43_0
                try clear hfz43_1
                try clear hfz43_2
                try clear hfz43_3
                try clear hfz48_0
                try clear hfz48_1
                try clear hfz48_2
                try clear hfz48_3
                try clear hfz51_0
                try clear hfz51_1
                try clear hfz51_2
                try clear hfz51_3
                try clear hfz56_0
                try clear hfz56_1
                try clear hfz56_2
                try clear hfz56_3
                try clear hfz59_0
                try clear hfz59_1
                try clear hfz59_2
                try clear hfz59_3
                try clear hfz61_0
                try clear hfz61_1
                try clear hfz61_2
                try clear hfz61_3
                try clear hfz62_0
                try clear hfz62_1
                try clear hfz62_2
                try clear hfz62_3
                try clear hfz66_0
                try clear hfz66_1
                try clear hfz66_2
                try clear hfz66_3
                try clear hfz69_0
                try clear hfz69_1
                try clear hfz69_2
                try clear hfz69_3
                try clear hfz71_0
                try clear hfz71_1
                try clear hfz71_2
                try clear hfz71_3
                try clear hfz72_0
                try clear hfz72_1
                try clear hfz72_2
                try clear hfz72_3
                try clear p2
                obtain ⟨x16_3, x17_3, rfl, rfl, HA, HK3, HO_7, BK323, BK329, BK335, BK341, HB⟩ := hrel
                cases gk with
                | zero => exact absurd HA.out (by simp [sorrellaw09_BlockFinds.l0])
                | succ k3 =>
                  have H := HA.out
                  clear HA
                  simp only [sorrellaw09_BlockFinds.l0] at H
                  by_cases c74 : x17_3 < (t315.length : Int)
                  · rw [if_pos c74] at H
                    have c74b0 : decide (x17_3 < (t315.length : Int)) = true := decide_eq_true c74
                    clear c74
                    by_cases c75 : 0 ≤ x17_3
                    · rw [if_pos c75] at H
                      have c75b0 : decide (0 ≤ x17_3) = true := decide_eq_true c75
                      clear c75
                      by_cases c76 : ((rd_T36 t315 x17_3).f0).toList = a1.toList
                      · rw [if_pos c76] at H
                        have c76b0 : (((rd_T36 t315 x17_3).f0).toList == a1.toList) = true := beq_iff_eq.mpr c76
                        have c76b1 : (((rd_T36 t315 x17_3).f0).toList != a1.toList) = false := bne_eq_false_iff_eq.mpr c76
                        clear c76
                        by_cases c77 : ((rd_T36 t315 x17_3).f3) ≤ a2
                        · rw [if_pos c77] at H
                          have c77b0 : decide (((rd_T36 t315 x17_3).f3) ≤ a2) = true := decide_eq_true c77
                          clear c77
                          by_cases c78 : ((rd_T36 t315 x17_3).f3) ≥ x16_3
                          · rw [if_pos c78] at H
                            have c78b0 : decide (x16_3 ≤ ((rd_T36 t315 x17_3).f3)) = true := decide_eq_true c78
                            clear c78
                            have H' := Aside0.mk H
                            clear H
                            have p342 : 0 ≤ (x17_3 : Int) := of_decide_eq_true (by first | (with_reducible assumption) | assumption)
                            have q342 : x17_3 < (t315.length : Int) := of_decide_eq_true (by first | (with_reducible assumption) | assumption)
                            obtain ⟨ad342, e342, hx342_0, hx342_1, hx342_2, hx342_3⟩ := at_T36 (Kd.R_reads' HO_7.out).2.2 x17_3 p342 q342
                            cases e342
                            replace p342 := eq_true p342
                            replace q342 := eq_true q342
                            have p343 : 0 ≤ (x17_3 : Int) := of_decide_eq_true (by first | (with_reducible assumption) | assumption)
                            have q343 : x17_3 < (t315.length : Int) := of_decide_eq_true (by first | (with_reducible assumption) | assumption)
                            obtain ⟨ad343, e343, hx343_0, hx343_1, hx343_2, hx343_3⟩ := at_T36 (Kd.R_reads' HO_7.out).2.2 x17_3 p343 q343
                            obtain rfl : ad342 = ad343 := (by injection e343)
                            replace p343 := eq_true p343
                            replace q343 := eq_true q343
                            have p344 : 0 ≤ (x17_3 : Int) := of_decide_eq_true (by first | (with_reducible assumption) | assumption)
                            have q344 : x17_3 < (t315.length : Int) := of_decide_eq_true (by first | (with_reducible assumption) | assumption)
                            obtain ⟨ad344, e344, hx344_0, hx344_1, hx344_2, hx344_3⟩ := at_T36 (Kd.R_reads' HO_7.out).2.2 x17_3 p344 q344
                            obtain rfl : ad342 = ad344 := (by injection e344)
                            replace p344 := eq_true p344
                            replace q344 := eq_true q344
                            have p345 : 0 ≤ (x17_3 : Int) := of_decide_eq_true (by first | (with_reducible assumption) | assumption)
                            have q345 : x17_3 < (t315.length : Int) := of_decide_eq_true (by first | (with_reducible assumption) | assumption)
                            obtain ⟨ad345, e345, hx345_0, hx345_1, hx345_2, hx345_3⟩ := at_T36 (Kd.R_reads' HO_7.out).2.2 x17_3 p345 q345
                            obtain rfl : ad342 = ad345 := (by injection e345)
                            replace p345 := eq_true p345
                            replace q345 := eq_true q345
                            go_wp2
                            go_roundg k3
                            case measure => have := HJ3.out; have := HJ14.out; have := HK3.out; omega
                            case rel => exact ⟨((rd_T36 t315 x17_3).f3), (wrap64 (x17_3 + 1)), (by first | rfl | (simp; done) | (simp [*]; done) | exact isE1 _ | exact isE2 _ | exact isE3 _ | exact isE4 _ | exact congrArg Value.bool (isE1 _) | exact congrArg Value.bool (isE2 _) | exact congrArg Value.bool (isE3 _) | exact congrArg Value.bool (isE4 _)), (by first | rfl | (simp; done) | (simp [*]; done) | exact isE1 _ | exact isE2 _ | exact isE3 _ | exact isE4 _ | exact congrArg Value.bool (isE1 _) | exact congrArg Value.bool (isE2 _) | exact congrArg Value.bool (isE3 _) | exact congrArg Value.bool (isE4 _)), H', ⟨by have := HJ3.out; have := HJ14.out; have := HK3.out; omega⟩, ⟨by (with_reducible repeat (first | apply Kd.R_alloc | apply Kd.R_drewN | apply Kd.R_drew)); exact HO_7.out⟩, ⟨by (with_reducible repeat (first | refine blk_drewN ?_ _ | refine blk_drew ?_ | refine blk_alloc ?_ _)); exact BK323.out⟩, ⟨by (with_reducible repeat (first | refine blk_drewN ?_ _ | refine blk_drew ?_ | refine blk_alloc ?_ _)); exact BK329.out⟩, ⟨by (with_reducible repeat (first | refine blk_drewN ?_ _ | refine blk_drew ?_ | refine blk_alloc ?_ _)); exact BK335.out⟩, ⟨by (with_reducible repeat (first | refine blk_drewN ?_ _ | refine blk_drew ?_ | refine blk_alloc ?_ _)); exact BK341.out⟩, ⟨by repeat (first | (with_reducible first | exact HB.out | apply below_alloc | apply pw_below_drewN | apply below_drew1 | refine below_set ?_ GE323.out | refine below_set ?_ GE329.out | refine below_set ?_ GE335.out | refine below_set ?_ GE341.out) | exact HB.out)⟩⟩
                          · rw [if_neg c78] at H
                            have c78b0 : decide (x16_3 ≤ ((rd_T36 t315 x17_3).f3)) = false := decide_eq_false c78
                            clear c78
                            have H' := Aside0.mk H
                            clear H
                            have p342 : 0 ≤ (x17_3 : Int) := of_decide_eq_true (by first | (with_reducible assumption) | assumption)
                            have q342 : x17_3 < (t315.length : Int) := of_decide_eq_true (by first | (with_reducible assumption) | assumption)
                            obtain ⟨ad342, e342, hx342_0, hx342_1, hx342_2, hx342_3⟩ := at_T36 (Kd.R_reads' HO_7.out).2.2 x17_3 p342 q342
                            cases e342
                            replace p342 := eq_true p342
                            replace q342 := eq_true q342
                            have p343 : 0 ≤ (x17_3 : Int) := of_decide_eq_true (by first | (with_reducible assumption) | assumption)
                            have q343 : x17_3 < (t315.length : Int) := of_decide_eq_true (by first | (with_reducible assumption) | assumption)
                            obtain ⟨ad343, e343, hx343_0, hx343_1, hx343_2, hx343_3⟩ := at_T36 (Kd.R_reads' HO_7.out).2.2 x17_3 p343 q343
                            obtain rfl : ad342 = ad343 := (by injection e343)
                            replace p343 := eq_true p343
                            replace q343 := eq_true q343
                            have p344 : 0 ≤ (x17_3 : Int) := of_decide_eq_true (by first | (with_reducible assumption) | assumption)
                            have q344 : x17_3 < (t315.length : Int) := of_decide_eq_true (by first | (with_reducible assumption) | assumption)
                            obtain ⟨ad344, e344, hx344_0, hx344_1, hx344_2, hx344_3⟩ := at_T36 (Kd.R_reads' HO_7.out).2.2 x17_3 p344 q344
                            obtain rfl : ad342 = ad344 := (by injection e344)
                            replace p344 := eq_true p344
                            replace q344 := eq_true q344
                            go_wp2
                            go_roundg k3
                            case measure => have := HJ3.out; have := HJ14.out; have := HK3.out; omega
                            case rel => exact ⟨(x16_3), (wrap64 (x17_3 + 1)), (by first | rfl | (simp; done) | (simp [*]; done) | exact isE1 _ | exact isE2 _ | exact isE3 _ | exact isE4 _ | exact congrArg Value.bool (isE1 _) | exact congrArg Value.bool (isE2 _) | exact congrArg Value.bool (isE3 _) | exact congrArg Value.bool (isE4 _)), (by first | rfl | (simp; done) | (simp [*]; done) | exact isE1 _ | exact isE2 _ | exact isE3 _ | exact isE4 _ | exact congrArg Value.bool (isE1 _) | exact congrArg Value.bool (isE2 _) | exact congrArg Value.bool (isE3 _) | exact congrArg Value.bool (isE4 _)), H', ⟨by have := HJ3.out; have := HJ14.out; have := HK3.out; omega⟩, ⟨by (with_reducible repeat (first | apply Kd.R_alloc | apply Kd.R_drewN | apply Kd.R_drew)); exact HO_7.out⟩, ⟨by (with_reducible repeat (first | refine blk_drewN ?_ _ | refine blk_drew ?_ | refine blk_alloc ?_ _)); exact BK323.out⟩, ⟨by (with_reducible repeat (first | refine blk_drewN ?_ _ | refine blk_drew ?_ | refine blk_alloc ?_ _)); exact BK329.out⟩, ⟨by (with_reducible repeat (first | refine blk_drewN ?_ _ | refine blk_drew ?_ | refine blk_alloc ?_ _)); exact BK335.out⟩, ⟨by (with_reducible repeat (first | refine blk_drewN ?_ _ | refine blk_drew ?_ | refine blk_alloc ?_ _)); exact BK341.out⟩, ⟨by repeat (first | (with_reducible first | exact HB.out | apply below_alloc | apply pw_below_drewN | apply below_drew1 | refine below_set ?_ GE323.out | refine below_set ?_ GE329.out | refine below_set ?_ GE335.out | refine below_set ?_ GE341.out) | exact HB.out)⟩⟩
                        · rw [if_neg c77] at H
                          have c77b0 : decide (((rd_T36 t315 x17_3).f3) ≤ a2) = false := decide_eq_false c77
                          clear c77
                          have H' := Aside0.mk H
                          clear H
                          have p342 : 0 ≤ (x17_3 : Int) := of_decide_eq_true (by first | (with_reducible assumption) | assumption)
                          have q342 : x17_3 < (t315.length : Int) := of_decide_eq_true (by first | (with_reducible assumption) | assumption)
                          obtain ⟨ad342, e342, hx342_0, hx342_1, hx342_2, hx342_3⟩ := at_T36 (Kd.R_reads' HO_7.out).2.2 x17_3 p342 q342
                          cases e342
                          replace p342 := eq_true p342
                          replace q342 := eq_true q342
                          have p343 : 0 ≤ (x17_3 : Int) := of_decide_eq_true (by first | (with_reducible assumption) | assumption)
                          have q343 : x17_3 < (t315.length : Int) := of_decide_eq_true (by first | (with_reducible assumption) | assumption)
                          obtain ⟨ad343, e343, hx343_0, hx343_1, hx343_2, hx343_3⟩ := at_T36 (Kd.R_reads' HO_7.out).2.2 x17_3 p343 q343
                          obtain rfl : ad342 = ad343 := (by injection e343)
                          replace p343 := eq_true p343
                          replace q343 := eq_true q343
                          go_wp2
                          go_roundg k3
                          case measure => have := HJ3.out; have := HJ14.out; have := HK3.out; omega
                          case rel => exact ⟨(x16_3), (wrap64 (x17_3 + 1)), (by first | rfl | (simp; done) | (simp [*]; done) | exact isE1 _ | exact isE2 _ | exact isE3 _ | exact isE4 _ | exact congrArg Value.bool (isE1 _) | exact congrArg Value.bool (isE2 _) | exact congrArg Value.bool (isE3 _) | exact congrArg Value.bool (isE4 _)), (by first | rfl | (simp; done) | (simp [*]; done) | exact isE1 _ | exact isE2 _ | exact isE3 _ | exact isE4 _ | exact congrArg Value.bool (isE1 _) | exact congrArg Value.bool (isE2 _) | exact congrArg Value.bool (isE3 _) | exact congrArg Value.bool (isE4 _)), H', ⟨by have := HJ3.out; have := HJ14.out; have := HK3.out; omega⟩, ⟨by (with_reducible repeat (first | apply Kd.R_alloc | apply Kd.R_drewN | apply Kd.R_drew)); exact HO_7.out⟩, ⟨by (with_reducible repeat (first | refine blk_drewN ?_ _ | refine blk_drew ?_ | refine blk_alloc ?_ _)); exact BK323.out⟩, ⟨by (with_reducible repeat (first | refine blk_drewN ?_ _ | refine blk_drew ?_ | refine blk_alloc ?_ _)); exact BK329.out⟩, ⟨by (with_reducible repeat (first | refine blk_drewN ?_ _ | refine blk_drew ?_ | refine blk_alloc ?_ _)); exact BK335.out⟩, ⟨by (with_reducible repeat (first | refine blk_drewN ?_ _ | refine blk_drew ?_ | refine blk_alloc ?_ _)); exact BK341.out⟩, ⟨by repeat (first | (with_reducible first | exact HB.out | apply below_alloc | apply pw_below_drewN | apply below_drew1 | refine below_set ?_ GE323.out | refine below_set ?_ GE329.out | refine below_set ?_ GE335.out | refine below_set ?_ GE341.out) | exact HB.out)⟩⟩
                      · rw [if_neg c76] at H
                        have c76b0 : (((rd_T36 t315 x17_3).f0).toList == a1.toList) = false := beq_eq_false_iff_ne.mpr c76
                        have c76b1 : (((rd_T36 t315 x17_3).f0).toList != a1.toList) = true := bne_iff_ne.mpr c76
                        have H' := Aside0.mk H
                        clear H
                        have p342 : 0 ≤ (x17_3 : Int) := of_decide_eq_true (by first | (with_reducible assumption) | assumption)
                        have q342 : x17_3 < (t315.length : Int) := of_decide_eq_true (by first | (with_reducible assumption) | assumption)
                        obtain ⟨ad342, e342, hx342_0, hx342_1, hx342_2, hx342_3⟩ := at_T36 (Kd.R_reads' HO_7.out).2.2 x17_3 p342 q342
                        cases e342
                        replace p342 := eq_true p342
                        replace q342 := eq_true q342
                        go_wp2
                        go_roundg k3
                        case measure => have := HJ3.out; have := HJ14.out; have := HK3.out; omega
                        case rel => exact ⟨(x16_3), (wrap64 (x17_3 + 1)), (by first | rfl | (simp; done) | (simp [*]; done) | exact isE1 _ | exact isE2 _ | exact isE3 _ | exact isE4 _ | exact congrArg Value.bool (isE1 _) | exact congrArg Value.bool (isE2 _) | exact congrArg Value.bool (isE3 _) | exact congrArg Value.bool (isE4 _)), (by first | rfl | (simp; done) | (simp [*]; done) | exact isE1 _ | exact isE2 _ | exact isE3 _ | exact isE4 _ | exact congrArg Value.bool (isE1 _) | exact congrArg Value.bool (isE2 _) | exact congrArg Value.bool (isE3 _) | exact congrArg Value.bool (isE4 _)), H', ⟨by have := HJ3.out; have := HJ14.out; have := HK3.out; omega⟩, ⟨by (with_reducible repeat (first | apply Kd.R_alloc | apply Kd.R_drewN | apply Kd.R_drew)); exact HO_7.out⟩, ⟨by (with_reducible repeat (first | refine blk_drewN ?_ _ | refine blk_drew ?_ | refine blk_alloc ?_ _)); exact BK323.out⟩, ⟨by (with_reducible repeat (first | refine blk_drewN ?_ _ | refine blk_drew ?_ | refine blk_alloc ?_ _)); exact BK329.out⟩, ⟨by (with_reducible repeat (first | refine blk_drewN ?_ _ | refine blk_drew ?_ | refine blk_alloc ?_ _)); exact BK335.out⟩, ⟨by (with_reducible repeat (first | refine blk_drewN ?_ _ | refine blk_drew ?_ | refine blk_alloc ?_ _)); exact BK341.out⟩, ⟨by repeat (first | (with_reducible first | exact HB.out | apply below_alloc | apply pw_below_drewN | apply below_drew1 | refine below_set ?_ GE323.out | refine below_set ?_ GE329.out | refine below_set ?_ GE335.out | refine below_set ?_ GE341.out) | exact HB.out)⟩⟩
                    · rw [if_neg c75] at H
                      exact absurd H (by simp)
                  · rw [if_neg c74] at H
                    have c74b0 : decide (x17_3 < (t315.length : Int)) = false := decide_eq_false c74
                    clear c74
                    by_cases c79 : (t322 == (decide (x16_3 > 0))) = true
                    · rw [if_pos c79] at H
                      have c79b0 : (t322 == (decide (x16_3 > 0))) = true := c79
                      (try (have c79b1 : decide (t322 = (decide (x16_3 > 0))) = true := by simpa using c79))
                      (try (have c79b2 : (t322 == (decide (x16_3 > 0))) = true := by simpa using c79))
                      clear c79
                      by_cases c80 : t321 = x16_3
                      · rw [if_pos c80] at H
                        have c80b0 : (t321 == x16_3) = true := beq_iff_eq.mpr c80
                        have c80b1 : (t321 != x16_3) = false := bne_eq_false_iff_eq.mpr c80
                        clear c80
                        replace H := Option.bind_eq_some_iff.mp H
                        obtain ⟨t346, A810, H⟩ := H
                        replace H : (some t346) = some r := H
                        have A81 := Aside0.mk A810
                        clear A810
                        obtain rfl := Option.some.inj H
                        have hnb82 := NB323_329.out
                        have hnc82 := NB329_323.out
                        have hnb83 := NB323_335.out
                        have hnc83 := NB335_323.out
                        have hnb84 := NB323_341.out
                        have hnc84 := NB341_323.out
                        have hcz85_0 : wr.cell? ⟨gb323, 0, none⟩ = some (.string t318) := (blk_cell BK323.out 0).trans rfl
                        have hcz85_1 : wr.cell? ⟨gb323, 1, none⟩ = some (.string t319) := (blk_cell BK323.out 1).trans rfl
                        have hcz85_2 : wr.cell? ⟨gb323, 2, none⟩ = some (.bool t320) := (blk_cell BK323.out 2).trans rfl
                        have hcz85_3 : wr.cell? ⟨gb323, 3, none⟩ = some (.int .i64 t321) := (blk_cell BK323.out 3).trans rfl
                        have hfz85_0 := blk_frozen BK323.out 0
                        have hfz85_1 := blk_frozen BK323.out 1
                        have hfz85_2 := blk_frozen BK323.out 2
                        have hfz85_3 := blk_frozen BK323.out 3
                        go_wp2_with (first | (go_at_call 10; (with_reducible refine (sorrellaw09_awake.calls k3  t346 _ A81.out).mono ?_); rintro e w86 ⟨rfl, hb⟩; have n0_ := Aside0.mk (Kd.R_below (by (with_reducible repeat (first | apply Kd.R_alloc | apply Kd.R_drewN | apply Kd.R_drew)); exact HO_7.out) hb); have n1_ := Aside0.mk (blk_below (g := gb323) (o := .cells #[.string t318, .string t319, .bool t320, .int .i64 t321] 36 (0, 0)) (by (with_reducible repeat (first | refine blk_drewN ?_ _ | refine blk_drew ?_ | refine blk_alloc ?_ _)); exact BK323.out) hb); have n2_ := Aside0.mk (blk_below (g := gb329) (o := .cells #[.string t324, .string t325, .bool t326, .int .i64 t327] 36 (0, 0)) (by (with_reducible repeat (first | refine blk_drewN ?_ _ | refine blk_drew ?_ | refine blk_alloc ?_ _)); exact BK329.out) hb); have n3_ := Aside0.mk (blk_below (g := gb335) (o := .cells #[.string t330, .string t331, .bool t332, .int .i64 t333] 36 (0, 0)) (by (with_reducible repeat (first | refine blk_drewN ?_ _ | refine blk_drew ?_ | refine blk_alloc ?_ _)); exact BK335.out) hb); have n4_ := Aside0.mk (blk_below (g := gb341) (o := .cells #[.string t336, .string t337, .bool t338, .int .i64 t339] 36 (0, 0)) (by (with_reducible repeat (first | refine blk_drewN ?_ _ | refine blk_drew ?_ | refine blk_alloc ?_ _)); exact BK341.out) hb); have n5_ := Aside0.mk (below_step (by repeat (first | (with_reducible first | exact HB.out | apply below_alloc | apply pw_below_drewN | apply below_drew1 | refine below_set ?_ GE323.out | refine below_set ?_ GE329.out | refine below_set ?_ GE335.out | refine below_set ?_ GE341.out) | exact HB.out)) hb); clear HO_7; clear BK323; clear BK329; clear BK335; clear BK341; clear HB; have HO_7 := n0_; have BK323 := n1_; have BK329 := n2_; have BK335 := n3_; have BK341 := n4_; have HB := n5_; clear n0_ n1_ n2_ n3_ n4_ n5_; (try clear hb); (try clear hb2); (try clear hk); (try clear hi)))
                        go_ret
                        exact ⟨by first | rfl | (simp [errW_none, errW_some] <;> rfl) | (simp [*, errW_none, errW_some] <;> rfl), by repeat (first | (with_reducible first | exact HB.out | apply below_alloc | apply pw_below_drewN | apply below_drew1 | refine below_set ?_ GE323.out | refine below_set ?_ GE329.out | refine below_set ?_ GE335.out | refine below_set ?_ GE341.out) | exact HB.out)⟩
                      · rw [if_neg c80] at H
                        exact absurd H (by simp)
                    · rw [if_neg c79] at H
                      exact absurd H (by simp)
end Go.Proofs.Ytcfkmcbmambchaa.XA
