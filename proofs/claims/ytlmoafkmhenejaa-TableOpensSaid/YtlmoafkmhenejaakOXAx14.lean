import Derived.Test.YtlmoafkmhenejaakOXAx0
import Derived.Test.YtlmoafkmhenejaakOXAx8
import Derived.Test.YtlmoafkmhenejaakOXAx10
import Derived.Test.YtlmoafkmhenejaakOXAx11
import Derived.Test.YtlmoafkmhenejaakOXAx13
namespace Go.Proofs.YtlmoafkmhenejaaW.PrintWords
end Go.Proofs.YtlmoafkmhenejaaW.PrintWords
namespace Go.Proofs.YtlmoafkmhenejaaW.PrintLast
end Go.Proofs.YtlmoafkmhenejaaW.PrintLast
namespace Go.Proofs.YtlmoafkmhenejaaW.PrintMore
end Go.Proofs.YtlmoafkmhenejaaW.PrintMore
namespace Go.Proofs.Ytlmoafkmhenejaa.XW
end Go.Proofs.Ytlmoafkmhenejaa.XW
namespace Go.Proofs.Ytlmoafkmhenejaa.XA
open Go.RowKit Go.Proofs.YtlmoafkmhenejaaW.PrintWords Go.Proofs.YtlmoafkmhenejaaW.PrintLast Go.Proofs.YtlmoafkmhenejaaW.PrintMore Go.Proofs.Ytlmoafkmhenejaa.XW
attribute [local go_sem high] max2_str unary_xor_u32 leq_str geq_str gtr_str
attribute [local go_sem] max2_int min2_int max_two min_two max_three min_three max_four min_four   -- for this text's walks alone
set_option linter.unusedVariables false
set_option linter.unusedSimpArgs false
def sorrelref02_Check.f (k : Nat) (a0 : ByteArray) : Option (Bool) := if (a0.size : Int) ≥ 4 then (if 0 ≤ (wrap64 ((a0.size : Int) - 4)) then (if (wrap64 ((a0.size : Int) - 4)) ≤ (a0.size : Int) then ((sorrelref02_Sum.f k (a0.extract 0 ((wrap64 ((a0.size : Int) - 4)) : Int).toNat)).bind fun t370 => ((sorrelref02_tail.f t370).bind fun t371 => (some ((a0.extract ((wrap64 ((a0.size : Int) - 4)) : Int).toNat a0.size).toList == t371.toList)))) else (none)) else (none)) else (some false)
def sorrelref02_Check.T1 : Bool × List (List Nat × List Nat) := (true, [([], []), ([0], [0]), ([1], [1]), ([2], [2]), ([3], [3]), ([3], [3]), ([5, 3], [3, 5]), ([6, 3], [3, 6]), ([4, 7, 3], [3, 4, 7]), ([3], [3]), ([3], [3]), ([10, 3], [3, 10]), ([11, 3], [3, 11]), ([9, 12, 3], [3, 9, 12]), ([13, 3, 3], [3, 13]), ([14, 14, 3], [3, 14]), ([8, 15, 3], [3, 8, 15]), ([3, 16], [3, 16]), ([17, 15, 0, 1, 2, 3, 4, 5, 6, 7, 8, 9, 10, 11, 12, 13, 14, 15, 16, 17], [17])])
def sorrelref02_Check.B1 : List Nat := [0, 1, 3, 7, 15, 15, 47, 111, 255, 15, 15, 1039, 3087, 7695, 15887, 32271, 65535, 131071, 262143]
theorem sorrelref02_Check.tab1 : rtab .any (opsOf Try.f94 1) = sorrelref02_Check.T1 := by kernel_rfl
theorem sorrelref02_Check.bits1 : waitsOk sorrelref02_Check.T1.2 sorrelref02_Check.B1 = true := by kernel_rfl
set_option maxHeartbeats 8000000 in
set_option maxRecDepth 100000 in
theorem sorrelref02_Check.calls (k : Nat) (a0 : ByteArray) (r : Bool) (w : World) (h : sorrelref02_Check.f k a0 = some r) :
    Calls Try.prog 94 #[.string a0] w fun e w' => e = .returned (.bool r) ∧ Below w.heap.size w w' := by
  have HB := Aside0.mk (Below.refl w.heap.size w)
  have H : (if (a0.size : Int) ≥ 4 then (if 0 ≤ (wrap64 ((a0.size : Int) - 4)) then (if (wrap64 ((a0.size : Int) - 4)) ≤ (a0.size : Int) then ((sorrelref02_Sum.f k (a0.extract 0 ((wrap64 ((a0.size : Int) - 4)) : Int).toNat)).bind fun t370 => ((sorrelref02_tail.f t370).bind fun t371 => (some ((a0.extract ((wrap64 ((a0.size : Int) - 4)) : Int).toNat a0.size).toList == t371.toList)))) else (none)) else (none)) else (some false)) = some r := h
  clear h
  by_cases c2 : (a0.size : Int) ≥ 4
  · rw [if_pos c2] at H; have c2b0 : decide (4 ≤ (a0.size : Int)) = true := decide_eq_true c2; have c2b1 : decide (4 ≤ a0.size) = true := decide_eq_true (by omega); clear c2; obtain ⟨ji3, hji3⟩ : ∃ j_ : Int, (wrap64 ((a0.size : Int) - 4)) = j_ := ⟨_, rfl⟩; replace H : (if 0 ≤ (ji3) then (if (ji3) ≤ (a0.size : Int) then ((sorrelref02_Sum.f k (a0.extract 0 ((ji3) : Int).toNat)).bind fun t370 => ((sorrelref02_tail.f t370).bind fun t371 => (some ((a0.extract ((ji3) : Int).toNat a0.size).toList == t371.toList)))) else (none)) else (none)) = some r := by first | (rw [hji3] at H; exact H) | (simp only [hji3] at H ⊢; exact H)
    have hji3w : (IntKind.i64.wrap ((a0.size : Int) - 4)) = ji3 := (i64_w _).trans hji3
    by_cases c4 : 0 ≤ (ji3)
    · rw [if_pos c4] at H; have c4b0 := eq_true c4; have c4b1 : decide (0 ≤ (ji3)) = true := decide_eq_true c4; clear c4
      by_cases c5 : (ji3) ≤ (a0.size : Int)
      · rw [if_pos c5] at H; have c5b0 := eq_true c5; have c5b1 : decide ((ji3) ≤ (a0.size : Int)) = true := decide_eq_true c5; clear c5; have c6b0 := eq_true (of_decide_eq_true (by first | (with_reducible assumption) | assumption) : 0 ≤ (ji3)); have c7b0 := eq_true (of_decide_eq_true (by first | (with_reducible assumption) | assumption) : (ji3) ≤ (a0.size : Int)); replace H := Option.bind_eq_some_iff.mp H; obtain ⟨t370, A80, H⟩ := H; replace H : ((sorrelref02_tail.f t370).bind fun t371 => (some ((a0.extract ((ji3) : Int).toNat a0.size).toList == t371.toList))) = some r := H; have A8 := Aside0.mk A80; clear A80; replace H := Option.bind_eq_some_iff.mp H; obtain ⟨t371, A90, H⟩ := H; replace H : (some ((a0.extract ((ji3) : Int).toNat a0.size).toList == t371.toList)) = some r := H; have A9 := Aside0.mk A90; clear A90; obtain rfl := Option.some.inj H; go_enter Try.func94, Try.ntmps94
        try go_wp2
        have n0_ := Aside0.mk (below_drew1 HB.out); clear HB; have HB := n0_; clear n0_; refine start_ (n := 19) (S := fun w' => True) (ds := []) #[false,false,false,false,false,false,false,false,false,false,false,false,false,false,false,false,false,false,false] (by kernel_rfl) rfl rfl trivial (fun hHeld => ?_); refine with_tabW sorrelref02_Check.tab1 sorrelref02_Check.bits1 (fun HT_ HW_ => ?_)
        generalize w.drew = w10 at HB hHeld ⊢
        refine pure_ (i := 0) (N := some 3) (v := ?_) (a' := ?_) #[true,false,false,false,false,false,false,false,false,false,false,false,false,false,false,false,false,false,false] rfl rfl (any_of HT_.out (by kernel_rfl)) (fun _ _ _ h => h) (Or.inl ⟨by rfl, ?_⟩) ?_ ?_; rotate_left; (focus intro w'; go_simp; with_reducible rfl); rotate_left; (focus simp only [Act.put, List.setIfInBounds_toArray, List.set_cons_zero, List.set_cons_succ, i64_w, i32_w]; rfl); refine pure_ (i := 1) (N := some 4) (v := ?_) (a' := ?_) #[true,true,false,false,false,false,false,false,false,false,false,false,false,false,false,false,false,false,false] rfl rfl (any_of HT_.out (by kernel_rfl)) (fun _ _ _ h => h) (Or.inl ⟨by rfl, ?_⟩) ?_ ?_; rotate_left; (focus intro w'; go_simp; with_reducible rfl); rotate_left; (focus simp only [Act.put, List.setIfInBounds_toArray, List.set_cons_zero, List.set_cons_succ, i64_w, i32_w]; rfl); refine pure_ (i := 2) (N := some 5) (v := ?_) (a' := ?_) #[true,true,true,false,false,false,false,false,false,false,false,false,false,false,false,false,false,false,false] rfl rfl (any_of HT_.out (by kernel_rfl)) (fun _ _ _ h => h) (Or.inl ⟨by rfl, ?_⟩) ?_ ?_; rotate_left; (focus intro w'; go_simp; with_reducible rfl); rotate_left; (focus simp only [Act.put, List.setIfInBounds_toArray, List.set_cons_zero, List.set_cons_succ, i64_w, i32_w]; rfl); refine pure_ (i := 3) (N := some 6) (v := ?_) (a' := ?_) #[true,true,true,true,false,false,false,false,false,false,false,false,false,false,false,false,false,false,false] rfl rfl (any_of HT_.out (by kernel_rfl)) (fun _ _ _ h => h) (Or.inl ⟨by rfl, ?_⟩) ?_ ?_; rotate_left; (focus intro w'; go_simp; with_reducible rfl); rotate_left; (focus simp only [Act.put, List.setIfInBounds_toArray, List.set_cons_zero, List.set_cons_succ, i64_w, i32_w]; rfl); refine pure_ (i := 4) (N := some 7) (v := ?_) (a' := ?_) #[true,true,true,true,true,false,false,false,false,false,false,false,false,false,false,false,false,false,false] rfl rfl (any_of HT_.out (by kernel_rfl)) (fun _ _ _ h => h) (Or.inl ⟨by rfl, ?_⟩) ?_ ?_; rotate_left; (focus intro w'; go_simp; with_reducible rfl); rotate_left; (focus simp only [Act.put, List.setIfInBounds_toArray, List.set_cons_zero, List.set_cons_succ, i64_w, i32_w]; rfl); refine pure_ (i := 5) (N := some 8) (v := ?_) (a' := ?_) #[true,true,true,true,true,true,false,false,false,false,false,false,false,false,false,false,false,false,false] rfl rfl (any_of HT_.out (by kernel_rfl)) (fun _ _ _ h => h) (Or.inl ⟨by rfl, ?_⟩) ?_ ?_; rotate_left; (focus intro w'; go_simp; with_reducible rfl); rotate_left; (focus simp only [Act.put, List.setIfInBounds_toArray, List.set_cons_zero, List.set_cons_succ, i64_w, i32_w]; rfl); refine pure_ (i := 6) (N := some 9) (v := ?_) (a' := ?_) #[true,true,true,true,true,true,true,false,false,false,false,false,false,false,false,false,false,false,false] rfl rfl (any_of HT_.out (by kernel_rfl)) (fun _ _ _ h => h) (Or.inl ⟨by rfl, ?_⟩) ?_ ?_; rotate_left; (focus intro w'; go_simp; with_reducible rfl); rotate_left; (focus simp only [Act.put, List.setIfInBounds_toArray, List.set_cons_zero, List.set_cons_succ, i64_w, i32_w]; rfl); refine pure_ (i := 7) (N := some 10) (v := ?_) (a' := ?_) #[true,true,true,true,true,true,true,true,false,false,false,false,false,false,false,false,false,false,false] rfl rfl (any_of HT_.out (by kernel_rfl)) (fun _ _ _ h => h) (Or.inl ⟨by rfl, ?_⟩) ?_ ?_; rotate_left; (focus intro w'; go_simp; with_reducible rfl); rotate_left; (focus simp only [Act.put, List.setIfInBounds_toArray, List.set_cons_zero, List.set_cons_succ, i64_w, i32_w]; rfl); refine pure_ (i := 8) (N := some 11) (v := ?_) (a' := ?_) #[true,true,true,true,true,true,true,true,true,false,false,false,false,false,false,false,false,false,false] rfl rfl (any_of HT_.out (by kernel_rfl)) (fun _ _ _ h => h) (Or.inl ⟨by rfl, ?_⟩) ?_ ?_; rotate_left; (focus intro w'; go_simp; with_reducible rfl); rotate_left; (focus simp only [Act.put, List.setIfInBounds_toArray, List.set_cons_zero, List.set_cons_succ, i64_w, i32_w]; rfl); refine pure_ (i := 9) (N := some 12) (v := ?_) (a' := ?_) #[true,true,true,true,true,true,true,true,true,true,false,false,false,false,false,false,false,false,false] rfl rfl (any_of HT_.out (by kernel_rfl)) (fun _ _ _ h => h) (Or.inl ⟨by rfl, ?_⟩) ?_ ?_; rotate_left; (focus intro w'; go_simp; with_reducible rfl); rotate_left; (focus simp only [Act.put, List.setIfInBounds_toArray, List.set_cons_zero, List.set_cons_succ, i64_w, i32_w]; rfl); refine pure_ (i := 10) (N := some 13) (v := ?_) (a' := ?_) #[true,true,true,true,true,true,true,true,true,true,true,false,false,false,false,false,false,false,false] rfl rfl (any_of HT_.out (by kernel_rfl)) (fun _ _ _ h => h) (Or.inl ⟨by rfl, ?_⟩) ?_ ?_; rotate_left; (focus intro w'; go_simp; with_reducible rfl); rotate_left; (focus simp only [Act.put, List.setIfInBounds_toArray, List.set_cons_zero, List.set_cons_succ, i64_w, i32_w]; rfl); refine pure_ (i := 11) (N := some 14) (v := ?_) (a' := ?_) #[true,true,true,true,true,true,true,true,true,true,true,true,false,false,false,false,false,false,false] rfl rfl (any_of HT_.out (by kernel_rfl)) (fun _ _ _ h => h) (Or.inl ⟨by rfl, ?_⟩) ?_ ?_; rotate_left; (focus intro w'; go_simp; with_reducible rfl); rotate_left; (focus simp only [Act.put, List.setIfInBounds_toArray, List.set_cons_zero, List.set_cons_succ, i64_w, i32_w]; rfl); refine pure_ (i := 12) (N := some 15) (v := ?_) (a' := ?_) #[true,true,true,true,true,true,true,true,true,true,true,true,true,false,false,false,false,false,false] rfl rfl (any_of HT_.out (by kernel_rfl)) (fun _ _ _ h => h) (Or.inl ⟨by rfl, ?_⟩) ?_ ?_; rotate_left; (focus intro w'; go_simp; with_reducible rfl); rotate_left; (focus simp only [Act.put, List.setIfInBounds_toArray, List.set_cons_zero, List.set_cons_succ, i64_w, i32_w]; rfl); refine pure_ (i := 13) (N := some 16) (v := ?_) (a' := ?_) #[true,true,true,true,true,true,true,true,true,true,true,true,true,true,false,false,false,false,false] rfl rfl (any_of HT_.out (by kernel_rfl)) (fun _ _ _ h => h) (Or.inl ⟨by rfl, ?_⟩) ?_ ?_; rotate_left; (focus intro w'; go_simp; with_reducible rfl); rotate_left; (focus simp only [Act.put, List.setIfInBounds_toArray, List.set_cons_zero, List.set_cons_succ, i64_w, i32_w]; rfl); refine one_ (i := 14) (N := some 17) #[true,true,true,true,true,true,true,true,true,true,true,true,true,true,true,false,false,false,false] rfl rfl (one_of HT_.out (by kernel_rfl)) (by decide) (fun K hK => ?_); refine goes_ Try.func86 (by kernel_rfl) rfl #[.string (a0.extract 0 ((ji3) : Int).toNat)] (by rfl) rfl rfl (by (try simp only [List.map_toArray, List.map_cons, List.map_nil]); first | done | (simp only [hji3]; rfl) | rfl | (simp only [List.length_drop, List.length_take]; rfl)) ?_
        with_reducible refine (sorrelref02_Sum.calls k (a0.extract 0 ((ji3) : Int).toNat) t370 _ A8.out).mono ?_
        rintro e w' ⟨rfl, ⟨nd, rfl⟩⟩; refine ⟨_, rfl, ?_⟩; refine hK.out _ _ trivial (fun hHeld => ?_); clear hK K; refine norm_ (a' := ?_) ?_ ?_; rotate_left
        · show Act.put _ (some 17) _ = _
          simp only [Act.put, List.setIfInBounds_toArray, List.set_cons_zero, List.set_cons_succ, i64_w, i32_w]
          rfl
        refine one_ (i := 15) (N := some 18) #[true,true,true,true,true,true,true,true,true,true,true,true,true,true,true,true,false,false,false] rfl rfl (one_of HT_.out (by kernel_rfl)) (by decide) (fun K hK => ?_); refine goes_ Try.func85 (by kernel_rfl) rfl #[.int .i64 t370] (by rfl) rfl rfl (by (try simp only [List.map_toArray, List.map_cons, List.map_nil]); first | done | rfl | (simp only [List.length_drop, List.length_take]; rfl)) ?_
        with_reducible refine (sorrelref02_tail.calls t370 t371 _ A9.out).mono ?_
        rintro e w11 ⟨rfl, hb⟩; refine ⟨_, rfl, ?_⟩; have n0_ := Aside0.mk (below_step (by repeat (first | (with_reducible first | exact HB.out | apply below_alloc | apply pw_below_drewN | apply below_drew1) | exact HB.out)) hb); clear HB; have HB := n0_; clear n0_
        (try clear hb)
        (try clear hb2)
        (try clear hk)
        (try clear hi)
        refine hK.out _ _ trivial (fun hHeld => ?_); clear hK K; refine norm_ (a' := ?_) ?_ ?_; rotate_left
        · show Act.put _ (some 18) _ = _
          simp only [Act.put, List.setIfInBounds_toArray, List.set_cons_zero, List.set_cons_succ, i64_w, i32_w]
          rfl
        refine pure_ (i := 16) (N := some 19) (v := ?_) (a' := ?_) #[true,true,true,true,true,true,true,true,true,true,true,true,true,true,true,true,true,false,false] rfl rfl (any_of HT_.out (by kernel_rfl)) (fun _ _ _ h => h) (Or.inl ⟨by rfl, ?_⟩) ?_ ?_; rotate_left; (focus intro w'; go_simp; with_reducible rfl); rotate_left; (focus simp only [Act.put, List.setIfInBounds_toArray, List.set_cons_zero, List.set_cons_succ, i64_w, i32_w]; rfl); refine pure_ (i := 17) (N := some 20) (v := ?_) (a' := ?_) #[true,true,true,true,true,true,true,true,true,true,true,true,true,true,true,true,true,true,false] rfl rfl (any_of HT_.out (by kernel_rfl)) (fun _ _ _ h => h) (Or.inl ⟨by rfl, ?_⟩) ?_ ?_; rotate_left; (focus intro w'; go_simp; with_reducible rfl); rotate_left; (focus simp only [Act.put, List.setIfInBounds_toArray, List.set_cons_zero, List.set_cons_succ, i64_w, i32_w]; rfl); refine pure_ (i := 18) (N := some 2) (v := ?_) (a' := ?_) #[true,true,true,true,true,true,true,true,true,true,true,true,true,true,true,true,true,true,true] rfl rfl (any_of HT_.out (by kernel_rfl)) (fun _ _ _ h => h) (Or.inl ⟨by rfl, ?_⟩) ?_ ?_; rotate_left; (focus intro w'; go_simp; with_reducible rfl); rotate_left; (focus simp only [Act.put, List.setIfInBounds_toArray, List.set_cons_zero, List.set_cons_succ, i64_w, i32_w]; rfl); refine done_ (done_of HT_.out (by kernel_rfl)) ?_
        try go_wp2
        go_ret; exact ⟨by first | rfl | (simp [errW_none, errW_some] <;> rfl) | (simp only [← hji3]; first | rfl | (simp [errW_none, errW_some] <;> rfl)) | (simp [*, errW_none, errW_some] <;> rfl), by repeat (first | (with_reducible first | exact HB.out | apply below_alloc | apply pw_below_drewN | apply below_drew1) | exact HB.out)⟩
      · rw [if_neg c5] at H; exact absurd H (by simp)
    · rw [if_neg c4] at H; exact absurd H (by simp)
  · rw [if_neg c2] at H; have c2b0 : decide (4 ≤ (a0.size : Int)) = false := decide_eq_false c2; have c2b1 : decide (4 ≤ a0.size) = false := decide_eq_false (by omega); clear c2; obtain rfl := Option.some.inj H; go_enter Try.func94, Try.ntmps94
    try go_wp2
    have n0_ := Aside0.mk (below_drew1 HB.out); clear HB; have HB := n0_; clear n0_; refine start_ (n := 19) (S := fun w' => True) (ds := []) #[false,false,false,false,false,false,false,false,false,false,false,false,false,false,false,false,false,false,false] (by kernel_rfl) rfl rfl trivial (fun hHeld => ?_); refine with_tabW sorrelref02_Check.tab1 sorrelref02_Check.bits1 (fun HT_ HW_ => ?_)
    generalize w.drew = w12 at HB hHeld ⊢
    refine pure_ (i := 0) (N := some 3) (v := ?_) (a' := ?_) #[true,false,false,false,false,false,false,false,false,false,false,false,false,false,false,false,false,false,false] rfl rfl (any_of HT_.out (by kernel_rfl)) (fun _ _ _ h => h) (Or.inl ⟨by rfl, ?_⟩) ?_ ?_; rotate_left; (focus intro w'; go_simp; with_reducible rfl); rotate_left; (focus simp only [Act.put, List.setIfInBounds_toArray, List.set_cons_zero, List.set_cons_succ, i64_w, i32_w]; rfl); refine pure_ (i := 1) (N := some 4) (v := ?_) (a' := ?_) #[true,true,false,false,false,false,false,false,false,false,false,false,false,false,false,false,false,false,false] rfl rfl (any_of HT_.out (by kernel_rfl)) (fun _ _ _ h => h) (Or.inl ⟨by rfl, ?_⟩) ?_ ?_; rotate_left; (focus intro w'; go_simp; with_reducible rfl); rotate_left; (focus simp only [Act.put, List.setIfInBounds_toArray, List.set_cons_zero, List.set_cons_succ, i64_w, i32_w]; rfl); refine pure_ (i := 2) (N := some 5) (v := ?_) (a' := ?_) #[true,true,true,false,false,false,false,false,false,false,false,false,false,false,false,false,false,false,false] rfl rfl (any_of HT_.out (by kernel_rfl)) (fun _ _ _ h => h) (Or.inl ⟨by rfl, ?_⟩) ?_ ?_; rotate_left; (focus intro w'; go_simp; with_reducible rfl); rotate_left; (focus simp only [Act.put, List.setIfInBounds_toArray, List.set_cons_zero, List.set_cons_succ, i64_w, i32_w]; rfl); refine pure_ (i := 3) (N := some 6) (v := ?_) (a' := ?_) #[true,true,true,true,false,false,false,false,false,false,false,false,false,false,false,false,false,false,false] rfl rfl (any_of HT_.out (by kernel_rfl)) (fun _ _ _ h => h) (Or.inl ⟨by rfl, ?_⟩) ?_ ?_; rotate_left; (focus intro w'; go_simp; with_reducible rfl); rotate_left; (focus simp only [Act.put, List.setIfInBounds_toArray, List.set_cons_zero, List.set_cons_succ, i64_w, i32_w]; rfl); refine pure_ (i := 4) (N := some 7) (v := undef) (a' := ?_) #[true,true,true,true,true,false,false,false,false,false,false,false,false,false,false,false,false,false,false] rfl rfl (any_of HT_.out (by kernel_rfl)) (fun _ _ _ h => h) (Or.inr ⟨by rfl, rfl⟩) ?_ ?_; rotate_left
    · simp only [Act.put, List.setIfInBounds_toArray, List.set_cons_zero, List.set_cons_succ, i64_w, i32_w]
      rfl
    refine pure_ (i := 5) (N := some 8) (v := undef) (a' := ?_) #[true,true,true,true,true,true,false,false,false,false,false,false,false,false,false,false,false,false,false] rfl rfl (any_of HT_.out (by kernel_rfl)) (fun _ _ _ h => h) (Or.inr ⟨by rfl, rfl⟩) ?_ ?_; rotate_left
    · simp only [Act.put, List.setIfInBounds_toArray, List.set_cons_zero, List.set_cons_succ, i64_w, i32_w]
      rfl
    refine pure_ (i := 6) (N := some 9) (v := undef) (a' := ?_) #[true,true,true,true,true,true,true,false,false,false,false,false,false,false,false,false,false,false,false] rfl rfl (any_of HT_.out (by kernel_rfl)) (fun _ _ _ h => h) (Or.inr ⟨by rfl, rfl⟩) ?_ ?_; rotate_left
    · simp only [Act.put, List.setIfInBounds_toArray, List.set_cons_zero, List.set_cons_succ, i64_w, i32_w]
      rfl
    refine pure_ (i := 7) (N := some 10) (v := undef) (a' := ?_) #[true,true,true,true,true,true,true,true,false,false,false,false,false,false,false,false,false,false,false] rfl rfl (any_of HT_.out (by kernel_rfl)) (fun _ _ _ h => h) (Or.inr ⟨by rfl, rfl⟩) ?_ ?_; rotate_left
    · simp only [Act.put, List.setIfInBounds_toArray, List.set_cons_zero, List.set_cons_succ, i64_w, i32_w]
      rfl
    refine pure_ (i := 8) (N := some 11) (v := undef) (a' := ?_) #[true,true,true,true,true,true,true,true,true,false,false,false,false,false,false,false,false,false,false] rfl rfl (any_of HT_.out (by kernel_rfl)) (fun _ _ _ h => h) (Or.inr ⟨by rfl, rfl⟩) ?_ ?_; rotate_left
    · simp only [Act.put, List.setIfInBounds_toArray, List.set_cons_zero, List.set_cons_succ, i64_w, i32_w]
      rfl
    refine pure_ (i := 9) (N := some 12) (v := undef) (a' := ?_) #[true,true,true,true,true,true,true,true,true,true,false,false,false,false,false,false,false,false,false] rfl rfl (any_of HT_.out (by kernel_rfl)) (fun _ _ _ h => h) (Or.inr ⟨by rfl, rfl⟩) ?_ ?_; rotate_left
    · simp only [Act.put, List.setIfInBounds_toArray, List.set_cons_zero, List.set_cons_succ, i64_w, i32_w]
      rfl
    refine pure_ (i := 10) (N := some 13) (v := undef) (a' := ?_) #[true,true,true,true,true,true,true,true,true,true,true,false,false,false,false,false,false,false,false] rfl rfl (any_of HT_.out (by kernel_rfl)) (fun _ _ _ h => h) (Or.inr ⟨by rfl, rfl⟩) ?_ ?_; rotate_left
    · simp only [Act.put, List.setIfInBounds_toArray, List.set_cons_zero, List.set_cons_succ, i64_w, i32_w]
      rfl
    refine pure_ (i := 11) (N := some 14) (v := undef) (a' := ?_) #[true,true,true,true,true,true,true,true,true,true,true,true,false,false,false,false,false,false,false] rfl rfl (any_of HT_.out (by kernel_rfl)) (fun _ _ _ h => h) (Or.inr ⟨by rfl, rfl⟩) ?_ ?_; rotate_left
    · simp only [Act.put, List.setIfInBounds_toArray, List.set_cons_zero, List.set_cons_succ, i64_w, i32_w]
      rfl
    refine pure_ (i := 12) (N := some 15) (v := undef) (a' := ?_) #[true,true,true,true,true,true,true,true,true,true,true,true,true,false,false,false,false,false,false] rfl rfl (any_of HT_.out (by kernel_rfl)) (fun _ _ _ h => h) (Or.inr ⟨by rfl, rfl⟩) ?_ ?_; rotate_left
    · simp only [Act.put, List.setIfInBounds_toArray, List.set_cons_zero, List.set_cons_succ, i64_w, i32_w]
      rfl
    refine pure_ (i := 13) (N := some 16) (v := undef) (a' := ?_) #[true,true,true,true,true,true,true,true,true,true,true,true,true,true,false,false,false,false,false] rfl rfl (any_of HT_.out (by kernel_rfl)) (fun _ _ _ h => h) (Or.inr ⟨by rfl, rfl⟩) ?_ ?_; rotate_left
    · simp only [Act.put, List.setIfInBounds_toArray, List.set_cons_zero, List.set_cons_succ, i64_w, i32_w]
      rfl
    refine pure_ (i := 14) (N := some 17) (v := undef) (a' := ?_) #[true,true,true,true,true,true,true,true,true,true,true,true,true,true,true,false,false,false,false] rfl rfl (any_of HT_.out (by kernel_rfl)) (fun _ _ _ h => h) (Or.inr ⟨by rfl, rfl⟩) ?_ ?_; rotate_left
    · simp only [Act.put, List.setIfInBounds_toArray, List.set_cons_zero, List.set_cons_succ, i64_w, i32_w]
      rfl
    refine pure_ (i := 15) (N := some 18) (v := undef) (a' := ?_) #[true,true,true,true,true,true,true,true,true,true,true,true,true,true,true,true,false,false,false] rfl rfl (any_of HT_.out (by kernel_rfl)) (fun _ _ _ h => h) (Or.inr ⟨by rfl, rfl⟩) ?_ ?_; rotate_left
    · simp only [Act.put, List.setIfInBounds_toArray, List.set_cons_zero, List.set_cons_succ, i64_w, i32_w]
      rfl
    refine pure_ (i := 16) (N := some 19) (v := undef) (a' := ?_) #[true,true,true,true,true,true,true,true,true,true,true,true,true,true,true,true,true,false,false] rfl rfl (any_of HT_.out (by kernel_rfl)) (fun _ _ _ h => h) (Or.inr ⟨by rfl, rfl⟩) ?_ ?_; rotate_left
    · simp only [Act.put, List.setIfInBounds_toArray, List.set_cons_zero, List.set_cons_succ, i64_w, i32_w]
      rfl
    refine pure_ (i := 17) (N := some 20) (v := ?_) (a' := ?_) #[true,true,true,true,true,true,true,true,true,true,true,true,true,true,true,true,true,true,false] rfl rfl (any_of HT_.out (by kernel_rfl)) (fun _ _ _ h => h) (Or.inl ⟨by rfl, ?_⟩) ?_ ?_; rotate_left; (focus intro w'; go_simp; with_reducible rfl); rotate_left; (focus simp only [Act.put, List.setIfInBounds_toArray, List.set_cons_zero, List.set_cons_succ, i64_w, i32_w]; rfl); refine pure_ (i := 18) (N := some 2) (v := ?_) (a' := ?_) #[true,true,true,true,true,true,true,true,true,true,true,true,true,true,true,true,true,true,true] rfl rfl (any_of HT_.out (by kernel_rfl)) (fun _ _ _ h => h) (Or.inl ⟨by rfl, ?_⟩) ?_ ?_; rotate_left; (focus intro w'; go_simp; with_reducible rfl); rotate_left; (focus simp only [Act.put, List.setIfInBounds_toArray, List.set_cons_zero, List.set_cons_succ, i64_w, i32_w]; rfl); refine done_ (done_of HT_.out (by kernel_rfl)) ?_
    try go_wp2
    go_ret; exact ⟨by first | rfl | (simp [errW_none, errW_some] <;> rfl) | (simp [*, errW_none, errW_some] <;> rfl), by repeat (first | (with_reducible first | exact HB.out | apply below_alloc | apply pw_below_drewN | apply below_drew1) | exact HB.out)⟩
def sorrelref09_one.f (k : Nat) (s last : ByteArray) : Option (ByteArray × ByteArray × Bool × Int × Int × Bool) :=
  (sorrelref01_Take.f k s).bind fun x =>
  if x.2.2 = 0 then
    (if x.1 ≤ (last.size : Int) then
      (if 0 ≤ x.2.1 then
        (if x.2.1 ≤ (s.size : Int) then
          ((sorrelref01_TakeText.f k (s.extract x.2.1.toNat s.size)).bind fun y =>
          if y.2.2 = 0 then
            (if 0 ≤ wrap64 (x.2.1 + y.2.1) then
              (if wrap64 (x.2.1 + y.2.1) ≤ (s.size : Int) then
                ((sorrelref01_Take.f k (s.extract (wrap64 (x.2.1 + y.2.1)).toNat s.size)).bind fun z =>
                if z.2.2 = 0 then
                  (if 0 ≤ x.1 then
                    (if (last.extract 0 x.1.toNat).size + y.1.size ≤ 9223372036854775807 then
                      ((sorrelref09_common.f k last (last.extract 0 x.1.toNat ++ y.1)).bind fun d =>
                      if d = x.1 then
                        (if Int.tmod z.1 2 = 1 then some (last.extract 0 x.1.toNat ++ y.1, (⟨#[]⟩ : ByteArray), true, wrap64 (Int.tdiv z.1 2), wrap64 (wrap64 (x.2.1 + y.2.1) + z.2.1), true)
                        else
                          (if 0 ≤ wrap64 (wrap64 (x.2.1 + y.2.1) + z.2.1) then
                            (if wrap64 (wrap64 (x.2.1 + y.2.1) + z.2.1) ≤ (s.size : Int) then
                              ((sorrelref01_TakeText.f k (s.extract (wrap64 (wrap64 (x.2.1 + y.2.1) + z.2.1)).toNat s.size)).bind fun v =>
                              some (last.extract 0 x.1.toNat ++ y.1, v.1, false, wrap64 (Int.tdiv z.1 2), wrap64 (wrap64 (wrap64 (x.2.1 + y.2.1) + z.2.1) + v.2.1), (v.2.2 == 0)))
                            else none)
                          else none))
                      else some ((⟨#[]⟩ : ByteArray), (⟨#[]⟩ : ByteArray), false, 0, 0, false))
                    else none)
                  else none)
                else some ((⟨#[]⟩ : ByteArray), (⟨#[]⟩ : ByteArray), false, 0, 0, false))
              else none)
            else none)
          else some ((⟨#[]⟩ : ByteArray), (⟨#[]⟩ : ByteArray), false, 0, 0, false))
        else none)
      else none)
    else some ((⟨#[]⟩ : ByteArray), (⟨#[]⟩ : ByteArray), false, 0, 0, false))
  else some ((⟨#[]⟩ : ByteArray), (⟨#[]⟩ : ByteArray), false, 0, 0, false)
theorem four_put {W : World} {g : Nat} {t : TypeId} {c0 c1 c2 c3 x0 x1 x2 x3 : Value} (h : W.heap[g]? = some (.cells #[c0, c1, c2, c3] t (0, 0))) : ((((W.setCell ⟨g, 0, none⟩ x0).setCell ⟨g, 1, none⟩ x1).setCell ⟨g, 2, none⟩ x2).setCell ⟨g, 3, none⟩ x3).heap[g]? = some (.cells #[x0, x1, x2, x3] t (0, 0)) :=
  blk_put (blk_put (blk_put (blk_put h 0 x0 rfl) 1 x1 rfl) 2 x2 rfl) 3 x3 rfl
set_option maxHeartbeats 8000000 in
set_option maxRecDepth 100000 in
theorem sorrelref09_one.calls (k : Nat) (s last : ByteArray) (r1 r2 : ByteArray) (r3 : Bool) (r4 r5 : Int) (r6 : Bool) (w : World) (h : sorrelref09_one.f k s last = some (r1, r2, r3, r4, r5, r6)) :
    Calls Try.prog 95 #[.string s, .string last] w fun e w' => e = .returned (.tuple #[.agg #[.string r1, .string r2, .bool r3, .int .i64 r4], .int .i64 r5, .bool r6]) ∧ Below w.heap.size w w' := by
  have HB := Aside0.mk (Below.refl w.heap.size w)
  unfold sorrelref09_one.f at h
  obtain ⟨⟨n, a, e⟩, hA, h⟩ := Option.bind_eq_some_iff.mp h
  dsimp only at h
  have A1 := Aside0.mk hA
  clear hA
  by_cases c1 : e = 0
  · rw [if_pos c1] at h; subst c1
    by_cases c2 : n ≤ (last.size : Int)
    · rw [if_pos c2] at h
      by_cases c3 : 0 ≤ a
      · rw [if_pos c3] at h
        by_cases c4 : a ≤ (s.size : Int)
        · rw [if_pos c4] at h; obtain ⟨⟨t, b, f⟩, hA, h⟩ := Option.bind_eq_some_iff.mp h; dsimp only at hA h; have A2 := Aside0.mk hA; clear hA; have p2 : decide ((last.size : Int) < n) = false := decide_eq_false (by omega); have p2a := eq_true c2; have p3 := eq_true c3; have p3b : decide (0 ≤ a) = true := decide_eq_true c3; have p4 := eq_true c4; have p4b : decide (a ≤ (s.size : Int)) = true := decide_eq_true c4; clear c2 c3 c4
          by_cases c5 : f = 0
          · rw [if_pos c5] at h; subst c5; obtain ⟨ab, hab⟩ : ∃ j_ : Int, wrap64 (a + b) = j_ := ⟨_, rfl⟩; rw [hab] at h; have habw : IntKind.i64.wrap (a + b) = ab := (i64_w _).trans hab
            by_cases c6 : 0 ≤ ab
            · rw [if_pos c6] at h
              by_cases c7 : ab ≤ (s.size : Int)
              · rw [if_pos c7] at h; obtain ⟨⟨q, c, g⟩, hA, h⟩ := Option.bind_eq_some_iff.mp h; dsimp only at hA h; have A3 := Aside0.mk hA; clear hA; have p6 := eq_true c6; have p6b : decide (0 ≤ ab) = true := decide_eq_true c6; have p7 := eq_true c7; have p7b : decide (ab ≤ (s.size : Int)) = true := decide_eq_true c7; clear c6 c7
                by_cases c8 : g = 0
                · rw [if_pos c8] at h; subst c8
                  by_cases c9 : 0 ≤ n
                  · rw [if_pos c9] at h
                    by_cases ca : (last.extract 0 n.toNat).size + t.size ≤ 9223372036854775807
                    · rw [if_pos ca] at h; have p9 := eq_true c9; have p9b : decide (0 ≤ n) = true := decide_eq_true c9; have pa := eq_true ca; have pab : (9223372036854775807 < (last.extract 0 n.toNat).size + t.size) = False := eq_false (Nat.not_lt.2 ca); clear c9; obtain ⟨d, hA, h⟩ := Option.bind_eq_some_iff.mp h; have A4 := Aside0.mk hA; clear hA
                      by_cases cb : d = n
                      · rw [if_pos cb] at h; have pb : (d == n) = true := beq_iff_eq.mpr cb; have pbb : (d != n) = false := bne_eq_false_iff_eq.mpr cb; clear cb; obtain ⟨abc, habc⟩ : ∃ j_ : Int, wrap64 (ab + c) = j_ := ⟨_, rfl⟩; rw [habc] at h; have habcw : IntKind.i64.wrap (ab + c) = abc := (i64_w _).trans habc
                        by_cases cc : Int.tmod q 2 = 1
                        · rw [if_pos cc] at h; have pc : (Int.tmod q 2 == 1) = true := beq_iff_eq.mpr cc; clear cc; simp only [Option.some.injEq, Prod.mk.injEq] at h; obtain ⟨rfl, rfl, rfl, rfl, rfl, rfl⟩ := h; go_enter Try.func95, Try.ntmps95
                          go_wp2_with (first | ((with_reducible refine gate_callee (f := 92) rfl ?_); refine goesL_ (some 22) rfl rfl Try.func92 (by kernel_rfl) rfl #[.string s] rfl (by (try simp only [List.map_toArray, List.map_cons, List.map_nil]); first | done | rfl) ?_; (with_reducible refine (sorrelref01_Take.calls k s n a _ _ A1.out).mono ?_); rintro e w' ⟨rfl, ⟨nd, rfl⟩⟩; refine ⟨_, rfl, ?_⟩) | ((with_reducible refine gate_callee (f := 93) rfl ?_); refine goesL_ (some 39) rfl rfl Try.func93 (by kernel_rfl) rfl #[.string (s.extract a.toNat s.size)] rfl (by (try simp only [List.map_toArray, List.map_cons, List.map_nil]); first | done | rfl) ?_; (with_reducible refine (sorrelref01_TakeText.calls k (s.extract a.toNat s.size) t b _ _ A2.out).mono ?_); rintro e w' ⟨rfl, ⟨nd, rfl⟩⟩; refine ⟨_, rfl, ?_⟩) | ((with_reducible refine gate_callee (f := 92) rfl ?_); refine goesL_ (some 52) rfl rfl Try.func92 (by kernel_rfl) rfl #[.string (s.extract ab.toNat s.size)] rfl (by (try simp only [List.map_toArray, List.map_cons, List.map_nil]); first | done | rfl) ?_; (with_reducible refine (sorrelref01_Take.calls k (s.extract ab.toNat s.size) q c _ _ A3.out).mono ?_); rintro e w' ⟨rfl, ⟨nd, rfl⟩⟩; refine ⟨_, rfl, ?_⟩) | (go_at_call 82; (refine (sorrelref09_common.calls k last (last.extract 0 n.toNat ++ t) d _ A4.out).mono ?_); rintro e w' ⟨rfl, ⟨nd, rfl⟩⟩))
                          refine bodyPost_ret (results_ctt rfl _ _ w.heap.size 43 #[.string (last.extract 0 n.toNat ++ t), .string (⟨#[]⟩ : ByteArray), .bool true, .int .i64 (wrap64 (Int.tdiv q 2))] (0, 0) _ rfl (blk_alloc (four_put (blk_drewN (heap_alloc_new w _) _)) _) Try.underlying43 rfl (by kernel_rfl)) rfl ?_; exact ⟨rfl, by repeat (first | (with_reducible first | exact HB.out | apply below_alloc | apply pw_below_drewN | apply below_drew1 | refine below_set ?_ (Nat.le_refl _) | refine below_set ?_ (Nat.le_succ _)) | exact HB.out)⟩
                        · rw [if_neg cc] at h; have pc : (Int.tmod q 2 == 1) = false := beq_eq_false_iff_ne.mpr cc; clear cc
                          by_cases cd : 0 ≤ abc
                          · rw [if_pos cd] at h
                            by_cases ce : abc ≤ (s.size : Int)
                            · rw [if_pos ce] at h; obtain ⟨⟨v, b2, f2⟩, hA, h⟩ := Option.bind_eq_some_iff.mp h; dsimp only at hA h; have A5 := Aside0.mk hA; clear hA; have pd := eq_true cd; have pdb : decide (0 ≤ abc) = true := decide_eq_true cd; have pe := eq_true ce; have peb : decide (abc ≤ (s.size : Int)) = true := decide_eq_true ce; clear cd ce; simp only [Option.some.injEq, Prod.mk.injEq] at h; obtain ⟨rfl, rfl, rfl, rfl, rfl, rfl⟩ := h; go_enter Try.func95, Try.ntmps95
                              go_wp2_with (first | ((with_reducible refine gate_callee (f := 92) rfl ?_); refine goesL_ (some 22) rfl rfl Try.func92 (by kernel_rfl) rfl #[.string s] rfl (by (try simp only [List.map_toArray, List.map_cons, List.map_nil]); first | done | rfl) ?_; (with_reducible refine (sorrelref01_Take.calls k s n a _ _ A1.out).mono ?_); rintro e w' ⟨rfl, ⟨nd, rfl⟩⟩; refine ⟨_, rfl, ?_⟩) | ((with_reducible refine gate_callee (f := 93) rfl ?_); refine goesL_ (some 39) rfl rfl Try.func93 (by kernel_rfl) rfl #[.string (s.extract a.toNat s.size)] rfl (by (try simp only [List.map_toArray, List.map_cons, List.map_nil]); first | done | rfl) ?_; (with_reducible refine (sorrelref01_TakeText.calls k (s.extract a.toNat s.size) t b _ _ A2.out).mono ?_); rintro e w' ⟨rfl, ⟨nd, rfl⟩⟩; refine ⟨_, rfl, ?_⟩) | ((with_reducible refine gate_callee (f := 92) rfl ?_); refine goesL_ (some 52) rfl rfl Try.func92 (by kernel_rfl) rfl #[.string (s.extract ab.toNat s.size)] rfl (by (try simp only [List.map_toArray, List.map_cons, List.map_nil]); first | done | rfl) ?_; (with_reducible refine (sorrelref01_Take.calls k (s.extract ab.toNat s.size) q c _ _ A3.out).mono ?_); rintro e w' ⟨rfl, ⟨nd, rfl⟩⟩; refine ⟨_, rfl, ?_⟩) | (go_at_call 82; (refine (sorrelref09_common.calls k last (last.extract 0 n.toNat ++ t) d _ A4.out).mono ?_); rintro e w' ⟨rfl, ⟨nd, rfl⟩⟩) | ((with_reducible refine gate_callee (f := 93) rfl ?_); refine goesL_ (some 97) rfl rfl Try.func93 (by kernel_rfl) rfl #[.string (s.extract abc.toNat s.size)] rfl (by (try simp only [List.map_toArray, List.map_cons, List.map_nil]); first | done | rfl) ?_; (with_reducible refine (sorrelref01_TakeText.calls k (s.extract abc.toNat s.size) v b2 f2 _ A5.out).mono ?_); rintro e w' ⟨rfl, ⟨nd, rfl⟩⟩; refine ⟨_, rfl, ?_⟩))
                              refine bodyPost_ret (results_ctt rfl _ _ w.heap.size 43 #[.string (last.extract 0 n.toNat ++ t), .string v, .bool false, .int .i64 (wrap64 (Int.tdiv q 2))] (0, 0) _ rfl (four_put (blk_far (blk_drewN (blk_alloc (blk_drewN (heap_alloc_new w _) _) _) _) (p := ⟨w.heap.size + 1, 1, none⟩) (Nat.ne_of_lt (Nat.lt_succ_self _)) _)) Try.underlying43 rfl (by kernel_rfl)) rfl ?_; exact ⟨rfl, by repeat (first | (with_reducible first | exact HB.out | apply below_alloc | apply pw_below_drewN | apply below_drew1 | refine below_set ?_ (Nat.le_refl _) | refine below_set ?_ (Nat.le_succ _)) | exact HB.out)⟩
                            · rw [if_neg ce] at h; exact absurd h (by simp)
                          · rw [if_neg cd] at h; exact absurd h (by simp)
                      · rw [if_neg cb] at h; have pb : (d == n) = false := beq_eq_false_iff_ne.mpr cb; have pbb : (d != n) = true := bne_iff_ne.mpr cb; clear cb; simp only [Option.some.injEq, Prod.mk.injEq] at h; obtain ⟨rfl, rfl, rfl, rfl, rfl, rfl⟩ := h; go_enter Try.func95, Try.ntmps95
                        go_wp2_with (first | ((with_reducible refine gate_callee (f := 92) rfl ?_); refine goesL_ (some 22) rfl rfl Try.func92 (by kernel_rfl) rfl #[.string s] rfl (by (try simp only [List.map_toArray, List.map_cons, List.map_nil]); first | done | rfl) ?_; (with_reducible refine (sorrelref01_Take.calls k s n a _ _ A1.out).mono ?_); rintro e w' ⟨rfl, ⟨nd, rfl⟩⟩; refine ⟨_, rfl, ?_⟩) | ((with_reducible refine gate_callee (f := 93) rfl ?_); refine goesL_ (some 39) rfl rfl Try.func93 (by kernel_rfl) rfl #[.string (s.extract a.toNat s.size)] rfl (by (try simp only [List.map_toArray, List.map_cons, List.map_nil]); first | done | rfl) ?_; (with_reducible refine (sorrelref01_TakeText.calls k (s.extract a.toNat s.size) t b _ _ A2.out).mono ?_); rintro e w' ⟨rfl, ⟨nd, rfl⟩⟩; refine ⟨_, rfl, ?_⟩) | ((with_reducible refine gate_callee (f := 92) rfl ?_); refine goesL_ (some 52) rfl rfl Try.func92 (by kernel_rfl) rfl #[.string (s.extract ab.toNat s.size)] rfl (by (try simp only [List.map_toArray, List.map_cons, List.map_nil]); first | done | rfl) ?_; (with_reducible refine (sorrelref01_Take.calls k (s.extract ab.toNat s.size) q c _ _ A3.out).mono ?_); rintro e w' ⟨rfl, ⟨nd, rfl⟩⟩; refine ⟨_, rfl, ?_⟩) | (go_at_call 82; (refine (sorrelref09_common.calls k last (last.extract 0 n.toNat ++ t) d _ A4.out).mono ?_); rintro e w' ⟨rfl, ⟨nd, rfl⟩⟩))
                        refine bodyPost_ret (results_ctt rfl _ _ w.heap.size 43 #[.string (⟨#[]⟩ : ByteArray), .string (⟨#[]⟩ : ByteArray), .bool false, .int .i64 0] (0, 0) _ rfl (four_put (blk_drewN (heap_alloc_new w _) _)) Try.underlying43 rfl (by kernel_rfl)) rfl ?_; exact ⟨rfl, by repeat (first | (with_reducible first | exact HB.out | apply below_alloc | apply pw_below_drewN | apply below_drew1 | refine below_set ?_ (Nat.le_refl _) | refine below_set ?_ (Nat.le_succ _)) | exact HB.out)⟩
                    · rw [if_neg ca] at h; exact absurd h (by simp)
                  · rw [if_neg c9] at h; exact absurd h (by simp)
                · rw [if_neg c8] at h; have p8 : (g == 0) = false := beq_eq_false_iff_ne.mpr c8; have p8b : (g != 0) = true := bne_iff_ne.mpr c8; clear c8; simp only [Option.some.injEq, Prod.mk.injEq] at h; obtain ⟨rfl, rfl, rfl, rfl, rfl, rfl⟩ := h; go_enter Try.func95, Try.ntmps95
                  go_wp2_with (first | ((with_reducible refine gate_callee (f := 92) rfl ?_); refine goesL_ (some 22) rfl rfl Try.func92 (by kernel_rfl) rfl #[.string s] rfl (by (try simp only [List.map_toArray, List.map_cons, List.map_nil]); first | done | rfl) ?_; (with_reducible refine (sorrelref01_Take.calls k s n a _ _ A1.out).mono ?_); rintro e w' ⟨rfl, ⟨nd, rfl⟩⟩; refine ⟨_, rfl, ?_⟩) | ((with_reducible refine gate_callee (f := 93) rfl ?_); refine goesL_ (some 39) rfl rfl Try.func93 (by kernel_rfl) rfl #[.string (s.extract a.toNat s.size)] rfl (by (try simp only [List.map_toArray, List.map_cons, List.map_nil]); first | done | rfl) ?_; (with_reducible refine (sorrelref01_TakeText.calls k (s.extract a.toNat s.size) t b _ _ A2.out).mono ?_); rintro e w' ⟨rfl, ⟨nd, rfl⟩⟩; refine ⟨_, rfl, ?_⟩) | ((with_reducible refine gate_callee (f := 92) rfl ?_); refine goesL_ (some 52) rfl rfl Try.func92 (by kernel_rfl) rfl #[.string (s.extract ab.toNat s.size)] rfl (by (try simp only [List.map_toArray, List.map_cons, List.map_nil]); first | done | rfl) ?_; (with_reducible refine (sorrelref01_Take.calls k (s.extract ab.toNat s.size) q c _ _ A3.out).mono ?_); rintro e w' ⟨rfl, ⟨nd, rfl⟩⟩; refine ⟨_, rfl, ?_⟩))
                  refine bodyPost_ret (results_ctt rfl _ _ w.heap.size 43 #[.string (⟨#[]⟩ : ByteArray), .string (⟨#[]⟩ : ByteArray), .bool false, .int .i64 0] (0, 0) _ rfl (four_put (blk_drewN (heap_alloc_new w _) _)) Try.underlying43 rfl (by kernel_rfl)) rfl ?_; exact ⟨rfl, by repeat (first | (with_reducible first | exact HB.out | apply below_alloc | apply pw_below_drewN | apply below_drew1 | refine below_set ?_ (Nat.le_refl _) | refine below_set ?_ (Nat.le_succ _)) | exact HB.out)⟩
              · rw [if_neg c7] at h; exact absurd h (by simp)
            · rw [if_neg c6] at h; exact absurd h (by simp)
          · rw [if_neg c5] at h; have p5 : (f == 0) = false := beq_eq_false_iff_ne.mpr c5; have p5b : (f != 0) = true := bne_iff_ne.mpr c5; clear c5; simp only [Option.some.injEq, Prod.mk.injEq] at h; obtain ⟨rfl, rfl, rfl, rfl, rfl, rfl⟩ := h; go_enter Try.func95, Try.ntmps95
            go_wp2_with (first | ((with_reducible refine gate_callee (f := 92) rfl ?_); refine goesL_ (some 22) rfl rfl Try.func92 (by kernel_rfl) rfl #[.string s] rfl (by (try simp only [List.map_toArray, List.map_cons, List.map_nil]); first | done | rfl) ?_; (with_reducible refine (sorrelref01_Take.calls k s n a _ _ A1.out).mono ?_); rintro e w' ⟨rfl, ⟨nd, rfl⟩⟩; refine ⟨_, rfl, ?_⟩) | ((with_reducible refine gate_callee (f := 93) rfl ?_); refine goesL_ (some 39) rfl rfl Try.func93 (by kernel_rfl) rfl #[.string (s.extract a.toNat s.size)] rfl (by (try simp only [List.map_toArray, List.map_cons, List.map_nil]); first | done | rfl) ?_; (with_reducible refine (sorrelref01_TakeText.calls k (s.extract a.toNat s.size) t b _ _ A2.out).mono ?_); rintro e w' ⟨rfl, ⟨nd, rfl⟩⟩; refine ⟨_, rfl, ?_⟩))
            refine bodyPost_ret (results_ctt rfl _ _ w.heap.size 43 #[.string (⟨#[]⟩ : ByteArray), .string (⟨#[]⟩ : ByteArray), .bool false, .int .i64 0] (0, 0) _ rfl (four_put (blk_drewN (heap_alloc_new w _) _)) Try.underlying43 rfl (by kernel_rfl)) rfl ?_; exact ⟨rfl, by repeat (first | (with_reducible first | exact HB.out | apply below_alloc | apply pw_below_drewN | apply below_drew1 | refine below_set ?_ (Nat.le_refl _) | refine below_set ?_ (Nat.le_succ _)) | exact HB.out)⟩
        · rw [if_neg c4] at h; exact absurd h (by simp)
      · rw [if_neg c3] at h; exact absurd h (by simp)
    · rw [if_neg c2] at h; have p2 : decide ((last.size : Int) < n) = true := decide_eq_true (by omega); clear c2; simp only [Option.some.injEq, Prod.mk.injEq] at h; obtain ⟨rfl, rfl, rfl, rfl, rfl, rfl⟩ := h; go_enter Try.func95, Try.ntmps95
      go_wp2_with (first | ((with_reducible refine gate_callee (f := 92) rfl ?_); refine goesL_ (some 22) rfl rfl Try.func92 (by kernel_rfl) rfl #[.string s] rfl (by (try simp only [List.map_toArray, List.map_cons, List.map_nil]); first | done | rfl) ?_; (with_reducible refine (sorrelref01_Take.calls k s n a _ _ A1.out).mono ?_); rintro e w' ⟨rfl, ⟨nd, rfl⟩⟩; refine ⟨_, rfl, ?_⟩))
      refine bodyPost_ret (results_ctt rfl _ _ w.heap.size 43 #[.string (⟨#[]⟩ : ByteArray), .string (⟨#[]⟩ : ByteArray), .bool false, .int .i64 0] (0, 0) _ rfl (four_put (blk_drewN (heap_alloc_new w _) _)) Try.underlying43 rfl (by kernel_rfl)) rfl ?_; exact ⟨rfl, by repeat (first | (with_reducible first | exact HB.out | apply below_alloc | apply pw_below_drewN | apply below_drew1 | refine below_set ?_ (Nat.le_refl _) | refine below_set ?_ (Nat.le_succ _)) | exact HB.out)⟩
  · rw [if_neg c1] at h; have p1 : (e == 0) = false := beq_eq_false_iff_ne.mpr c1; have p1b : (e != 0) = true := bne_iff_ne.mpr c1; clear c1; simp only [Option.some.injEq, Prod.mk.injEq] at h; obtain ⟨rfl, rfl, rfl, rfl, rfl, rfl⟩ := h; go_enter Try.func95, Try.ntmps95
    go_wp2_with (first | ((with_reducible refine gate_callee (f := 92) rfl ?_); refine goesL_ (some 22) rfl rfl Try.func92 (by kernel_rfl) rfl #[.string s] rfl (by (try simp only [List.map_toArray, List.map_cons, List.map_nil]); first | done | rfl) ?_; (with_reducible refine (sorrelref01_Take.calls k s n a _ _ A1.out).mono ?_); rintro e w' ⟨rfl, ⟨nd, rfl⟩⟩; refine ⟨_, rfl, ?_⟩))
    refine bodyPost_ret (results_ctt rfl _ _ w.heap.size 43 #[.string (⟨#[]⟩ : ByteArray), .string (⟨#[]⟩ : ByteArray), .bool false, .int .i64 0] (0, 0) _ rfl (four_put (blk_drewN (heap_alloc_new w _) _)) Try.underlying43 rfl (by kernel_rfl)) rfl ?_; exact ⟨rfl, by repeat (first | (with_reducible first | exact HB.out | apply below_alloc | apply pw_below_drewN | apply below_drew1 | refine below_set ?_ (Nat.le_refl _) | refine below_set ?_ (Nat.le_succ _)) | exact HB.out)⟩
def sorrelref09_Take.l0 : Nat → ByteArray → Int → Int → List S43 → ByteArray → Int → Option (List S43 × Int)
  | 0, _, _, _, _, _, _ => none
  | k + 1, S, n, p, out, last, i =>
    if i < n then
      (if 0 ≤ p then (if p ≤ (S.size : Int) then
        ((sorrelref09_one.f k (S.extract p.toNat S.size) last).bind fun x =>
          if x.2.2.2.2.2 = true then
            (if out.length < 2932031007402 then sorrelref09_Take.l0 k S n (wrap64 (p + x.2.2.2.2.1)) (out ++ [(⟨x.1, x.2.1, x.2.2.1, x.2.2.2.1⟩ : S43)]) x.1 (wrap64 (i + 1)) else none)
          else some ([], 90))
      else none) else none)
    else (if p = (S.size : Int) then ((sorrelref09_Check.f k out).bind fun e => if e = 0 then some (out, 0) else some ([], 90)) else some ([], 90))
def sorrelref09_Take.f (k : Nat) (a0 : ByteArray) : Option (List S43 × Int) :=
  (sorrelref02_Check.f k a0).bind fun c => if c = true then
    (if 0 ≤ wrap64 ((a0.size : Int) - 4) then
      (if wrap64 ((a0.size : Int) - 4) ≤ (a0.size : Int) then
        ((sorrelref01_Take.f k (a0.extract 0 (wrap64 ((a0.size : Int) - 4)).toNat)).bind fun x =>
          if x.2.2 = 0 then (if x.1 > 4096 then some ([], 90) else sorrelref09_Take.l0 k (a0.extract 0 (wrap64 ((a0.size : Int) - 4)).toNat) x.1 x.2.1 [] (⟨#[]⟩ : ByteArray) 0) else some ([], 90))
      else none)
    else none)
  else some ([], 90)
set_option maxHeartbeats 8000000 in
set_option maxRecDepth 100000 in
theorem sorrelref09_Take.calls (k : Nat) (a0 : ByteArray) (r1 : List S43) (r2 : Int) (w : World) (h : sorrelref09_Take.f k a0 = some (r1, r2)) :
    Calls Try.prog 58 #[.string a0] w fun e w' => ∃ v0_ : Value, e = .returned (.tuple #[v0_, .int .i64 r2]) ∧ Kd.R k43 43 w' w.heap.size (fun _ => True) v0_ r1 ∧ Below w.heap.size w w' := by
  unfold sorrelref09_Take.f at h
  obtain ⟨c, hA, h⟩ := Option.bind_eq_some_iff.mp h
  have A1 := Aside0.mk hA
  clear hA
  cases c with
  | false =>
    rw [if_neg (by decide)] at h; simp only [Option.some.injEq, Prod.mk.injEq] at h; obtain ⟨rfl, rfl⟩ := h; go_enter Try.func58, Try.ntmps58
    go_wp2_with (go_at_call 94; (refine (sorrelref02_Check.calls k a0 false _ A1.out).mono ?_); rintro e w1 ⟨rfl, hb1⟩; have HB1 := Aside0.mk hb1; clear hb1)
    go_ret2; exact ⟨_, rfl, Kd.R_nil _ _ _ _ _, HB1.out⟩
  | true =>
    rw [if_pos rfl] at h; obtain ⟨ji, hji⟩ : ∃ j_ : Int, wrap64 ((a0.size : Int) - 4) = j_ := ⟨_, rfl⟩; rw [hji] at h; have hjiw : IntKind.i64.wrap ((a0.size : Int) - 4) = ji := (i64_w _).trans hji
    by_cases c2 : 0 ≤ ji
    · rw [if_pos c2] at h
      by_cases c3 : ji ≤ (a0.size : Int)
      · rw [if_pos c3] at h; have p2 := eq_true c2; have p3 := eq_true c3; have p2b : decide (0 ≤ ji) = true := decide_eq_true c2; have p3b : decide (ji ≤ (a0.size : Int)) = true := decide_eq_true c3; obtain ⟨S, hS⟩ : ∃ S, a0.extract 0 ji.toNat = S := ⟨_, rfl⟩; rw [hS] at h; obtain ⟨⟨n, p, e⟩, hN, h⟩ := Option.bind_eq_some_iff.mp h; dsimp only at h; have A2 := Aside0.mk hN; clear hN c2 c3
        by_cases c4 : e = 0
        · rw [if_pos c4] at h; subst c4
          by_cases c5 : n > 4096
          · rw [if_pos c5] at h; have c5b : decide (4096 < n) = true := decide_eq_true c5; clear c5; simp only [Option.some.injEq, Prod.mk.injEq] at h; obtain ⟨rfl, rfl⟩ := h; go_enter Try.func58, Try.ntmps58
            go_wp2_with (first | (go_at_call 94; (refine (sorrelref02_Check.calls k a0 true _ A1.out).mono ?_); rintro e w1 ⟨rfl, hb1⟩; have HB1 := Aside0.mk hb1; clear hb1) | (go_at_call 92; (refine (sorrelref01_Take.calls k S n p _ _ A2.out).mono ?_); rintro e w2 ⟨rfl, ⟨nd, rfl⟩⟩))
            go_ret2; exact ⟨_, rfl, Kd.R_nil _ _ _ _ _, (by repeat (first | (with_reducible first | exact HB1.out | apply below_alloc | apply pw_below_drewN | apply below_drew1) | exact HB1.out))⟩
          · rw [if_neg c5] at h; have c5b : decide (4096 < n) = false := decide_eq_false c5; clear c5; have H' := Aside0.mk h; clear h; go_enter Try.func58, Try.ntmps58
            go_wp2_with (first | (go_at_call 94; (refine (sorrelref02_Check.calls k a0 true _ A1.out).mono ?_); rintro e w1 ⟨rfl, hb1⟩; have HB1 := Aside0.mk hb1; clear hb1) | (go_at_call 92; (refine (sorrelref01_Take.calls k S n p _ _ A2.out).mono ?_); rintro e w2 ⟨rfl, ⟨nd, rfl⟩⟩))
            go_loopg [5, 7, 8, 9] k (fun kq v5 v7 v8 v9 w' => ∃ (p : Int) (out : List S43) (last : ByteArray) (i : Int), v5 = .int .i64 p ∧ v8 = .string last ∧ v9 = .int .i64 i ∧ Aside0 (sorrelref09_Take.l0 kq S n p out last i = some (r1, r2)) ∧ Aside0 (kq ≤ k) ∧ Aside0 (Kd.R k43 43 w' w.heap.size (fun _ => True) v7 out) ∧ Aside0 (Below w.heap.size w w'))
            case atStart => exact ⟨_, [], _, 0, rfl, rfl, rfl, H', ⟨Nat.le_refl _⟩, ⟨Kd.R_nil _ _ _ _ _⟩, ⟨(by repeat (first | (with_reducible first | exact HB1.out | apply below_alloc | apply pw_below_drewN | apply below_drew1) | exact HB1.out))⟩⟩
            case round =>
              clear H'; obtain ⟨p, out, last, i, rfl, rfl, rfl, HA, HKQ, HO, HB⟩ := hrel
              cases gk with
              | zero => exact absurd HA.out (by simp [sorrelref09_Take.l0])
              | succ k1 =>
                have H := HA.out; clear HA; simp only [sorrelref09_Take.l0] at H
                by_cases ci : i < n
                · rw [if_pos ci] at H; have cib : decide (i < n) = true := decide_eq_true ci; clear ci
                  by_cases c6 : 0 ≤ p
                  · rw [if_pos c6] at H
                    by_cases c7 : p ≤ (S.size : Int)
                    · rw [if_pos c7] at H; have p6 := eq_true c6; have p6b : decide (0 ≤ p) = true := decide_eq_true c6; have p7 := eq_true c7; have p7b : decide (p ≤ (S.size : Int)) = true := decide_eq_true c7; clear c6 c7; obtain ⟨⟨K, V, G, Q, z, ok⟩, hX, H⟩ := Option.bind_eq_some_iff.mp H; dsimp only at hX H; have X1 := Aside0.mk hX; clear hX
                      cases ok with
                      | false =>
                        rw [if_neg (by decide)] at H; simp only [Option.some.injEq, Prod.mk.injEq] at H; obtain ⟨rfl, rfl⟩ := H
                        go_wp2_with (first | (go_at_call 95; (refine (sorrelref09_one.calls k1 (S.extract p.toNat S.size) last K V G Q z _ _ X1.out).mono ?_); rintro e w5 ⟨rfl, hb⟩; have HB2 := Aside0.mk (below_step HB.out hb); have HO2 := Aside0.mk (Kd.R_below HO.out hb); clear hb))
                        go_ret2; exact ⟨_, rfl, Kd.R_nil _ _ _ _ _, (by repeat (first | (with_reducible first | exact HB2.out | apply below_alloc | apply pw_below_drewN | apply below_drew1) | exact HB2.out))⟩
                      | true =>
                        rw [if_pos rfl] at H
                        by_cases c8 : out.length < 2932031007402
                        · rw [if_pos c8] at H; have LM := Aside0.mk c8; have H' := Aside0.mk H; clear H c8
                          go_wp2_with (first | (go_at_call 95; (refine (sorrelref09_one.calls k1 (S.extract p.toNat S.size) last K V G Q z _ _ X1.out).mono ?_); rintro e w5 ⟨rfl, hb⟩; have HB2 := Aside0.mk (below_step HB.out hb); have HO2 := Aside0.mk (Kd.R_below HO.out hb); clear hb) | ((with_reducible refine gate_builtin (b := .append) (xs := #[.tmp 49, .tmp 51]) rfl ?_); at_builtin; refine Kd.R_append k43 (w0 := w) w.heap.size rfl (.tmp 49) (.tmp 51) 22 43 (.agg #[(.string ⟨#[]⟩), (.string ⟨#[]⟩), (.bool false), (.int .i64 0)]) 48 rfl Try.underlying22 info43 rfl (by decide) (by omega) u7 out (⟨K, V, G, Q⟩ : S43) [.string K, .string V, .bool G, .int .i64 Q] (fun _ => True) (fun _ => False) rfl (by first | (go_simp; done) | (go_simp; rfl)) ?aP (fun _ hk => hk.elim) ?aF ?aO ?aB ?aS ?aL ?_; (case aP => exact k43_mkM _ _ _ (⟨K, V, G, Q⟩ : S43)); (case aB => exact (by repeat (first | (with_reducible first | exact HB2.out | apply below_alloc | apply pw_below_drewN | apply below_drew1) | exact HB2.out))); (case aF => exact (fun _ _ => trivial)); (case aO => exact (by (with_reducible repeat (first | apply Kd.R_alloc | apply Kd.R_drewN | apply Kd.R_drew)); exact HO2.out)); (case aS => exact (below_size (by repeat (first | (with_reducible first | exact HB2.out | apply below_alloc | apply pw_below_drewN | apply below_drew1) | exact HB2.out)))); (case aL => have := LM.out; omega); intro v9 w9 ho hb hg hat; have he := blk_grown (g := w5.heap.size) (o := .cells #[.string K, .string V, .bool G, .int .i64 Q] 43 (0, 0)) (heap_alloc_new w5 _) hg (fun e => Nat.lt_irrefl _ (Kd.R_lt HO2.out _ e.symm)); have hy0 := (blk_cell he 0).trans rfl; have HO9 := Aside0.mk ho; have HB9 := Aside0.mk hb; clear ho hb hg hat he))
                          go_roundg k1
                          case measure => have := HKQ.out; omega
                          case rel => exact ⟨_, _, _, _, rfl, rfl, rfl, H', ⟨by have := HKQ.out; omega⟩, HO9, HB9⟩
                        · rw [if_neg c8] at H; exact absurd H (by simp)
                    · rw [if_neg c7] at H; exact absurd H (by simp)
                  · rw [if_neg c6] at H; exact absurd H (by simp)
                · rw [if_neg ci] at H; have cib : decide (i < n) = false := decide_eq_false ci; clear ci
                  by_cases ce : p = (S.size : Int)
                  · rw [if_pos ce] at H; have ce0 : (p == (S.size : Int)) = true := beq_iff_eq.mpr ce; have ce1 : (p != (S.size : Int)) = false := bne_eq_false_iff_eq.mpr ce; obtain ⟨e, hE, H⟩ := Option.bind_eq_some_iff.mp H; have E1 := Aside0.mk hE; clear hE ce; obtain ⟨Ao, co, eo⟩ := Kd.R_slice HO.out; subst eo
                    by_cases c7 : e = 0
                    · rw [if_pos c7] at H; subst c7; simp only [Option.some.injEq, Prod.mk.injEq] at H; obtain ⟨rfl, rfl⟩ := H
                      go_wp2_with (first | (go_at_call 46; (refine (sorrelref09_Check.calls k1 _ _ out _ _ (Kd.R_reads' HO.out).2.2 (Kd.R_reads' HO.out).2.1 E1.out).mono ?_); rintro e w5 ⟨rfl, hbe⟩; have HBE := Aside0.mk hbe; clear hbe))
                      go_ret2; exact ⟨_, rfl, Kd.R_below HO.out HBE.out, below_step HB.out HBE.out⟩
                    · rw [if_neg c7] at H; have c7b : (e == 0) = false := beq_eq_false_iff_ne.mpr c7; have c7c : (e != 0) = true := bne_iff_ne.mpr c7; clear c7; simp only [Option.some.injEq, Prod.mk.injEq] at H; obtain ⟨rfl, rfl⟩ := H
                      go_wp2_with (first | (go_at_call 46; (refine (sorrelref09_Check.calls k1 _ _ out _ _ (Kd.R_reads' HO.out).2.2 (Kd.R_reads' HO.out).2.1 E1.out).mono ?_); rintro e w5 ⟨rfl, hbe⟩; have HBE := Aside0.mk hbe; clear hbe))
                      go_ret2; exact ⟨_, rfl, Kd.R_nil _ _ _ _ _, below_step HB.out HBE.out⟩
                  · rw [if_neg ce] at H; have ce0 : (p == (S.size : Int)) = false := beq_eq_false_iff_ne.mpr ce; have ce1 : (p != (S.size : Int)) = true := bne_iff_ne.mpr ce; clear ce; simp only [Option.some.injEq, Prod.mk.injEq] at H; obtain ⟨rfl, rfl⟩ := H; go_wp2; go_ret2; exact ⟨_, rfl, Kd.R_nil _ _ _ _ _, HB.out⟩
        · rw [if_neg c4] at h; have p4 : (e == 0) = false := beq_eq_false_iff_ne.mpr c4; have p4b : (e != 0) = true := bne_iff_ne.mpr c4; clear c4; simp only [Option.some.injEq, Prod.mk.injEq] at h; obtain ⟨rfl, rfl⟩ := h; go_enter Try.func58, Try.ntmps58
          go_wp2_with (first | (go_at_call 94; (refine (sorrelref02_Check.calls k a0 true _ A1.out).mono ?_); rintro e w1 ⟨rfl, hb1⟩; have HB1 := Aside0.mk hb1; clear hb1) | (go_at_call 92; (refine (sorrelref01_Take.calls k S n p _ _ A2.out).mono ?_); rintro e w2 ⟨rfl, ⟨nd, rfl⟩⟩))
          go_ret2; exact ⟨_, rfl, Kd.R_nil _ _ _ _ _, (by repeat (first | (with_reducible first | exact HB1.out | apply below_alloc | apply pw_below_drewN | apply below_drew1) | exact HB1.out))⟩
      · rw [if_neg c3] at h; exact absurd h (by simp)
    · rw [if_neg c2] at h; exact absurd h (by simp)
end Go.Proofs.Ytlmoafkmhenejaa.XA
