import Derived.Test.YtgcehbigcokpaaaMBag11
import Derived.Test.YtgcehbigcokpaaaVLib
namespace Go.Proofs.Ytgcehbigcokpaaa.XA
open Go.RowKit Go.Proofs.YtgcehbigcokpaaaW.PrintWords Go.Proofs.YtgcehbigcokpaaaW.PrintLast Go.Proofs.YtgcehbigcokpaaaW.PrintMore Go.Proofs.Ytgcehbigcokpaaa.XW
attribute [local go_sem high] max2_str unary_xor_u32 leq_str geq_str gtr_str
attribute [local go_sem] max2_int min2_int max_two min_two max_three min_three max_four min_four
set_option linter.unusedVariables false
set_option linter.unusedSimpArgs false

def xF : S30 := ⟨100, -1, ⟨#[]⟩⟩
def fPs : List Int := [-1, 0, 100]
def mF (c : Nat) : Int → List S30 := upd (fun _ => []) (-1) (List.replicate c xF)
def mG : Int → List S30 := upd (mF 1024) 100 [⟨0, 100, ⟨#[]⟩⟩]
def mH : Int → List S30 := upd mG (-1) []
theorem f_at (c : Nat) : mF c (-1) = List.replicate c xF := upd_same _ _ _
theorem f_len (c : Nat) : (mF c (-1)).length = c := by rw [f_at, List.length_replicate]
theorem upd_upd (m : Int → List S30) (k : Int) (l l' : List S30) : upd (upd m k l) k l' = upd m k l' := by
  funext j
  unfold upd
  split <;> rfl
theorem f_put (c : Nat) : upd (mF c) (-1) (mF c (-1) ++ [xF]) = mF (c + 1) := by
  rw [f_at]
  unfold mF
  rw [upd_upd, ← List.replicate_succ']
theorem f_h1 : hasL fPs [100, -1] = true := by decide
theorem f_h2 : hasL fPs [0, 100] = true := by decide
theorem f_h3 : hasL fPs [-1] = true := by decide
theorem f_s : (⟨#[]⟩ : ByteArray).size ≤ 262144 := by decide
theorem f_g0 : (mF 1024 100).length < 1024 := by
  have : mF 1024 100 = [] := upd_other _ _ (by decide)
  rw [this]; decide
theorem f_g : upd (mF 1024) 100 (mF 1024 100 ++ [⟨0, 100, ⟨#[]⟩⟩]) = mG := by
  have : mF 1024 100 = [] := upd_other _ _ (by decide)
  rw [this]; rfl
theorem f_e5 (c : Nat) (h : 5 < c) : findE fPs (mF c) (-1) 5 = 0 := by
  unfold findE
  rw [f_len, if_neg (by rw [f_h3]; decide), if_neg (by omega)]
theorem f_l5 (c : Nat) (h : 5 < c) : findL fPs (mF c) (-1) 5 = xF := by
  unfold findL
  rw [if_pos (f_e5 c h), f_at]
  unfold rd_T30
  rw [List.getD_eq_getElem?_getD, List.getElem?_replicate, if_pos (show Int.toNat 5 < c from h)]; rfl
theorem f_e2000 : findE fPs (mF 1024) (-1) 2000 = 3 := by
  unfold findE
  rw [f_len, if_neg (by rw [f_h3]; decide), if_pos (by omega)]
set_option maxHeartbeats 6400000 in
set_option maxRecDepth 100000 in
theorem full_calls (more : Int) (r : Nat) (hr : r ≤ 3) (he : Go.bits .and .i64 more 3 = (r : Int)) (w : World) :
    Calls Try.prog 5 #[.int .i64 more] w fun e w' => e = .returned (.bool true) ∧ Below w.heap.size w w' := by
  obtain ⟨n, hn⟩ : ∃ n, n = 1023 + r := ⟨_, rfl⟩
  have hw : wrap64 (1023 + (r : Int)) = (n : Int) := by unfold wrap64; omega
  have hw2 : IntKind.i64.wrap (1023 + (r : Int)) = (n : Int) := (i64_w _).trans hw
  have HN : Aside0 (1023 ≤ n ∧ n ≤ 1026) := ⟨by omega⟩
  clear hr hn
  go_enter Try.func5, Try.ntmps5
  go_wp2_with (go_at_call 7; go_loud ((refine (new_lit 1 1 1 1 fPs _ rfl rfl rfl (by decide) (by decide) (by decide) (by decide)).mono ?_); rintro e w1 ⟨rfl, hB, hb⟩; have HB1 := Aside0.mk hB; have HL1 := Aside0.mk hb; clear hB hb))
  go_loopg [6] n (fun kq v6 w' => ∃ i : Nat, v6 = .int .i64 (i : Int) ∧ Aside0 (i + kq = n) ∧ Aside0 (Bag w' w.heap.size (w.heap.size + 2) fPs (mF (min i 1024))) ∧ Aside0 (Below w.heap.size w w'))
  case atStart =>
    have h0 : mF (min 0 1024) = (fun _ => []) := by
      funext j
      unfold mF upd
      split <;> rfl
    exact ⟨0, rfl, ⟨Nat.zero_add _⟩, ⟨by rw [h0]; exact HB1.out⟩, HL1⟩
  case round =>
    clear HB1 HL1
    obtain ⟨i, rfl, HI, HB, HL⟩ := hrel
    have hI := HI.out
    have hn := HN.out
    cases gk with
    | zero =>
      obtain rfl : i = n := by omega
      by_cases c : i < 1024
      · obtain rfl : i = 1023 := by omega
        have HBx : Aside0 (Bag wr w.heap.size (w.heap.size + 2) fPs (mF 1023)) := ⟨HB.out⟩
        clear HB hI hn c
        have HB := HBx
        clear HBx
        go_wp2_with (first | (go_at_call 12; go_loud ((refine (awake_calls _).mono ?_); rintro e w20 ⟨rfl, hb⟩; have HL20 := Aside0.mk (below_then HL14.out HL14.out.size hb); clear hb)) | (go_at_call 10; go_loud ((refine (waits_calls (w.heap.size + 2) w.heap.size fPs mH (-1) _ HB14.out).mono ?_); rintro e w15 ⟨he, rfl⟩; have he' : e = .returned (.int .i64 0) := he; subst he'; clear he)) | (go_at_call 20; go_loud ((refine (clear_ok (w.heap.size + 2) w.heap.size fPs mG (-1) _ HB13.out HL13.out.size f_h3).mono ?_); rintro e w14 ⟨rfl, hB, hb, -⟩; have HB14 : Aside0 (Bag w14 w.heap.size (w.heap.size + 2) fPs mH) := ⟨hB⟩; have HL14 := Aside0.mk (HL13.out.trans hb); clear hB hb)) | (go_at_call 8; go_loud ((refine (put_lit (w.heap.size + 2) w.heap.size fPs (mF 1024) mG 0 100 ⟨#[]⟩ _ HB12.out HL12.out.size f_h2 f_s f_g0 f_g).mono ?_); rintro e w13 ⟨rfl, hB, hb, -⟩; have HB13 := Aside0.mk hB; have HL13 := Aside0.mk (HL12.out.trans hb); clear hB hb)) | (go_at_call 9; go_loud ((refine (twice_no (w.heap.size + 2) w.heap.size fPs (mF 1024) (-1) 2000 _ HB11.out (by rw [f_e2000]; decide)).mono ?_); rintro e w12 ⟨he, hb⟩; rw [f_e2000] at he; subst he; have HB12 := Aside0.mk (HB11.out.below hb); have HL12 := Aside0.mk (below_then HL11.out HL11.out.size hb); clear hb)) | (go_at_call 10; go_loud ((refine (waits_calls (w.heap.size + 2) w.heap.size fPs (mF 1024) (-1) _ HB11.out).mono ?_); rintro e w11 ⟨he, rfl⟩; rw [f_len] at he; have he' : e = .returned (.int .i64 1024) := he; subst he'; clear he)) | (go_at_call 9; go_loud ((refine (twice_ok (w.heap.size + 2) w.heap.size fPs (mF 1023) (-1) 5 _ HB.out HL.out.size (f_e5 1023 (by omega)) (by rw [f_len]; omega)).mono ?_); rintro e w10 ⟨rfl, hB, hb, -⟩; rw [f_l5 1023 (by omega), f_put] at hB; have HB11 := Aside0.mk hB; have HL11 := Aside0.mk (HL.out.trans hb); clear hB hb)))
        go_ret
        exact ⟨rfl, HL20.out⟩
      · have HBx : Aside0 (Bag wr w.heap.size (w.heap.size + 2) fPs (mF 1024)) := ⟨by have h := HB.out; rw [Nat.min_eq_right (by omega)] at h; exact h⟩
        have c1 : decide ((i : Int) < 1024) = false := decide_eq_false (by omega)
        have c2 : decide (i < 1024) = false := decide_eq_false c
        clear HB hI hn c
        have HB := HBx
        clear HBx
        go_wp2_with (first | (go_at_call 12; go_loud ((refine (awake_calls _).mono ?_); rintro e w20 ⟨rfl, hb⟩; have HL20 := Aside0.mk (below_then HL14.out HL14.out.size hb); clear hb)) | (go_at_call 10; go_loud ((refine (waits_calls (w.heap.size + 2) w.heap.size fPs mH (-1) _ HB14.out).mono ?_); rintro e w15 ⟨he, rfl⟩; have he' : e = .returned (.int .i64 0) := he; subst he'; clear he)) | (go_at_call 20; go_loud ((refine (clear_ok (w.heap.size + 2) w.heap.size fPs mG (-1) _ HB13.out HL13.out.size f_h3).mono ?_); rintro e w14 ⟨rfl, hB, hb, -⟩; have HB14 : Aside0 (Bag w14 w.heap.size (w.heap.size + 2) fPs mH) := ⟨hB⟩; have HL14 := Aside0.mk (HL13.out.trans hb); clear hB hb)) | (go_at_call 8; go_loud ((refine (put_lit (w.heap.size + 2) w.heap.size fPs (mF 1024) mG 0 100 ⟨#[]⟩ _ HB12.out HL12.out.size f_h2 f_s f_g0 f_g).mono ?_); rintro e w13 ⟨rfl, hB, hb, -⟩; have HB13 := Aside0.mk hB; have HL13 := Aside0.mk (HL12.out.trans hb); clear hB hb)) | (go_at_call 9; go_loud ((refine (twice_no (w.heap.size + 2) w.heap.size fPs (mF 1024) (-1) 2000 _ HB11.out (by rw [f_e2000]; decide)).mono ?_); rintro e w12 ⟨he, hb⟩; rw [f_e2000] at he; subst he; have HB12 := Aside0.mk (HB11.out.below hb); have HL12 := Aside0.mk (below_then HL11.out HL11.out.size hb); clear hb)) | (go_at_call 10; go_loud ((refine (waits_calls (w.heap.size + 2) w.heap.size fPs (mF 1024) (-1) _ HB11.out).mono ?_); rintro e w11 ⟨he, rfl⟩; rw [f_len] at he; have he' : e = .returned (.int .i64 1024) := he; subst he'; clear he)) | (go_at_call 9; go_loud ((refine (twice_full (w.heap.size + 2) w.heap.size fPs (mF 1024) (-1) 5 _ HB.out (f_e5 1024 (by omega)) (by rw [f_len]; exact Nat.le_refl _)).mono ?_); rintro e w10 ⟨rfl, hb⟩; have HB11 := Aside0.mk (HB.out.below hb); have HL11 := Aside0.mk (below_then HL.out HL.out.size hb); clear hb)))
        go_ret
        exact ⟨rfl, HL20.out⟩
    | succ k1 =>
      have c1b : decide ((i : Int) < (n : Int)) = true := decide_eq_true (by omega)
      have c1n : decide (i < n) = true := decide_eq_true (by omega)
      have HW : Aside0 (wrap64 ((i : Int) + 1) = ((i + 1 : Nat) : Int)) := ⟨by unfold wrap64; omega⟩
      have HI2 : Aside0 (i + 1 + k1 = n) := ⟨by omega⟩
      by_cases c : i < 1024
      · have c1 : decide ((i : Int) < 1024) = true := decide_eq_true (by omega)
        have c2 : decide (i < 1024) = true := decide_eq_true c
        have HBx : Aside0 (Bag wr w.heap.size (w.heap.size + 2) fPs (mF i)) := ⟨by have h := HB.out; rw [Nat.min_eq_left (by omega)] at h; exact h⟩
        have HR : Aside0 ((mF i (-1)).length < 1024) := ⟨by rw [f_len]; exact c⟩
        have HM : Aside0 (mF (i + 1) = mF (min (i + 1) 1024)) := ⟨by rw [Nat.min_eq_left (by omega)]⟩
        clear HB hI hn c
        go_wp2_with (go_at_call 8; go_loud ((refine (put_lit (w.heap.size + 2) w.heap.size fPs (mF i) (mF (i + 1)) 100 (-1) ⟨#[]⟩ _ HBx.out HL.out.size f_h1 f_s HR.out (f_put i)).mono ?_); rintro e w2 ⟨rfl, hB, hb, -⟩; rw [HM.out] at hB; have HB2 := Aside0.mk hB; have HL2 := Aside0.mk (HL.out.trans hb); clear hB hb))
        go_roundg k1
        case measure => omega
        case rel => exact ⟨i + 1, by rw [HW.out], HI2, HB2, HL2⟩
      · have c1 : decide ((i : Int) < 1024) = false := decide_eq_false (by omega)
        have c2 : decide (i < 1024) = false := decide_eq_false c
        have HR : Aside0 (1024 ≤ (mF (min i 1024) (-1)).length) := ⟨by rw [f_len]; omega⟩
        have HM : Aside0 (mF (min i 1024) = mF (min (i + 1) 1024)) := ⟨by rw [Nat.min_eq_right (by omega), Nat.min_eq_right (by omega)]⟩
        clear hI hn c
        go_wp2_with (go_at_call 8; go_loud ((refine (put_full (w.heap.size + 2) w.heap.size fPs (mF (min i 1024)) 100 (-1) ⟨#[]⟩ _ HB.out f_h1 f_s HR.out).mono ?_); rintro e w2 ⟨rfl, hb⟩; have hB := HB.out.below hb; rw [HM.out] at hB; have HB2 := Aside0.mk hB; have HL2 := Aside0.mk (below_then HL.out HL.out.size hb); clear hB hb))
        go_roundg k1
        case measure => omega
        case rel => exact ⟨i + 1, by rw [HW.out], HI2, HB2, HL2⟩
theorem law_full {P : Prop} (x0 : Int) (_ : P) (W : World) : Calls Try.prog 5 #[.int .i64 x0] W fun e w' => e = .returned (.bool true) ∧ Below W.heap.size W w' := by
  obtain ⟨r, hr, e⟩ := VLib.and_small x0 3 (by decide)
  exact full_calls x0 r (by omega) e W
end Go.Proofs.Ytgcehbigcokpaaa.XA
