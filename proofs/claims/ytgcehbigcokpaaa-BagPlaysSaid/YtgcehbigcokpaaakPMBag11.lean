import Derived.Test.YtgcehbigcokpaaakPXAx1
import Derived.Test.YtgcehbigcokpaaakPMBag10
namespace Go.Proofs.YtgcehbigcokpaaaW.PrintWords
end Go.Proofs.YtgcehbigcokpaaaW.PrintWords
namespace Go.Proofs.YtgcehbigcokpaaaW.PrintLast
end Go.Proofs.YtgcehbigcokpaaaW.PrintLast
namespace Go.Proofs.YtgcehbigcokpaaaW.PrintMore
end Go.Proofs.YtgcehbigcokpaaaW.PrintMore
namespace Go.Proofs.Ytgcehbigcokpaaa.XW
end Go.Proofs.Ytgcehbigcokpaaa.XW
namespace Go.Proofs.Ytgcehbigcokpaaa.XA
open Go.RowKit Go.Proofs.YtgcehbigcokpaaaW.PrintWords Go.Proofs.YtgcehbigcokpaaaW.PrintLast Go.Proofs.YtgcehbigcokpaaaW.PrintMore Go.Proofs.Ytgcehbigcokpaaa.XW
attribute [local go_sem high] max2_str unary_xor_u32 leq_str geq_str gtr_str
attribute [local go_sem] max2_int min2_int max_two min_two max_three min_three max_four min_four
set_option linter.unusedVariables false
set_option linter.unusedSimpArgs false
theorem new_lit (n c : Nat) (a b : Int) (ps : List Int) (w : World) (ha : (n : Int) = a) (hb : (c : Int) = b) (hp : placesL n c = ps) (h1 : 1 ≤ n) (h2 : n ≤ 6) (h3 : 1 ≤ c) (h4 : c ≤ 8) :
    Calls Try.prog 7 #[.int .i64 a, .int .i64 b] w fun e w' => e = .returned (.tuple #[.pointer (some ⟨w.heap.size + 2, 0, none⟩), .int .i64 0]) ∧ Bag w' w.heap.size (w.heap.size + 2) ps (fun _ => []) ∧ Below w.heap.size w w' := by
  subst ha; subst hb; subst hp
  exact new_ok n c w h1 h2 h3 h4
theorem take_lit (g b0 : Nat) (ps : List Int) (m m' : Int → List S30) (pl at_ : Int) (i : Nat) (L : S30) (w : World) (ha : (i : Int) = at_) (hB : Bag w b0 g ps m) (hb0 : b0 ≤ w.heap.size) (hh : findE ps m pl at_ = 0) (hL : findL ps m pl at_ = L) (hm : upd m pl ((m pl).take i ++ (m pl).drop (i + 1)) = m') (hi : i < (m pl).length) (hn : (m pl).length ≤ 2000) :
    Calls Try.prog 11 #[.pointer (some ⟨g, 0, none⟩), .int .i64 pl, .int .i64 at_] w fun e w' => e = .returned (.tuple #[.agg #[.int .i64 L.f0, .int .i64 L.f1, .string L.f2], .int .i64 0]) ∧ Bag w' b0 g ps m' ∧ Below b0 w w' ∧ BFr w w' ∧ ∀ k o, w.heap[k]? = some o → NotIn w g k → w'.heap[k]? = some o := by
  subst ha; subst hL; subst hm
  exact take_ok g b0 ps m pl i w hB hb0 hh hi hn
theorem put_lit (g b0 : Nat) (ps : List Int) (m m' : Int → List S30) (fr pl : Int) (tx : ByteArray) (w : World) (hB : Bag w b0 g ps m) (hb0 : b0 ≤ w.heap.size) (hh : hasL ps [fr, pl] = true) (hs : tx.size ≤ 262144) (hroom : (m pl).length < 1024) (hm : upd m pl (m pl ++ [⟨fr, pl, tx⟩]) = m') :
    Calls Try.prog 8 #[.pointer (some ⟨g, 0, none⟩), .agg #[.int .i64 fr, .int .i64 pl, .string tx]] w fun e w' => e = .returned (.int .i64 0) ∧ Bag w' b0 g ps m' ∧ Below b0 w w' ∧ BFr w w' := by
  subst hm
  exact put_ok g b0 ps m fr pl tx w hB hb0 hh hs hroom
def aA : S30 := ⟨-1, 0, ⟨#[97]⟩⟩
def aB : S30 := ⟨100, 0, ⟨#[98]⟩⟩
def aPs : List Int := [-1, 0, 1, 100]
def am1 : Int → List S30 := upd (fun _ => []) 0 [aA]
def am2 : Int → List S30 := upd am1 0 [aA, aB]
def am3 : Int → List S30 := upd am2 0 [aA]
def am4 : Int → List S30 := upd am3 0 []
theorem a_h1 : hasL aPs [-1, 0] = true := by decide
theorem a_h2 : hasL aPs [100, 0] = true := by decide
theorem a_s1 : (⟨#[97]⟩ : ByteArray).size ≤ 262144 := by decide
theorem a_s2 : (⟨#[98]⟩ : ByteArray).size ≤ 262144 := by decide
theorem a_l0 : ((fun _ => [] : Int → List S30) 0).length < 1024 := by decide
theorem a_l1 : (am1 0).length < 1024 := by decide
theorem a_m1 : upd (fun _ => []) 0 ((fun _ => [] : Int → List S30) 0 ++ [⟨-1, 0, ⟨#[97]⟩⟩]) = am1 := rfl
theorem a_m2 : upd am1 0 (am1 0 ++ [⟨100, 0, ⟨#[98]⟩⟩]) = am2 := rfl
theorem a_e1 : findE aPs am2 0 1 = 0 := by decide
theorem a_e2 : findE aPs am3 0 0 = 0 := by decide
theorem a_f1 : findL aPs am2 0 1 = aB := by unfold findL; rw [a_e1]; rfl
theorem a_f2 : findL aPs am3 0 0 = aA := by unfold findL; rw [a_e2]; rfl
theorem a_m3 : upd am2 0 ((am2 0).take 1 ++ (am2 0).drop 2) = am3 := rfl
theorem a_m4 : upd am3 0 ((am3 0).take 0 ++ (am3 0).drop 1) = am4 := rfl
theorem a_w2 : ((am2 0).length : Int) = 2 := rfl
theorem a_w4 : ((am4 0).length : Int) = 0 := rfl
set_option maxHeartbeats 6400000 in
set_option maxRecDepth 100000 in
theorem awake_calls (w : World) : Calls Try.prog 12 #[] w fun e w' => e = .returned (.bool true) ∧ Below w.heap.size w w' := by
  have HS : Aside0 (sorrelref01_SameInts.f 100 aPs aPs = some true) := ⟨by kernel_rfl⟩
  go_enter Try.func12, Try.ntmps12
  go_wp2_with (first | (go_at_call 14; go_loud ((refine (sorrelref01_SameInts.calls 100 _ _ aPs _ 4 aPs true _ HC9.out HC9l.out HR9.out (Nat.le_refl 4) HS.out).mono ?_); rintro e w9 ⟨rfl, ⟨nd, rfl⟩⟩)) | (go_at_call 15; go_loud ((refine (places_calls (w.heap.size + 2) w.heap.size aPs am4 _ HB6.out (by decide)).mono ?_); rintro e w8 ⟨v8, rfl, ho, hb⟩; obtain ⟨A8, c8, hv, hl, hC⟩ := Kd.R_reads ho; subst hv; have HB8 := Aside0.mk hb; have HL8 := Aside0.mk (below_step HL6.out hb); have HC8 := Aside0.mk hC; have HC8l := Aside0.mk hl; have hz := heap_alloc_new w8 (.cells #[.int .i64 (-1), .int .i64 0, .int .i64 1, .int .i64 100] 3); have HR9 := Aside0.mk (ints_row _ _ aPs _ _ rfl (show 4 ≤ 1000 by decide) hz); have HC9 := Aside0.mk (Kd.C_alloc hC (.cells #[.int .i64 (-1), .int .i64 0, .int .i64 1, .int .i64 100] 3)); have HC9l := Aside0.mk hl; clear ho hb hC hl hz)) | (go_at_call 10; go_loud ((refine (waits_calls (w.heap.size + 2) w.heap.size aPs am4 0 _ HB6.out).mono ?_); rintro e w7 ⟨he, rfl⟩; rw [a_w4] at he; subst he)) | (go_at_call 11; go_loud ((refine (take_lit (w.heap.size + 2) w.heap.size aPs am3 am4 0 0 0 aA _ rfl HB5b.out HL5b.out.size a_e2 a_f2 a_m4 (by decide) (by decide)).mono ?_); rintro e w6 ⟨he, hB, hb, -, hNI⟩; have he' : e = .returned (.tuple #[.agg #[.int .i64 (-1), .int .i64 0, .string ⟨#[97]⟩], .int .i64 0]) := he; subst he'; have HL6a := Aside0.mk (HL5b.out.trans hb); have hx6 := blk_alloc (hNI _ _ HX5.out HNI5.out) (.cells #[.int .i64 (-1), .int .i64 0, .string ⟨#[97]⟩] 30); have HX6 := Aside0.mk hx6; have u0 := (blk_cell hx6 0).trans rfl; have u1 := (blk_cell hx6 1).trans rfl; have u2 := (blk_cell hx6 2).trans rfl; clear hx6 hNI; have HB6 := Aside0.mk (hB.below (below_alloc (Below.refl w6.heap.size w6) (.cells #[.int .i64 (-1), .int .i64 0, .string ⟨#[97]⟩] 30))); have HL6 := Aside0.mk (below_alloc HL6a.out (.cells #[.int .i64 (-1), .int .i64 0, .string ⟨#[97]⟩] 30)); clear he hB hb)) | (go_at_call 11; go_loud ((refine (take_lit (w.heap.size + 2) w.heap.size aPs am2 am3 0 1 1 aB _ rfl HB3.out HL3.out.size a_e1 a_f1 a_m3 (by decide) (by decide)).mono ?_); rintro e w5 ⟨he, hB, hb, -, -⟩; have he' : e = .returned (.tuple #[.agg #[.int .i64 100, .int .i64 0, .string ⟨#[98]⟩], .int .i64 0]) := he; subst he'; have HL5 := Aside0.mk (HL3.out.trans hb); have HNI5 := Aside0.mk (hB.not_new (.cells #[.int .i64 100, .int .i64 0, .string ⟨#[98]⟩] 30)); have HX5 := Aside0.mk (heap_alloc_new w5 (.cells #[.int .i64 100, .int .i64 0, .string ⟨#[98]⟩] 30)); have HB5b := Aside0.mk (hB.below (below_alloc (Below.refl w5.heap.size w5) (.cells #[.int .i64 100, .int .i64 0, .string ⟨#[98]⟩] 30))); have HL5b := Aside0.mk (below_alloc HL5.out (.cells #[.int .i64 100, .int .i64 0, .string ⟨#[98]⟩] 30)); clear he hB hb)) | (go_at_call 10; go_loud ((refine (waits_calls (w.heap.size + 2) w.heap.size aPs am2 0 w3 HB3.out).mono ?_); rintro e w4 ⟨he, rfl⟩; rw [a_w2] at he; subst he)) | (go_at_call 8; go_loud ((refine (put_lit (w.heap.size + 2) w.heap.size aPs am1 am2 100 0 ⟨#[98]⟩ w2 HB2.out HL2.out.size a_h2 a_s2 a_l1 a_m2).mono ?_); rintro e w3 ⟨rfl, hB, hb, -⟩; have HB3 := Aside0.mk hB; have HL3 := Aside0.mk (HL2.out.trans hb); clear hB hb)) | (go_at_call 8; go_loud ((refine (put_lit (w.heap.size + 2) w.heap.size aPs (fun _ => []) am1 (-1) 0 ⟨#[97]⟩ w1 HB1.out HL1.out.size a_h1 a_s1 a_l0 a_m1).mono ?_); rintro e w2 ⟨rfl, hB, hb, -⟩; have HB2 := Aside0.mk hB; have HL2 := Aside0.mk (HL1.out.trans hb); clear hB hb)) | (go_at_call 7; go_loud ((refine (new_lit 2 1 2 1 aPs _ rfl rfl rfl (by decide) (by decide) (by decide) (by decide)).mono ?_); rintro e w1 ⟨rfl, hB, hb⟩; have HB1 := Aside0.mk hB; have HL1 := Aside0.mk hb; clear hB hb)))
  go_ret
  exact ⟨rfl, by repeat (first | (with_reducible first | exact HL8.out | apply below_alloc | apply pw_below_drewN | apply below_drew1) | exact HL8.out)⟩
end Go.Proofs.Ytgcehbigcokpaaa.XA
