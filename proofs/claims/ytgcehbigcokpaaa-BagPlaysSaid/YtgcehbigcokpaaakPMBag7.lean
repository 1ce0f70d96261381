import Derived.Test.YtgcehbigcokpaaakPMBag6
namespace Go.Proofs.YtgcehbigcokpaaaW.PrintWords
end Go.Proofs.YtgcehbigcokpaaaW.PrintWords
namespace Go.Proofs.YtgcehbigcokpaaaW.PrintLast
end Go.Proofs.YtgcehbigcokpaaaW.PrintLast
namespace Go.Proofs.YtgcehbigcokpaaaW.PrintMore
end Go.Proofs.YtgcehbigcokpaaaW.PrintMore
namespace Go.Proofs.Ytgcehbigcokpaaa.XW
end Go.Proofs.Ytgcehbigcokpaaa.XW
namespace Go.Proofs.Ytgcehbigcokpaaa.XA
open Go.RowKit Go.Proofs.YtgcehbigcokpaaaW.PrintWords Go.Proofs.YtgcehbigcokpaaaW.PrintLast Go.Proofs.YtgcehbigcokpaaaW.PrintMore Go.Proofs.Ytgcehbigcokpaaa.XW
attribute [local go_sem high] max2_str unary_xor_u32 leq_str geq_str gtr_str
attribute [local go_sem] max2_int min2_int max_two min_two max_three min_three max_four min_four
set_option linter.unusedVariables false
set_option linter.unusedSimpArgs false
set_option maxHeartbeats 1600000 in
set_option maxRecDepth 100000 in
theorem twice_no (g b0 : Nat) (ps : List Int) (m : Int → List S30) (pl at_ : Int) (w : World) (hB : Bag w b0 g ps m) (hh : findE ps m pl at_ ≠ 0) :
    Calls Try.prog 9 #[.pointer (some ⟨g, 0, none⟩), .int .i64 pl, .int .i64 at_] w fun e w' => e = .returned (.int .i64 (findE ps m pl at_)) ∧ Below w.heap.size w w' := by
  have HB := Aside0.mk hB
  have q1 : (findE ps m pl at_ == 0) = false := beq_eq_false_iff_ne.mpr hh
  have q2 : (findE ps m pl at_ != 0) = true := bne_iff_ne.mpr hh
  clear hB hh
  generalize hE : findE ps m pl at_ = E at *
  generalize hL : findL ps m pl at_ = L
  go_enter Try.func9, Try.ntmps9
  go_wp2_with (go_at_call 24; go_loud ((refine (find_calls g b0 ps m pl at_ _ HB.out).mono ?_); rintro e w2 ⟨rfl, hb2⟩; rw [hE, hL]; have HB2 := Aside0.mk hb2; clear hb2))
  go_ret
  exact ⟨rfl, below_alloc HB2.out _⟩
end Go.Proofs.Ytgcehbigcokpaaa.XA
