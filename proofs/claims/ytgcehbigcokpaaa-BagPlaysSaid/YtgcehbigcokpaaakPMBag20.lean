import Derived.Test.YtgcehbigcokpaaakPMBag19
namespace Go.Proofs.YtgcehbigcokpaaaW.PrintWords
end Go.Proofs.YtgcehbigcokpaaaW.PrintWords
namespace Go.Proofs.YtgcehbigcokpaaaW.PrintLast
end Go.Proofs.YtgcehbigcokpaaaW.PrintLast
namespace Go.Proofs.YtgcehbigcokpaaaW.PrintMore
end Go.Proofs.YtgcehbigcokpaaaW.PrintMore
namespace Go.Proofs.Ytgcehbigcokpaaa.XW
end Go.Proofs.Ytgcehbigcokpaaa.XW
namespace Go.Proofs.Ytgcehbigcokpaaa.XA
open Go.RowKit Go.Proofs.YtgcehbigcokpaaaW.PrintWords Go.Proofs.YtgcehbigcokpaaaW.PrintLast Go.Proofs.YtgcehbigcokpaaaW.PrintMore Go.Proofs.Ytgcehbigcokpaaa.XW
attribute [local go_sem high] max2_str unary_xor_u32 leq_str geq_str gtr_str
attribute [local go_sem] max2_int min2_int max_two min_two max_three min_three max_four min_four
set_option linter.unusedVariables false
set_option linter.unusedSimpArgs false
theorem wf_i64 {n : Int} (h : (Lit.int .i64 n).wf = true) : -9223372036854775808 ≤ n ∧ n ≤ 9223372036854775807 := by
  simp [Lit.wf, IntKind.min, IntKind.max, IntKind.signed, IntKind.bits] at h
  omega
theorem law_plays (x y : Int) (a1 : Option Addr) (c1 : Nat) (l1 : List S48) {W : World} (hC : Kd.C k48 W a1 l1.length l1) (hl : l1.length ≤ c1)
    (hok : l1.length ≤ maxLen ∧ ∀ z ∈ l1, (Lit.int .i64 z.f0).wf = true ∧ (Lit.int .i64 z.f1).wf = true ∧ (Lit.int .i64 z.f2).wf = true ∧ (Lit.int .i64 z.f3.f0).wf = true ∧ (Lit.int .i64 z.f3.f1).wf = true ∧ z.f3.f2.size ≤ maxLen) :
    Calls Try.prog 4 #[.agg #[.int .i64 x, .int .i64 y], .slice a1 l1.length c1] W fun e w' => e = .returned (.bool true) ∧ Below W.heap.size W w' := by
  by_cases h : x < 1 ∨ 6 < x ∨ y < 1 ∨ 8 < y
  · exact plays_no x y a1 l1.length c1 W h
  · obtain ⟨n, rfl⟩ := Int.eq_ofNat_of_zero_le (show 0 ≤ x by omega)
    obtain ⟨c, rfl⟩ := Int.eq_ofNat_of_zero_le (show 0 ≤ y by omega)
    refine plays_ok n c (by omega) (by omega) (by omega) (by omega) a1 c1 l1 W hC hl (fun z hz => ?_)
    obtain ⟨h0, h1, h2, h3, h4, -⟩ := hok.2 z hz
    exact ⟨wf_i64 h0, wf_i64 h1, wf_i64 h2, (wf_i64 h3).2, (wf_i64 h4).2⟩
end Go.Proofs.Ytgcehbigcokpaaa.XA
