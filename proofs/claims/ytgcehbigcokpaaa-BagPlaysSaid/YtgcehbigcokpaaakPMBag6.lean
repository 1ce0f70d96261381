import Derived.Test.YtgcehbigcokpaaakPMBag5
namespace Go.Proofs.YtgcehbigcokpaaaW.PrintWords
end Go.Proofs.YtgcehbigcokpaaaW.PrintWords
namespace Go.Proofs.YtgcehbigcokpaaaW.PrintLast
end Go.Proofs.YtgcehbigcokpaaaW.PrintLast
namespace Go.Proofs.YtgcehbigcokpaaaW.PrintMore
end Go.Proofs.YtgcehbigcokpaaaW.PrintMore
namespace Go.Proofs.Ytgcehbigcokpaaa.XW
end Go.Proofs.Ytgcehbigcokpaaa.XW
namespace Go.Proofs.Ytgcehbigcokpaaa.XA
open Go.RowKit Go.Proofs.YtgcehbigcokpaaaW.PrintWords Go.Proofs.YtgcehbigcokpaaaW.PrintLast Go.Proofs.YtgcehbigcokpaaaW.PrintMore Go.Proofs.Ytgcehbigcokpaaa.XW
attribute [local go_sem high] max2_str unary_xor_u32 leq_str geq_str gtr_str
attribute [local go_sem] max2_int min2_int max_two min_two max_three min_three max_four min_four
set_option linter.unusedVariables false
set_option linter.unusedSimpArgs false
def z30_ : S30 := ⟨0, 0, ⟨#[]⟩⟩
def findE (ps : List Int) (m : Int → List S30) (pl at_ : Int) : Int := if hasL ps [pl] = false then 1 else if at_ < 0 ∨ ((m pl).length : Int) ≤ at_ then 3 else 0
def findL (ps : List Int) (m : Int → List S30) (pl at_ : Int) : S30 := if findE ps m pl at_ = 0 then rd_T30 (m pl) at_ else z30_
theorem put3 {W : World} {g : Nat} {t : TypeId} {c0 c1 c2 x0 x1 x2 : Value} (h : W.heap[g]? = some (.cells #[c0, c1, c2] t (0, 0))) : (((W.setCell ⟨g, 0, none⟩ x0).setCell ⟨g, 1, none⟩ x1).setCell ⟨g, 2, none⟩ x2).heap[g]? = some (.cells #[x0, x1, x2] t (0, 0)) :=
  blk_put (blk_put (blk_put h 0 x0 rfl) 1 x1 rfl) 2 x2 rfl
set_option maxHeartbeats 3200000 in
set_option maxRecDepth 100000 in
theorem find_calls (g b0 : Nat) (ps : List Int) (m : Int → List S30) (pl at_ : Int) (w : World) (hB : Bag w b0 g ps m) :
    Calls Try.prog 24 #[.pointer (some ⟨g, 0, none⟩), .int .i64 pl, .int .i64 at_] w fun e w' => e = .returned (.tuple #[.agg #[.int .i64 (findL ps m pl at_).f0, .int .i64 (findL ps m pl at_).f1, .string (findL ps m pl at_).f2], .int .i64 (findE ps m pl at_)]) ∧ Below w.heap.size w w' := by
  have HB0 := Aside0.mk (below_alloc (below_alloc (Below.refl w.heap.size w) (.cells #[.int .i64 0, .int .i64 0, .string ⟨#[]⟩] 30)) (.cells #[.int .i64 pl] 3))
  have HB := Aside0.mk (hB.below HB0.out)
  have hn := heap_alloc_new (w.alloc (.cells #[.int .i64 0, .int .i64 0, .string ⟨#[]⟩] 30)) (.cells #[.int .i64 pl] 3)
  rw [show (w.alloc (.cells #[.int .i64 0, .int .i64 0, .string ⟨#[]⟩] 30)).heap.size = w.heap.size + 1 from by simp] at hn
  have HR := Aside0.mk (ints_row _ _ [pl] _ _ rfl (show 1 ≤ 1000 by decide) hn)
  have HK := Aside0.mk (blk_alloc (heap_alloc_new w (.cells #[.int .i64 0, .int .i64 0, .string ⟨#[]⟩] 30)) (.cells #[.int .i64 pl] 3))
  obtain ⟨q, V, hg, -, -, -, hM⟩ := hB
  obtain ⟨v, hL, hVN⟩ := hM.look (P := Try.prog) Try.underlying58 Try.underlying3 zero39 pl
  obtain ⟨A, c, hv, hlc, hC⟩ := Kd.R_reads hL.2.1
  subst hv
  have HL := Aside0.mk hL
  have HG := Aside0.mk hg
  have HC := Aside0.mk hC
  clear hn hg hM hL hlc hC
  cases hh : hasL ps [pl] with
  | false =>
    have he : findE ps m pl at_ = 1 := if_pos hh
    have hl : findL ps m pl at_ = z30_ := by unfold findL; rw [he]; rfl
    rw [he, hl]
    clear he hl
    go_enter Try.func24, Try.ntmps24
    go_wp2_with (go_at_call 23; go_loud ((refine (has1_of g b0 ps m _ pl _ HB.out HR.out).mono ?_); rintro e w2 ⟨rfl, hb2⟩; rw [hh]; have HB2 := Aside0.mk (below_step HB0.out hb2); have hk := blk_below HK.out hb2; have HKw := Aside0.mk hk; have x0 : w2.cell? ⟨w.heap.size, 0, none⟩ = some (.int .i64 0) := (blk_cell hk 0).trans rfl; have x1 : w2.cell? ⟨w.heap.size, 1, none⟩ = some (.int .i64 0) := (blk_cell hk 1).trans rfl; have x2 : w2.cell? ⟨w.heap.size, 2, none⟩ = some (.string ⟨#[]⟩) := (blk_cell hk 2).trans rfl; have y0 := blk_frozen hk 0; have y1 := blk_frozen hk 1; have y2 := blk_frozen hk 2; clear hb2 hk))
    refine bodyPost_ret (results_ct rfl _ _ w.heap.size 30 #[.int .i64 0, .int .i64 0, .string ⟨#[]⟩] (0, 0) _ rfl (put3 HKw.out) Try.underlying30 rfl (by kernel_rfl)) rfl ?_
    exact ⟨rfl, below_set (below_set (below_set HB2.out (Nat.le_refl _)) (Nat.le_refl _)) (Nat.le_refl _)⟩
  | true =>
    have hnh : ¬ hasL ps [pl] = false := by rw [hh]; decide
    by_cases c1 : at_ < 0 ∨ ((m pl).length : Int) ≤ at_
    · have he : findE ps m pl at_ = 3 := by unfold findE; rw [if_neg hnh, if_pos c1]
      have hl : findL ps m pl at_ = z30_ := by unfold findL; rw [he]; rfl
      rw [he, hl]
      clear he hl hnh
      by_cases c2 : at_ < 0
      · have p1 : decide (at_ < 0) = true := decide_eq_true c2
        clear c1 c2
        go_enter Try.func24, Try.ntmps24
        go_wp2_with (go_at_call 23; go_loud ((refine (has1_of g b0 ps m _ pl _ HB.out HR.out).mono ?_); rintro e w2 ⟨rfl, hb2⟩; rw [hh]; have HB2 := Aside0.mk (below_step HB0.out hb2); have hk := blk_below HK.out hb2; have HKw := Aside0.mk hk; have x0 : w2.cell? ⟨w.heap.size, 0, none⟩ = some (.int .i64 0) := (blk_cell hk 0).trans rfl; have x1 : w2.cell? ⟨w.heap.size, 1, none⟩ = some (.int .i64 0) := (blk_cell hk 1).trans rfl; have x2 : w2.cell? ⟨w.heap.size, 2, none⟩ = some (.string ⟨#[]⟩) := (blk_cell hk 2).trans rfl; have y0 := blk_frozen hk 0; have y1 := blk_frozen hk 1; have y2 := blk_frozen hk 2; clear hb2 hk))
        refine bodyPost_ret (results_ct rfl _ _ w.heap.size 30 #[.int .i64 0, .int .i64 0, .string ⟨#[]⟩] (0, 0) _ rfl (put3 HKw.out) Try.underlying30 rfl (by kernel_rfl)) rfl ?_
        exact ⟨rfl, below_set (below_set (below_set HB2.out (Nat.le_refl _)) (Nat.le_refl _)) (Nat.le_refl _)⟩
      · have c3 : ((m pl).length : Int) ≤ at_ := by rcases c1 with h | h; exact absurd h c2; exact h
        have p1 : decide (at_ < 0) = false := decide_eq_false c2
        have p2 : decide (((m pl).length : Int) ≤ at_) = true := decide_eq_true c3
        clear c1 c2 c3
        go_enter Try.func24, Try.ntmps24
        go_wp2_with (go_at_call 23; go_loud ((refine (has1_of g b0 ps m _ pl _ HB.out HR.out).mono ?_); rintro e w2 ⟨rfl, hb2⟩; rw [hh]; have HB2 := Aside0.mk (below_step HB0.out hb2); have hgc : w2.cell? ⟨g, 0, none⟩ = some (.map (some q)) := (blk_cell (blk_below HG.out HB2.out) 0).trans rfl; have hlk : (Instr.lookup 58 (.map (some q)) (.int .i64 pl) false).run Try.prog w2 = .ok (.slice A (m pl).length c) w2 := (HL.out.below HB2.out).1 _ rfl; have hk := blk_below HK.out hb2; have HKw := Aside0.mk hk; have x0 : w2.cell? ⟨w.heap.size, 0, none⟩ = some (.int .i64 0) := (blk_cell hk 0).trans rfl; have x1 : w2.cell? ⟨w.heap.size, 1, none⟩ = some (.int .i64 0) := (blk_cell hk 1).trans rfl; have x2 : w2.cell? ⟨w.heap.size, 2, none⟩ = some (.string ⟨#[]⟩) := (blk_cell hk 2).trans rfl; have y0 := blk_frozen hk 0; have y1 := blk_frozen hk 1; have y2 := blk_frozen hk 2; clear hb2 hk))
        refine bodyPost_ret (results_ct rfl _ _ w.heap.size 30 #[.int .i64 0, .int .i64 0, .string ⟨#[]⟩] (0, 0) _ rfl (put3 HKw.out) Try.underlying30 rfl (by kernel_rfl)) rfl ?_
        exact ⟨rfl, below_set (below_set (below_set HB2.out (Nat.le_refl _)) (Nat.le_refl _)) (Nat.le_refl _)⟩
    · have he : findE ps m pl at_ = 0 := by unfold findE; rw [if_neg hnh, if_neg c1]
      have hl : findL ps m pl at_ = rd_T30 (m pl) at_ := by unfold findL; rw [he]; rfl
      rw [he, hl]
      have d0 : 0 ≤ at_ := by omega
      have d1 : at_ < ((m pl).length : Int) := by omega
      have p1 : decide (at_ < 0) = false := decide_eq_false (by omega)
      have p2 : decide (((m pl).length : Int) ≤ at_) = false := decide_eq_false (by omega)
      have p3 := eq_true d0
      have p4 := eq_true d1
      obtain ⟨ad, ea, hx0, hx1, hx2⟩ := at_T30 HC.out at_ d0 d1
      subst ea
      obtain ⟨x, hx⟩ : ∃ x, rd_T30 (m pl) at_ = x := ⟨_, rfl⟩
      rw [hx] at hx0 hx1 hx2 ⊢
      obtain ⟨F0, F1, F2⟩ := x
      dsimp only at hx0 hx1 hx2 ⊢
      have X0 := Aside0.mk hx0
      have X1 := Aside0.mk hx1
      have X2 := Aside0.mk hx2
      clear he hl hnh c1 d0 d1 hx hx0 hx1 hx2
      go_enter Try.func24, Try.ntmps24
      go_wp2_with (go_at_call 23; go_loud ((refine (has1_of g b0 ps m _ pl _ HB.out HR.out).mono ?_); rintro e w2 ⟨rfl, hb2⟩; rw [hh]; have HB2 := Aside0.mk (below_step HB0.out hb2); have hgc : w2.cell? ⟨g, 0, none⟩ = some (.map (some q)) := (blk_cell (blk_below HG.out HB2.out) 0).trans rfl; have hlk : (Instr.lookup 58 (.map (some q)) (.int .i64 pl) false).run Try.prog w2 = .ok (.slice (some ad) (m pl).length c) w2 := (HL.out.below HB2.out).1 _ rfl; have hk := blk_below HK.out hb2; have HKw := Aside0.mk hk; have x0 : w2.cell? ⟨w.heap.size, 0, none⟩ = some (.int .i64 0) := (blk_cell hk 0).trans rfl; have x1 : w2.cell? ⟨w.heap.size, 1, none⟩ = some (.int .i64 0) := (blk_cell hk 1).trans rfl; have x2 : w2.cell? ⟨w.heap.size, 2, none⟩ = some (.string ⟨#[]⟩) := (blk_cell hk 2).trans rfl; have y0 := blk_frozen hk 0; have y1 := blk_frozen hk 1; have y2 := blk_frozen hk 2; have z0 := (HB2.out.cell (World.block_lt_of_cell? w _ X0.out)).trans X0.out; have z1 := (HB2.out.cell (World.block_lt_of_cell? w _ X1.out)).trans X1.out; have z2 := (HB2.out.cell (World.block_lt_of_cell? w _ X2.out)).trans X2.out; clear hb2 hk))
      refine bodyPost_ret (results_ct rfl _ _ w.heap.size 30 #[.int .i64 F0, .int .i64 F1, .string F2] (0, 0) _ rfl (put3 HKw.out) Try.underlying30 rfl (by kernel_rfl)) rfl ?_
      exact ⟨rfl, below_set (below_set (below_set HB2.out (Nat.le_refl _)) (Nat.le_refl _)) (Nat.le_refl _)⟩
end Go.Proofs.Ytgcehbigcokpaaa.XA
