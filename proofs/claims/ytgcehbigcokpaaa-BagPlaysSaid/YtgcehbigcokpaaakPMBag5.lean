import Derived.Lib.SliceRun
import Derived.Test.YtgcehbigcokpaaakPMBag4
namespace Go.Proofs.YtgcehbigcokpaaaW.PrintWords
end Go.Proofs.YtgcehbigcokpaaaW.PrintWords
namespace Go.Proofs.YtgcehbigcokpaaaW.PrintLast
end Go.Proofs.YtgcehbigcokpaaaW.PrintLast
namespace Go.Proofs.YtgcehbigcokpaaaW.PrintMore
end Go.Proofs.YtgcehbigcokpaaaW.PrintMore
namespace Go.Proofs.Ytgcehbigcokpaaa.XW
end Go.Proofs.Ytgcehbigcokpaaa.XW
namespace Go.Proofs.Ytgcehbigcokpaaa.XA
open Go.RowKit Go.Proofs.YtgcehbigcokpaaaW.PrintWords Go.Proofs.YtgcehbigcokpaaaW.PrintLast Go.Proofs.YtgcehbigcokpaaaW.PrintMore Go.Proofs.Ytgcehbigcokpaaa.XW
attribute [local go_sem high] max2_str unary_xor_u32 leq_str geq_str gtr_str
attribute [local go_sem] max2_int min2_int max_two min_two max_three min_three max_four min_four
set_option linter.unusedVariables false
set_option linter.unusedSimpArgs false
set_option maxHeartbeats 1600000 in
set_option maxRecDepth 100000 in
theorem waits_calls (g b0 : Nat) (ps : List Int) (m : Int → List S30) (pl : Int) (w : World) (hB : Bag w b0 g ps m) :
    Calls Try.prog 10 #[.pointer (some ⟨g, 0, none⟩), .int .i64 pl] w fun e w' => e = .returned (.int .i64 ((m pl).length : Int)) ∧ w' = w := by
  obtain ⟨q, V, hg, -, -, -, hM⟩ := hB
  obtain ⟨v, hL, hVN⟩ := hM.look (P := Try.prog) Try.underlying58 Try.underlying3 zero39 pl
  obtain ⟨A, c, hv, -, -⟩ := Kd.R_reads hL.2.1
  subst hv
  have hgc : w.cell? ⟨g, 0, none⟩ = some (.map (some q)) := (blk_cell hg 0).trans rfl
  have hlk : (Instr.lookup 58 (.map (some q)) (.int .i64 pl) false).run Try.prog w = .ok (.slice A (m pl).length c) w := hL.1 _ rfl
  clear hg hM hL
  go_enter Try.func10, Try.ntmps10
  go_wp2
  go_ret
  exact ⟨rfl, rfl⟩
set_option maxHeartbeats 1600000 in
set_option maxRecDepth 100000 in
theorem clear_no (g b0 : Nat) (ps : List Int) (m : Int → List S30) (pl : Int) (w : World) (hB : Bag w b0 g ps m) (hh : hasL ps [pl] = false) :
    Calls Try.prog 20 #[.pointer (some ⟨g, 0, none⟩), .int .i64 pl] w fun e w' => e = .returned (.int .i64 1) ∧ Below w.heap.size w w' := by
  have HB0 := Aside0.mk (below_alloc (Below.refl w.heap.size w) (.cells #[.int .i64 pl] 3))
  have HB := Aside0.mk (hB.below HB0.out)
  have HR := Aside0.mk (ints_row _ _ [pl] _ _ rfl (show 1 ≤ 1000 by decide) (heap_alloc_new w (.cells #[.int .i64 pl] 3)))
  clear hB
  go_enter Try.func20, Try.ntmps20
  go_wp2_with (go_at_call 23; go_loud ((refine (has1_of g b0 ps m _ pl _ HB.out HR.out).mono ?_); rintro e w2 ⟨rfl, hb2⟩; rw [hh]; have HB2 := Aside0.mk (below_step HB0.out hb2); clear hb2))
  go_ret
  exact ⟨rfl, HB2.out⟩
theorem ints_empty (e : Nat) (W : World) (base : Nat) (ok : Nat → Prop) (hb : base ≤ W.heap.size) (hok : ok W.heap.size) : (Kd.int .i64).R e (W.alloc (.cells #[] e)) base ok (.slice (some ⟨W.heap.size, 0, none⟩) 0 0) [] :=
  ⟨fun k hk => by simp [Value.ownBlock] at hk; subst hk; exact hok, [], ⟨by simp, .inr ⟨W.heap.size, 0, #[], rfl, hb, heap_alloc_new W _, Nat.le_refl _, by unfold maxLen; omega, by simp, by simp⟩⟩, Reps.none _ _⟩
set_option maxHeartbeats 1600000 in
set_option maxRecDepth 100000 in
theorem clone_calls (A0 : Option Addr) (c0 : Nat) (l0 : List Int) (W : World) (hr : Kd.C (Kd.int .i64) W A0 l0.length l0) (hn : l0.length < 2932031007402) :
    Calls Try.prog 26 #[.slice A0 l0.length c0] W fun e w' => ∃ v, e = .returned v ∧ Kd.R (Kd.int .i64) 3 w' W.heap.size (fun _ => True) v l0 ∧ Below W.heap.size W w' := by
  have HR := Aside0.mk hr
  have HN := Aside0.mk hn
  have hnil := fun (w : World) (a : Option Addr) (n c : Nat) => Go.Lib.run_eql_slice_nil (P := Try.prog) w 22 3 a n c 0 0 Try.underlying22
  clear hn
  cases A0 with
  | none =>
    have hl : l0 = [] := by
      rcases Nat.eq_zero_or_pos l0.length with h | h
      · exact List.length_eq_zero_iff.1 h
      · obtain ⟨ad, e, _⟩ := hr.2.2 h; cases e
    subst hl
    clear hr
    go_enter Try.func26, Try.ntmps26
    go_wp2
    go_ret
    exact ⟨_, rfl, Kd.R_nil _ _ _ _ _, Below.refl _ _⟩
  | some ad =>
    clear hr
    have HE := Aside0.mk (ints_empty 3 W W.heap.size (fun _ => True) (Nat.le_refl _) trivial)
    have HB := Aside0.mk (below_alloc (Below.refl W.heap.size W) (.cells #[] 3))
    go_enter Try.func26, Try.ntmps26
    go_wp2_with ((with_reducible refine gate_builtin (b := .append) (xs := #[.tmp 5, .tmp 6]) rfl ?_); at_builtin; go_loud (refine Kd.R_append_rows (Kd.int .i64) (w0 := W) W.heap.size rfl (.tmp 5) (.tmp 6) 22 3 (.int .i64 0) 8 rfl Try.underlying22 info3 rfl (by decide) (by omega) (.slice (some ⟨W.heap.size, 0, none⟩) 0 0) ([] : List Int) l0 _ _ _ (fun _ => True) (fun _ => False) rfl rfl HE.out (Kd.C_alloc HR.out _) (fun _ _ h => h) (fun _ h => h.elim) (fun _ _ => trivial) HB.out (below_size HB.out) (by have := HN.out; simp only [List.length_nil]; omega) ?_); intro v9 w9 ho hb hg hat; have HO9 := Aside0.mk ho; have HB9 := Aside0.mk hb; clear ho hb hg hat)
    go_ret
    exact ⟨_, rfl, HO9.out, HB9.out⟩
set_option maxHeartbeats 1600000 in
set_option maxRecDepth 100000 in
theorem places_calls (g b0 : Nat) (ps : List Int) (m : Int → List S30) (w : World) (hB : Bag w b0 g ps m) (hn : ps.length < 1000) :
    Calls Try.prog 15 #[.pointer (some ⟨g, 0, none⟩)] w fun e w' => ∃ v, e = .returned v ∧ Kd.R (Kd.int .i64) 3 w' w.heap.size (fun _ => True) v ps ∧ Below w.heap.size w w' := by
  obtain ⟨q, V, hg, -, -, hV, -⟩ := hB
  obtain ⟨A, c, rfl, -, hC⟩ := Kd.R_reads hV
  have HC := Aside0.mk hC
  have HN : Aside0 (ps.length < 2932031007402) := ⟨by omega⟩
  have hgc : w.cell? ⟨g, 1, none⟩ = some (.slice A ps.length c) := (blk_cell hg 1).trans rfl
  clear hg hV hC
  go_enter Try.func15, Try.ntmps15
  go_wp2_with (go_at_call 26; (refine (clone_calls _ c ps _ HC.out HN.out).mono ?_); rintro e w2 ⟨v, rfl, ho, hb⟩; have HO := Aside0.mk ho; have HB2 := Aside0.mk hb; clear ho hb)
  go_ret
  exact ⟨_, rfl, HO.out, HB2.out⟩
end Go.Proofs.Ytgcehbigcokpaaa.XA
