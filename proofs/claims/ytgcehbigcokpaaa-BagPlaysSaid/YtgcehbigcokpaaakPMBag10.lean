import Derived.Test.YtgcehbigcokpaaakPMBag9
namespace Go.Proofs.YtgcehbigcokpaaaW.PrintWords
end Go.Proofs.YtgcehbigcokpaaaW.PrintWords
namespace Go.Proofs.YtgcehbigcokpaaaW.PrintLast
end Go.Proofs.YtgcehbigcokpaaaW.PrintLast
namespace Go.Proofs.YtgcehbigcokpaaaW.PrintMore
end Go.Proofs.YtgcehbigcokpaaaW.PrintMore
namespace Go.Proofs.Ytgcehbigcokpaaa.XW
end Go.Proofs.Ytgcehbigcokpaaa.XW
namespace Go.Proofs.Ytgcehbigcokpaaa.XA
open Go.RowKit Go.Proofs.YtgcehbigcokpaaaW.PrintWords Go.Proofs.YtgcehbigcokpaaaW.PrintLast Go.Proofs.YtgcehbigcokpaaaW.PrintMore Go.Proofs.Ytgcehbigcokpaaa.XW
attribute [local go_sem high] max2_str unary_xor_u32 leq_str geq_str gtr_str
attribute [local go_sem] max2_int min2_int max_two min_two max_three min_three max_four min_four
set_option linter.unusedVariables false
set_option linter.unusedSimpArgs false
def nodesL (n : Nat) : List Int := (List.range n).map (fun (k : Nat) => (k : Int))
def clientsL (c : Nat) : List Int := (List.range c).map (fun (k : Nat) => 100 + (k : Int))
def placesL (n c : Nat) : List Int := [-1] ++ nodesL n ++ clientsL c
theorem nodesL_succ (n : Nat) : nodesL (n + 1) = nodesL n ++ [(n : Int)] := by unfold nodesL; rw [List.range_succ, List.map_append]; rfl
theorem clientsL_succ (n : Nat) : clientsL (n + 1) = clientsL n ++ [100 + (n : Int)] := by unfold clientsL; rw [List.range_succ, List.map_append]; rfl
theorem nodesL_len (n : Nat) : (nodesL n).length = n := by unfold nodesL; simp
theorem clientsL_len (n : Nat) : (clientsL n).length = n := by unfold clientsL; simp
theorem MapAt.empty {w : World} {b0 q : Nat} (h : w.heap[q]? = some (.map #[] 0)) : MapAt w b0 q (fun _ => []) := ⟨#[], 0, h, by simp, by simp, fun _ _ => rfl, by simp⟩
set_option maxHeartbeats 3200000 in
set_option maxRecDepth 100000 in
theorem new_no (n c : Int) (w : World) (h : n < 1 ∨ 6 < n ∨ c < 1 ∨ 8 < c) :
    Calls Try.prog 7 #[.int .i64 n, .int .i64 c] w fun e w' => e = .returned (.tuple #[.pointer none, .int .i64 1]) ∧ w' = w := by
  by_cases h1 : n < 1
  · have p1 : decide (n < 1) = true := decide_eq_true h1
    clear h h1
    go_enter Try.func7, Try.ntmps7
    go_wp2
    go_ret2
    exact ⟨rfl, rfl⟩
  · by_cases h2 : 6 < n
    · have p1 : decide (n < 1) = false := decide_eq_false h1
      have p2 : decide (6 < n) = true := decide_eq_true h2
      clear h h1 h2
      go_enter Try.func7, Try.ntmps7
      go_wp2
      go_ret2
      exact ⟨rfl, rfl⟩
    · by_cases h3 : c < 1
      · have p1 : decide (n < 1) = false := decide_eq_false h1
        have p2 : decide (6 < n) = false := decide_eq_false h2
        have p3 : decide (c < 1) = true := decide_eq_true h3
        clear h h1 h2 h3
        go_enter Try.func7, Try.ntmps7
        go_wp2
        go_ret2
        exact ⟨rfl, rfl⟩
      · have h4 : 8 < c := by omega
        have p1 : decide (n < 1) = false := decide_eq_false h1
        have p2 : decide (6 < n) = false := decide_eq_false h2
        have p3 : decide (c < 1) = false := decide_eq_false h3
        have p4 : decide (8 < c) = true := decide_eq_true h4
        clear h h1 h2 h3 h4
        go_enter Try.func7, Try.ntmps7
        go_wp2
        go_ret2
        exact ⟨rfl, rfl⟩
set_option maxHeartbeats 6400000 in
set_option maxRecDepth 100000 in
theorem new_ok (n c : Nat) (w : World) (h1 : 1 ≤ n) (h2 : n ≤ 6) (h3 : 1 ≤ c) (h4 : c ≤ 8) :
    Calls Try.prog 7 #[.int .i64 (n : Int), .int .i64 (c : Int)] w fun e w' => e = .returned (.tuple #[.pointer (some ⟨w.heap.size + 1 + 1, 0, none⟩), .int .i64 0]) ∧ Bag w' w.heap.size (w.heap.size + 1 + 1) (placesL n c) (fun _ => []) ∧ Below w.heap.size w w' := by
  have hmm := @run_makeMap Try.prog
  have p1 : decide ((n : Int) < 1) = false := decide_eq_false (by omega)
  have p2 : decide (6 < (n : Int)) = false := decide_eq_false (by omega)
  have p3 : decide ((c : Int) < 1) = false := decide_eq_false (by omega)
  have p4 : decide (8 < (c : Int)) = false := decide_eq_false (by omega)
  have p5 : decide (n < 1) = false := decide_eq_false (by omega)
  have p6 : decide (6 < n) = false := decide_eq_false (by omega)
  have p7 : decide (c < 1) = false := decide_eq_false (by omega)
  have p8 : decide (8 < c) = false := decide_eq_false (by omega)
  have HN : Aside0 (n ≤ 6 ∧ c ≤ 8) := ⟨⟨h2, h4⟩⟩
  have hs1 : (w.alloc (.map #[] 0)).heap.size = w.heap.size + 1 := by simp
  have hs2 : ((w.alloc (.map #[] 0)).alloc (.cells #[.int .i64 (-1)] 3)).heap.size = w.heap.size + 1 + 1 := by simp
  have a0 := heap_alloc_new w (.map #[] 0)
  have a1 := heap_alloc_new (w.alloc (.map #[] 0)) (.cells #[.int .i64 (-1)] 3)
  rw [hs1] at a1
  have a2 := heap_alloc_new ((w.alloc (.map #[] 0)).alloc (.cells #[.int .i64 (-1)] 3)) (.cells #[.map (some w.heap.size), .slice (some ⟨w.heap.size + 1, 0, none⟩) 1 1] 60)
  rw [hs2] at a2
  have K0 := Aside0.mk (blk_alloc (blk_alloc a0 (.cells #[.int .i64 (-1)] 3)) (.cells #[.map (some w.heap.size), .slice (some ⟨w.heap.size + 1, 0, none⟩) 1 1] 60))
  have K1 := Aside0.mk (blk_alloc a1 (.cells #[.map (some w.heap.size), .slice (some ⟨w.heap.size + 1, 0, none⟩) 1 1] 60))
  have K2 := Aside0.mk a2
  have HB0 := Aside0.mk (below_alloc (below_alloc (below_alloc (Below.refl w.heap.size w) (.map #[] 0)) (.cells #[.int .i64 (-1)] 3)) (.cells #[.map (some w.heap.size), .slice (some ⟨w.heap.size + 1, 0, none⟩) 1 1] 60))
  have HR0 : Aside0 (Kd.R (Kd.int .i64) 3 (((w.alloc (.map #[] 0)).alloc (.cells #[.int .i64 (-1)] 3)).alloc (.cells #[.map (some w.heap.size), .slice (some ⟨w.heap.size + 1, 0, none⟩) 1 1] 60)) w.heap.size (fun _ => True) (.slice (some ⟨w.heap.size + 1, 0, none⟩) 1 1) [-1]) := ⟨⟨fun _ _ => trivial, [.int .i64 (-1)], ⟨by simp [Kd.int, Kd.scalar], .inr ⟨w.heap.size + 1, 1, #[.int .i64 (-1)], rfl, Nat.le_succ _, K1.out, Nat.le_refl _, by unfold maxLen; omega, rfl, rfl⟩⟩, Reps.one rfl (Reps.none _ _)⟩⟩
  clear h1 h2 h3 h4 hs1 hs2 a0 a1 a2
  go_enter Try.func7, Try.ntmps7
  go_wp2
  go_loopg [28] n (fun kq v28 w' => ∃ (k : Nat) (V : Value) (L : List Int), v28 = .int .i64 (k : Int) ∧ Aside0 (k + kq = n) ∧ Aside0 (L = [-1] ++ nodesL k) ∧ Aside0 (w'.heap[w.heap.size + 1 + 1]? = some (.cells #[.map (some w.heap.size), V] 60 (0, 0))) ∧ Aside0 (w'.heap[w.heap.size]? = some (.map #[] 0)) ∧ Aside0 (Kd.R (Kd.int .i64) 3 w' w.heap.size (fun _ => True) V L) ∧ Aside0 (Below w.heap.size w w'))
  case atStart => exact ⟨0, _, [-1], rfl, ⟨Nat.zero_add _⟩, ⟨rfl⟩, K2, K0, HR0, HB0⟩
  case round =>
    clear K0 K1 K2 HR0 HB0
    obtain ⟨k, V, L, rfl, HK, HL, HG, HQ, HR, HB⟩ := hrel
    have hk := HK.out
    have hn := HN.out
    cases gk with
    | zero =>
      obtain rfl : k = n := by omega
      have c1b : decide ((k : Int) < (k : Int)) = false := decide_eq_false (by omega)
      clear hk hn
      go_wp2
      go_loopg [43] c (fun kq v43 w' => ∃ (j : Nat) (V : Value) (L : List Int), v43 = .int .i64 (j : Int) ∧ Aside0 (j + kq = c) ∧ Aside0 (L = [-1] ++ nodesL k ++ clientsL j) ∧ Aside0 (w'.heap[w.heap.size + 1 + 1]? = some (.cells #[.map (some w.heap.size), V] 60 (0, 0))) ∧ Aside0 (w'.heap[w.heap.size]? = some (.map #[] 0)) ∧ Aside0 (Kd.R (Kd.int .i64) 3 w' w.heap.size (fun _ => True) V L) ∧ Aside0 (Below w.heap.size w w'))
      case atStart => exact ⟨0, V, L, rfl, ⟨Nat.zero_add _⟩, ⟨by rw [HL.out]; simp [clientsL]⟩, HG, HQ, HR, HB⟩
      case round =>
        have HKN := HN
        clear HG HQ HR HB HL
        obtain ⟨j, V, L, rfl, HJ, HL, HG, HQ, HR, HB⟩ := hrel
        have hk := HJ.out
        have hn := HKN.out
        cases gk with
        | zero =>
          obtain rfl : j = c := by omega
          have c1b : decide ((j : Int) < (j : Int)) = false := decide_eq_false (by omega)
          clear hk hn
          go_wp2
          go_ret2
          refine ⟨rfl, ⟨w.heap.size, V, HG.out, by omega, Nat.le_refl _, ?_, MapAt.empty HQ.out⟩, HB.out⟩
          have h9 := HR.out
          rw [HL.out] at h9
          exact h9
        | succ k1 =>
          have c1b : decide ((j : Int) < (c : Int)) = true := decide_eq_true (by omega)
          have c1n : decide (j < c) = true := decide_eq_true (by omega)
          have HW : Aside0 (wrap64 ((j : Int) + 1) = ((j + 1 : Nat) : Int)) := ⟨by unfold wrap64; omega⟩
          have HW2 : Aside0 (wrap64 (100 + (j : Int)) = 100 + (j : Int)) := ⟨by unfold wrap64; omega⟩
          have HK2 : Aside0 (j + 1 + k1 = c) := ⟨by omega⟩
          have HLn : Aside0 ((L.length + 1) * 8 ≤ 140737488355328) := ⟨by rw [HL.out]; rw [List.length_append, List.length_append, nodesL_len, clientsL_len, List.length_singleton]; omega⟩
          obtain ⟨A, cc, hv, -, -⟩ := Kd.R_reads HR.out
          subst hv
          have hg0 : wr.cell? ⟨w.heap.size + 1 + 1, 1, none⟩ = some (.slice A L.length cc) := (blk_cell HG.out 1).trans rfl
          have HSZ := Aside0.mk (below_size HB.out)
          have hw2 := HW2.out
          clear hk hn
          go_wp2_with ((with_reducible refine gate_builtin (b := .append) (xs := #[.tmp 50, .tmp 53]) rfl ?_); at_builtin; go_loud (refine Kd.R_append (Kd.int .i64) (w0 := w) w.heap.size rfl (.tmp 50) (.tmp 53) 22 3 (.int .i64 0) 8 rfl Try.underlying22 info3 rfl (by decide) (by omega) (.slice A L.length cc) L (100 + (j : Int)) [.int .i64 (100 + (j : Int))] (fun _ => True) (fun _ => False) (by first | rfl | (go_simp; done) | (go_simp; rfl)) (by first | (go_simp; done) | (go_simp; rfl)) rfl (fun _ hk => hk.elim) (fun _ _ => trivial) HR.out HB.out HSZ.out HLn.out ?_); intro v9 w9 ho hb hg hat; obtain ⟨A9, c9, e9⟩ := Kd.R_slice ho; subst e9; obtain ⟨L9, hL9⟩ : ∃ L9, L ++ [100 + (j : Int)] = L9 := ⟨_, rfl⟩; rw [hL9] at ho; have HL9 := Aside0.mk hL9; have hne : some (w.heap.size + 1 + 1) ≠ (Value.slice A L.length cc).ownBlock := Kd.R_ne HR.out HG.out (by decide); have hg9 := (hg.block (w.heap.size + 1 + 1) (blk_lt HG.out) hne).trans HG.out; have hq9 := (hg.block w.heap.size (blk_lt HQ.out) (fun e => by obtain ⟨cells, hc⟩ := Kd.R_typed HR.out _ e.symm; rw [HQ.out] at hc; cases hc)).trans HQ.out; have HG9 := Aside0.mk hg9; have HQ9 := Aside0.mk hq9; have x1 : w9.cell? ⟨w.heap.size + 1 + 1, 1, none⟩ = some (.slice A L.length cc) := (blk_cell hg9 1).trans rfl; have y1 := blk_frozen hg9 1; have HO9 := Aside0.mk ho; have HB9 := Aside0.mk hb; rw [hL9]; clear ho hb hg hat hg9 hq9 hne hL9)
          go_roundg k1
          case measure => omega
          case rel =>
            refine ⟨j + 1, .slice A9 L9.length c9, L9, by rw [HW.out], HK2, ⟨by rw [← HL9.out, HL.out, clientsL_succ]; simp⟩, ⟨blk_set HG9.out 1 (.slice A9 L9.length c9)⟩, ⟨(Below.heap_setCell w9 ⟨w.heap.size + 1 + 1, 1, none⟩ _ w.heap.size (by show w.heap.size ≠ w.heap.size + 1 + 1; omega)).trans HQ9.out⟩, ⟨Kd.R_set HO9.out HG9.out (by decide) 1 _⟩, ⟨HB9.out.setCell (by show w.heap.size ≤ w.heap.size + 1 + 1; omega) _⟩⟩

    | succ k1 =>
      have c1b : decide ((k : Int) < (n : Int)) = true := decide_eq_true (by omega)
      have c1n : decide (k < n) = true := decide_eq_true (by omega)
      have HW : Aside0 (wrap64 ((k : Int) + 1) = ((k + 1 : Nat) : Int)) := ⟨by unfold wrap64; omega⟩
      have HW2 : Aside0 (wrap64 (100 + (k : Int)) = 100 + (k : Int)) := ⟨by unfold wrap64; omega⟩
      have HK2 : Aside0 (k + 1 + k1 = n) := ⟨by omega⟩
      have HLn : Aside0 ((L.length + 1) * 8 ≤ 140737488355328) := ⟨by rw [HL.out]; rw [List.length_append, nodesL_len, List.length_singleton]; omega⟩
      obtain ⟨A, cc, hv, -, -⟩ := Kd.R_reads HR.out
      subst hv
      have hg0 : wr.cell? ⟨w.heap.size + 1 + 1, 1, none⟩ = some (.slice A L.length cc) := (blk_cell HG.out 1).trans rfl
      have HSZ := Aside0.mk (below_size HB.out)
      have hw2 := HW2.out
      clear hk hn
      go_wp2_with ((with_reducible refine gate_builtin (b := .append) (xs := #[.tmp 35, .tmp 37]) rfl ?_); at_builtin; go_loud (refine Kd.R_append (Kd.int .i64) (w0 := w) w.heap.size rfl (.tmp 35) (.tmp 37) 22 3 (.int .i64 0) 8 rfl Try.underlying22 info3 rfl (by decide) (by omega) (.slice A L.length cc) L ((k : Int)) [.int .i64 ((k : Int))] (fun _ => True) (fun _ => False) (by first | rfl | (go_simp; done) | (go_simp; rfl)) (by first | (go_simp; done) | (go_simp; rfl)) rfl (fun _ hk => hk.elim) (fun _ _ => trivial) HR.out HB.out HSZ.out HLn.out ?_); intro v9 w9 ho hb hg hat; obtain ⟨A9, c9, e9⟩ := Kd.R_slice ho; subst e9; obtain ⟨L9, hL9⟩ : ∃ L9, L ++ [(k : Int)] = L9 := ⟨_, rfl⟩; rw [hL9] at ho; have HL9 := Aside0.mk hL9; have hne : some (w.heap.size + 1 + 1) ≠ (Value.slice A L.length cc).ownBlock := Kd.R_ne HR.out HG.out (by decide); have hg9 := (hg.block (w.heap.size + 1 + 1) (blk_lt HG.out) hne).trans HG.out; have hq9 := (hg.block w.heap.size (blk_lt HQ.out) (fun e => by obtain ⟨cells, hc⟩ := Kd.R_typed HR.out _ e.symm; rw [HQ.out] at hc; cases hc)).trans HQ.out; have HG9 := Aside0.mk hg9; have HQ9 := Aside0.mk hq9; have x1 : w9.cell? ⟨w.heap.size + 1 + 1, 1, none⟩ = some (.slice A L.length cc) := (blk_cell hg9 1).trans rfl; have y1 := blk_frozen hg9 1; have HO9 := Aside0.mk ho; have HB9 := Aside0.mk hb; rw [hL9]; clear ho hb hg hat hg9 hq9 hne hL9)
      go_roundg k1
      case measure => omega
      case rel =>
        refine ⟨k + 1, .slice A9 L9.length c9, L9, by rw [HW.out], HK2, ⟨by rw [← HL9.out, HL.out, nodesL_succ]; simp⟩, ⟨blk_set HG9.out 1 (.slice A9 L9.length c9)⟩, ⟨(Below.heap_setCell w9 ⟨w.heap.size + 1 + 1, 1, none⟩ _ w.heap.size (by show w.heap.size ≠ w.heap.size + 1 + 1; omega)).trans HQ9.out⟩, ⟨Kd.R_set HO9.out HG9.out (by decide) 1 _⟩, ⟨HB9.out.setCell (by show w.heap.size ≤ w.heap.size + 1 + 1; omega) _⟩⟩
end Go.Proofs.Ytgcehbigcokpaaa.XA
