import Derived.Test.YtgcehbigcokpaaakPMBag2
namespace Go.Proofs.YtgcehbigcokpaaaW.PrintWords
end Go.Proofs.YtgcehbigcokpaaaW.PrintWords
namespace Go.Proofs.YtgcehbigcokpaaaW.PrintLast
end Go.Proofs.YtgcehbigcokpaaaW.PrintLast
namespace Go.Proofs.YtgcehbigcokpaaaW.PrintMore
end Go.Proofs.YtgcehbigcokpaaaW.PrintMore
namespace Go.Proofs.Ytgcehbigcokpaaa.XW
end Go.Proofs.Ytgcehbigcokpaaa.XW
namespace Go.Proofs.Ytgcehbigcokpaaa.XA
open Go.RowKit Go.Proofs.YtgcehbigcokpaaaW.PrintWords Go.Proofs.YtgcehbigcokpaaaW.PrintLast Go.Proofs.YtgcehbigcokpaaaW.PrintMore Go.Proofs.Ytgcehbigcokpaaa.XW
attribute [local go_sem high] max2_str unary_xor_u32 leq_str geq_str gtr_str
attribute [local go_sem] max2_int min2_int max_two min_two max_three min_three max_four min_four
set_option linter.unusedVariables false
set_option linter.unusedSimpArgs false
theorem ints_row (w : World) (g : Nat) (l : List Int) (cs : Array Value) (f : Nat × Nat) (hcs : cs = (l.map (Value.int .i64)).toArray) (hl : l.length ≤ 1000) (h : w.heap[g]? = some (.cells cs 3 f)) : Kd.C (Kd.int .i64) w (some ⟨g, 0, none⟩) l.length l := by
  refine ⟨rfl, by omega, fun _ => ⟨_, rfl, fun j p hp => ⟨[.int .i64 p], rfl, rfl, fun i u hu => ?_⟩⟩⟩
  match i, hu with
  | 0, hu =>
    have e : u = .int .i64 p := (Option.some.inj hu).symm
    subst e
    have ha : (⟨g, 0, none⟩ : Addr).add (j * 1 + 0) = ⟨g, j, none⟩ := by
      unfold Addr.add
      split
      · next h => have : j = 0 := by omega
                  rw [this]
      · simp
    show w.cell? ((⟨g, 0, none⟩ : Addr).add (j * 1 + 0)) = _
    rw [ha, cell_of_row w g j cs 3 f h, hcs]
    simp [hp]
  | i + 1, hu => simp at hu
theorem has2_calls (g b0 : Nat) (ps : List Int) (m : Int → List S30) (ad : Addr) (a b : Int) (W : World) (hB : Bag W b0 g ps m) (hr : Kd.C (Kd.int .i64) W (some ad) [a, b].length [a, b]) :
    Calls Try.prog 23 #[.pointer (some ⟨g, 0, none⟩), .slice (some ad) 2 2] W fun e w' => e = .returned (.bool (hasL ps [a, b])) ∧ Below W.heap.size W w' := has_calls g b0 ps m (some ad) 2 [a, b] W hB hr
theorem has1_of (g b0 : Nat) (ps : List Int) (m : Int → List S30) (ad : Addr) (a : Int) (W : World) (hB : Bag W b0 g ps m) (hr : Kd.C (Kd.int .i64) W (some ad) [a].length [a]) :
    Calls Try.prog 23 #[.pointer (some ⟨g, 0, none⟩), .slice (some ad) 1 1] W fun e w' => e = .returned (.bool (hasL ps [a])) ∧ Below W.heap.size W w' := has_calls g b0 ps m (some ad) 1 [a] W hB hr
set_option maxHeartbeats 1600000 in
set_option maxRecDepth 100000 in
theorem put_no (g b0 : Nat) (ps : List Int) (m : Int → List S30) (fr pl : Int) (tx : ByteArray) (w : World) (hB : Bag w b0 g ps m) (hno : hasL ps [fr, pl] = false ∨ 262144 < tx.size) :
    Calls Try.prog 8 #[.pointer (some ⟨g, 0, none⟩), .agg #[.int .i64 fr, .int .i64 pl, .string tx]] w fun e w' => e = .returned (.int .i64 1) ∧ Below w.heap.size w w' := by
  have HB0 := Aside0.mk (below_alloc (below_alloc (Below.refl w.heap.size w) (.cells #[.int .i64 fr, .int .i64 pl, .string tx] 30)) (.cells #[.int .i64 fr, .int .i64 pl] 3))
  have HB := Aside0.mk (hB.below HB0.out)
  have hn := heap_alloc_new (w.alloc (.cells #[.int .i64 fr, .int .i64 pl, .string tx] 30)) (.cells #[.int .i64 fr, .int .i64 pl] 3)
  rw [show (w.alloc (.cells #[.int .i64 fr, .int .i64 pl, .string tx] 30)).heap.size = w.heap.size + 1 from by simp] at hn
  have HR := Aside0.mk (ints_row _ _ [fr, pl] _ _ rfl (show 2 ≤ 1000 by decide) hn)
  have HNO := Aside0.mk hno
  clear hB hno hn
  cases hh : hasL ps [fr, pl] with
  | false =>
    go_enter Try.func8, Try.ntmps8
    go_wp2_with (go_at_call 23; go_loud ((refine (has2_calls g b0 ps m _ fr pl _ HB.out HR.out).mono ?_); rintro e w2 ⟨rfl, hb2⟩; rw [hh]; have HB2 := Aside0.mk (below_step HB0.out hb2); clear hb2))
    go_ret
    exact ⟨rfl, HB2.out⟩
  | true =>
    have hs : 262144 < tx.size := by
      rcases HNO.out with h | h
      · rw [hh] at h; cases h
      · exact h
    have p1 : decide ((262144 : Int) < (tx.size : Int)) = true := decide_eq_true (by omega)
    have p2 : decide (262144 < tx.size) = true := decide_eq_true hs
    have hk := blk_alloc (heap_alloc_new w (.cells #[.int .i64 fr, .int .i64 pl, .string tx] 30)) (.cells #[.int .i64 fr, .int .i64 pl] 3)
    have HK := Aside0.mk hk
    clear hk
    go_enter Try.func8, Try.ntmps8
    go_wp2_with (go_at_call 23; go_loud ((refine (has2_calls g b0 ps m _ fr pl _ HB.out HR.out).mono ?_); rintro e w2 ⟨rfl, hb2⟩; rw [hh]; have HB2 := Aside0.mk (below_step HB0.out hb2); have hc := (blk_cell (blk_below HK.out hb2) 2).trans rfl; clear hb2))
    go_ret
    exact ⟨rfl, HB2.out⟩
theorem zero39 : ∀ w : World, (zeroValue 39).run Try.prog w = .ok (.slice none 0 0) w := fun _ => by kernel_rfl
end Go.Proofs.Ytgcehbigcokpaaa.XA
