import Derived.Test.YtgcehbigcokpaaakPMBag11
import Derived.Test.YtgcehbigcokpaaakPVLib
namespace Go.Proofs.YtgcehbigcokpaaaW.PrintWords
end Go.Proofs.YtgcehbigcokpaaaW.PrintWords
namespace Go.Proofs.YtgcehbigcokpaaaW.PrintLast
end Go.Proofs.YtgcehbigcokpaaaW.PrintLast
namespace Go.Proofs.YtgcehbigcokpaaaW.PrintMore
end Go.Proofs.YtgcehbigcokpaaaW.PrintMore
namespace Go.Proofs.Ytgcehbigcokpaaa.XW
end Go.Proofs.Ytgcehbigcokpaaa.XW
namespace Go.Proofs.Ytgcehbigcokpaaa.XA
open Go.RowKit Go.Proofs.YtgcehbigcokpaaaW.PrintWords Go.Proofs.YtgcehbigcokpaaaW.PrintLast Go.Proofs.YtgcehbigcokpaaaW.PrintMore Go.Proofs.Ytgcehbigcokpaaa.XW
attribute [local go_sem high] max2_str unary_xor_u32 leq_str geq_str gtr_str
attribute [local go_sem] max2_int min2_int max_two min_two max_three min_three max_four min_four
set_option linter.unusedVariables false
set_option linter.unusedSimpArgs false
def Outs (w w' : World) (g : Nat) : Prop := ∀ k o, w.heap[k]? = some o → NotIn w g k → w'.heap[k]? = some o ∧ NotIn w' g k
theorem bag_same {w : World} {g q q' : Nat} {V V' : Value} (h : w.heap[g]? = some (.cells #[.map (some q), V] 60 (0, 0))) (h' : w.heap[g]? = some (.cells #[.map (some q'), V'] 60 (0, 0))) : q' = q := by
  rw [h] at h'
  injection h' with h'
  injection h' with h' _ _
  have := congrArg (fun a => a[0]?) h'
  simp at this
  exact this.symm
theorem Outs.of_below {w w' : World} {b0 g : Nat} {ps : List Int} {m : Int → List S30} (hB : Bag w b0 g ps m) (hb : Below w.heap.size w w') : Outs w w' g := by
  intro k o hk hni
  refine ⟨blk_below hk hb, ?_⟩
  obtain ⟨q, V, h1, -, -, -, h5⟩ := hB
  intro q' V' h'
  have e := bag_same (blk_below h1 hb) h'
  subst e
  obtain ⟨n1, n2⟩ := hni _ _ h1
  obtain ⟨es, cl, hq⟩ := h5.at
  exact ⟨n1, fun es2 cl2 hq2 => n2 es2 cl2 ((hb.block q' (blk_lt hq)).symm.trans hq2)⟩
theorem outs_of {w wb w9 w10 : World} {g q : Nat} {V v v1 : Value} (hG : w.heap[g]? = some (.cells #[.map (some q), V] 60 (0, 0))) (hb : Below w.heap.size w wb) (h9 : wb.grownBy w9 v.ownBlock) (h10 : w9.grownBy w10 (some q)) (hF : BFr w w10)
    (hv : ∀ gb, MapNot w q gb → v.ownBlock ≠ some gb) (hat : v1.ownBlock = none ∨ v1.ownBlock = v.ownBlock ∨ ∃ b, v1.ownBlock = some b ∧ wb.heap.size ≤ b) (hn : ∀ gb, MapNot wb q gb → v1.ownBlock ≠ some gb → MapNot w10 q gb) (hq : q < w.heap.size) : Outs w w10 g := by
  intro k o hk hni
  obtain ⟨n1, n2⟩ := hni q V hG
  have k1 := blk_below hk hb
  have k2 := (h9.block k (blk_lt k1) (fun e => hv k n2 e.symm)).trans k1
  have k3 := (h10.block k (blk_lt k2) (fun e => by injection e with e; exact n1 e)).trans k2
  refine ⟨k3, fun q' V' h' => ?_⟩
  have e := bag_same (hF.block g _ hG (fun c f e => by cases e) (fun es cl e => by cases e)) h'
  subst e
  refine ⟨n1, hn k (fun es cl he => n2 es cl ((hb.block q' hq).symm.trans he)) (fun e => ?_)⟩
  rcases hat with h | h | ⟨b, h, hle⟩
  · rw [h] at e; cases e
  · exact hv k n2 (h.symm.trans e)
  · rw [h] at e
    injection e with e
    have := blk_lt hk
    have := hb.size
    omega
theorem Outs.set {w W : World} {g q nb : Nat} {V : Value} (h : Outs w W g) (hg : W.heap[g]? = some (.cells #[.map (some q), V] 60 (0, 0))) (hgn : g ≠ nb) (hqn : nb ≠ q) (hnb : w.heap.size ≤ nb) (j : Nat) (u : Value) : Outs w (W.setCell ⟨nb, j, none⟩ u) g := by
  intro k o hk hni
  obtain ⟨h1, h2⟩ := h k o hk hni
  have kn : k ≠ nb := by have := blk_lt hk; omega
  refine ⟨(Below.heap_setCell W ⟨nb, j, none⟩ u k kn).trans h1, fun q' V' h' => ?_⟩
  have h'' := (Below.heap_setCell W ⟨nb, j, none⟩ u g hgn).symm.trans h'
  have e := bag_same hg h''
  subst e
  obtain ⟨n1, n2⟩ := h2 _ _ h''
  exact ⟨n1, fun es cl he => n2 es cl ((Below.heap_setCell W ⟨nb, j, none⟩ u q' (fun e => hqn e.symm)).symm.trans he)⟩
set_option maxHeartbeats 3200000 in
set_option maxRecDepth 100000 in
theorem put_ok2 (g b0 : Nat) (ps : List Int) (m : Int → List S30) (fr pl : Int) (tx : ByteArray) (w : World) (hB : Bag w b0 g ps m) (hb0 : b0 ≤ w.heap.size) (hh : hasL ps [fr, pl] = true) (hs : tx.size ≤ 262144) (hroom : (m pl).length < 1024) :
    Calls Try.prog 8 #[.pointer (some ⟨g, 0, none⟩), .agg #[.int .i64 fr, .int .i64 pl, .string tx]] w fun e w' => e = .returned (.int .i64 0) ∧ Bag w' b0 g ps (upd m pl (m pl ++ [⟨fr, pl, tx⟩])) ∧ Below b0 w w' ∧ BFr w w' ∧ Outs w w' g := by
  have HB0 := Aside0.mk (below_alloc (below_alloc (Below.refl w.heap.size w) (.cells #[.int .i64 fr, .int .i64 pl, .string tx] 30)) (.cells #[.int .i64 fr, .int .i64 pl] 3))
  have HB := Aside0.mk (hB.below HB0.out)
  have hn := heap_alloc_new (w.alloc (.cells #[.int .i64 fr, .int .i64 pl, .string tx] 30)) (.cells #[.int .i64 fr, .int .i64 pl] 3)
  rw [show (w.alloc (.cells #[.int .i64 fr, .int .i64 pl, .string tx] 30)).heap.size = w.heap.size + 1 from by simp] at hn
  have HR := Aside0.mk (ints_row _ _ [fr, pl] _ _ rfl (show 2 ≤ 1000 by decide) hn)
  have HK := Aside0.mk (blk_alloc (heap_alloc_new w (.cells #[.int .i64 fr, .int .i64 pl, .string tx] 30)) (.cells #[.int .i64 fr, .int .i64 pl] 3))
  have p1 : decide ((262144 : Int) < (tx.size : Int)) = false := decide_eq_false (by omega)
  have p2 : decide (262144 < tx.size) = false := decide_eq_false (by omega)
  obtain ⟨q, V, hg, hg1, hg2, hV, hM⟩ := hB
  obtain ⟨v, hL, hVN⟩ := hM.look (P := Try.prog) Try.underlying58 Try.underlying3 zero39 pl
  obtain ⟨es_, cl_, hqm⟩ := hM.at
  have HVB := Aside0.mk (Kd.R_lt hL.2.1)
  have HQN := Aside0.mk (fun e => row_ne_map hL.2.1 hqm q rfl e)
  obtain ⟨A, c, hv, -, -⟩ := Kd.R_reads hL.2.1
  subst hv
  have HVN := Aside0.mk hVN
  clear hVN
  have HG := Aside0.mk hg
  have HG1 := Aside0.mk hg1
  have HG2 := Aside0.mk hg2
  have HV := Aside0.mk hV
  have HL := Aside0.mk hL
  have HF := Aside0.mk hroom
  have HZ := Aside0.mk hb0
  clear hn hs hroom hb0 hg hg1 hg2 hV hM hL hqm
  go_enter Try.func8, Try.ntmps8
  go_wp2_with (go_at_call 23; go_loud ((refine (has2_calls g b0 ps m _ fr pl _ HB.out HR.out).mono ?_); rintro e w2 ⟨rfl, hb2⟩; rw [hh]; have HB2 := Aside0.mk (below_step HB0.out hb2); have hk := blk_below HK.out hb2; have HKw := Aside0.mk hk; have hc0 : w2.cell? ⟨w.heap.size, 0, none⟩ = some (.int .i64 fr) := (blk_cell hk 0).trans rfl; have hc1 : w2.cell? ⟨w.heap.size, 1, none⟩ = some (.int .i64 pl) := (blk_cell hk 1).trans rfl; have hc2 : w2.cell? ⟨w.heap.size, 2, none⟩ = some (.string tx) := (blk_cell hk 2).trans rfl; have hg2_ := blk_below HG.out HB2.out; have hgc : w2.cell? ⟨g, 0, none⟩ = some (.map (some q)) := (blk_cell hg2_ 0).trans rfl; have HLw := Aside0.mk (HL.out.below HB2.out); have hlk0 : ∀ n, (Instr.lookup 58 (.map (some q)) (.int .i64 pl) false).run Try.prog (w2.drewN n) = .ok (.slice A (m pl).length c) (w2.drewN n) := fun n => HLw.out.1 _ rfl; clear hb2 hk hg2_))
  have hroom := HF.out
  have f1 : decide ((1024 : Int) ≤ ((m pl).length : Int)) = false := decide_eq_false (by omega)
  have f2 : decide (1024 ≤ (m pl).length) = false := decide_eq_false (by omega)
  have HLn : Aside0 (((m pl).length + 1) * 32 ≤ 140737488355328) := ⟨by omega⟩
  clear hroom
  go_quiet (fail)
  go_wp2
  have HBw := Aside0.mk (below_drew1 (pw_below_drewN HB2.out nq))
  have HLd := Aside0.mk (HL.out.below HBw.out)
  have HKd := Aside0.mk (blk_drew (blk_drewN HKw.out nq))
  have HGd := Aside0.mk (blk_below HG.out HBw.out)
  have HBd : Aside0 (Below b0 w (w2.drewN nq).drew) := ⟨⟨HBw.out.os, HBw.out.tape, HBw.out.output, HBw.out.size, fun k hk => HBw.out.block k (Nat.lt_of_lt_of_le hk HZ.out)⟩⟩
  have HSd : Aside0 (b0 ≤ (w2.drewN nq).drew.heap.size) := ⟨Nat.le_trans HZ.out HBw.out.size⟩
  have hlk : (Instr.lookup 58 (.map (some q)) (.int .i64 pl) false).run Try.prog (w2.drewN nq).drew = .ok (.slice A (m pl).length c) (w2.drewN nq).drew := HLd.out.1 _ rfl
  refine start_ (n := 17) (S := fun w' => w'.cell? ⟨g, 0, none⟩ = some (.map (some q)) ∧ w'.cell? ⟨w.heap.size, 0, none⟩ = some (.int .i64 fr) ∧ w'.cell? ⟨w.heap.size, 1, none⟩ = some (.int .i64 pl) ∧ w'.cell? ⟨w.heap.size, 2, none⟩ = some (.string tx) ∧ (Instr.lookup 58 (.map (some q)) (.int .i64 pl) false).run Try.prog w' = .ok (.slice A (m pl).length c) w') (ds := [16]) #[false, false, false, false, false, false, false, false, false, false, false, false, false, false, false, false, false] (by kernel_rfl) rfl rfl ⟨hgc, hc0, hc1, hc2, hlk⟩ (fun hHeld => ?_)
  refine pure_ (i := 0) (N := some 30) (v := ?_) (a' := ?_) #[true, false, false, false, false, false, false, false, false, false, false, false, false, false, false, false, false] rfl rfl (by kernel_rfl) (fun _ _ _ h => h) (Or.inl ⟨by rfl, ?_⟩) ?_ ?_
  rotate_left
  · intro w'
    go_simp
    with_reducible rfl
  rotate_left
  · simp only [Act.put, List.setIfInBounds_toArray, List.set_cons_zero, List.set_cons_succ, i64_w, i32_w]
    rfl
  refine pure_ (i := 1) (N := some 31) (v := ?_) (a' := ?_) #[true, true, false, false, false, false, false, false, false, false, false, false, false, false, false, false, false] rfl rfl (by kernel_rfl) (fun _ _ _ h => h) (Or.inl ⟨by rfl, ?_⟩) ?_ ?_
  rotate_left
  · intro w'
    go_simp
    with_reducible rfl
  rotate_left
  · simp only [Act.put, List.setIfInBounds_toArray, List.set_cons_zero, List.set_cons_succ, i64_w, i32_w]
    rfl
  refine pure_ (i := 2) (N := some 32) (v := ?_) (a' := ?_) #[true, true, true, false, false, false, false, false, false, false, false, false, false, false, false, false, false] rfl rfl (by kernel_rfl) (fun _ _ _ h => h) (Or.inl ⟨by rfl, ?_⟩) ?_ ?_
  rotate_left
  · intro w'
    go_simp
    with_reducible rfl
  rotate_left
  · simp only [Act.put, List.setIfInBounds_toArray, List.set_cons_zero, List.set_cons_succ, i64_w, i32_w]
    rfl
  refine pure_ (i := 4) (N := some 34) (v := ?_) (a' := ?_) #[true, true, true, false, true, false, false, false, false, false, false, false, false, false, false, false, false] rfl rfl (by kernel_rfl) (fun _ _ _ h => h) (Or.inl ⟨by rfl, ?_⟩) ?_ ?_
  rotate_left
  · intro w'
    go_simp
    with_reducible rfl
  rotate_left
  · simp only [Act.put, List.setIfInBounds_toArray, List.set_cons_zero, List.set_cons_succ, i64_w, i32_w]
    rfl
  refine pure_ (i := 6) (N := some 36) (v := ?_) (a' := ?_) #[true, true, true, false, true, false, true, false, false, false, false, false, false, false, false, false, false] rfl rfl (by kernel_rfl) (fun _ _ _ h => h) (Or.inl ⟨by rfl, ?_⟩) ?_ ?_
  rotate_left
  · intro w'
    go_simp
    with_reducible rfl
  rotate_left
  · simp only [Act.put, List.setIfInBounds_toArray, List.set_cons_zero, List.set_cons_succ, i64_w, i32_w]
    rfl
  refine pure_ (i := 7) (N := some 37) (v := ?_) (a' := ?_) #[true, true, true, false, true, false, true, true, false, false, false, false, false, false, false, false, false] rfl rfl (by kernel_rfl) (fun _ _ _ h => h) (Or.inl ⟨by rfl, ?_⟩) ?_ ?_
  rotate_left
  · intro w'
    go_simp
    with_reducible rfl
  rotate_left
  · simp only [Act.put, List.setIfInBounds_toArray, List.set_cons_zero, List.set_cons_succ, i64_w, i32_w]
    rfl
  refine pure_ (i := 8) (N := some 38) (v := ?_) (a' := ?_) #[true, true, true, false, true, false, true, true, true, false, false, false, false, false, false, false, false] rfl rfl (by kernel_rfl) (fun _ _ _ h => h) (Or.inl ⟨by rfl, ?_⟩) ?_ ?_
  rotate_left
  · intro w'
    go_simp
    with_reducible rfl
  rotate_left
  · simp only [Act.put, List.setIfInBounds_toArray, List.set_cons_zero, List.set_cons_succ, i64_w, i32_w]
    rfl
  refine pure_ (i := 10) (N := some 40) (v := ?_) (a' := ?_) #[true, true, true, false, true, false, true, true, true, false, true, false, false, false, false, false, false] rfl rfl (by kernel_rfl) (fun _ _ _ h => h) (Or.inl ⟨by rfl, ?_⟩) ?_ ?_
  rotate_left
  · intro w'
    go_simp
    with_reducible rfl
  rotate_left
  · simp only [Act.put, List.setIfInBounds_toArray, List.set_cons_zero, List.set_cons_succ, i64_w, i32_w]
    rfl
  refine take_ (i := 3) (N := some 33) (v := ?_) (a' := ?_) #[true, true, true, true, true, false, true, true, true, false, true, false, false, false, false, false, false] rfl rfl (by kernel_rfl) (fun _ _ _ h => h) (Or.inl ⟨by rfl, ?_⟩) hHeld ?_ ?_
  rotate_left
  · rintro w' ⟨s0, s1, s2, s3, s4⟩
    go_simp
    with_reducible rfl
  rotate_left
  · simp only [Act.put, List.setIfInBounds_toArray, List.set_cons_zero, List.set_cons_succ, i64_w, i32_w]
    rfl
  refine take_ (i := 5) (N := some 35) (v := ?_) (a' := ?_) #[true, true, true, true, true, true, true, true, true, false, true, false, false, false, false, false, false] rfl rfl (by kernel_rfl) (fun _ _ _ h => h) (Or.inl ⟨by rfl, ?_⟩) hHeld ?_ ?_
  rotate_left
  · rintro w' ⟨s0, s1, s2, s3, s4⟩
    go_simp
    with_reducible rfl
  rotate_left
  · simp only [Act.put, List.setIfInBounds_toArray, List.set_cons_zero, List.set_cons_succ, i64_w, i32_w]
    rfl
  refine take_ (i := 9) (N := some 39) (v := ?_) (a' := ?_) #[true, true, true, true, true, true, true, true, true, true, true, false, false, false, false, false, false] rfl rfl (by kernel_rfl) (fun _ _ _ h => h) (Or.inl ⟨by rfl, ?_⟩) hHeld ?_ ?_
  rotate_left
  · rintro w' ⟨s0, s1, s2, s3, s4⟩
    go_simp
    with_reducible rfl
  rotate_left
  · simp only [Act.put, List.setIfInBounds_toArray, List.set_cons_zero, List.set_cons_succ, i64_w, i32_w]
    rfl
  refine take_ (i := 11) (N := some 41) (v := ?_) (a' := ?_) #[true, true, true, true, true, true, true, true, true, true, true, true, false, false, false, false, false] rfl rfl (by kernel_rfl) (fun _ _ _ h => h) (Or.inl ⟨by rfl, ?_⟩) hHeld ?_ ?_
  rotate_left
  · rintro w' ⟨s0, s1, s2, s3, s4⟩
    go_simp
    with_reducible rfl
  rotate_left
  · simp only [Act.put, List.setIfInBounds_toArray, List.set_cons_zero, List.set_cons_succ, i64_w, i32_w]
    rfl
  refine take_ (i := 12) (N := some 42) (v := ?_) (a' := ?_) #[true, true, true, true, true, true, true, true, true, true, true, true, true, false, false, false, false] rfl rfl (by kernel_rfl) (fun _ _ _ h => h) (Or.inl ⟨by rfl, ?_⟩) hHeld ?_ ?_
  rotate_left
  · rintro w' ⟨s0, s1, s2, s3, s4⟩
    go_simp
    with_reducible rfl
  rotate_left
  · simp only [Act.put, List.setIfInBounds_toArray, List.set_cons_zero, List.set_cons_succ, i64_w, i32_w]
    rfl
  refine take_ (i := 13) (N := some 43) (v := ?_) (a' := ?_) #[true, true, true, true, true, true, true, true, true, true, true, true, true, true, false, false, false] rfl rfl (by kernel_rfl) (fun _ _ _ h => h) (Or.inl ⟨by rfl, ?_⟩) hHeld ?_ ?_
  rotate_left
  · rintro w' ⟨s0, s1, s2, s3, s4⟩
    go_simp
    with_reducible rfl
  rotate_left
  · simp only [Act.put, List.setIfInBounds_toArray, List.set_cons_zero, List.set_cons_succ, i64_w, i32_w]
    rfl
  refine one_ (i := 14) (N := some 44) #[true, true, true, true, true, true, true, true, true, true, true, true, true, true, true, false, false] rfl rfl (by kernel_rfl) (by decide) (fun K hK => ?_)
  refine value_ (w1 := ?_) (v := ?_) (by rfl) rfl ?_ ?_
  rotate_left 2
  · go_simp
    constructor
    · rfl
    · rfl
  refine hK.out _ _ ⟨Go.Lib.cell?_alloc_some _ hgc, Go.Lib.cell?_alloc_some _ hc0, Go.Lib.cell?_alloc_some _ hc1, Go.Lib.cell?_alloc_some _ hc2, HLd.out.1 _ (Below.heap_alloc _ _ q HLd.out.2.2.1)⟩ (fun hHeld => ?_)
  clear hK K
  refine norm_ (a' := ?_) ?_ ?_
  rotate_left
  · show Act.put _ (some 44) _ = _
    simp only [Act.put, List.setIfInBounds_toArray, List.set_cons_zero, List.set_cons_succ, i64_w, i32_w]
    rfl
  refine one_ (i := 15) (N := some 45) #[true, true, true, true, true, true, true, true, true, true, true, true, true, true, true, true, false] rfl rfl (by kernel_rfl) (by decide) (fun K hK => ?_)
  refine Kd.R_append_step k30 (w0 := w) b0 (by rfl) (.tmp 42) (.tmp 44) 39 30 (.agg #[(.int .i64 0), (.int .i64 0), (.string ⟨#[]⟩)]) 32 rfl Try.underlying39 info30 rfl (by decide) (by omega) (.slice A (m pl).length c) (m pl) (⟨fr, pl, tx⟩ : S30) [.int .i64 fr, .int .i64 pl, .string tx] (fun _ => True) (fun _ => False) rfl (by first | rfl | (go_simp; done) | (go_simp; rfl)) (k30_mkM _ _ _ (⟨fr, pl, tx⟩ : S30)) (fun _ hk => hk.elim) (fun _ _ => trivial) HLd.out.2.1 HBd.out HSd.out HLn.out ?_
  intro v9 w9 ho hb hg hat
  obtain ⟨A9, c9, e9⟩ := Kd.R_slice ho
  subst e9
  obtain ⟨w10, hrun, hM10, hg10, hf10, hn10⟩ := HLd.out.2.2.2 w9 _ _ hg (.inr hat) ho
  have HN10 := Aside0.mk hn10
  have HGR9 := Aside0.mk hg
  have HAT := Aside0.mk hat
  clear hn10
  simp only [List.length_append, List.length_singleton] at hrun
  have HF9 := Aside0.mk (BFr.of_row HLd.out.2.1 hg)
  have hbx := (hg.block w.heap.size (blk_lt HKd.out) (fun e => Nat.lt_irrefl _ (HVB.out _ e.symm))).trans HKd.out
  have hgx := HF9.out.block g _ HGd.out (fun c f e => by cases e) (fun es cl e => by cases e)
  have hqx := hg.block q HLd.out.2.2.1 (fun e => HQN.out e)
  have HM10 := Aside0.mk hM10
  have HG10 := Aside0.mk hg10
  have HF10 := Aside0.mk hf10
  have HB9 := Aside0.mk hb
  clear ho hb hg hat hM10 hg10 hf10
  refine hK.out _ _ ⟨(blk_cell hgx 0).trans rfl, (blk_cell hbx 0).trans rfl, (blk_cell hbx 1).trans rfl, (blk_cell hbx 2).trans rfl, HLd.out.1 _ hqx⟩ (fun hHeld => ?_)
  clear hK K
  refine norm_ (a' := ?_) ?_ ?_
  rotate_left
  · show Act.put _ (some 45) _ = _
    simp only [Act.put, List.setIfInBounds_toArray, List.set_cons_zero, List.set_cons_succ, i64_w, i32_w]
    rfl
  refine last_ (i := 16) (N := none) #[true, true, true, true, true, true, true, true, true, true, true, true, true, true, true, true, true] rfl rfl (by kernel_rfl) (by decide) (fun K hK => ?_)
  refine skip_ (w1 := ?_) (by rfl) rfl ?_ ?_
  rotate_left
  · go_simp
    rfl
  refine hK.out _ _ ?_
  clear hK K
  refine done_ (by kernel_rfl) ?_

  go_wp2
  go_ret
  refine ⟨rfl, Bag.put HG.out HG1.out HG2.out HV.out ((BFr.of_below HBw.out).trans HF9.out) HF10.out HM10.out, HB9.out.grown HG10.out (Nat.le_trans HZ.out HB9.out.size) (fun k hk => by injection hk with hk; rw [← hk]; exact HG2.out), (BFr.of_below HBw.out).trans (HF9.out.trans HF10.out), outs_of HG.out HBw.out HGR9.out HG10.out ((BFr.of_below HBw.out).trans (HF9.out.trans HF10.out)) HVN.out (.inr HAT.out) HN10.out HL.out.2.2.1⟩
set_option maxHeartbeats 3200000 in
set_option maxRecDepth 100000 in
theorem twice_ok2 (g b0 : Nat) (ps : List Int) (m : Int → List S30) (pl at_ : Int) (w : World) (hB : Bag w b0 g ps m) (hb0 : b0 ≤ w.heap.size) (hh : findE ps m pl at_ = 0) (hroom : (m pl).length < 1024) :
    Calls Try.prog 9 #[.pointer (some ⟨g, 0, none⟩), .int .i64 pl, .int .i64 at_] w fun e w' => e = .returned (.int .i64 0) ∧ Bag w' b0 g ps (upd m pl (m pl ++ [findL ps m pl at_])) ∧ Below b0 w w' ∧ BFr w w' ∧ Outs w w' g := by
  have HB := Aside0.mk hB
  obtain ⟨q, V, hg, hg1, hg2, hV, hM⟩ := hB
  obtain ⟨v, hL, hVN⟩ := hM.look (P := Try.prog) Try.underlying58 Try.underlying3 zero39 pl
  obtain ⟨es_, cl_, hqm⟩ := hM.at
  have HVB := Aside0.mk (Kd.R_lt hL.2.1)
  have HQN := Aside0.mk (fun e => row_ne_map hL.2.1 hqm q rfl e)
  obtain ⟨A, c, hv, -, -⟩ := Kd.R_reads hL.2.1
  subst hv
  have HVN := Aside0.mk hVN
  clear hVN
  have HG := Aside0.mk hg
  have HG1 := Aside0.mk hg1
  have HG2 := Aside0.mk hg2
  have HV := Aside0.mk hV
  have HL := Aside0.mk hL
  have HZ := Aside0.mk hb0
  have f1 : decide ((1024 : Int) ≤ ((m pl).length : Int)) = false := decide_eq_false (by omega)
  have f2 : decide (1024 ≤ (m pl).length) = false := decide_eq_false (by omega)
  have HLn : Aside0 (((m pl).length + 1) * 32 ≤ 140737488355328) := ⟨by omega⟩
  clear hg hg1 hg2 hV hM hL hqm hroom hb0
  obtain ⟨L, hL⟩ : ∃ L, findL ps m pl at_ = L := ⟨_, rfl⟩
  rw [hL]
  obtain ⟨F0, F1, F2⟩ := L
  go_enter Try.func9, Try.ntmps9
  go_wp2_with (go_at_call 24; go_loud ((refine (find_calls g b0 ps m pl at_ _ HB.out).mono ?_); rintro e w2 ⟨rfl, hb2⟩; rw [hh, hL]; have HBW := Aside0.mk hb2; have HB3 := Aside0.mk (below_alloc hb2 (.cells #[.int .i64 F0, .int .i64 F1, .string F2] 30)); have HK3 := Aside0.mk (heap_alloc_new w2 (.cells #[.int .i64 F0, .int .i64 F1, .string F2] 30)); have hgc3 : (w2.alloc (.cells #[.int .i64 F0, .int .i64 F1, .string F2] 30)).cell? ⟨g, 0, none⟩ = some (.map (some q)) := (blk_cell (blk_below HG.out HB3.out) 0).trans rfl; have hlk3 : (Instr.lookup 58 (.map (some q)) (.int .i64 pl) false).run Try.prog (w2.alloc (.cells #[.int .i64 F0, .int .i64 F1, .string F2] 30)) = .ok (.slice A (m pl).length c) (w2.alloc (.cells #[.int .i64 F0, .int .i64 F1, .string F2] 30)) := (HL.out.below HB3.out).1 _ rfl; clear hb2))
  have HBw := Aside0.mk (below_drew1 HB3.out)
  have HLd := Aside0.mk (HL.out.below HBw.out)
  have HKd := Aside0.mk (blk_drew HK3.out)
  have HGd := Aside0.mk (blk_below HG.out HBw.out)
  have HBd : Aside0 (Below b0 w (w2.alloc (.cells #[.int .i64 F0, .int .i64 F1, .string F2] 30)).drew) := ⟨⟨HBw.out.os, HBw.out.tape, HBw.out.output, HBw.out.size, fun k hk => HBw.out.block k (Nat.lt_of_lt_of_le hk HZ.out)⟩⟩
  have HSd : Aside0 (b0 ≤ (w2.alloc (.cells #[.int .i64 F0, .int .i64 F1, .string F2] 30)).drew.heap.size) := ⟨Nat.le_trans HZ.out HBw.out.size⟩
  have hgc : (w2.alloc (.cells #[.int .i64 F0, .int .i64 F1, .string F2] 30)).drew.cell? ⟨g, 0, none⟩ = some (.map (some q)) := hgc3
  have hc0 : (w2.alloc (.cells #[.int .i64 F0, .int .i64 F1, .string F2] 30)).drew.cell? ⟨w2.heap.size, 0, none⟩ = some (.int .i64 F0) := (blk_cell HKd.out 0).trans rfl
  have hc1 : (w2.alloc (.cells #[.int .i64 F0, .int .i64 F1, .string F2] 30)).drew.cell? ⟨w2.heap.size, 1, none⟩ = some (.int .i64 F1) := (blk_cell HKd.out 1).trans rfl
  have hc2 : (w2.alloc (.cells #[.int .i64 F0, .int .i64 F1, .string F2] 30)).drew.cell? ⟨w2.heap.size, 2, none⟩ = some (.string F2) := (blk_cell HKd.out 2).trans rfl
  have hlk : (Instr.lookup 58 (.map (some q)) (.int .i64 pl) false).run Try.prog (w2.alloc (.cells #[.int .i64 F0, .int .i64 F1, .string F2] 30)).drew = .ok (.slice A (m pl).length c) (w2.alloc (.cells #[.int .i64 F0, .int .i64 F1, .string F2] 30)).drew := HLd.out.1 _ rfl
  refine start_ (n := 15) (S := fun w' => w'.cell? ⟨g, 0, none⟩ = some (.map (some q)) ∧ w'.cell? ⟨w2.heap.size, 0, none⟩ = some (.int .i64 F0) ∧ w'.cell? ⟨w2.heap.size, 1, none⟩ = some (.int .i64 F1) ∧ w'.cell? ⟨w2.heap.size, 2, none⟩ = some (.string F2) ∧ (Instr.lookup 58 (.map (some q)) (.int .i64 pl) false).run Try.prog w' = .ok (.slice A (m pl).length c) w') (ds := [14]) #[false, false, false, false, false, false, false, false, false, false, false, false, false, false, false] (by kernel_rfl) rfl rfl ⟨hgc, hc0, hc1, hc2, hlk⟩ (fun hHeld => ?_)
  refine pure_ (i := 0) (N := some 29) (v := ?_) (a' := ?_) #[true, false, false, false, false, false, false, false, false, false, false, false, false, false, false] rfl rfl (by kernel_rfl) (fun _ _ _ h => h) (Or.inl ⟨by rfl, ?_⟩) ?_ ?_
  rotate_left
  · intro w'
    go_simp
    with_reducible rfl
  rotate_left
  · simp only [Act.put, List.setIfInBounds_toArray, List.set_cons_zero, List.set_cons_succ, i64_w, i32_w]
    rfl
  refine pure_ (i := 1) (N := some 30) (v := ?_) (a' := ?_) #[true, true, false, false, false, false, false, false, false, false, false, false, false, false, false] rfl rfl (by kernel_rfl) (fun _ _ _ h => h) (Or.inl ⟨by rfl, ?_⟩) ?_ ?_
  rotate_left
  · intro w'
    go_simp
    with_reducible rfl
  rotate_left
  · simp only [Act.put, List.setIfInBounds_toArray, List.set_cons_zero, List.set_cons_succ, i64_w, i32_w]
    rfl
  refine pure_ (i := 2) (N := some 31) (v := ?_) (a' := ?_) #[true, true, true, false, false, false, false, false, false, false, false, false, false, false, false] rfl rfl (by kernel_rfl) (fun _ _ _ h => h) (Or.inl ⟨by rfl, ?_⟩) ?_ ?_
  rotate_left
  · intro w'
    go_simp
    with_reducible rfl
  rotate_left
  · simp only [Act.put, List.setIfInBounds_toArray, List.set_cons_zero, List.set_cons_succ, i64_w, i32_w]
    rfl
  refine pure_ (i := 4) (N := some 33) (v := ?_) (a' := ?_) #[true, true, true, false, true, false, false, false, false, false, false, false, false, false, false] rfl rfl (by kernel_rfl) (fun _ _ _ h => h) (Or.inl ⟨by rfl, ?_⟩) ?_ ?_
  rotate_left
  · intro w'
    go_simp
    with_reducible rfl
  rotate_left
  · simp only [Act.put, List.setIfInBounds_toArray, List.set_cons_zero, List.set_cons_succ, i64_w, i32_w]
    rfl
  refine pure_ (i := 5) (N := some 34) (v := ?_) (a' := ?_) #[true, true, true, false, true, true, false, false, false, false, false, false, false, false, false] rfl rfl (by kernel_rfl) (fun _ _ _ h => h) (Or.inl ⟨by rfl, ?_⟩) ?_ ?_
  rotate_left
  · intro w'
    go_simp
    with_reducible rfl
  rotate_left
  · simp only [Act.put, List.setIfInBounds_toArray, List.set_cons_zero, List.set_cons_succ, i64_w, i32_w]
    rfl
  refine pure_ (i := 6) (N := some 35) (v := ?_) (a' := ?_) #[true, true, true, false, true, true, true, false, false, false, false, false, false, false, false] rfl rfl (by kernel_rfl) (fun _ _ _ h => h) (Or.inl ⟨by rfl, ?_⟩) ?_ ?_
  rotate_left
  · intro w'
    go_simp
    with_reducible rfl
  rotate_left
  · simp only [Act.put, List.setIfInBounds_toArray, List.set_cons_zero, List.set_cons_succ, i64_w, i32_w]
    rfl
  refine pure_ (i := 7) (N := some 36) (v := ?_) (a' := ?_) #[true, true, true, false, true, true, true, true, false, false, false, false, false, false, false] rfl rfl (by kernel_rfl) (fun _ _ _ h => h) (Or.inl ⟨by rfl, ?_⟩) ?_ ?_
  rotate_left
  · intro w'
    go_simp
    with_reducible rfl
  rotate_left
  · simp only [Act.put, List.setIfInBounds_toArray, List.set_cons_zero, List.set_cons_succ, i64_w, i32_w]
    rfl
  refine pure_ (i := 9) (N := some 38) (v := ?_) (a' := ?_) #[true, true, true, false, true, true, true, true, false, true, false, false, false, false, false] rfl rfl (by kernel_rfl) (fun _ _ _ h => h) (Or.inl ⟨by rfl, ?_⟩) ?_ ?_
  rotate_left
  · intro w'
    go_simp
    with_reducible rfl
  rotate_left
  · simp only [Act.put, List.setIfInBounds_toArray, List.set_cons_zero, List.set_cons_succ, i64_w, i32_w]
    rfl
  refine take_ (i := 3) (N := some 32) (v := ?_) (a' := ?_) #[true, true, true, true, true, true, true, true, false, true, false, false, false, false, false] rfl rfl (by kernel_rfl) (fun _ _ _ h => h) (Or.inl ⟨by rfl, ?_⟩) hHeld ?_ ?_
  rotate_left
  · rintro w' ⟨s0, s1, s2, s3, s4⟩
    go_simp
    with_reducible rfl
  rotate_left
  · simp only [Act.put, List.setIfInBounds_toArray, List.set_cons_zero, List.set_cons_succ, i64_w, i32_w]
    rfl
  refine take_ (i := 8) (N := some 37) (v := ?_) (a' := ?_) #[true, true, true, true, true, true, true, true, true, true, false, false, false, false, false] rfl rfl (by kernel_rfl) (fun _ _ _ h => h) (Or.inl ⟨by rfl, ?_⟩) hHeld ?_ ?_
  rotate_left
  · rintro w' ⟨s0, s1, s2, s3, s4⟩
    go_simp
    with_reducible rfl
  rotate_left
  · simp only [Act.put, List.setIfInBounds_toArray, List.set_cons_zero, List.set_cons_succ, i64_w, i32_w]
    rfl
  refine take_ (i := 10) (N := some 39) (v := ?_) (a' := ?_) #[true, true, true, true, true, true, true, true, true, true, true, false, false, false, false] rfl rfl (by kernel_rfl) (fun _ _ _ h => h) (Or.inl ⟨by rfl, ?_⟩) hHeld ?_ ?_
  rotate_left
  · rintro w' ⟨s0, s1, s2, s3, s4⟩
    go_simp
    with_reducible rfl
  rotate_left
  · simp only [Act.put, List.setIfInBounds_toArray, List.set_cons_zero, List.set_cons_succ, i64_w, i32_w]
    rfl
  refine take_ (i := 11) (N := some 40) (v := ?_) (a' := ?_) #[true, true, true, true, true, true, true, true, true, true, true, true, false, false, false] rfl rfl (by kernel_rfl) (fun _ _ _ h => h) (Or.inl ⟨by rfl, ?_⟩) hHeld ?_ ?_
  rotate_left
  · rintro w' ⟨s0, s1, s2, s3, s4⟩
    go_simp
    with_reducible rfl
  rotate_left
  · simp only [Act.put, List.setIfInBounds_toArray, List.set_cons_zero, List.set_cons_succ, i64_w, i32_w]
    rfl
  refine one_ (i := 12) (N := some 41) #[true, true, true, true, true, true, true, true, true, true, true, true, true, false, false] rfl rfl (by kernel_rfl) (by decide) (fun K hK => ?_)
  refine value_ (w1 := ?_) (v := ?_) (by rfl) rfl ?_ ?_
  rotate_left 2
  · go_simp
    constructor
    · rfl
    · rfl
  refine hK.out _ _ ⟨Go.Lib.cell?_alloc_some _ hgc, Go.Lib.cell?_alloc_some _ hc0, Go.Lib.cell?_alloc_some _ hc1, Go.Lib.cell?_alloc_some _ hc2, HLd.out.1 _ (Below.heap_alloc _ _ q HLd.out.2.2.1)⟩ (fun hHeld => ?_)
  clear hK K
  refine norm_ (a' := ?_) ?_ ?_
  rotate_left
  · show Act.put _ (some 41) _ = _
    simp only [Act.put, List.setIfInBounds_toArray, List.set_cons_zero, List.set_cons_succ, i64_w, i32_w]
    rfl
  refine one_ (i := 13) (N := some 42) #[true, true, true, true, true, true, true, true, true, true, true, true, true, true, false] rfl rfl (by kernel_rfl) (by decide) (fun K hK => ?_)
  refine Kd.R_append_step k30 (w0 := w) b0 (by rfl) (.tmp 39) (.tmp 41) 39 30 (.agg #[(.int .i64 0), (.int .i64 0), (.string ⟨#[]⟩)]) 32 rfl Try.underlying39 info30 rfl (by decide) (by omega) (.slice A (m pl).length c) (m pl) (⟨F0, F1, F2⟩ : S30) [.int .i64 F0, .int .i64 F1, .string F2] (fun _ => True) (fun _ => False) rfl (by first | rfl | (go_simp; done) | (go_simp; rfl)) (k30_mkM _ _ _ (⟨F0, F1, F2⟩ : S30)) (fun _ hk => hk.elim) (fun _ _ => trivial) HLd.out.2.1 HBd.out HSd.out HLn.out ?_
  intro v9 w9 ho hb hg hat
  obtain ⟨A9, c9, e9⟩ := Kd.R_slice ho
  subst e9
  obtain ⟨w10, hrun, hM10, hg10, hf10, hn10⟩ := HLd.out.2.2.2 w9 _ _ hg (.inr hat) ho
  have HN10 := Aside0.mk hn10
  have HGR9 := Aside0.mk hg
  have HAT := Aside0.mk hat
  clear hn10
  simp only [List.length_append, List.length_singleton] at hrun
  have HF9 := Aside0.mk (BFr.of_row HLd.out.2.1 hg)
  have hbx := (hg.block w2.heap.size (blk_lt HKd.out) (fun e => Nat.lt_irrefl _ (Nat.lt_of_lt_of_le (HVB.out _ e.symm) HBW.out.size))).trans HKd.out
  have hgx := HF9.out.block g _ HGd.out (fun c f e => by cases e) (fun es cl e => by cases e)
  have hqx := hg.block q HLd.out.2.2.1 (fun e => HQN.out e)
  have HM10 := Aside0.mk hM10
  have HG10 := Aside0.mk hg10
  have HF10 := Aside0.mk hf10
  have HB9 := Aside0.mk hb
  clear ho hb hg hat hM10 hg10 hf10
  refine hK.out _ _ ⟨(blk_cell hgx 0).trans rfl, (blk_cell hbx 0).trans rfl, (blk_cell hbx 1).trans rfl, (blk_cell hbx 2).trans rfl, HLd.out.1 _ hqx⟩ (fun hHeld => ?_)
  clear hK K
  refine norm_ (a' := ?_) ?_ ?_
  rotate_left
  · show Act.put _ (some 42) _ = _
    simp only [Act.put, List.setIfInBounds_toArray, List.set_cons_zero, List.set_cons_succ, i64_w, i32_w]
    rfl
  refine last_ (i := 14) (N := none) #[true, true, true, true, true, true, true, true, true, true, true, true, true, true, true] rfl rfl (by kernel_rfl) (by decide) (fun K hK => ?_)
  refine skip_ (w1 := ?_) (by rfl) rfl ?_ ?_
  rotate_left
  · go_simp
    rfl
  refine hK.out _ _ ?_
  clear hK K
  refine done_ (by kernel_rfl) ?_

  go_wp2
  go_ret
  refine ⟨rfl, Bag.put HG.out HG1.out HG2.out HV.out ((BFr.of_below HBw.out).trans HF9.out) HF10.out HM10.out, HB9.out.grown HG10.out (Nat.le_trans HZ.out HB9.out.size) (fun k hk => by injection hk with hk; rw [← hk]; exact HG2.out), (BFr.of_below HBw.out).trans (HF9.out.trans HF10.out), outs_of HG.out HBw.out HGR9.out HG10.out ((BFr.of_below HBw.out).trans (HF9.out.trans HF10.out)) HVN.out (.inr HAT.out) HN10.out HL.out.2.2.1⟩
set_option maxHeartbeats 3200000 in
set_option maxRecDepth 100000 in
theorem clear_ok2 (g b0 : Nat) (ps : List Int) (m : Int → List S30) (pl : Int) (w : World) (hB : Bag w b0 g ps m) (hb0 : b0 ≤ w.heap.size) (hh : hasL ps [pl] = true) :
    Calls Try.prog 20 #[.pointer (some ⟨g, 0, none⟩), .int .i64 pl] w fun e w' => e = .returned (.int .i64 0) ∧ Bag w' b0 g ps (upd m pl []) ∧ Below b0 w w' ∧ BFr w w' ∧ Outs w w' g := by
  have HB0 := Aside0.mk (below_alloc (Below.refl w.heap.size w) (.cells #[.int .i64 pl] 3))
  have HB := Aside0.mk (hB.below HB0.out)
  have HR := Aside0.mk (ints_row _ _ [pl] _ _ rfl (show 1 ≤ 1000 by decide) (heap_alloc_new w (.cells #[.int .i64 pl] 3)))
  have HZ := Aside0.mk hb0
  obtain ⟨q, V, hg, hg1, hg2, hV, hM⟩ := hB
  obtain ⟨v, hL, hVN⟩ := hM.look (P := Try.prog) Try.underlying58 Try.underlying3 zero39 pl
  have HG := Aside0.mk hg
  have HG1 := Aside0.mk hg1
  have HG2 := Aside0.mk hg2
  have HV := Aside0.mk hV
  have HL := Aside0.mk hL
  clear hg hg1 hg2 hV hM hL hb0
  go_enter Try.func20, Try.ntmps20
  go_wp2_with (go_at_call 23; go_loud ((refine (has1_of g b0 ps m _ pl _ HB.out HR.out).mono ?_); rintro e w2 ⟨rfl, hb2⟩; rw [hh]; have HB2 := Aside0.mk (below_step HB0.out hb2); have hgc : w2.cell? ⟨g, 0, none⟩ = some (.map (some q)) := (blk_cell (blk_below HG.out HB2.out) 0).trans rfl; obtain ⟨w10, hrun, hM10, hg10, hf10, hn10⟩ := (HL.out.below HB2.out).2.2.2 w2 (.slice none 0 0) [] (World.grownBy.refl _ _) (.inl rfl) (Kd.R_nil _ _ _ _ _); have HM10 := Aside0.mk hM10; have HN10 := Aside0.mk hn10; have HG10 := Aside0.mk hg10; have HF10 := Aside0.mk hf10; clear hn10 hb2 hM10 hg10 hf10))
  go_ret
  have hbl : Below b0 w w2 := ⟨HB2.out.os, HB2.out.tape, HB2.out.output, HB2.out.size, fun k hk => HB2.out.block k (Nat.lt_of_lt_of_le hk HZ.out)⟩
  exact ⟨rfl, Bag.put HG.out HG1.out HG2.out HV.out (BFr.of_below HB2.out) HF10.out HM10.out, hbl.grown HG10.out (Nat.le_trans HZ.out HB2.out.size) (fun k hk => by injection hk with hk; rw [← hk]; exact HG2.out), (BFr.of_below HB2.out).trans HF10.out, outs_of HG.out HB2.out (World.grownBy.refl _ _) HG10.out ((BFr.of_below HB2.out).trans HF10.out) hVN (.inl rfl) HN10.out HL.out.2.2.1⟩
set_option maxHeartbeats 3200000 in
set_option maxRecDepth 100000 in
theorem take_ok2 (g b0 : Nat) (ps : List Int) (m : Int → List S30) (pl : Int) (i : Nat) (w : World) (hB : Bag w b0 g ps m) (hb0 : b0 ≤ w.heap.size) (hh : findE ps m pl (i : Int) = 0) (hi : i < (m pl).length) (hn : (m pl).length ≤ 2000) :
    Calls Try.prog 11 #[.pointer (some ⟨g, 0, none⟩), .int .i64 pl, .int .i64 (i : Int)] w fun e w' => e = .returned (.tuple #[.agg #[.int .i64 (findL ps m pl (i : Int)).f0, .int .i64 (findL ps m pl (i : Int)).f1, .string (findL ps m pl (i : Int)).f2], .int .i64 0]) ∧ Bag w' b0 g ps (upd m pl ((m pl).take i ++ (m pl).drop (i + 1))) ∧ Below b0 w w' ∧ BFr w w' ∧ Outs w w' g := by
  have HB0 := Aside0.mk (below_alloc (Below.refl w.heap.size w) (.cells #[.int .i64 0, .int .i64 0, .string ⟨#[]⟩] 30))
  have HB := Aside0.mk (hB.below HB0.out)
  have HK := Aside0.mk (heap_alloc_new w (.cells #[.int .i64 0, .int .i64 0, .string ⟨#[]⟩] 30))
  obtain ⟨q, V, hg, hg1, hg2, hV, hM⟩ := hB
  obtain ⟨v, hL, hVN⟩ := hM.look (P := Try.prog) Try.underlying58 Try.underlying3 zero39 pl
  obtain ⟨es_, cl_, hqm⟩ := hM.at
  have HVB := Aside0.mk (Kd.R_lt hL.2.1)
  have HQN := Aside0.mk (fun e => row_ne_map hL.2.1 hqm q rfl e)
  have HQL := Aside0.mk (blk_lt hqm)
  have HVN := Aside0.mk hVN
  clear hVN
  have HMN := Aside0.mk (hM.not_new w.heap.size (Nat.le_refl _))
  obtain ⟨A, c, hv, -, -⟩ := Kd.R_reads hL.2.1
  subst hv
  have HG := Aside0.mk hg
  have HG1 := Aside0.mk hg1
  have HG2 := Aside0.mk hg2
  have HV := Aside0.mk hV
  have HL := Aside0.mk hL
  have HZ := Aside0.mk hb0
  have HI := Aside0.mk hi
  have HLn := Aside0.mk hn
  have hw : wrap64 ((i : Int) + 1) = (i : Int) + 1 := by unfold wrap64; omega
  have hwi : IntKind.i64.wrap ((i : Int) + 1) = (i : Int) + 1 := (i64_w _).trans hw
  clear hg hg1 hg2 hV hM hL hqm hb0 hi hn
  obtain ⟨L, hL⟩ : ∃ L, findL ps m pl (i : Int) = L := ⟨_, rfl⟩
  rw [hL]
  obtain ⟨F0, F1, F2⟩ := L
  go_enter Try.func11, Try.ntmps11
  go_wp2_with (go_at_call 24; go_loud ((refine (find_calls g b0 ps m pl (i : Int) _ HB.out).mono ?_); rintro e w2 ⟨rfl, hb2⟩; rw [hh, hL]; have HBW := Aside0.mk (below_step HB0.out hb2); have HB3 := Aside0.mk (below_alloc (below_step HB0.out hb2) (.cells #[.int .i64 F0, .int .i64 F1, .string F2] 30)); have HK3 := Aside0.mk (heap_alloc_new w2 (.cells #[.int .i64 F0, .int .i64 F1, .string F2] 30)); have HK6 := Aside0.mk (blk_alloc (blk_below HK.out hb2) (.cells #[.int .i64 F0, .int .i64 F1, .string F2] 30)); clear hb2))
  have HBw := Aside0.mk (below_drew1 HB3.out)
  have HLd := Aside0.mk (HL.out.below HBw.out)
  have HRv : Aside0 (Kd.R k30 30 (w2.alloc (.cells #[.int .i64 F0, .int .i64 F1, .string F2] 30)).drew b0 (fun _ => True) (.slice A (m pl).length c) (m pl)) := ⟨HLd.out.2.1⟩
  have HKd := Aside0.mk (blk_drew HK3.out)
  have HKd6 := Aside0.mk (blk_drew HK6.out)
  have HGd := Aside0.mk (blk_below HG.out HBw.out)
  have hgc : (w2.alloc (.cells #[.int .i64 F0, .int .i64 F1, .string F2] 30)).drew.cell? ⟨g, 0, none⟩ = some (.map (some q)) := (blk_cell HGd.out 0).trans rfl
  have hlk : (Instr.lookup 58 (.map (some q)) (.int .i64 pl) false).run Try.prog (w2.alloc (.cells #[.int .i64 F0, .int .i64 F1, .string F2] 30)).drew = .ok (.slice A (m pl).length c) (w2.alloc (.cells #[.int .i64 F0, .int .i64 F1, .string F2] 30)).drew := HLd.out.1 _ rfl
  refine start_ (n := 16) (S := fun w' => w'.cell? ⟨g, 0, none⟩ = some (.map (some q)) ∧ (Instr.lookup 58 (.map (some q)) (.int .i64 pl) false).run Try.prog w' = .ok (.slice A (m pl).length c) w') (ds := [15]) #[false, false, false, false, false, false, false, false, false, false, false, false, false, false, false, false] (by kernel_rfl) rfl rfl ⟨hgc, hlk⟩ (fun hHeld => ?_)
  refine pure_ (i := 0) (N := some 19) (v := ?_) (a' := ?_) #[true, false, false, false, false, false, false, false, false, false, false, false, false, false, false, false] rfl rfl (by kernel_rfl) (fun _ _ _ h => h) (Or.inl ⟨by rfl, ?_⟩) ?_ ?_
  rotate_left
  · intro w'
    go_simp
    with_reducible rfl
  rotate_left
  · simp only [Act.put, List.setIfInBounds_toArray, List.set_cons_zero, List.set_cons_succ, i64_w, i32_w]
    rfl
  refine pure_ (i := 1) (N := some 20) (v := ?_) (a' := ?_) #[true, true, false, false, false, false, false, false, false, false, false, false, false, false, false, false] rfl rfl (by kernel_rfl) (fun _ _ _ h => h) (Or.inl ⟨by rfl, ?_⟩) ?_ ?_
  rotate_left
  · intro w'
    go_simp
    with_reducible rfl
  rotate_left
  · simp only [Act.put, List.setIfInBounds_toArray, List.set_cons_zero, List.set_cons_succ, i64_w, i32_w]
    rfl
  refine pure_ (i := 2) (N := some 21) (v := ?_) (a' := ?_) #[true, true, true, false, false, false, false, false, false, false, false, false, false, false, false, false] rfl rfl (by kernel_rfl) (fun _ _ _ h => h) (Or.inl ⟨by rfl, ?_⟩) ?_ ?_
  rotate_left
  · intro w'
    go_simp
    with_reducible rfl
  rotate_left
  · simp only [Act.put, List.setIfInBounds_toArray, List.set_cons_zero, List.set_cons_succ, i64_w, i32_w]
    rfl
  refine pure_ (i := 4) (N := some 23) (v := ?_) (a' := ?_) #[true, true, true, false, true, false, false, false, false, false, false, false, false, false, false, false] rfl rfl (by kernel_rfl) (fun _ _ _ h => h) (Or.inl ⟨by rfl, ?_⟩) ?_ ?_
  rotate_left
  · intro w'
    go_simp
    with_reducible rfl
  rotate_left
  · simp only [Act.put, List.setIfInBounds_toArray, List.set_cons_zero, List.set_cons_succ, i64_w, i32_w]
    rfl
  refine pure_ (i := 5) (N := some 24) (v := ?_) (a' := ?_) #[true, true, true, false, true, true, false, false, false, false, false, false, false, false, false, false] rfl rfl (by kernel_rfl) (fun _ _ _ h => h) (Or.inl ⟨by rfl, ?_⟩) ?_ ?_
  rotate_left
  · intro w'
    go_simp
    with_reducible rfl
  rotate_left
  · simp only [Act.put, List.setIfInBounds_toArray, List.set_cons_zero, List.set_cons_succ, i64_w, i32_w]
    rfl
  refine pure_ (i := 6) (N := some 25) (v := ?_) (a' := ?_) #[true, true, true, false, true, true, true, false, false, false, false, false, false, false, false, false] rfl rfl (by kernel_rfl) (fun _ _ _ h => h) (Or.inl ⟨by rfl, ?_⟩) ?_ ?_
  rotate_left
  · intro w'
    go_simp
    with_reducible rfl
  rotate_left
  · simp only [Act.put, List.setIfInBounds_toArray, List.set_cons_zero, List.set_cons_succ, i64_w, i32_w]
    rfl
  refine pure_ (i := 7) (N := some 26) (v := ?_) (a' := ?_) #[true, true, true, false, true, true, true, true, false, false, false, false, false, false, false, false] rfl rfl (by kernel_rfl) (fun _ _ _ h => h) (Or.inl ⟨by rfl, ?_⟩) ?_ ?_
  rotate_left
  · intro w'
    go_simp
    with_reducible rfl
  rotate_left
  · simp only [Act.put, List.setIfInBounds_toArray, List.set_cons_zero, List.set_cons_succ, i64_w, i32_w]
    rfl
  refine pure_ (i := 9) (N := some 28) (v := ?_) (a' := ?_) #[true, true, true, false, true, true, true, true, false, true, false, false, false, false, false, false] rfl rfl (by kernel_rfl) (fun _ _ _ h => h) (Or.inl ⟨by rfl, ?_⟩) ?_ ?_
  rotate_left
  · intro w'
    go_simp
    with_reducible rfl
  rotate_left
  · simp only [Act.put, List.setIfInBounds_toArray, List.set_cons_zero, List.set_cons_succ, i64_w, i32_w]
    rfl
  refine pure_ (i := 11) (N := some 30) (v := ?_) (a' := ?_) #[true, true, true, false, true, true, true, true, false, true, false, true, false, false, false, false] rfl rfl (by kernel_rfl) (fun _ _ _ h => h) (Or.inl ⟨by rfl, ?_⟩) ?_ ?_
  rotate_left
  · intro w'
    go_simp
    with_reducible rfl
  rotate_left
  · simp only [Act.put, List.setIfInBounds_toArray, List.set_cons_zero, List.set_cons_succ, i64_w, i32_w]
    rfl
  refine pure_ (i := 12) (N := some 31) (v := ?_) (a' := ?_) #[true, true, true, false, true, true, true, true, false, true, false, true, true, false, false, false] rfl rfl (by kernel_rfl) (fun _ _ _ h => h) (Or.inl ⟨by rfl, ?_⟩) ?_ ?_
  rotate_left
  · intro w'
    go_simp
    with_reducible rfl
  rotate_left
  · simp only [Act.put, List.setIfInBounds_toArray, List.set_cons_zero, List.set_cons_succ, i64_w, i32_w]
    rfl
  refine pure_ (i := 13) (N := some 32) (v := ?_) (a' := ?_) #[true, true, true, false, true, true, true, true, false, true, false, true, true, true, false, false] rfl rfl (by kernel_rfl) (fun _ _ _ h => h) (Or.inl ⟨by rfl, ?_⟩) ?_ ?_
  rotate_left
  · intro w'
    go_simp
    with_reducible rfl
  rotate_left
  · simp only [Act.put, List.setIfInBounds_toArray, List.set_cons_zero, List.set_cons_succ, i64_w, i32_w]
    rfl
  refine take_ (i := 3) (N := some 22) (v := ?_) (a' := ?_) #[true, true, true, true, true, true, true, true, false, true, false, true, true, true, false, false] rfl rfl (by kernel_rfl) (fun _ _ _ h => h) (Or.inl ⟨by rfl, ?_⟩) hHeld ?_ ?_
  rotate_left
  · rintro w' ⟨s0, s1⟩
    go_simp
    with_reducible rfl
  rotate_left
  · simp only [Act.put, List.setIfInBounds_toArray, List.set_cons_zero, List.set_cons_succ, i64_w, i32_w]
    rfl
  refine take_ (i := 8) (N := some 27) (v := ?_) (a' := ?_) #[true, true, true, true, true, true, true, true, true, true, false, true, true, true, false, false] rfl rfl (by kernel_rfl) (fun _ _ _ h => h) (Or.inl ⟨by rfl, ?_⟩) hHeld ?_ ?_
  rotate_left
  · rintro w' ⟨s0, s1⟩
    go_simp
    with_reducible rfl
  rotate_left
  · simp only [Act.put, List.setIfInBounds_toArray, List.set_cons_zero, List.set_cons_succ, i64_w, i32_w]
    rfl
  refine take_ (i := 10) (N := some 29) (v := ?_) (a' := ?_) #[true, true, true, true, true, true, true, true, true, true, true, true, true, true, false, false] rfl rfl (by kernel_rfl) (fun _ _ _ h => h) (Or.inl ⟨by rfl, ?_⟩) hHeld ?_ ?_
  rotate_left
  · rintro w' ⟨s0, s1⟩
    go_simp
    with_reducible rfl
  rotate_left
  · simp only [Act.put, List.setIfInBounds_toArray, List.set_cons_zero, List.set_cons_succ, i64_w, i32_w]
    rfl
  refine one_ (i := 14) (N := some 33) #[true, true, true, true, true, true, true, true, true, true, true, true, true, true, true, false] rfl rfl (by kernel_rfl) (by decide) (fun K hK => ?_)
  refine goes_ Try.func25 (by kernel_rfl) rfl #[.slice A (m pl).length c, .int .i64 (i : Int), .int .i64 ((i : Int) + 1)] (by rfl) rfl rfl (by simp only [List.map_toArray, List.map_cons, List.map_nil]; rfl) ?_
  with_reducible refine (delete_calls _ (m pl) i b0 _ HRv.out HI.out HLn.out).mono ?_
  rintro e w9 ⟨v9, rfl, hR9, ho9, hg9⟩
  refine ⟨_, rfl, ?_⟩
  obtain ⟨l9, hl9⟩ : ∃ l9, (m pl).take i ++ (m pl).drop (i + 1) = l9 := ⟨_, rfl⟩
  rw [hl9] at hR9
  have HL9 := Aside0.mk hl9
  obtain ⟨A9, c9, e9⟩ := Kd.R_slice hR9
  subst e9
  obtain ⟨w10, hrun, hM10, hg10, hf10, hn10⟩ := HLd.out.2.2.2 w9 _ _ hg9 (.inr (.inl ho9)) hR9
  have HF9 := Aside0.mk (BFr.of_row HLd.out.2.1 hg9)
  have hgx := HF9.out.block g _ HGd.out (fun c f e => by cases e) (fun es cl e => by cases e)
  have hqx := hg9.block q HLd.out.2.2.1 (fun e => HQN.out e)
  have HO9 := Aside0.mk ho9
  have HGR9 := Aside0.mk hg9
  have HM10 := Aside0.mk hM10
  have HG10 := Aside0.mk hg10
  have HF10 := Aside0.mk hf10
  have HN10 := Aside0.mk hn10
  clear hR9 ho9 hg9 hM10 hg10 hf10 hn10 hl9
  refine hK.out _ _ ⟨(blk_cell hgx 0).trans rfl, HLd.out.1 _ hqx⟩ (fun hHeld => ?_)
  clear hK K
  refine norm_ (a' := ?_) ?_ ?_
  rotate_left
  · show Act.put _ (some 33) _ = _
    simp only [Act.put, List.setIfInBounds_toArray, List.set_cons_zero, List.set_cons_succ, i64_w, i32_w]
    rfl
  refine last_ (i := 15) (N := none) #[true, true, true, true, true, true, true, true, true, true, true, true, true, true, true, true] rfl rfl (by kernel_rfl) (by decide) (fun K hK => ?_)
  refine skip_ (w1 := ?_) (by rfl) rfl ?_ ?_
  rotate_left
  · go_simp
    rfl
  refine hK.out _ _ ?_
  clear hK K
  refine done_ (by kernel_rfl) ?_

  have hk9 := (HGR9.out.block w2.heap.size (blk_lt HKd.out) (fun e => Nat.lt_irrefl _ (Nat.lt_of_lt_of_le (HVB.out _ e.symm) HBW.out.size))).trans HKd.out
  have hk10 := (HG10.out.block w2.heap.size (blk_lt hk9) (fun e => by injection e with e; have h1 := HQL.out; have h2 := HBW.out.size; omega)).trans hk9
  have hj9 := (HGR9.out.block w.heap.size (blk_lt HKd6.out) (fun e => Nat.lt_irrefl _ (HVB.out _ e.symm))).trans HKd6.out
  have hj10 := (HG10.out.block w.heap.size (blk_lt hj9) (fun e => by injection e with e; have h1 := HQL.out; omega)).trans hj9
  have HKw := Aside0.mk hj10
  have u0 : w10.cell? ⟨w2.heap.size, 0, none⟩ = some (.int .i64 F0) := (blk_cell hk10 0).trans rfl
  have u1 : w10.cell? ⟨w2.heap.size, 1, none⟩ = some (.int .i64 F1) := (blk_cell hk10 1).trans rfl
  have u2 : w10.cell? ⟨w2.heap.size, 2, none⟩ = some (.string F2) := (blk_cell hk10 2).trans rfl
  have x0 : w10.cell? ⟨w.heap.size, 0, none⟩ = some (.int .i64 0) := (blk_cell hj10 0).trans rfl
  have x1 : w10.cell? ⟨w.heap.size, 1, none⟩ = some (.int .i64 0) := (blk_cell hj10 1).trans rfl
  have x2 : w10.cell? ⟨w.heap.size, 2, none⟩ = some (.string ⟨#[]⟩) := (blk_cell hj10 2).trans rfl
  have y0 := blk_frozen hj10 0
  have y1 := blk_frozen hj10 1
  have y2 := blk_frozen hj10 2
  clear hk9 hk10 hj9 hj10
  go_wp2
  refine bodyPost_ret (results_ct rfl _ _ w.heap.size 30 #[.int .i64 F0, .int .i64 F1, .string F2] (0, 0) _ rfl (put3 HKw.out) Try.underlying30 rfl (by kernel_rfl)) rfl ?_
  have hqn : w.heap.size ≠ q := by have := HQL.out; omega
  have hmn : MapNot w10 q w.heap.size := HN10.out _ (fun es cl hq => HMN.out es cl ((HBw.out.block q HQL.out).symm.trans hq)) (by rw [HO9.out]; exact fun e => Nat.lt_irrefl _ (HVB.out _ e))
  have hM1 := HM10.out.far hmn hqn 0 (.int .i64 F0)
  have hn1 := hmn.far hqn 0 (.int .i64 F0)
  have hM2 := hM1.far hn1 hqn 1 (.int .i64 F1)
  have hn2 := hn1.far hqn 1 (.int .i64 F1)
  have hM3 := hM2.far hn2 hqn 2 (.string F2)
  have hb9 : Below b0 w w9 := (⟨HBw.out.os, HBw.out.tape, HBw.out.output, HBw.out.size, fun k hk => HBw.out.block k (Nat.lt_of_lt_of_le hk HZ.out)⟩ : Below b0 w (w2.alloc (.cells #[.int .i64 F0, .int .i64 F1, .string F2] 30)).drew).grown HGR9.out (Nat.le_trans HZ.out HBw.out.size) (fun k hk => Kd.R_base HLd.out.2.1 k hk)
  have hb10 : Below b0 w w10 := hb9.grown HG10.out (Nat.le_trans HZ.out (Nat.le_trans HBw.out.size HGR9.out.size)) (fun k hk => by injection hk with hk; rw [← hk]; exact HG2.out)
  have hf10 : BFr w w10 := (BFr.of_below HBw.out).trans (HF9.out.trans HF10.out)
  have hset : ∀ (W : World) (j : Nat) (u : Value), BFr w W → W.heap[w.heap.size]? ≠ none → BFr w (W.setCell ⟨w.heap.size, j, none⟩ u) := fun W j u h _ => ⟨h.os, h.tape, h.output, by simpa [World.setCell] using h.size, fun k o h1 h2 h3 => (Below.heap_setCell W ⟨w.heap.size, j, none⟩ u k (Nat.ne_of_lt (blk_lt h1))).trans (h.block k o h1 h2 h3)⟩
  have e10 : w10.heap[w.heap.size]? ≠ none := by rw [HKw.out]; simp
  have e11 := blk_set HKw.out 0 (.int .i64 F0)
  have e12 := blk_set e11 1 (.int .i64 F1)
  have hf13 := hset _ 2 (.string F2) (hset _ 1 (.int .i64 F1) (hset _ 0 (.int .i64 F0) hf10 e10) (by rw [e11]; simp)) (by rw [e12]; simp)
  rw [HL9.out]
  refine ⟨rfl, ⟨q, V, hf13.block g _ HG.out (fun c f e => by cases e) (fun es cl e => by cases e), HG1.out, HG2.out, hf13.ints HV.out, hM3⟩, ((hb10.setCell HZ.out _).setCell HZ.out _).setCell HZ.out _, hf13, ?_⟩
  have o10 : Outs w w10 g := outs_of HG.out HBw.out HGR9.out HG10.out hf10 HVN.out (.inr (.inl HO9.out)) HN10.out HQL.out
  have gn : g ≠ w.heap.size := Nat.ne_of_lt (blk_lt HG.out)
  have g10 := hf10.block g _ HG.out (fun c f e => by cases e) (fun es cl e => by cases e)
  have g11 := (Below.heap_setCell w10 ⟨w.heap.size, 0, none⟩ (.int .i64 F0) g gn).trans g10
  have g12 := (Below.heap_setCell _ ⟨w.heap.size, 1, none⟩ (.int .i64 F1) g gn).trans g11
  exact ((o10.set g10 gn hqn (Nat.le_refl _) 0 _).set g11 gn hqn (Nat.le_refl _) 1 _).set g12 gn hqn (Nat.le_refl _) 2 _
end Go.Proofs.Ytgcehbigcokpaaa.XA
