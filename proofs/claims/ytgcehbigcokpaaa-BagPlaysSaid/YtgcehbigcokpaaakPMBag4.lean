import Derived.Test.YtgcehbigcokpaaakPMBag3
namespace Go.Proofs.YtgcehbigcokpaaaW.PrintWords
end Go.Proofs.YtgcehbigcokpaaaW.PrintWords
namespace Go.Proofs.YtgcehbigcokpaaaW.PrintLast
end Go.Proofs.YtgcehbigcokpaaaW.PrintLast
namespace Go.Proofs.YtgcehbigcokpaaaW.PrintMore
end Go.Proofs.YtgcehbigcokpaaaW.PrintMore
namespace Go.Proofs.Ytgcehbigcokpaaa.XW
end Go.Proofs.Ytgcehbigcokpaaa.XW
namespace Go.Proofs.Ytgcehbigcokpaaa.XA
open Go.RowKit Go.Proofs.YtgcehbigcokpaaaW.PrintWords Go.Proofs.YtgcehbigcokpaaaW.PrintLast Go.Proofs.YtgcehbigcokpaaaW.PrintMore Go.Proofs.Ytgcehbigcokpaaa.XW
attribute [local go_sem high] max2_str unary_xor_u32 leq_str geq_str gtr_str
attribute [local go_sem] max2_int min2_int max_two min_two max_three min_three max_four min_four
set_option linter.unusedVariables false
set_option linter.unusedSimpArgs false
set_option maxHeartbeats 3200000 in
set_option maxRecDepth 100000 in
theorem put_ok (g b0 : Nat) (ps : List Int) (m : Int → List S30) (fr pl : Int) (tx : ByteArray) (w : World) (hB : Bag w b0 g ps m) (hb0 : b0 ≤ w.heap.size) (hh : hasL ps [fr, pl] = true) (hs : tx.size ≤ 262144) (hroom : (m pl).length < 1024) :
    Calls Try.prog 8 #[.pointer (some ⟨g, 0, none⟩), .agg #[.int .i64 fr, .int .i64 pl, .string tx]] w fun e w' => e = .returned (.int .i64 0) ∧ Bag w' b0 g ps (upd m pl (m pl ++ [⟨fr, pl, tx⟩])) ∧ Below b0 w w' ∧ BFr w w' := by
  have HB0 := Aside0.mk (below_alloc (below_alloc (Below.refl w.heap.size w) (.cells #[.int .i64 fr, .int .i64 pl, .string tx] 30)) (.cells #[.int .i64 fr, .int .i64 pl] 3))
  have HB := Aside0.mk (hB.below HB0.out)
  have hn := heap_alloc_new (w.alloc (.cells #[.int .i64 fr, .int .i64 pl, .string tx] 30)) (.cells #[.int .i64 fr, .int .i64 pl] 3)
  rw [show (w.alloc (.cells #[.int .i64 fr, .int .i64 pl, .string tx] 30)).heap.size = w.heap.size + 1 from by simp] at hn
  have HR := Aside0.mk (ints_row _ _ [fr, pl] _ _ rfl (show 2 ≤ 1000 by decide) hn)
  have HK := Aside0.mk (blk_alloc (heap_alloc_new w (.cells #[.int .i64 fr, .int .i64 pl, .string tx] 30)) (.cells #[.int .i64 fr, .int .i64 pl] 3))
  have p1 : decide ((262144 : Int) < (tx.size : Int)) = false := decide_eq_false (by omega)
  have p2 : decide (262144 < tx.size) = false := decide_eq_false (by omega)
  obtain ⟨q, V, hg, hg1, hg2, hV, hM⟩ := hB
  obtain ⟨v, hL, hVN⟩ := hM.look (P := Try.prog) Try.underlying58 Try.underlying3 zero39 pl
  obtain ⟨es_, cl_, hqm⟩ := hM.at
  have HVB := Aside0.mk (Kd.R_lt hL.2.1)
  have HQN := Aside0.mk (fun e => row_ne_map hL.2.1 hqm q rfl e)
  obtain ⟨A, c, hv, -, -⟩ := Kd.R_reads hL.2.1
  subst hv
  have HG := Aside0.mk hg
  have HG1 := Aside0.mk hg1
  have HG2 := Aside0.mk hg2
  have HV := Aside0.mk hV
  have HL := Aside0.mk hL
  have HF := Aside0.mk hroom
  have HZ := Aside0.mk hb0
  clear hn hs hroom hb0 hg hg1 hg2 hV hM hL hqm
  go_enter Try.func8, Try.ntmps8
  go_wp2_with (go_at_call 23; go_loud ((refine (has2_calls g b0 ps m _ fr pl _ HB.out HR.out).mono ?_); rintro e w2 ⟨rfl, hb2⟩; rw [hh]; have HB2 := Aside0.mk (below_step HB0.out hb2); have hk := blk_below HK.out hb2; have HKw := Aside0.mk hk; have hc0 : w2.cell? ⟨w.heap.size, 0, none⟩ = some (.int .i64 fr) := (blk_cell hk 0).trans rfl; have hc1 : w2.cell? ⟨w.heap.size, 1, none⟩ = some (.int .i64 pl) := (blk_cell hk 1).trans rfl; have hc2 : w2.cell? ⟨w.heap.size, 2, none⟩ = some (.string tx) := (blk_cell hk 2).trans rfl; have hg2_ := blk_below HG.out HB2.out; have hgc : w2.cell? ⟨g, 0, none⟩ = some (.map (some q)) := (blk_cell hg2_ 0).trans rfl; have HLw := Aside0.mk (HL.out.below HB2.out); have hlk0 : ∀ n, (Instr.lookup 58 (.map (some q)) (.int .i64 pl) false).run Try.prog (w2.drewN n) = .ok (.slice A (m pl).length c) (w2.drewN n) := fun n => HLw.out.1 _ rfl; clear hb2 hk hg2_))
  have hroom := HF.out
  have f1 : decide ((1024 : Int) ≤ ((m pl).length : Int)) = false := decide_eq_false (by omega)
  have f2 : decide (1024 ≤ (m pl).length) = false := decide_eq_false (by omega)
  have HLn : Aside0 (((m pl).length + 1) * 32 ≤ 140737488355328) := ⟨by omega⟩
  clear hroom
  go_quiet (fail)
  go_wp2
  have HBw := Aside0.mk (below_drew1 (pw_below_drewN HB2.out nq))
  have HLd := Aside0.mk (HL.out.below HBw.out)
  have HKd := Aside0.mk (blk_drew (blk_drewN HKw.out nq))
  have HGd := Aside0.mk (blk_below HG.out HBw.out)
  have HBd : Aside0 (Below b0 w (w2.drewN nq).drew) := ⟨⟨HBw.out.os, HBw.out.tape, HBw.out.output, HBw.out.size, fun k hk => HBw.out.block k (Nat.lt_of_lt_of_le hk HZ.out)⟩⟩
  have HSd : Aside0 (b0 ≤ (w2.drewN nq).drew.heap.size) := ⟨Nat.le_trans HZ.out HBw.out.size⟩
  have hlk : (Instr.lookup 58 (.map (some q)) (.int .i64 pl) false).run Try.prog (w2.drewN nq).drew = .ok (.slice A (m pl).length c) (w2.drewN nq).drew := HLd.out.1 _ rfl
  refine start_ (n := 17) (S := fun w' => w'.cell? ⟨g, 0, none⟩ = some (.map (some q)) ∧ w'.cell? ⟨w.heap.size, 0, none⟩ = some (.int .i64 fr) ∧ w'.cell? ⟨w.heap.size, 1, none⟩ = some (.int .i64 pl) ∧ w'.cell? ⟨w.heap.size, 2, none⟩ = some (.string tx) ∧ (Instr.lookup 58 (.map (some q)) (.int .i64 pl) false).run Try.prog w' = .ok (.slice A (m pl).length c) w') (ds := [16]) #[false, false, false, false, false, false, false, false, false, false, false, false, false, false, false, false, false] (by kernel_rfl) rfl rfl ⟨hgc, hc0, hc1, hc2, hlk⟩ (fun hHeld => ?_)
  refine pure_ (i := 0) (N := some 30) (v := ?_) (a' := ?_) #[true, false, false, false, false, false, false, false, false, false, false, false, false, false, false, false, false] rfl rfl (by kernel_rfl) (fun _ _ _ h => h) (Or.inl ⟨by rfl, ?_⟩) ?_ ?_
  rotate_left
  · intro w'
    go_simp
    with_reducible rfl
  rotate_left
  · simp only [Act.put, List.setIfInBounds_toArray, List.set_cons_zero, List.set_cons_succ, i64_w, i32_w]
    rfl
  refine pure_ (i := 1) (N := some 31) (v := ?_) (a' := ?_) #[true, true, false, false, false, false, false, false, false, false, false, false, false, false, false, false, false] rfl rfl (by kernel_rfl) (fun _ _ _ h => h) (Or.inl ⟨by rfl, ?_⟩) ?_ ?_
  rotate_left
  · intro w'
    go_simp
    with_reducible rfl
  rotate_left
  · simp only [Act.put, List.setIfInBounds_toArray, List.set_cons_zero, List.set_cons_succ, i64_w, i32_w]
    rfl
  refine pure_ (i := 2) (N := some 32) (v := ?_) (a' := ?_) #[true, true, true, false, false, false, false, false, false, false, false, false, false, false, false, false, false] rfl rfl (by kernel_rfl) (fun _ _ _ h => h) (Or.inl ⟨by rfl, ?_⟩) ?_ ?_
  rotate_left
  · intro w'
    go_simp
    with_reducible rfl
  rotate_left
  · simp only [Act.put, List.setIfInBounds_toArray, List.set_cons_zero, List.set_cons_succ, i64_w, i32_w]
    rfl
  refine pure_ (i := 4) (N := some 34) (v := ?_) (a' := ?_) #[true, true, true, false, true, false, false, false, false, false, false, false, false, false, false, false, false] rfl rfl (by kernel_rfl) (fun _ _ _ h => h) (Or.inl ⟨by rfl, ?_⟩) ?_ ?_
  rotate_left
  · intro w'
    go_simp
    with_reducible rfl
  rotate_left
  · simp only [Act.put, List.setIfInBounds_toArray, List.set_cons_zero, List.set_cons_succ, i64_w, i32_w]
    rfl
  refine pure_ (i := 6) (N := some 36) (v := ?_) (a' := ?_) #[true, true, true, false, true, false, true, false, false, false, false, false, false, false, false, false, false] rfl rfl (by kernel_rfl) (fun _ _ _ h => h) (Or.inl ⟨by rfl, ?_⟩) ?_ ?_
  rotate_left
  · intro w'
    go_simp
    with_reducible rfl
  rotate_left
  · simp only [Act.put, List.setIfInBounds_toArray, List.set_cons_zero, List.set_cons_succ, i64_w, i32_w]
    rfl
  refine pure_ (i := 7) (N := some 37) (v := ?_) (a' := ?_) #[true, true, true, false, true, false, true, true, false, false, false, false, false, false, false, false, false] rfl rfl (by kernel_rfl) (fun _ _ _ h => h) (Or.inl ⟨by rfl, ?_⟩) ?_ ?_
  rotate_left
  · intro w'
    go_simp
    with_reducible rfl
  rotate_left
  · simp only [Act.put, List.setIfInBounds_toArray, List.set_cons_zero, List.set_cons_succ, i64_w, i32_w]
    rfl
  refine pure_ (i := 8) (N := some 38) (v := ?_) (a' := ?_) #[true, true, true, false, true, false, true, true, true, false, false, false, false, false, false, false, false] rfl rfl (by kernel_rfl) (fun _ _ _ h => h) (Or.inl ⟨by rfl, ?_⟩) ?_ ?_
  rotate_left
  · intro w'
    go_simp
    with_reducible rfl
  rotate_left
  · simp only [Act.put, List.setIfInBounds_toArray, List.set_cons_zero, List.set_cons_succ, i64_w, i32_w]
    rfl
  refine pure_ (i := 10) (N := some 40) (v := ?_) (a' := ?_) #[true, true, true, false, true, false, true, true, true, false, true, false, false, false, false, false, false] rfl rfl (by kernel_rfl) (fun _ _ _ h => h) (Or.inl ⟨by rfl, ?_⟩) ?_ ?_
  rotate_left
  · intro w'
    go_simp
    with_reducible rfl
  rotate_left
  · simp only [Act.put, List.setIfInBounds_toArray, List.set_cons_zero, List.set_cons_succ, i64_w, i32_w]
    rfl
  refine take_ (i := 3) (N := some 33) (v := ?_) (a' := ?_) #[true, true, true, true, true, false, true, true, true, false, true, false, false, false, false, false, false] rfl rfl (by kernel_rfl) (fun _ _ _ h => h) (Or.inl ⟨by rfl, ?_⟩) hHeld ?_ ?_
  rotate_left
  · rintro w' ⟨s0, s1, s2, s3, s4⟩
    go_simp
    with_reducible rfl
  rotate_left
  · simp only [Act.put, List.setIfInBounds_toArray, List.set_cons_zero, List.set_cons_succ, i64_w, i32_w]
    rfl
  refine take_ (i := 5) (N := some 35) (v := ?_) (a' := ?_) #[true, true, true, true, true, true, true, true, true, false, true, false, false, false, false, false, false] rfl rfl (by kernel_rfl) (fun _ _ _ h => h) (Or.inl ⟨by rfl, ?_⟩) hHeld ?_ ?_
  rotate_left
  · rintro w' ⟨s0, s1, s2, s3, s4⟩
    go_simp
    with_reducible rfl
  rotate_left
  · simp only [Act.put, List.setIfInBounds_toArray, List.set_cons_zero, List.set_cons_succ, i64_w, i32_w]
    rfl
  refine take_ (i := 9) (N := some 39) (v := ?_) (a' := ?_) #[true, true, true, true, true, true, true, true, true, true, true, false, false, false, false, false, false] rfl rfl (by kernel_rfl) (fun _ _ _ h => h) (Or.inl ⟨by rfl, ?_⟩) hHeld ?_ ?_
  rotate_left
  · rintro w' ⟨s0, s1, s2, s3, s4⟩
    go_simp
    with_reducible rfl
  rotate_left
  · simp only [Act.put, List.setIfInBounds_toArray, List.set_cons_zero, List.set_cons_succ, i64_w, i32_w]
    rfl
  refine take_ (i := 11) (N := some 41) (v := ?_) (a' := ?_) #[true, true, true, true, true, true, true, true, true, true, true, true, false, false, false, false, false] rfl rfl (by kernel_rfl) (fun _ _ _ h => h) (Or.inl ⟨by rfl, ?_⟩) hHeld ?_ ?_
  rotate_left
  · rintro w' ⟨s0, s1, s2, s3, s4⟩
    go_simp
    with_reducible rfl
  rotate_left
  · simp only [Act.put, List.setIfInBounds_toArray, List.set_cons_zero, List.set_cons_succ, i64_w, i32_w]
    rfl
  refine take_ (i := 12) (N := some 42) (v := ?_) (a' := ?_) #[true, true, true, true, true, true, true, true, true, true, true, true, true, false, false, false, false] rfl rfl (by kernel_rfl) (fun _ _ _ h => h) (Or.inl ⟨by rfl, ?_⟩) hHeld ?_ ?_
  rotate_left
  · rintro w' ⟨s0, s1, s2, s3, s4⟩
    go_simp
    with_reducible rfl
  rotate_left
  · simp only [Act.put, List.setIfInBounds_toArray, List.set_cons_zero, List.set_cons_succ, i64_w, i32_w]
    rfl
  refine take_ (i := 13) (N := some 43) (v := ?_) (a' := ?_) #[true, true, true, true, true, true, true, true, true, true, true, true, true, true, false, false, false] rfl rfl (by kernel_rfl) (fun _ _ _ h => h) (Or.inl ⟨by rfl, ?_⟩) hHeld ?_ ?_
  rotate_left
  · rintro w' ⟨s0, s1, s2, s3, s4⟩
    go_simp
    with_reducible rfl
  rotate_left
  · simp only [Act.put, List.setIfInBounds_toArray, List.set_cons_zero, List.set_cons_succ, i64_w, i32_w]
    rfl
  refine one_ (i := 14) (N := some 44) #[true, true, true, true, true, true, true, true, true, true, true, true, true, true, true, false, false] rfl rfl (by kernel_rfl) (by decide) (fun K hK => ?_)
  refine value_ (w1 := ?_) (v := ?_) (by rfl) rfl ?_ ?_
  rotate_left 2
  · go_simp
    constructor
    · rfl
    · rfl
  refine hK.out _ _ ⟨Go.Lib.cell?_alloc_some _ hgc, Go.Lib.cell?_alloc_some _ hc0, Go.Lib.cell?_alloc_some _ hc1, Go.Lib.cell?_alloc_some _ hc2, HLd.out.1 _ (Below.heap_alloc _ _ q HLd.out.2.2.1)⟩ (fun hHeld => ?_)
  clear hK K
  refine norm_ (a' := ?_) ?_ ?_
  rotate_left
  · show Act.put _ (some 44) _ = _
    simp only [Act.put, List.setIfInBounds_toArray, List.set_cons_zero, List.set_cons_succ, i64_w, i32_w]
    rfl
  refine one_ (i := 15) (N := some 45) #[true, true, true, true, true, true, true, true, true, true, true, true, true, true, true, true, false] rfl rfl (by kernel_rfl) (by decide) (fun K hK => ?_)
  refine Kd.R_append_step k30 (w0 := w) b0 (by rfl) (.tmp 42) (.tmp 44) 39 30 (.agg #[(.int .i64 0), (.int .i64 0), (.string ⟨#[]⟩)]) 32 rfl Try.underlying39 info30 rfl (by decide) (by omega) (.slice A (m pl).length c) (m pl) (⟨fr, pl, tx⟩ : S30) [.int .i64 fr, .int .i64 pl, .string tx] (fun _ => True) (fun _ => False) rfl (by first | rfl | (go_simp; done) | (go_simp; rfl)) (k30_mkM _ _ _ (⟨fr, pl, tx⟩ : S30)) (fun _ hk => hk.elim) (fun _ _ => trivial) HLd.out.2.1 HBd.out HSd.out HLn.out ?_
  intro v9 w9 ho hb hg hat
  obtain ⟨A9, c9, e9⟩ := Kd.R_slice ho
  subst e9
  obtain ⟨w10, hrun, hM10, hg10, hf10, -⟩ := HLd.out.2.2.2 w9 _ _ hg (.inr hat) ho
  simp only [List.length_append, List.length_singleton] at hrun
  have HF9 := Aside0.mk (BFr.of_row HLd.out.2.1 hg)
  have hbx := (hg.block w.heap.size (blk_lt HKd.out) (fun e => Nat.lt_irrefl _ (HVB.out _ e.symm))).trans HKd.out
  have hgx := HF9.out.block g _ HGd.out (fun c f e => by cases e) (fun es cl e => by cases e)
  have hqx := hg.block q HLd.out.2.2.1 (fun e => HQN.out e)
  have HM10 := Aside0.mk hM10
  have HG10 := Aside0.mk hg10
  have HF10 := Aside0.mk hf10
  have HB9 := Aside0.mk hb
  clear ho hb hg hat hM10 hg10 hf10
  refine hK.out _ _ ⟨(blk_cell hgx 0).trans rfl, (blk_cell hbx 0).trans rfl, (blk_cell hbx 1).trans rfl, (blk_cell hbx 2).trans rfl, HLd.out.1 _ hqx⟩ (fun hHeld => ?_)
  clear hK K
  refine norm_ (a' := ?_) ?_ ?_
  rotate_left
  · show Act.put _ (some 45) _ = _
    simp only [Act.put, List.setIfInBounds_toArray, List.set_cons_zero, List.set_cons_succ, i64_w, i32_w]
    rfl
  refine last_ (i := 16) (N := none) #[true, true, true, true, true, true, true, true, true, true, true, true, true, true, true, true, true] rfl rfl (by kernel_rfl) (by decide) (fun K hK => ?_)
  refine skip_ (w1 := ?_) (by rfl) rfl ?_ ?_
  rotate_left
  · go_simp
    rfl
  refine hK.out _ _ ?_
  clear hK K
  refine done_ (by kernel_rfl) ?_

  go_wp2
  go_ret
  refine ⟨rfl, Bag.put HG.out HG1.out HG2.out HV.out ((BFr.of_below HBw.out).trans HF9.out) HF10.out HM10.out, HB9.out.grown HG10.out (Nat.le_trans HZ.out HB9.out.size) (fun k hk => by injection hk with hk; rw [← hk]; exact HG2.out), (BFr.of_below HBw.out).trans (HF9.out.trans HF10.out)⟩
end Go.Proofs.Ytgcehbigcokpaaa.XA
