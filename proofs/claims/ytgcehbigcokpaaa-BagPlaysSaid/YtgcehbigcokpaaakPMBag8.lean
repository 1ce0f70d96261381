import Derived.Maps.AppendAt
import Derived.Test.YtgcehbigcokpaaakPMBag7
namespace Go.Proofs.YtgcehbigcokpaaaW.PrintWords
end Go.Proofs.YtgcehbigcokpaaaW.PrintWords
namespace Go.Proofs.YtgcehbigcokpaaaW.PrintLast
end Go.Proofs.YtgcehbigcokpaaaW.PrintLast
namespace Go.Proofs.YtgcehbigcokpaaaW.PrintMore
end Go.Proofs.YtgcehbigcokpaaaW.PrintMore
namespace Go.Proofs.Ytgcehbigcokpaaa.XW
end Go.Proofs.Ytgcehbigcokpaaa.XW
namespace Go.Proofs.Ytgcehbigcokpaaa.XA
open Go.RowKit Go.Proofs.YtgcehbigcokpaaaW.PrintWords Go.Proofs.YtgcehbigcokpaaaW.PrintLast Go.Proofs.YtgcehbigcokpaaaW.PrintMore Go.Proofs.Ytgcehbigcokpaaa.XW
attribute [local go_sem high] max2_str unary_xor_u32 leq_str geq_str gtr_str
attribute [local go_sem] max2_int min2_int max_two min_two max_three min_three max_four min_four
set_option linter.unusedVariables false
set_option linter.unusedSimpArgs false
theorem clip_zero_len (z : Array Value) (m : Nat) : (Builtin.zeroCells z m).toList.length = m * z.size := by simp [Builtin.zeroCells]
theorem clip_zero_one (z : Array Value) (m : Nat) (h1 : ∀ q ∈ z.toList, q.oneCell' = true) : ∀ q ∈ (Builtin.zeroCells z m).toList, q.oneCell' = true := by
  intro q hq
  simp only [Builtin.zeroCells, Array.toList_map, List.mem_map] at hq
  obtain ⟨i, hi, rfl⟩ := hq
  have hz : 0 < z.size := by
    rcases Nat.eq_zero_or_pos z.size with h | h
    · rw [h] at hi; simp at hi
    · exact h
  have hl : i % z.size < z.size := Nat.mod_lt _ hz
  rw [getElem!_pos z _ hl]
  exact h1 _ (by simp)
theorem add0_ (g n : Nat) : (⟨g, 0, none⟩ : Addr).add n = ⟨g, n, none⟩ := by
  unfold Addr.add
  split
  · next h => rw [h]
  · simp
theorem clear_run {P : Program} {α : Type} (d : Kd α) {W : World} {base e : Nat} {ok : Nat → Prop} {g cap m c' i : Nat} {xs : List α} (t ty : TypeId) (z : Value) (ht : P.underlying t = some (.slice e)) (hv : ∀ w, (zeroValue e).run P w = .ok z w)
    (hzs : z.cells.size = d.sz) (h1 : ∀ q ∈ z.cells.toList, q.oneCell' = true) (him : i + m ≤ cap) (hm : 0 < m) (HO : d.R e W base ok (.slice (some ⟨g, 0, none⟩) i cap) xs) :
    ∃ w1, (Builtin.clear_ #[t] ty #[.slice (some ⟨g, i * d.sz, none⟩) m c']).run P W = .ok (.tuple #[]) w1 ∧ d.R e w1 base ok (.slice (some ⟨g, 0, none⟩) i cap) xs ∧ W.grownBy w1 (some g) := by
  have hnx := (Kd.R_reads' HO).1
  obtain ⟨h0, inner, ho, hr⟩ := HO
  have hl := clip_zero_len z.cells m
  have hone := clip_zero_one z.cells m h1
  rw [hzs] at hl
  rcases ho.2 with ⟨hv', _⟩ | ⟨g', cap', cur, hv', hb, hh, hnc, hcm, hcs, htk⟩
  · cases hv'
  injection hv' with ha _ hc
  injection ha with ha
  injection ha with hg'
  subst hg'; subst hc
  have hfit : i * d.sz + m * d.sz ≤ cur.size := by rw [hcs, ← Nat.add_mul]; exact Nat.mul_le_mul_right _ him
  have hst := run_storeCells_cells (P := P) g (i * d.sz) (Builtin.zeroCells z.cells m).toList 0 W (fun j hj => by rw [cell_of_row W g _ cur e (0, 0) hh]; rw [hl] at hj; simp; omega) (fun j _ => blk_frozen hh _) hone
  simp only [Nat.add_zero] at hst
  obtain ⟨m', rfl⟩ : ∃ m', m = m' + 1 := ⟨m - 1, by omega⟩
  obtain ⟨s1, s2, s3, s4⟩ := setCells_same g (Builtin.zeroCells z.cells (m' + 1)).toList (i * d.sz) W
  obtain ⟨cur', k1, k2, k3⟩ := setCells_row (Builtin.zeroCells z.cells (m' + 1)).toList (i * d.sz) W cur hh (by rw [hl]; exact hfit)
  refine ⟨W.setCells g (i * d.sz) (Builtin.zeroCells z.cells (m' + 1)).toList, by simp [Builtin.clear_, run_underlying ht, hv, hst], ⟨h0, inner, ?_, ?_⟩, ⟨s1, s2, s3, by rw [s4]; exact Nat.le_refl _, fun k _ hk => setCells_far _ _ k (fun he => hk (by rw [he]))⟩⟩
  · refine ⟨ho.1, .inr ⟨g, cap, cur', by rw [hnx], hb, k1, by omega, hcm, k2.trans hcs, ?_⟩⟩
    have hle : i * d.sz ≤ cur.toList.length := by rw [Array.length_toList]; omega
    rw [← hnx] at htk ⊢
    rw [k3, List.append_assoc, List.take_append_of_le_length (by rw [List.length_take]; omega), List.take_take, Nat.min_self]
    exact htk
  · refine hr.imp_ (fun _ _ hp => d.M_move (fun k hk => setCells_far _ _ k (fun he => hk.2 ?_)) hp)
    rw [he]; rfl
theorem wpList_clear2 {P : Program} {ops : Array Oper} {rest : List Oper} {o : Oper} {a : Act} {Q : Exit → Act → World → Prop} {α : Type} (d : Kd α) {W : World} (base : Nat) (hgd : o.guard = none) (hN : o.dst = none) (s : Operand) (t e : TypeId) (z : Value)
    (ho : o.op = .call { callee := .builtin .clear, args := #[s], argTypes := #[t] }) (ht : P.underlying t = some (.slice e)) (hv : ∀ w, (zeroValue e).run P w = .ok z w) (hzs : z.cells.size = d.sz) (h1 : ∀ q ∈ z.cells.toList, q.oneCell' = true)
    {g cap m c' i o' : Nat} (xs : List α) (ok : Nat → Prop) (hs : a.eval s = .slice (some ⟨g, o', none⟩) m c') (hoff : o' = i * d.sz) (him : i + m ≤ cap) (hm : 0 < m) (HO : d.R e W base ok (.slice (some ⟨g, 0, none⟩) i cap) xs)
    (h : ∀ w1, d.R e w1 base ok (.slice (some ⟨g, 0, none⟩) i cap) xs → W.grownBy w1 (some g) → wpList P ops Q rest a w1) : wpList P ops Q (o :: rest) a W := by
  subst hoff
  obtain ⟨w1, hrun, hR, hg⟩ := clear_run (P := P) (c' := c') d t o.type z ht hv hzs h1 him hm HO
  refine wpList_plain hgd fun K hK' => ?_
  unfold Oper.wp
  simp [execOp, ho, resolve, invoke, builtin, hs, hrun, Result.andThen]
  show K (a.put o.dst (.tuple #[])) w1
  rw [hN]
  exact hK' a w1 (h w1 hR hg)
theorem wpList_del {P : Program} {ops : Array Oper} {rest : List Oper} {o : Oper} {a : Act} {Q : Exit → Act → World → Prop} {W : World} (b0 : Nat) (hgd : o.guard = none) (s x : Operand) (t e : TypeId) (d : Kd S30) (hd : d = k30) (he : e = 30) (ti : TypeInfo)
    (ho : o.op = .call { callee := .builtin .append, args := #[s, x], argTypes := #[t, t] }) (ht : P.underlying t = some (.slice e)) (hti : P.info? e = some ti) (hsz : ti.size = 3)
    {g n c m c2 i n1 : Nat} {ad2 : Addr} (l : List S30) (hs : a.eval s = .slice (some ⟨g, 0, none⟩) i c) (hx : a.eval x = .slice (some ad2) m c2) (hi : i < n) (hm : i + 1 + m = n) (hn1 : i + m = n1) (had : 0 < m → ad2 = ⟨g, (i + 1) * 3, none⟩)
    (HO : Kd.R k30 30 W b0 (fun _ => True) (.slice (some ⟨g, 0, none⟩) n c) l)
    (h : ∀ w1, Kd.R k30 30 w1 b0 (fun _ => True) (.slice (some ⟨g, 0, none⟩) n1 c) (l.take i ++ l.drop (i + 1)) → W.grownBy w1 (some g) → wpList P ops Q rest (a.put o.dst (.slice (some ⟨g, 0, none⟩) n1 c)) w1) : wpList P ops Q (o :: rest) a W := by
  subst he
  have hnx := (Kd.R_reads' HO).1
  have hnc := (Kd.R_reads' HO).2.1
  obtain ⟨h0, inner, hown, hr⟩ := HO
  have hil : inner.length = n * 3 := by rw [hown.1, ← hnx]; rfl
  have hown' : W.ownsRow b0 30 3 (.slice (some ⟨g, 0, none⟩) n c) n inner := by rw [← hnx] at hown; exact hown
  have hk := own_take hown' (Nat.le_of_lt hi)
  have hcell : ∀ j u, inner[j]? = some u → W.cell? ⟨g, j, none⟩ = some u := by
    intro j u hj
    rcases hown'.2 with ⟨hv, _⟩ | ⟨g', cap', cur, hv', hb, hh, _, hcm, hcs, htk⟩
    · cases hv
    injection hv' with ha _ hc
    injection ha with ha
    injection ha with hg'
    subst hg'
    rw [cell_of_row W g j cur 30 (0, 0) hh]
    rw [← htk, List.getElem?_take] at hj
    split at hj
    · rw [← Array.getElem?_toList]; exact hj
    · cases hj
  have hone : ∀ u ∈ inner, u.oneCell' = true := Kd.reps_one hr (by decide) (fun p c hp u hu => k30.K_one (k30.K_of_M hp) u hu)
  have hcap : c ≤ maxLen := by
    rcases hown'.2 with ⟨hv, _⟩ | ⟨g', cap', cur, hv', hb, hh, _, hcm, hcs, htk⟩
    · cases hv
    · injection hv' with _ _ hc
      rw [hc]; exact hcm
  refine wpList_append_fits W hgd s x t ho b0 30 ti 3 ht hti hsz g i c (inner.take (i * 3)) hs hk ad2 m c2 (inner.drop ((i + 1) * 3)) hx (by rw [List.length_drop, hil]; omega) ?_ (fun u hu => hone u (List.mem_of_mem_drop hu)) (by omega) ?_
  · intro j u hj
    have hm0 : 0 < m := by
      have := (List.getElem?_eq_some_iff.1 hj).1
      rw [List.length_drop, hil] at this
      omega
    rw [had hm0]
    rw [List.getElem?_drop] at hj
    have := hcell _ u hj
    have e : (⟨g, (i + 1) * 3, none⟩ : Addr).add j = ⟨g, (i + 1) * 3 + j, none⟩ := by
      unfold Addr.add
      split
      · next hz => rw [hz]; rfl
      · rfl
    rw [e]; exact this
  · intro w1 hw1 hg1
    rw [hn1] at hw1 ⊢
    refine h w1 ⟨fun k hk => trivial, inner.take (i * 3) ++ inner.drop ((i + 1) * 3), ?_, ?_⟩ hg1
    · have hlen : (l.take i ++ l.drop (i + 1)).length = n1 := by rw [List.length_append, List.length_take, List.length_drop, ← hnx]; omega
      rw [hlen]; exact hw1
    · exact (Kd.reps_append (Kd.reps_take hr (by omega)) (Kd.reps_drop hr)).imp_ (fun _ _ hp => hp)
set_option maxHeartbeats 3200000 in
set_option maxRecDepth 100000 in
theorem delete_calls (v : Value) (l : List S30) (i b0 : Nat) (W : World) (hR : Kd.R k30 30 W b0 (fun _ => True) v l) (hi : i < l.length) (hn : l.length ≤ 2000) :
    Calls Try.prog 25 #[v, .int .i64 (i : Int), .int .i64 ((i : Int) + 1)] W fun e w' => ∃ v', e = .returned v' ∧ Kd.R k30 30 w' b0 (fun _ => True) v' (l.take i ++ l.drop (i + 1)) ∧ v'.ownBlock = v.ownBlock ∧ W.grownBy w' v.ownBlock := by
  obtain ⟨g, c, hv, hbg, hgl, -⟩ := Kd.R_form hR (by omega)
  subst hv
  have hlc := (Kd.R_reads' hR).2.1
  obtain ⟨ad, had⟩ : ∃ ad : Addr, ad = ⟨g, 0, none⟩ := ⟨_, rfl⟩
  rw [← had] at hR ⊢
  have HAD := Aside0.mk had
  have HR := Aside0.mk hR
  obtain ⟨ti, hti, htz⟩ := Option.map_eq_some_iff.1 info30
  simp only [Prod.mk.injEq] at htz
  have HTI := Aside0.mk hti
  have HTZ := Aside0.mk htz.2.1
  obtain ⟨n, hne⟩ : ∃ n, l.length = n := ⟨_, rfl⟩
  have HNE := Aside0.mk hne
  rw [hne] at hi hn hlc HR ⊢
  have e1 : ((i : Int) == (i : Int) + 1) = false := beq_eq_false_iff_ne.mpr (by omega)
  have e2 : ((i : Int) = (i : Int) + 1) = False := eq_false (by omega)
  obtain ⟨j, hj⟩ : ∃ j : Nat, j = i + 1 := ⟨_, rfl⟩
  have hji : (i : Int) + 1 = (j : Int) := by omega
  rw [hji] at e1 e2 ⊢
  have HJ := Aside0.mk hj
  have q1 : ((i : Int) ≤ (j : Int)) = True := eq_true (by omega)
  have q2 : ((j : Int) ≤ (n : Int)) = True := eq_true (by omega)
  have q3 : ((n : Int) ≤ (c : Int)) = True := eq_true (by omega)
  have q4 : (i ≤ j) = True := eq_true (by omega)
  have q5 : (j ≤ n) = True := eq_true (by omega)
  have q6 : (n ≤ c) = True := eq_true hlc
  have q7 : (i ≤ n) = True := eq_true (by omega)
  have q8 : (i ≤ c) = True := eq_true (by omega)
  have q9 : (j ≤ c) = True := eq_true (by omega)
  have q10 : (c = i) = False := eq_false (by omega)
  have q11 : (i = j) = False := eq_false (by omega)
  have e3 : (i == j) = false := beq_eq_false_iff_ne.mpr (by omega)
  obtain ⟨n1, hn1⟩ : ∃ n1, n = n1 + 1 := ⟨n - 1, by omega⟩
  have HN1 := Aside0.mk hn1
  have r1 : ((n1 : Int) ≤ (n : Int)) = True := eq_true (by omega)
  have r2 : ((n : Int) ≤ (c : Int)) = True := eq_true (by omega)
  have r3 : (n1 ≤ n) = True := eq_true (by omega)
  have r4 : (c = n1) = False := eq_false (by omega)
  have r5 : (n1 ≤ c) = True := eq_true (by omega)
  have HI := Aside0.mk hi
  have HLC := Aside0.mk hlc
  by_cases cc : c = j
  · have hnj : n = j := by omega
    have CC : Aside0 (c = j) := ⟨cc⟩
    clear hR hi hn hlc had hti htz hne hj hji hn1 hbg hgl q1 q2 q3 q4 q5 q6 q7 q8 q9 q10 r1 r2 r3 r4 r5
    subst hnj
    subst cc
    have q7 : (i ≤ c) = True := eq_true (by have := HI.out; omega)
    have q1 : ((i : Int) ≤ (c : Int)) = True := eq_true (by have := HI.out; omega)
    have q10 : (c = i) = False := eq_false (by have := HI.out; omega)
    have r4 : (c = n1) = False := eq_false (by have := HN1.out; omega)
    have r3 : (n1 ≤ c) = True := eq_true (by have := HN1.out; omega)
    have r1 : ((n1 : Int) ≤ (c : Int)) = True := eq_true (by have := HN1.out; omega)
    go_enter Try.func25, Try.ntmps25
    go_wp2
    go_still_tail 6, (by kernel_rfl)
    change wpList _ _ _ _ _ W.drew
    have HRd := Aside0.mk (Kd.R_drew HR.out)
    have HGd : Aside0 (W.grownBy W.drew (some g)) := ⟨grown_of_below (below_drew1 (Below.refl W.heap.size W)) _⟩
    generalize W.drew = w2 at HRd HGd ⊢
    go_wp2_with (first | ((with_reducible refine gate_builtin (b := .append) (xs := #[.tmp 22, .tmp 25]) rfl ?_); go_loud (refine wpList_del b0 rfl (.tmp 22) (.tmp 25) 39 30 k30 rfl rfl ti rfl Try.underlying39 HTI.out HTZ.out (g := g) (n := c) (c := c) (m := 0) (i := i) (n1 := n1) l (by show Value.slice (some ad) _ _ = _; rw [HAD.out]) rfl HI.out (by have h1 := HJ.out; have h2 := HI.out; omega) (by have h1 := HJ.out; have h2 := HI.out; have h3 := HN1.out; omega) (fun h => by have h1 := CC.out; have h2 := HLC.out; omega) (by have h_ := HRd.out; rw [HAD.out] at h_; exact h_) ?_); intro w9 hR9 hg9; have HR9 := Aside0.mk hR9; have HG9 := Aside0.mk (HGd.out.trans hg9); clear hR9 hg9) | ((with_reducible refine gate_builtin (b := .clear) (xs := #[.tmp 31]) rfl ?_); go_loud (refine wpList_clear2 k30 b0 rfl rfl (.tmp 31) 39 30 (.agg #[(.int .i64 0), (.int .i64 0), (.string ⟨#[]⟩)]) rfl Try.underlying39 (fun _ => by kernel_rfl) rfl (by decide) (g := g) (cap := c) (m := c - n1) (c' := c - n1) (i := n1) (o' := n1 * 3) _ (fun _ => True) rfl rfl (by have h1 := HN1.out; have h2 := HLC.out; omega) (by have h1 := HN1.out; omega) HR9.out ?_); intro w10 hR10 hg10; have HR10 := Aside0.mk hR10; have HG10 := Aside0.mk (HG9.out.trans hg10); clear hR10 hg10))
    go_ret
    exact ⟨_, rfl, HR10.out, by rw [HAD.out]; rfl, by rw [HAD.out]; exact HG10.out⟩
  · have CC : Aside0 (¬ c = j ∧ n ≤ c ∧ j ≤ n) := ⟨cc, by omega, by omega⟩
    clear hR hi hn hlc had hti htz hne hj hji hn1 hbg hgl cc q1 q2 q3 q4 q5 q6 q7 q8 q9 q10 r1 r2 r3 r4 r5
    have q12 : (c = j) = False := eq_false CC.out.1
    have q2 : ((j : Int) ≤ (n : Int)) = True := eq_true (by have := CC.out; omega)
    have q5 : (j ≤ n) = True := eq_true CC.out.2.2
    have q3 : ((n : Int) ≤ (c : Int)) = True := eq_true (by have := CC.out; omega)
    have q6 : (n ≤ c) = True := eq_true CC.out.2.1
    have q7 : (i ≤ n) = True := eq_true (by have := HI.out; omega)
    have q1 : ((i : Int) ≤ (n : Int)) = True := eq_true (by have := HI.out; omega)
    have q8 : (i ≤ c) = True := eq_true (by have := HI.out; have := CC.out; omega)
    have q9 : ((i : Int) ≤ (j : Int)) = True := eq_true (by have := HJ.out; omega)
    have q4 : (i ≤ j) = True := eq_true (by have := HJ.out; omega)
    have q10 : (c = i) = False := eq_false (by have := HI.out; have := CC.out; omega)
    have q13 : (n = i) = False := eq_false (by have := HI.out; omega)
    have r4 : (c = n1) = False := eq_false (by have := HN1.out; have := CC.out; omega)
    have r3 : (n1 ≤ n) = True := eq_true (by have := HN1.out; omega)
    have r1 : ((n1 : Int) ≤ (n : Int)) = True := eq_true (by have := HN1.out; omega)
    have r5 : (n1 ≤ c) = True := eq_true (by have := HN1.out; have := CC.out; omega)
    go_enter Try.func25, Try.ntmps25
    go_wp2
    go_still_tail 6, (by kernel_rfl)
    change wpList _ _ _ _ _ W.drew
    have HRd := Aside0.mk (Kd.R_drew HR.out)
    have HGd : Aside0 (W.grownBy W.drew (some g)) := ⟨grown_of_below (below_drew1 (Below.refl W.heap.size W)) _⟩
    generalize W.drew = w2 at HRd HGd ⊢
    go_wp2_with (first | ((with_reducible refine gate_builtin (b := .append) (xs := #[.tmp 22, .tmp 25]) rfl ?_); go_loud (refine wpList_del b0 rfl (.tmp 22) (.tmp 25) 39 30 k30 rfl rfl ti rfl Try.underlying39 HTI.out HTZ.out (g := g) (n := n) (c := c) (m := n - j) (i := i) (n1 := n1) l (by show Value.slice (some ad) _ _ = _; rw [HAD.out]) rfl HI.out (by have h1 := HJ.out; have h2 := HI.out; omega) (by have h1 := HJ.out; have h2 := HI.out; have h3 := HN1.out; omega) (fun _ => by rw [HAD.out, add0_, HJ.out]) (by have h_ := HRd.out; rw [HAD.out] at h_; exact h_) ?_); intro w9 hR9 hg9; have HR9 := Aside0.mk hR9; have HG9 := Aside0.mk (HGd.out.trans hg9); clear hR9 hg9) | ((with_reducible refine gate_builtin (b := .clear) (xs := #[.tmp 31]) rfl ?_); go_loud (refine wpList_clear2 k30 b0 rfl rfl (.tmp 31) 39 30 (.agg #[(.int .i64 0), (.int .i64 0), (.string ⟨#[]⟩)]) rfl Try.underlying39 (fun _ => by kernel_rfl) rfl (by decide) (g := g) (cap := c) (m := n - n1) (c' := c - n1) (i := n1) (o' := n1 * 3) _ (fun _ => True) rfl rfl (by have h1 := HN1.out; have h2 := HLC.out; omega) (by have h1 := HN1.out; omega) HR9.out ?_); intro w10 hR10 hg10; have HR10 := Aside0.mk hR10; have HG10 := Aside0.mk (HG9.out.trans hg10); clear hR10 hg10))
    go_ret
    exact ⟨_, rfl, HR10.out, by rw [HAD.out]; rfl, by rw [HAD.out]; exact HG10.out⟩
end Go.Proofs.Ytgcehbigcokpaaa.XA
