import Derived.Test.YtgcehbigcokpaaakPMBag17
namespace Go.Proofs.YtgcehbigcokpaaaW.PrintWords
end Go.Proofs.YtgcehbigcokpaaaW.PrintWords
namespace Go.Proofs.YtgcehbigcokpaaaW.PrintLast
end Go.Proofs.YtgcehbigcokpaaaW.PrintLast
namespace Go.Proofs.YtgcehbigcokpaaaW.PrintMore
end Go.Proofs.YtgcehbigcokpaaaW.PrintMore
namespace Go.Proofs.Ytgcehbigcokpaaa.XW
end Go.Proofs.Ytgcehbigcokpaaa.XW
namespace Go.Proofs.Ytgcehbigcokpaaa.XA
open Go.RowKit Go.Proofs.YtgcehbigcokpaaaW.PrintWords Go.Proofs.YtgcehbigcokpaaaW.PrintLast Go.Proofs.YtgcehbigcokpaaaW.PrintMore Go.Proofs.Ytgcehbigcokpaaa.XW
attribute [local go_sem high] max2_str unary_xor_u32 leq_str geq_str gtr_str
attribute [local go_sem] max2_int min2_int max_two min_two max_three min_three max_four min_four
set_option linter.unusedVariables false
set_option linter.unusedSimpArgs false
def Away (w : World) (g k : Nat) : Prop := NotIn w g k ∧ ∃ cs e, w.heap[k]? = some (.cells cs e (0, 0)) ∧ e ≠ 60 ∧ e ≠ 3
theorem Away.typed {w : World} {b0 g k e : Nat} {ps : List Int} {m : Int → List S30} {cs : Array Value} (h : Bag w b0 g ps m) (hk : w.heap[k]? = some (.cells cs e (0, 0))) (h60 : e ≠ 60) (h3 : e ≠ 3) (h30 : e ≠ 30) : Away w g k := by
  refine ⟨?_, cs, e, hk, h60, h3⟩
  obtain ⟨q, V, h1, -, -, -, h5⟩ := h
  intro q' V' h'
  have eq := bag_same h1 h'
  subst eq
  obtain ⟨es, cl, hq, hes, -⟩ := h5
  refine ⟨fun e1 => (by subst e1; rw [hk] at hq; cases hq), fun es2 cl2 hq2 x hx e1 => ?_⟩
  rw [hq] at hq2
  injection hq2 with hq2
  injection hq2 with hq2 _
  subst hq2
  obtain ⟨j, -, hR⟩ := hes x hx
  obtain ⟨cells, hc⟩ := Kd.R_typed hR k e1
  rw [hk] at hc
  injection hc with hc
  injection hc with _ hc _
  exact h30 hc
theorem Bag.kept {w w1 : World} {b0 g : Nat} {ps : List Int} {m : Int → List S30} {S : Nat → Prop} (h : Bag w b0 g ps m) (hk : Kept w w1 S) (hS : ∀ k, S k → Away w g k) : Bag w1 b0 g ps m ∧ ∀ k, (NotIn w g k ∨ w.heap.size ≤ k) → NotIn w1 g k := by
  obtain ⟨q, V, h1, h2, h3, h4, h5⟩ := h
  obtain ⟨es, cl, hq, hes, hnd, hmiss, hap⟩ := h5
  have sg : ¬ S g := fun hs => by
    obtain ⟨-, cs, e, hc, he, -⟩ := hS g hs
    rw [h1] at hc
    injection hc with hc
    injection hc with _ hc _
    exact he hc.symm
  have g1 : w1.heap[g]? = some (.cells #[.map (some q), V] 60 (0, 0)) := (hk.2 g (blk_lt h1) sg).trans h1
  have sq : ¬ S q := fun hs => ((hS q hs).1 q V h1).1 rfl
  have q1 : w1.heap[q]? = some (.map es cl) := (hk.2 q (blk_lt hq) sq).trans hq
  refine ⟨⟨q, V, g1, h2, h3, ?_, es, cl, q1, ?_, hnd, hmiss, hap⟩, ?_⟩
  · refine Kd.R_mono (Kd.R_move (Kd.R_tight rfl h4) (fun k hk' => ?_)) (fun _ _ => trivial)
    obtain ⟨cells, hc⟩ := Kd.R_typed h4 k hk'.symm
    refine hk.2 k (blk_lt hc) (fun hs => ?_)
    obtain ⟨-, cs, e, hc', -, he⟩ := hS k hs
    rw [hc] at hc'
    injection hc' with hc'
    injection hc' with _ hc' _
    exact he hc'.symm
  · intro x hx
    obtain ⟨j, hj, hR⟩ := hes x hx
    refine ⟨j, hj, Kd.R_mono (Kd.R_move (Kd.R_tight rfl hR) (fun k hk' => ?_)) (fun _ _ => trivial)⟩
    refine hk.2 k (Kd.R_lt hR k hk'.symm) (fun hs => ?_)
    exact ((hS k hs).1 q V h1).2 es cl hq x hx hk'.symm
  · intro k hn q' V' h'
    have eq := bag_same g1 h'
    subst eq
    rcases hn with hn | hn
    · obtain ⟨n1, n2⟩ := hn _ _ h1
      exact ⟨n1, fun es2 cl2 hq2 => n2 es2 cl2 (hq.trans (q1.symm.trans hq2))⟩
    · refine ⟨fun e => by have := blk_lt hq; omega, fun es2 cl2 hq2 x hx e => ?_⟩
      rw [q1] at hq2
      injection hq2 with hq2
      injection hq2 with hq2 _
      subst hq2
      obtain ⟨j, -, hR⟩ := hes x hx
      have := Kd.R_lt hR k e
      omega
structure St (w0 w : World) (g : Nat) (ps : List Int) (m : Int → List S30) (s : Value) (L : List S30) : Prop where
  below : Below w0.heap.size w0 w
  bag : Bag w w0.heap.size g ps m
  row : Kd.R k30 30 w w0.heap.size (fun k => NotIn w g k) s L
variable {w0 w w' : World} {g : Nat} {ps : List Int} {m m' : Int → List S30} {s s' : Value} {L L' : List S30}
theorem St.prog (h : St w0 w g ps m s L) (hB : Bag w' w0.heap.size g ps m') (hb : Below w0.heap.size w w') (ho : Outs w w' g) : St w0 w' g ps m' s L := by
  refine ⟨h.below.trans hb, hB, ?_⟩
  have key : ∀ k, s.ownBlock = some k → w'.heap[k]? = w.heap[k]? ∧ NotIn w' g k := fun k hk => by
    obtain ⟨cells, hc⟩ := Kd.R_typed h.row k hk
    obtain ⟨h1, h2⟩ := ho k _ hc (h.row.1 k hk)
    exact ⟨h1.trans hc.symm, h2⟩
  exact Kd.R_reok rfl (Kd.R_move (Kd.R_tight rfl h.row) (fun k hk => (key k hk.symm).1)) (fun k hk => (key k hk).2)
theorem St.size (h : St w0 w g ps m s L) : w0.heap.size ≤ w.heap.size := h.below.size
theorem St.step (h : St w0 w g ps m s L) (hb : Below w.heap.size w w') : St w0 w' g ps m s L :=
  h.prog (h.bag.below hb) ⟨hb.os, hb.tape, hb.output, hb.size, fun k hk => hb.block k (Nat.lt_of_lt_of_le hk h.size)⟩ (Outs.of_below h.bag hb)
theorem St.ref (h : St w0 w g ps m s L) (hR : Kd.R k30 30 w' w0.heap.size (fun k => some k = s.ownBlock ∨ w.heap.size ≤ k) s' L') (hb : Below w0.heap.size w0 w') (hk : Kept w w' (fun k => some k = s.ownBlock)) : St w0 w' g ps m s' L' := by
  obtain ⟨h1, h2⟩ := h.bag.kept hk (fun k e => ⟨h.row.1 k e.symm, by
    obtain ⟨cells, hc⟩ := Kd.R_typed h.row k e.symm
    exact ⟨cells, 30, hc, by decide, by decide⟩⟩)
  refine ⟨hb, h1, Kd.R_mono hR (fun k hk' => h2 k ?_)⟩
  rcases hk' with e | e
  · exact .inl (h.row.1 k e.symm)
  · exact .inr e
theorem St.ref_blk (h : St w0 w g ps m s L) (hk : Kept w w' (fun k => some k = s.ownBlock)) {k e : Nat} {cs : Array Value} (hc : w.heap[k]? = some (.cells cs e (0, 0))) (he : e ≠ 30) : w'.heap[k]? = some (.cells cs e (0, 0)) :=
  (hk.2 k (blk_lt hc) (fun e1 => by
    obtain ⟨cells, hc'⟩ := Kd.R_typed h.row k e1.symm
    rw [hc] at hc'
    injection hc' with hc'
    injection hc' with _ hc' _
    exact he hc')).trans hc
theorem BFr.blk (h : BFr w w') {k e : Nat} {cs : Array Value} (hc : w.heap[k]? = some (.cells cs e (0, 0))) (he : e ≠ 30) : w'.heap[k]? = some (.cells cs e (0, 0)) :=
  h.block k _ hc (fun c f e1 => by injection e1 with _ e1 _; exact he e1) (fun es cl e1 => by cases e1)
theorem kept_set (w : World) (nb j : Nat) (u : Value) : Kept w (w.setCell ⟨nb, j, none⟩ u) (fun k => k = nb) :=
  ⟨Nat.le_of_eq (by simp), fun k _ hk => Below.heap_setCell w ⟨nb, j, none⟩ u k hk⟩
theorem St.set (h : St w0 w g ps m s L) {nb : Nat} (ha : Away w g nb) (hn : s.ownBlock ≠ some nb) (hb : w0.heap.size ≤ nb) (j : Nat) (u : Value) : St w0 (w.setCell ⟨nb, j, none⟩ u) g ps m s L := by
  obtain ⟨h1, h2⟩ := h.bag.kept (kept_set w nb j u) (fun k e => by subst e; exact ha)
  refine ⟨h.below.setCell (p := ⟨nb, j, none⟩) hb u, h1, ?_⟩
  exact Kd.R_reok rfl (Kd.R_far (Kd.R_tight rfl h.row) (p := ⟨nb, j, none⟩) (fun k hk e => hn (by rw [← hk, e])) u) (fun k hk => h2 k (.inl (h.row.1 k hk)))
theorem Away.set {nb : Nat} (hB : Bag w w0.heap.size g ps m) (ha : Away w g nb) {k : Nat} (h : Away w g k) (j : Nat) (u : Value) : Away (w.setCell ⟨nb, j, none⟩ u) g k := by
  obtain ⟨h1, h2⟩ := hB.kept (kept_set w nb j u) (fun k e => by subst e; exact ha)
  refine ⟨h2 k (.inl h.1), ?_⟩
  obtain ⟨cs, e, hc, he⟩ := h.2
  by_cases c : k = nb
  · subst c; exact ⟨_, e, blk_set hc j u, he⟩
  · exact ⟨cs, e, (Below.heap_setCell w ⟨nb, j, none⟩ u k c).trans hc, he⟩
theorem St.set3 (h : St w0 w g ps m s L) {nb e : Nat} {cs : Array Value} (hc : w.heap[nb]? = some (.cells cs e (0, 0))) (h60 : e ≠ 60) (h3 : e ≠ 3) (hni : NotIn w g nb) (hn : s.ownBlock ≠ some nb) (hb : w0.heap.size ≤ nb) (a b c : Value) : St w0 (((w.setCell ⟨nb, 0, none⟩ a).setCell ⟨nb, 1, none⟩ b).setCell ⟨nb, 2, none⟩ c) g ps m s L := by
  have A0 : Away w g nb := ⟨hni, cs, e, hc, h60, h3⟩
  have A1 := Away.set h.bag A0 A0 0 a
  have S1 := h.set A0 hn hb 0 a
  have A2 := Away.set S1.bag A1 A1 1 b
  have S2 := S1.set A1 hn hb 1 b
  exact S2.set A2 hn hb 2 c
theorem St.set3_ni (h : St w0 w g ps m s L) {nb e : Nat} {cs : Array Value} (hc : w.heap[nb]? = some (.cells cs e (0, 0))) (h60 : e ≠ 60) (h3 : e ≠ 3) (hni : NotIn w g nb) (hn : s.ownBlock ≠ some nb) (hb : w0.heap.size ≤ nb) (a b c : Value) {k : Nat} (hk : NotIn w g k) : NotIn (((w.setCell ⟨nb, 0, none⟩ a).setCell ⟨nb, 1, none⟩ b).setCell ⟨nb, 2, none⟩ c) g k := by
  have A0 : Away w g nb := ⟨hni, cs, e, hc, h60, h3⟩
  have A1 := Away.set h.bag A0 A0 0 a
  have S1 := h.set A0 hn hb 0 a
  have A2 := Away.set S1.bag A1 A1 1 b
  have S2 := S1.set A1 hn hb 1 b
  have k1 := (h.bag.kept (kept_set w nb 0 a) (fun k e => by subst e; exact A0)).2 k (.inl hk)
  have k2 := (S1.bag.kept (kept_set _ nb 1 b) (fun k e => by subst e; exact A1)).2 k (.inl k1)
  exact (S2.bag.kept (kept_set _ nb 2 c) (fun k e => by subst e; exact A2)).2 k (.inl k2)
theorem blk_far3 {w : World} {g t nb : Nat} {cs : Array Value} (h : w.heap[g]? = some (.cells cs t (0, 0))) (hp : g ≠ nb) (a b c : Value) : (((w.setCell ⟨nb, 0, none⟩ a).setCell ⟨nb, 1, none⟩ b).setCell ⟨nb, 2, none⟩ c).heap[g]? = some (.cells cs t (0, 0)) :=
  blk_far (blk_far (blk_far h (p := ⟨nb, 0, none⟩) hp a) (p := ⟨nb, 1, none⟩) hp b) (p := ⟨nb, 2, none⟩) hp c
theorem St.other (h : St w0 w g ps m s L) {nb e : Nat} {cs : Array Value} (hc : w.heap[nb]? = some (.cells cs e (0, 0))) (h60 : e ≠ 60) (h3 : e ≠ 3) (h30 : e ≠ 30) : NotIn w g nb ∧ s.ownBlock ≠ some nb := by
  refine ⟨(Away.typed h.bag hc h60 h3 h30).1, fun e1 => ?_⟩
  obtain ⟨cells, hc'⟩ := Kd.R_typed h.row nb e1
  rw [hc] at hc'
  injection hc' with hc'
  injection hc' with _ hc' _
  exact h30 hc'
theorem St.row_le (h : St w0 w g ps m s L) : ∃ A c, s = .slice A L.length c ∧ L.length ≤ c ∧ Kd.C k30 w A L.length L := Kd.R_reads h.row
theorem St.new (hb : Below w0.heap.size w0 w) (hB : Bag w w0.heap.size g ps m) (hb2 : Below w.heap.size w w') (hR : Kd.R k30 30 w' w.heap.size (fun _ => True) s L) : St w0 w' g ps m s L := by
  have hle := hb.size
  have hb' : Below w0.heap.size w w' := ⟨hb2.os, hb2.tape, hb2.output, hb2.size, fun k hk => hb2.block k (Nat.lt_of_lt_of_le hk hle)⟩
  refine ⟨hb.trans hb', hB.below hb2, ?_⟩
  have hk := Kept.of_below hb2 (fun _ => False)
  obtain ⟨h1, h2⟩ := hB.kept hk (fun k hk => hk.elim)
  exact Kd.R_reok rfl (Kd.R_lower hR hle) (fun k hk => h2 k (.inr (Kd.R_base hR k hk)))
theorem St.ref_ni (h : St w0 w g ps m s L) (hk : Kept w w' (fun k => some k = s.ownBlock)) {k : Nat} (hn : NotIn w g k) : NotIn w' g k :=
  (h.bag.kept hk (fun k e => ⟨h.row.1 k e.symm, by
    obtain ⟨cells, hc⟩ := Kd.R_typed h.row k e.symm
    exact ⟨cells, 30, hc, by decide, by decide⟩⟩)).2 k (.inl hn)
theorem put_both (n c : Nat) (hn : n ≤ 6) (L : List S30) (x : S30) (hl : L.length < 199) (h0 : x.f0 ≤ 9223372036854775807) (h1 : x.f1 ≤ 9223372036854775807) :
    ∃ (e : Int) (L' : List S30), L'.length ≤ L.length + 1 ∧ sorrelref15_Put.f 201 n c L x.f0 x.f1 x.f2 = some ((n : Int), (c : Int), L', e) ∧ ∀ (g : Nat) (w0 w : World) (s : Value), St w0 w g (placesL n c) (mL L) s L →
      Calls Try.prog 8 #[.pointer (some ⟨g, 0, none⟩), .agg #[.int .i64 x.f0, .int .i64 x.f1, .string x.f2]] w fun e' w' => e' = .returned (.int .i64 e) ∧ BFr w w' ∧ Outs w w' g ∧ St w0 w' g (placesL n c) (mL L') s L := by
  rw [put_is n c hn L x 201 hl (by decide) h0 h1]
  by_cases h : hasL (placesL n c) [x.f0, x.f1] = true ∧ x.f2.size ≤ 262144
  · rw [if_pos h]
    refine ⟨0, L ++ [x], by simp, rfl, fun g w0 w s hS => ?_⟩
    refine (put_ok2 g w0.heap.size (placesL n c) (mL L) x.f0 x.f1 x.f2 w hS.bag hS.size h.1 h.2 (by have := mL_le L x.f1; omega)).mono ?_
    rintro e' w' ⟨rfl, hB, hb, hf, ho⟩
    have hB' : Bag w' w0.heap.size g (placesL n c) (upd (mL L) x.f1 (mL L x.f1 ++ [x])) := hB
    rw [mL_put] at hB'
    exact ⟨rfl, hf, ho, hS.prog hB' hb ho⟩
  · rw [if_neg h]
    refine ⟨1, L, by omega, rfl, fun g w0 w s hS => ?_⟩
    refine (put_no g w0.heap.size (placesL n c) (mL L) x.f0 x.f1 x.f2 w hS.bag ?_).mono ?_
    · cases hh : hasL (placesL n c) [x.f0, x.f1] with
      | false => exact .inl rfl
      | true => exact .inr (Nat.lt_of_not_le (fun hs => h ⟨hh, hs⟩))
    · rintro e' w' ⟨rfl, hb⟩
      exact ⟨rfl, BFr.of_below hb, Outs.of_below hS.bag hb, hS.step hb⟩
theorem twice_both (n c : Nat) (hn : n ≤ 6) (L : List S30) (p a : Int) (hl : L.length < 199) (hp : p ≤ 9223372036854775807) (h1 : -9223372036854775808 ≤ a) (h2 : a ≤ 9223372036854775807) :
    ∃ (e : Int) (L' : List S30), L'.length ≤ L.length + 1 ∧ sorrelref15_Twice.f 201 n c L p a = some ((n : Int), (c : Int), L', e) ∧ ∀ (g : Nat) (w0 w : World) (s : Value), St w0 w g (placesL n c) (mL L) s L →
      Calls Try.prog 9 #[.pointer (some ⟨g, 0, none⟩), .int .i64 p, .int .i64 a] w fun e' w' => e' = .returned (.int .i64 e) ∧ BFr w w' ∧ Outs w w' g ∧ St w0 w' g (placesL n c) (mL L') s L := by
  rcases twice_is n c hn L p a 201 hl (by decide) hp h1 h2 with ⟨he, hr⟩ | ⟨he, hf, hr⟩
  · rw [hr]
    refine ⟨_, L, by omega, rfl, fun g w0 w s hS => ?_⟩
    refine (twice_no g w0.heap.size (placesL n c) (mL L) p a w hS.bag he).mono ?_
    rintro e' w' ⟨rfl, hb⟩
    exact ⟨rfl, BFr.of_below hb, Outs.of_below hS.bag hb, hS.step hb⟩
  · rw [hr]
    refine ⟨0, _, by simp, rfl, fun g w0 w s hS => ?_⟩
    refine (twice_ok2 g w0.heap.size (placesL n c) (mL L) p a w hS.bag hS.size he (by have := mL_le L p; omega)).mono ?_
    rintro e' w' ⟨rfl, hB, hb, hf2, ho⟩
    obtain ⟨x, hx⟩ : ∃ x, findL (placesL n c) (mL L) p a = x := ⟨_, rfl⟩
    rw [hx] at hB hf ⊢
    subst hf
    rw [mL_put] at hB
    exact ⟨rfl, hf2, ho, hS.prog hB hb ho⟩
theorem clear_both (n c : Nat) (hn : n ≤ 6) (L : List S30) (p : Int) (hl : L.length < 199) (hp : p ≤ 9223372036854775807) :
    ∃ (e : Int) (L' : List S30), L'.length ≤ L.length + 1 ∧ sorrelref15_Clear.f 201 n c L p = some ((n : Int), (c : Int), L', e) ∧ ∀ (g : Nat) (w0 w : World) (s : Value), St w0 w g (placesL n c) (mL L) s L →
      Calls Try.prog 20 #[.pointer (some ⟨g, 0, none⟩), .int .i64 p] w fun e' w' => e' = .returned (.int .i64 e) ∧ BFr w w' ∧ Outs w w' g ∧ St w0 w' g (placesL n c) (mL L') s L := by
  rw [clear_is n c hn L p 201 hl (by decide) hp]
  cases hh : hasL (placesL n c) [p] with
  | true =>
    rw [if_pos rfl]
    refine ⟨0, _, by have := List.length_filter_le (fun x : S30 => decide (x.f1 ≠ p)) L; omega, rfl, fun g w0 w s hS => ?_⟩
    refine (clear_ok2 g w0.heap.size (placesL n c) (mL L) p w hS.bag hS.size hh).mono ?_
    rintro e' w' ⟨rfl, hB, hb, hf, ho⟩
    rw [mL_clear] at hB
    exact ⟨rfl, hf, ho, hS.prog hB hb ho⟩
  | false =>
    rw [if_neg (by decide)]
    refine ⟨1, L, by omega, rfl, fun g w0 w s hS => ?_⟩
    refine (clear_no g w0.heap.size (placesL n c) (mL L) p w hS.bag hh).mono ?_
    rintro e' w' ⟨rfl, hb⟩
    exact ⟨rfl, BFr.of_below hb, Outs.of_below hS.bag hb, hS.step hb⟩
theorem take_both (n c : Nat) (hn : n ≤ 6) (L : List S30) (p a : Int) (hl : L.length < 199) (hp : p ≤ 9223372036854775807) (h1 : -9223372036854775808 ≤ a) (h2 : a ≤ 9223372036854775807) :
    ∃ (e : Int) (L' : List S30) (y0 y1 : Int) (y2 : ByteArray), L'.length ≤ L.length + 1 ∧ sorrelref15_Take.f 201 n c L p a = some ((n : Int), (c : Int), L', y0, y1, y2, e) ∧ ∀ (g : Nat) (w0 w : World) (s : Value), St w0 w g (placesL n c) (mL L) s L →
      Calls Try.prog 11 #[.pointer (some ⟨g, 0, none⟩), .int .i64 p, .int .i64 a] w fun e' w' => e' = .returned (.tuple #[.agg #[.int .i64 y0, .int .i64 y1, .string y2], .int .i64 e]) ∧ BFr w w' ∧ Outs w w' g ∧ St w0 w' g (placesL n c) (mL L') s L := by
  rcases take_is n c hn L p a 201 hl (by decide) hp h1 h2 with ⟨he, hf, hr⟩ | ⟨A, x, B, e1, e2, e3, he, hf, hr⟩
  · rw [hr]
    refine ⟨_, L, _, _, _, by omega, rfl, fun g w0 w s hS => ?_⟩
    refine (take_no g w0.heap.size (placesL n c) (mL L) p a w hS.bag he).mono ?_
    rw [hf]
    rintro e' w' ⟨rfl, hb⟩
    exact ⟨rfl, BFr.of_below hb, Outs.of_below hS.bag hb, hS.step hb⟩
  · subst e1 e2 e3
    rw [hr]
    refine ⟨0, _, _, _, _, by simp; omega, rfl, fun g w0 w s hS => ?_⟩
    have hm := mL_le (A ++ x :: B) x.f1
    have hat := mL_at A B x
    refine (take_ok2 g w0.heap.size (placesL n c) (mL (A ++ x :: B)) x.f1 (mL A x.f1).length w hS.bag hS.size he (by omega) (by omega)).mono ?_
    rw [hf]
    rintro e' w' ⟨rfl, hB, hb, hf2, ho⟩
    rw [mL_take] at hB
    exact ⟨rfl, hf2, ho, hS.prog hB hb ho⟩
theorem waits_lit (b0 : Nat) (pl r : Int) (w : World) (hB : Bag w b0 g ps m) (hr : ((m pl).length : Int) = r) :
    Calls Try.prog 10 #[.pointer (some ⟨g, 0, none⟩), .int .i64 pl] w fun e w' => e = .returned (.int .i64 r) ∧ w' = w := by
  subst hr
  exact waits_calls g b0 ps m pl w hB
end Go.Proofs.Ytgcehbigcokpaaa.XA
