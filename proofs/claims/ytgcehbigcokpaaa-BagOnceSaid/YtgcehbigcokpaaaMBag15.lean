import Derived.Test.YtgcehbigcokpaaaMBag14
namespace Go.Proofs.Ytgcehbigcokpaaa.XA
open Go.RowKit Go.Proofs.YtgcehbigcokpaaaW.PrintWords Go.Proofs.YtgcehbigcokpaaaW.PrintLast Go.Proofs.YtgcehbigcokpaaaW.PrintMore Go.Proofs.Ytgcehbigcokpaaa.XW
attribute [local go_sem high] max2_str unary_xor_u32 leq_str geq_str gtr_str
attribute [local go_sem] max2_int min2_int max_two min_two max_three min_three max_four min_four
set_option linter.unusedVariables false
set_option linter.unusedSimpArgs false

def txt (i : Nat) : ByteArray := strOfNums [97 + (i : Int)]
def xO (i : Nat) : S30 := ⟨100, ((i % 3 : Nat) : Int), txt i⟩
def tag (y : S30) : Nat := (bt y.f2 0 - 97).toNat
def oPs : List Int := [-1, 0, 1, 2, 100]
theorem txt_size (i : Nat) : (txt i).size = 1 := rfl
theorem txt_bt (i : Nat) (h : i < 30) : bt (txt i) 0 = 97 + (i : Int) := by
  have : ∀ i : Fin 30, bt (txt i.val) 0 = 97 + (i.val : Int) := by decide +kernel
  exact this ⟨i, h⟩
theorem tag_x (i : Nat) (h : i < 30) : tag (xO i) = i := by
  unfold tag xO
  dsimp only
  rw [txt_bt i h]; omega
/-- What loop one keeps. -/
structure Inv (n i : Nat) (m : Int → List S30) (want : List Int) : Prop where
  len : want.length = n
  cnt : ∀ j, j < i → want.getD j 0 = ((((m ((j % 3 : Nat) : Int)).map tag).count j : Nat) : Int)
  zero : ∀ j, i ≤ j → want.getD j 0 = 0
  mem : ∀ p y, y ∈ m p → ∃ j, j < i ∧ y = xO j ∧ p = ((j % 3 : Nat) : Int)
  most : ∀ p, (m p).length ≤ 2 * i
theorem count_none {m : Int → List S30} {i : Nat} (hi : i < 30) (hm : ∀ p y, y ∈ m p → ∃ j, j < i ∧ y = xO j ∧ p = ((j % 3 : Nat) : Int)) (p : Int) : ((m p).map tag).count i = 0 := by
  rw [List.count_eq_zero]
  intro h
  obtain ⟨y, hy, he⟩ := List.mem_map.1 h
  obtain ⟨j, hj, rfl, _⟩ := hm p y hy
  rw [tag_x j (by omega)] at he
  omega
theorem Inv.put {n i : Nat} {m : Int → List S30} {want : List Int} (h : Inv n i m want) (hi : i < n) (hn : n ≤ 30) (c : Nat) (hc : 1 ≤ c ∧ c ≤ 2) (m' : Int → List S30) (hm : m' = upd m ((i % 3 : Nat) : Int) (m ((i % 3 : Nat) : Int) ++ List.replicate c (xO i))) : Inv n (i + 1) m' (want.set i (c : Int)) := by
  have hlen := h.len
  refine ⟨by rw [List.length_set]; exact h.len, ?_, ?_, ?_, ?_⟩
  · intro j hj
    rw [List.getD_eq_getElem?_getD, List.getElem?_set]
    by_cases e : i = j
    · subst e
      rw [if_pos rfl, if_pos (by omega), hm, upd_same, List.map_append, List.count_append, count_none (by omega) h.mem, List.map_replicate, tag_x i (by omega), List.count_replicate_self, Nat.zero_add]
      rfl
    · rw [if_neg e, ← List.getD_eq_getElem?_getD, h.cnt j (by omega), hm]
      by_cases e2 : ((j % 3 : Nat) : Int) = ((i % 3 : Nat) : Int)
      · rw [e2, upd_same, List.map_append, List.count_append, List.map_replicate, tag_x i (by omega), List.count_replicate, if_neg (by simp; exact e), Nat.add_zero]
      · rw [upd_other _ _ e2]
  · intro j hj
    rw [List.getD_eq_getElem?_getD, List.getElem?_set, if_neg (by omega), ← List.getD_eq_getElem?_getD]
    exact h.zero j (by omega)
  · intro p y hy
    rw [hm] at hy
    by_cases e : p = ((i % 3 : Nat) : Int)
    · subst e
      rw [upd_same] at hy
      rcases List.mem_append.1 hy with hy | hy
      · obtain ⟨j, h1, h2, h3⟩ := h.mem _ y hy
        exact ⟨j, by omega, h2, h3⟩
      · exact ⟨i, Nat.lt_succ_self _, (List.mem_replicate.1 hy).2, rfl⟩
    · rw [upd_other _ _ e] at hy
      obtain ⟨j, h1, h2, h3⟩ := h.mem _ y hy
      exact ⟨j, by omega, h2, h3⟩
  · intro p
    rw [hm]
    have h1 := h.most p
    by_cases e : p = ((i % 3 : Nat) : Int)
    · subst e
      rw [upd_same, List.length_append, List.length_replicate]; omega
    · rw [upd_other _ _ e]; omega
/-- What loop two keeps. -/
structure Inv2 (n : Nat) (m : Int → List S30) (want : List Int) : Prop where
  len : want.length = n
  cnt : ∀ j, j < n → want.getD j 0 = ((((m ((j % 3 : Nat) : Int)).map tag).count j : Nat) : Int)
  mem : ∀ p y, y ∈ m p → ∃ j, j < n ∧ y = xO j ∧ p = ((j % 3 : Nat) : Int)
  most : ∀ p, (m p).length ≤ 60
theorem Inv.two {n : Nat} {m : Int → List S30} {want : List Int} (h : Inv n n m want) (hn : n ≤ 30) : Inv2 n m want := ⟨h.len, h.cnt, h.mem, fun p => by have := h.most p; omega⟩
theorem Inv2.take {n : Nat} {m : Int → List S30} {want : List Int} (h : Inv2 n m want) (hn : n ≤ 30) (t : Int) (a j : Nat) (ha : a < (m t).length) (hj : (m t)[a] = xO j) (hjn : j < n) (hjt : t = ((j % 3 : Nat) : Int)) :
    Inv2 n (upd m t ((m t).take a ++ (m t).drop (a + 1))) (want.set j (want.getD j 0 - 1)) ∧ 1 ≤ want.getD j 0 ∧ want.getD j 0 ≤ 60 := by
  have hl := h.len
  have hsp : m t = (m t).take a ++ xO j :: (m t).drop (a + 1) := by
    rw [← hj, List.getElem_cons_drop, List.take_append_drop]
  have hc : ∀ j', ((m t).map tag).count j' = ((((m t).take a ++ (m t).drop (a + 1)).map tag).count j') + (if j = j' then 1 else 0) := by
    intro j'
    conv => lhs; rw [hsp]
    rw [List.map_append, List.map_cons, List.count_append, List.count_cons, tag_x j (by omega), List.map_append, List.count_append]
    simp only [beq_iff_eq]
    omega
  have hcj := h.cnt j hjn
  rw [← hjt, hc j, if_pos rfl] at hcj
  have hml : ((m t).map tag).count j ≤ (m t).length := by have := List.count_le_length (a := j) (l := (m t).map tag); rw [List.length_map] at this; exact this
  have hmo := h.most t
  refine ⟨⟨by rw [List.length_set]; exact h.len, ?_, ?_, ?_⟩, by omega, by rw [hc j, if_pos rfl] at hml; omega⟩
  · intro j' hj'
    rw [List.getD_eq_getElem?_getD, List.getElem?_set]
    by_cases e : j = j'
    · subst e
      rw [if_pos rfl, if_pos (by omega), ← hjt, upd_same]
      show want.getD j 0 - 1 = _
      omega
    · rw [if_neg e, ← List.getD_eq_getElem?_getD, h.cnt j' hj']
      by_cases e2 : ((j' % 3 : Nat) : Int) = t
      · rw [e2, upd_same, hc j', if_neg e, Nat.add_zero]
      · rw [upd_other _ _ e2]
  · intro p y hy
    by_cases e : p = t
    · subst e
      rw [upd_same] at hy
      refine h.mem p y ?_
      rcases List.mem_append.1 hy with hy | hy
      · exact List.mem_of_mem_take hy
      · exact List.mem_of_mem_drop hy
    · rw [upd_other _ _ e] at hy
      exact h.mem p y hy
  · intro p
    by_cases e : p = t
    · subst e
      rw [upd_same, List.length_append, List.length_take, List.length_drop]; omega
    · rw [upd_other _ _ e]; exact h.most p
theorem Inv2.end_ {n : Nat} {m : Int → List S30} {want : List Int} (h : Inv2 n m want) (he : ∀ p : Nat, p < 3 → m (p : Int) = []) (j : Nat) (hj : j < n) : want.getD j 0 = 0 := by
  rw [h.cnt j hj, he (j % 3) (Nat.mod_lt _ (by decide))]; rfl
theorem o_h3 (t : Nat) (h : t < 3) : hasL oPs [(t : Int)] = true := by
  have : ∀ k : Fin 3, hasL oPs [(k.val : Int)] = true := by decide
  exact this ⟨t, h⟩
theorem o_find (m : Int → List S30) (t a j : Nat) (ht : t < 3) (ha : a < (m (t : Int)).length) (hj : (m (t : Int))[a] = xO j) (hjt : t = j % 3) : findE oPs m (t : Int) (a : Int) = 0 ∧ findL oPs m (t : Int) (a : Int) = ⟨100, (t : Int), txt j⟩ := by
  have e : findE oPs m (t : Int) (a : Int) = 0 := by
    unfold findE
    rw [if_neg (by rw [o_h3 t ht]; decide), if_neg (by omega)]
  refine ⟨e, ?_⟩
  unfold findL
  rw [if_pos e]
  unfold rd_T30
  rw [Int.toNat_natCast, List.getD_eq_getElem?_getD, List.getElem?_eq_getElem ha, hj]
  subst hjt
  rfl
theorem o_h1 (i : Nat) : hasL oPs [100, ((i % 3 : Nat) : Int)] = true := by
  have : ∀ k : Fin 3, hasL oPs [100, (k.val : Int)] = true := by decide
  exact this ⟨i % 3, Nat.mod_lt _ (by decide)⟩
theorem o_h2 (i : Nat) : hasL oPs [((i % 3 : Nat) : Int)] = true := by
  have : ∀ k : Fin 3, hasL oPs [(k.val : Int)] = true := by decide
  exact this ⟨i % 3, Nat.mod_lt _ (by decide)⟩
theorem txt_ok (i : Nat) : (txt i).size ≤ 262144 := by rw [txt_size]; decide
theorem find_last (p : Int) (m : Int → List S30) (l : List S30) (x : S30) (hm : m p = l ++ [x]) (hh : hasL oPs [p] = true) : findE oPs m p (((m p).length : Int) - 1) = 0 ∧ findL oPs m p (((m p).length : Int) - 1) = x := by
  have e : findE oPs m p (((m p).length : Int) - 1) = 0 := by
    unfold findE
    rw [if_neg (by rw [hh]; decide), if_neg (by rw [hm, List.length_append, List.length_singleton]; omega)]
  refine ⟨e, ?_⟩
  unfold findL
  rw [if_pos e, hm]
  unfold rd_T30
  rw [List.length_append, List.length_singleton, show (((l.length + 1 : Nat) : Int) - 1).toNat = l.length from by omega, List.getD_eq_getElem?_getD, List.getElem?_append_right (Nat.le_refl _), Nat.sub_self]
  rfl
theorem ints_cell {W : World} {base g n c : Nat} {want : List Int} (h : Kd.R (Kd.int .i64) 3 W base (fun _ => True) (.slice (some ⟨g, 0, none⟩) n c) want) (i : Nat) (hi : i < n) : W.cell? ⟨g, i, none⟩ = some (.int .i64 (want.getD i 0)) ∧ W.frozen? ⟨g, i, none⟩ = false := by
  have hn := (Kd.R_reads' h).1
  subst hn
  have := Kd.R_cell (enc := Value.int .i64) (h1 := fun _ => rfl) (0 : Int) h (i : Int) (by omega) (by omega)
  rw [Int.toNat_natCast] at this
  refine ⟨this.1.trans ?_, this.2⟩
  unfold rdOf
  rw [Int.toNat_natCast]
theorem ints_put {W : World} {base g n c : Nat} {want : List Int} (h : Kd.R (Kd.int .i64) 3 W base (fun _ => True) (.slice (some ⟨g, 0, none⟩) n c) want) (i : Nat) (x : Int) : Kd.R (Kd.int .i64) 3 (W.setCell ⟨g, i, none⟩ (.int .i64 x)) base (fun _ => True) (.slice (some ⟨g, 0, none⟩) n c) (want.set i x) := by
  have hn := (Kd.R_reads' h).1
  subst hn
  have := (Kd.R_put (enc := Value.int .i64) (h1 := fun _ => rfl) h (i : Int) x).1
  rw [Int.toNat_natCast] at this
  exact this
/-- The bag's places lie in another block. -/
def Off (w : World) (g gw : Nat) : Prop := ∀ q V, w.heap[g]? = some (.cells #[.map (some q), V] 60 (0, 0)) → V.ownBlock ≠ some gw
theorem Off.kept {w w1 : World} {g gw : Nat} {cs : Array Value} (h : Off w g gw) (hg : w.heap[g]? = some (.cells cs 60 (0, 0))) (hf : w1.heap[g]? = w.heap[g]?) : Off w1 g gw := fun q V hq => h q V (hf.symm.trans hq)
theorem Bag.block {w : World} {b0 g : Nat} {ps : List Int} {m : Int → List S30} (h : Bag w b0 g ps m) : ∃ cs, w.heap[g]? = some (.cells cs 60 (0, 0)) := by
  obtain ⟨q, V, hg, _⟩ := h
  exact ⟨_, hg⟩
theorem Off.bfr {w w1 : World} {b0 g gw : Nat} {ps : List Int} {m : Int → List S30} (h : Off w g gw) (hB : Bag w b0 g ps m) (hf : BFr w w1) : Off w1 g gw := by
  obtain ⟨cs, hg⟩ := hB.block
  exact h.kept hg ((hf.block g _ hg (fun c f e => by cases e) (fun es cl e => by cases e)).trans hg.symm)
theorem Bag.far3 {w : World} {b0 g gw : Nat} {ps : List Int} {m : Int → List S30} (h : Bag w b0 g ps m) {cs : Array Value} (hgw : w.heap[gw]? = some (.cells cs 3 (0, 0))) (ho : Off w g gw) (j : Nat) (u : Value) : Bag (w.setCell ⟨gw, j, none⟩ u) b0 g ps m := by
  obtain ⟨q, V, h1, h2, h3, h4, h5⟩ := h
  have hne : g ≠ gw := fun e => by subst e; rw [h1] at hgw; injection hgw with hgw; injection hgw with _ hgw; cases hgw
  have hnq : gw ≠ q := fun e => by subst e; obtain ⟨es, cl, hq⟩ := h5.at; rw [hgw] at hq; cases hq
  refine ⟨q, V, (Below.heap_setCell w ⟨gw, j, none⟩ u g hne).trans h1, h2, h3, ?_, ?_⟩
  · exact Kd.R_mono (Kd.R_far (Kd.R_tight rfl h4) (p := ⟨gw, j, none⟩) (fun k hk e => ho q V h1 (by rw [← hk, e])) u) (fun _ _ => trivial)
  · refine h5.far (fun es cl hq x hx e => ?_) hnq j u
    obtain ⟨es2, cl2, g1, g2, _⟩ := h5
    rw [hq] at g1
    injection g1 with g1
    injection g1 with g1 _
    subst g1
    obtain ⟨k, _, hR⟩ := g2 x hx
    obtain ⟨cells, hc⟩ := Kd.R_typed hR gw e
    rw [hgw] at hc
    injection hc with hc
    injection hc with _ hc
    cases hc
theorem conv_one (W : World) (v : Int) : (convert 28 9 (.slice (some ⟨W.heap.size, 0, none⟩) 1 1)).run Try.prog (W.alloc (.cells #[.int .u8 v] 5)) = .ok (.string (strOfNums [v])) (W.alloc (.cells #[.int .u8 v] 5)) :=
  run_convert_bytes_arg _ 28 5 Try.underlying28 Try.underlying5 W.heap.size 0 1 1 [v] rfl (fun i hi => by
    have h0 : i = 0 := by omega
    subst h0
    exact (blk_cell (heap_alloc_new W (.cells #[.int .u8 v] 5)) 0).trans rfl) 9 Try.underlying9
set_option maxHeartbeats 6400000 in
set_option maxRecDepth 100000 in
theorem once_calls (many tw : Int) (A0 : Option Addr) (c0 : Nat) (l0 : List Int) (n : Nat) (w : World) (hr0 : Kd.C (Kd.int .i64) w A0 l0.length l0) (hc0 : l0.length ≤ c0) (hn : Int.tmod (Go.bits .and .i64 many 255) 30 = (n : Int)) (hn30 : n < 30) :
    Calls Try.prog 3 #[.int .i64 many, .int .i64 tw, .slice A0 l0.length c0] w fun e w' => e = .returned (.bool true) ∧ Below w.heap.size w w' := by
  have HR0 := Aside0.mk hr0
  have HC0 := Aside0.mk hc0
  have HN := Aside0.mk hn30
  have hnn : decide (0 ≤ (n : Int)) = true := decide_eq_true (by omega)
  clear hr0 hc0 hn30
  go_enter Try.func3, Try.ntmps3
  go_wp2_with (first | ((with_reducible refine gate_dst (N := 33) rfl ?_); go_loud (refine Kd.R_make (Kd.int .i64) (w0 := w) w.heap.size 3 rfl (N := 33) rfl 22 _ _ rfl (n : Int) rfl rfl Try.underlying22 (.int .i64 0) 8 info3 rfl (by decide) (by omega) 0 (ok := fun _ => True) (okp := fun _ => True) rfl (fun _ hk => hk) trivial (Int.natCast_nonneg _) (by have := HN.out; rw [Int.toNat_natCast]; omega) HL1.out HL1.out.size ?_); intro v9 w9 ho hb hg hnew; rw [Int.toNat_natCast] at ho; obtain ⟨A9, c9, hv, -, -⟩ := Kd.R_reads ho; rw [List.length_replicate] at hv; subst hv; have HG9 := Aside0.mk hg; obtain ⟨b9, hb9, hge9⟩ := hnew; have HGE9 := Aside0.mk hge9; have HV1 := HB1; have HO9 := Aside0.mk ho; have HX9 := Aside0.mk hb9; have HL9 := Aside0.mk hb; have HB9 := Aside0.mk (HB1.out.below ⟨hg.os, hg.tape, hg.output, hg.size, fun k hk => hg.block k hk (by simp)⟩); clear ho hb hg hb9 hge9) | (go_at_call 7; go_loud ((refine (new_lit 3 1 3 1 oPs _ rfl rfl rfl (by decide) (by decide) (by decide) (by decide)).mono ?_); rintro e w1 ⟨rfl, hB, hb⟩; have HB1 := Aside0.mk hB; have HL1 := Aside0.mk hb; clear hB hb)))
  cases A9 with
  | none => exact absurd HX9.out (by simp [Value.ownBlock])
  | some ad9 =>
    obtain ⟨gw, hgw⟩ := Kd.R_head HO9.out
    subst hgw
    have HOF9 : Aside0 (Off w9 (w.heap.size + 2) gw) := ⟨by
      intro q V hq e
      obtain ⟨q', V', h1, -, -, hV', -⟩ := HV1.out
      rw [HG9.out.block _ (blk_lt h1) (by simp), h1] at hq
      injection hq with hq
      injection hq with hq _ _
      have hv : V' = V := by
        have := congrArg (fun a => a[1]?) hq
        simpa using this
      subst hv
      have h3 := Kd.R_lt hV' gw e
      have h4 : gw = b9 := by
        have := HX9.out
        simpa [Value.ownBlock] using this
      have := HGE9.out
      omega⟩
    go_loopg [11] n (fun kq v11 w' => ∃ (i : Nat) (m : Int → List S30) (want : List Int), v11 = .int .i64 (i : Int) ∧ Aside0 (i + kq = n) ∧ Aside0 (Inv n i m want) ∧ Aside0 (Bag w' w.heap.size (w.heap.size + 2) oPs m) ∧ Aside0 (Kd.R (Kd.int .i64) 3 w' w.heap.size (fun _ => True) (.slice (some ⟨gw, 0, none⟩) n c9) want) ∧ Aside0 (Off w' (w.heap.size + 2) gw) ∧ Aside0 (Below w.heap.size w w'))
    case atStart => exact ⟨0, fun _ => [], List.replicate n 0, rfl, ⟨Nat.zero_add _⟩, ⟨⟨by simp, fun j hj => absurd hj (Nat.not_lt_zero _), fun j _ => by rw [List.getD_eq_getElem?_getD, List.getElem?_replicate]; split <;> rfl, fun p y hy => (List.not_mem_nil hy).elim, fun p => Nat.zero_le _⟩⟩, HB9, HO9, HOF9, HL9⟩
    case round =>
      clear HB1 HL1 HB9 HO9 HL9 HX9 HOF9 HG9 HV1 HGE9
      obtain ⟨i, m, want, rfl, HI, HV, HB, HO, HOF, HL⟩ := hrel
      have hI := HI.out
      have hn3 := HN.out
      cases gk with
      | zero =>
        have hni : n = i := by omega
        subst hni
        have c1b : decide ((n : Int) < (n : Int)) = false := decide_eq_false (by omega)
        have c1n : decide (n < n) = false := decide_eq_false (by omega)
        have HV2 := Aside0.mk (HV.out.two (by omega))
        clear hI hn3
        go_wp2
        go_loopg [12] 3 (fun kq v12 w' => ∃ (t : Nat) (m : Int → List S30) (want : List Int), v12 = .int .i64 (t : Int) ∧ Aside0 (t + kq = 3) ∧ Aside0 (Inv2 n m want) ∧ Aside0 (∀ p : Nat, p < t → m (p : Int) = []) ∧ Aside0 (Bag w' w.heap.size (w.heap.size + 2) oPs m) ∧ Aside0 (Kd.R (Kd.int .i64) 3 w' w.heap.size (fun _ => True) (.slice (some ⟨gw, 0, none⟩) n c9) want) ∧ Aside0 (Off w' (w.heap.size + 2) gw) ∧ Aside0 (Below w.heap.size w w'))
        case atStart => exact ⟨0, m, want, rfl, ⟨rfl⟩, HV2, ⟨fun p hp => absurd hp (Nat.not_lt_zero _)⟩, HB, HO, HOF, HL⟩
        case round =>
          clear HV HV2 HB HO HOF HL HI
          obtain ⟨t, m, want, rfl, HT, HV, HE, HB, HO, HOF, HL⟩ := hrel
          have hT := HT.out
          cases gk with
          | zero =>
            have ht3 : t = 3 := by omega
            subst ht3
            have HEND : Aside0 (∀ j, j < n → want.getD j 0 = 0) := ⟨fun j hj => HV.out.end_ (fun p hp => HE.out p hp) j hj⟩
            clear hT
            go_wp2
            go_loopg [18] n (fun kq v18 w' => ∃ (i : Nat), v18 = .int .i64 (i : Int) ∧ Aside0 (i + kq = n) ∧ Aside0 (w' = wr))
            case atStart => exact ⟨0, rfl, ⟨Nat.zero_add _⟩, ⟨rfl⟩⟩
            case round =>
              obtain ⟨i, rfl, HI, HW'⟩ := hrel
              have hw' := HW'.out
              subst hw'
              have hI := HI.out
              have hn3 := HN.out
              cases gk with
              | zero =>
                have hni : n = i := by omega
                subst hni
                have c1b : decide ((n : Int) < (n : Int)) = false := decide_eq_false (by omega)
                have c1n : decide (n < n) = false := decide_eq_false (by omega)
                clear hI hn3
                go_wp2_with (go_at_call 12; go_loud ((refine (awake_calls _).mono ?_); rintro e w20 ⟨rfl, hb⟩; have HL20 := Aside0.mk (below_then HL.out HL.out.size hb); clear hb))
                go_ret
                exact ⟨rfl, HL20.out⟩
              | succ k1 =>
                have hlt : i < n := by omega
                have c1b : decide ((i : Int) < (n : Int)) = true := decide_eq_true (by omega)
                have c1n : decide (i < n) = true := decide_eq_true hlt
                have q1 : (i < n) = True := eq_true hlt
                have q2 : ((i : Int) < (n : Int)) = True := eq_true (by omega)
                have q3 : (0 ≤ (i : Int)) = True := eq_true (by omega)
                have hcc := (ints_cell HO.out i hlt).1
                rw [HEND.out i hlt] at hcc
                have HWI : Aside0 (wrap64 ((i : Int) + 1) = ((i + 1 : Nat) : Int)) := ⟨by unfold wrap64; omega⟩
                have HI2 : Aside0 (i + 1 + k1 = n) := ⟨by omega⟩
                clear hI hn3
                go_wp2
                go_roundg k1
                case measure => omega
                case rel => exact ⟨i + 1, by rw [HWI.out], HI2, ⟨rfl⟩⟩
          | succ kt =>
            have ht3 : t < 3 := by omega
            have d1 : decide ((t : Int) < 3) = true := decide_eq_true (by omega)
            have d2 : decide (t < 3) = true := decide_eq_true ht3
            have HT3 := Aside0.mk ht3
            have HT2 : Aside0 (t + 1 + kt = 3) := ⟨by omega⟩
            have HWT : Aside0 (wrap64 ((t : Int) + 1) = ((t + 1 : Nat) : Int)) := ⟨by unfold wrap64; omega⟩
            clear hT
            go_wp2
            go_loopg [13] (m (t : Int)).length (fun kq v13 w' => ∃ (k : Nat) (m : Int → List S30) (want : List Int), v13 = .int .i64 (k : Int) ∧ Aside0 ((m (t : Int)).length = kq) ∧ Aside0 (k + kq ≤ 60) ∧ Aside0 (Inv2 n m want) ∧ Aside0 (∀ p : Nat, p < t → m (p : Int) = []) ∧ Aside0 (Bag w' w.heap.size (w.heap.size + 2) oPs m) ∧ Aside0 (Kd.R (Kd.int .i64) 3 w' w.heap.size (fun _ => True) (.slice (some ⟨gw, 0, none⟩) n c9) want) ∧ Aside0 (Off w' (w.heap.size + 2) gw) ∧ Aside0 (Below w.heap.size w w'))
            case atStart => exact ⟨0, m, want, rfl, ⟨rfl⟩, ⟨by have := HV.out.most (t : Int); omega⟩, HV, HE, HB, HO, HOF, HL⟩
            case round =>
              clear HV HE HB HO HOF HL
              obtain ⟨k, m, want, rfl, HLM, HKK, HV, HE, HB, HO, HOF, HL⟩ := hrel
              cases gk with
              | zero =>
                have HZ := HLM
                go_wp2_with (go_at_call 10; go_loud ((refine (waits_calls (w.heap.size + 2) w.heap.size oPs m (t : Int) _ HB.out).mono ?_); rintro e w5 ⟨he, rfl⟩; rw [HZ.out] at he; subst he))
                go_roundg kt
                case measure => omega
                case rel =>
                  refine ⟨t + 1, m, want, by rw [Int.natCast_add]; rfl, HT2, HV, ⟨fun p hp => ?_⟩, HB, HO, HOF, HL⟩
                  by_cases e : p = t
                  · subst e; exact List.length_eq_zero_iff.1 HLM.out
                  · exact HE.out p (by omega)
              | succ kk =>
                have hlm := HLM.out
                have hkk := HKK.out
                have HWK : Aside0 (wrap64 ((k : Int) + 1) = ((k + 1 : Nat) : Int)) := ⟨by unfold wrap64; omega⟩
                have g1 : decide (0 < ((kk + 1 : Nat) : Int)) = true := decide_eq_true (by omega)
                have g2 : decide (100 < (k : Int)) = false := decide_eq_false (by omega)
                have g3 : decide (100 < k) = false := decide_eq_false (by omega)
                obtain ⟨lm, hlmE⟩ : ∃ lm, kk + 1 = lm := ⟨_, rfl⟩
                have HLE := Aside0.mk hlmE
                have hlm2 : (m (t : Int)).length = lm := by omega
                have HLM2 := Aside0.mk hlm2
                have g4 : decide (0 < (lm : Int)) = true := decide_eq_true (by omega)
                have g5 : decide (0 < lm) = true := decide_eq_true (by omega)
                have g6 : ¬ (lm : Int) = 0 := by omega
                have g7 : ((lm : Int) == 0) = false := beq_eq_false_iff_ne.mpr (by omega)
                clear hlm hkk hlmE hlm2
                have HLE0 : Aside0 (l0.length ≤ 9223372036854775807) := ⟨by have := HR0.out.2.1; omega⟩
                by_cases ho : l0.length = 0
                · have o1 : decide (0 < (l0.length : Int)) = false := decide_eq_false (by omega)
                  have o2 : decide (0 < l0.length) = false := decide_eq_false (by omega)
                  obtain ⟨a, ha0⟩ : ∃ a : Nat, a = 0 := ⟨_, rfl⟩
                  have HAE := Aside0.mk ha0
                  have HA : Aside0 (a < (m (t : Int)).length) := ⟨by have := HLM.out; omega⟩
                  have HRR := HB
                  have HO0 := Aside0.mk ho
                  clear ha0 ho
                  obtain ⟨j, hj, hja, hjt⟩ := HV.out.mem (t : Int) ((m (t : Int))[a]'HA.out) (List.getElem_mem _)
                  have hn3 := HN.out
                  have ht3 := HT3.out
                  have HFN := Aside0.mk (o_find m t a j HT3.out HA.out hja (by omega))
                  have HJN := Aside0.mk hj
                  have HTK := Aside0.mk (HV.out.take (by omega) (t : Int) a j HA.out hja hj hjt)
                  have hcR := HTK.out.2
                  obtain ⟨c, hc⟩ : ∃ c, want.getD j 0 = c := ⟨_, rfl⟩
                  rw [hc] at hcR
                  have HC := Aside0.mk hc
                  have hsz := txt_size j
                  have hbt := txt_bt j (by omega)
                  obtain ⟨tx, htx⟩ : ∃ tx, txt j = tx := ⟨_, rfl⟩
                  rw [htx] at hsz hbt HFN
                  have hb0 : ∀ h : 0 < tx.size, ((tx[0]'h).toNat : Int) = 97 + (j : Int) := fun h => (bt_at tx 0 h).trans hbt
                  clear hbt
                  have hp0 : (0 < tx.size) = True := eq_true (by omega)
                  have j2 : decide ((j : Int) < 0) = false := decide_eq_false (by omega)
                  have j3 : decide ((n : Int) ≤ (j : Int)) = false := decide_eq_false (by omega)
                  have j4 : decide (n ≤ j) = false := decide_eq_false (by omega)
                  have j5 : (j < n) = True := eq_true hj
                  have j6 : ((j : Int) < (n : Int)) = True := eq_true (by omega)
                  have j7 : (0 ≤ (j : Int)) = True := eq_true (by omega)
                  have HJ8 : Aside0 (Int.tmod (j : Int) 3 = (t : Int)) := ⟨by rw [hjt]; exact (Int.ofNat_tmod _ _).symm⟩
                  have k1 : (c == 0) = false := beq_eq_false_iff_ne.mpr (by omega)
                  have k3 : ¬ c = 0 := by omega
                  have HK2 : Aside0 (wrap64 (c - 1) = c - 1) := ⟨by unfold wrap64; omega⟩
                  have HJ1 : Aside0 (wrap64 (97 + (j : Int) - 97) = (j : Int)) := ⟨by unfold wrap64; omega⟩
                  have HJ0 : Aside0 (wrap64 (97 + (j : Int)) = 97 + (j : Int)) := ⟨by unfold wrap64; omega⟩
                  have HJ9 : Aside0 (wrap64 (j : Int) = (j : Int)) := ⟨by unfold wrap64; omega⟩
                  have HFM : Aside0 (findE oPs m (t : Int) (0) = 0 ∧ findL oPs m (t : Int) (0) = ⟨100, (t : Int), tx⟩) := ⟨by have h := HFN.out; rw [show (a : Int) = 0 from (by rw [HAE.out]; rfl)] at h; exact h⟩
                  have k2 := HK2.out
                  have j1 := HJ1.out
                  have j0 := HJ0.out
                  have j9 := HJ9.out
                  have j8 := HJ8.out
                  clear hn3 ht3 hcR hc hja htx hjt HFN
                  go_wp2_with (first | (go_at_call 11; go_loud ((refine (take_lit (w.heap.size + 2) w.heap.size oPs m _ (t : Int) 0 a ⟨100, (t : Int), tx⟩ _ (by rw [HAE.out]; rfl) HB.out HL.out.size HFM.out.1 HFM.out.2 rfl HA.out (by have := HV.out.most (t : Int); omega)).mono ?_); rintro e w7 ⟨he, hB, hb, hf, -⟩; have he' : e = .returned (.tuple #[.agg #[.int .i64 100, .int .i64 (t : Int), .string tx], .int .i64 0]) := he; subst he'; clear he; have HB7a := Aside0.mk hB; have ho7 := hf.ints HO.out; have HL7 := Aside0.mk (HL.out.trans hb); have HB7 := Aside0.mk (hB.below (below_alloc (Below.refl w7.heap.size w7) (.cells #[.int .i64 100, .int .i64 (t : Int), .string tx] 30))); have HL8 := Aside0.mk (below_alloc HL7.out (.cells #[.int .i64 100, .int .i64 (t : Int), .string tx] 30)); have ho8 := Kd.R_alloc ho7 (.cells #[.int .i64 100, .int .i64 (t : Int), .string tx] 30); have HO8 := Aside0.mk ho8; have hcc := ints_cell ho8 j HJN.out; rw [HC.out] at hcc; have x7 := hcc.1; have y7 := hcc.2; have HOF8 := Aside0.mk ((HOF.out.bfr HB.out hf).bfr hB (BFr.of_below (below_alloc (Below.refl w7.heap.size w7) (.cells #[.int .i64 100, .int .i64 (t : Int), .string tx] 30)))); have HGW := Aside0.mk (Kd.R_base ho8 gw rfl); obtain ⟨cw7, hcw7⟩ := Kd.R_typed ho8 gw rfl; have HCW7 := Aside0.mk hcw7; clear hB hb hf ho7 ho8 hcc hcw7)) | (go_at_call 10; go_loud ((refine (waits_calls (w.heap.size + 2) w.heap.size oPs m (t : Int) _ HB.out).mono ?_); rintro e w5 ⟨he, rfl⟩; rw [HLM2.out] at he; subst he)))
                  go_roundg kk
                  case measure => omega
                  case rel =>
                    obtain ⟨hi2, -, -⟩ := HTK.out
                    rw [HC.out] at hi2
                    have hB9 := HB7.out.far3 HCW7.out HOF8.out j (.int .i64 (c - 1))
                    refine ⟨k + 1, upd m (t : Int) ((m (t : Int)).take a ++ (m (t : Int)).drop (a + 1)), want.set j (c - 1), by rw [HWK.out], ⟨?_⟩, ⟨by have := HKK.out; omega⟩, ⟨hi2⟩, ⟨fun p hp => ?_⟩, ⟨hB9⟩, ⟨ints_put HO8.out j (c - 1)⟩, ⟨?_⟩, ⟨HL8.out.setCell (p := ⟨gw, j, none⟩) HGW.out _⟩⟩
                    · rw [upd_same, List.length_append, List.length_take, List.length_drop]
                      have h1 := HA.out
                      have h2 := HLM.out
                      omega
                    · rw [upd_other _ _ (by omega)]
                      exact HE.out p hp
                    · obtain ⟨cs, hg⟩ := HB7.out.block
                      exact HOF8.out.kept hg (Below.heap_setCell _ ⟨gw, j, none⟩ _ _ (by show w.heap.size + 2 ≠ gw; intro e; rw [e] at hg; rw [HCW7.out] at hg; injection hg with hg; injection hg with _ hg; cases hg))
                · have o1 : decide (0 < (l0.length : Int)) = true := decide_eq_true (by omega)
                  have o2 : decide (0 < l0.length) = true := decide_eq_true (by omega)
                  have o3 : ¬ (l0.length : Int) = 0 := by omega
                  have o4 : ((l0.length : Int) == 0) = false := beq_eq_false_iff_ne.mpr o3
                  have hk0 : k < 9223372036854775808 := by have := HKK.out; omega
                  obtain ⟨qi, hqi⟩ : ∃ qi : Int, Int.tmod (k : Int) (l0.length : Int) = qi := ⟨_, rfl⟩
                  have HQI := Aside0.mk hqi
                  have hq2 : 0 ≤ qi ∧ qi < (l0.length : Int) := by
                    rw [← hqi, ← Int.ofNat_tmod]
                    have := Nat.mod_lt k (show 0 < l0.length by omega)
                    exact ⟨Int.natCast_nonneg _, by exact_mod_cast this⟩
                  clear hqi
                  obtain ⟨ad, ead, hxq⟩ := Kd.at_int (Kd.C_below HR0.out HL.out) qi hq2.1 hq2.2
                  obtain ⟨r, hr255, hbr⟩ := VLib.and_small (rd l0 qi) 255 (by decide)
                  have HBR : Aside0 (Go.bits .and .i64 (rd l0 qi) 255 = (r : Int)) := ⟨hbr⟩
                  obtain ⟨a, ha⟩ : ∃ a : Nat, r % lm = a := ⟨_, rfl⟩
                  have HA : Aside0 (a < (m (t : Int)).length) := ⟨by have := HLM2.out; rw [this, ← ha]; exact Nat.mod_lt _ (by omega)⟩
                  have HTA : Aside0 (Int.tmod (r : Int) (lm : Int) = (a : Int)) := ⟨by rw [← Int.ofNat_tmod, ha]⟩
                  cases ead
                  have pq := eq_true hq2.1
                  have qq := eq_true hq2.2
                  have pd := decide_eq_true hq2.1
                  have qd := decide_eq_true hq2.2
                  clear hbr ha hq2 hr255 hk0
                  have e1 := HQI.out
                  have e2 := HBR.out
                  have e3 := HTA.out
                  go_wp2_with (go_at_call 10; go_loud ((refine (waits_calls (w.heap.size + 2) w.heap.size oPs m (t : Int) _ HB.out).mono ?_); rintro e w5 ⟨he, rfl⟩; rw [HLM2.out] at he; subst he))
                  go_quiet ((go_at_call 10; refine Calls.quiet_of_same (v := .int .i64 (lm : Int)) ((waits_calls (w.heap.size + 2) w.heap.size oPs m (t : Int) _ (HB.out.below (pw_below_drewN (Below.refl _ _) _))).mono ?_); intro e w' hew; rw [HLM2.out] at hew; exact hew))
                  clear e1 e2 e3
                  have HOF := Aside0.mk (HOF.out.bfr HB.out (BFr.of_below (pw_below_drewN (Below.refl _ _) nq)))
                  have HB := Aside0.mk (HB.out.below (pw_below_drewN (Below.refl _ _) nq))
                  have HO := Aside0.mk (Kd.R_drewN HO.out nq)
                  have HL := Aside0.mk (pw_below_drewN HL.out nq)
                  obtain ⟨j, hj, hja, hjt⟩ := HV.out.mem (t : Int) ((m (t : Int))[a]'HA.out) (List.getElem_mem _)
                  have hn3 := HN.out
                  have ht3 := HT3.out
                  have HFN := Aside0.mk (o_find m t a j HT3.out HA.out hja (by omega))
                  have HJN := Aside0.mk hj
                  have HTK := Aside0.mk (HV.out.take (by omega) (t : Int) a j HA.out hja hj hjt)
                  have hcR := HTK.out.2
                  obtain ⟨c, hc⟩ : ∃ c, want.getD j 0 = c := ⟨_, rfl⟩
                  rw [hc] at hcR
                  have HC := Aside0.mk hc
                  have hsz := txt_size j
                  have hbt := txt_bt j (by omega)
                  obtain ⟨tx, htx⟩ : ∃ tx, txt j = tx := ⟨_, rfl⟩
                  rw [htx] at hsz hbt HFN
                  have hb0 : ∀ h : 0 < tx.size, ((tx[0]'h).toNat : Int) = 97 + (j : Int) := fun h => (bt_at tx 0 h).trans hbt
                  clear hbt
                  have hp0 : (0 < tx.size) = True := eq_true (by omega)
                  have j2 : decide ((j : Int) < 0) = false := decide_eq_false (by omega)
                  have j3 : decide ((n : Int) ≤ (j : Int)) = false := decide_eq_false (by omega)
                  have j4 : decide (n ≤ j) = false := decide_eq_false (by omega)
                  have j5 : (j < n) = True := eq_true hj
                  have j6 : ((j : Int) < (n : Int)) = True := eq_true (by omega)
                  have j7 : (0 ≤ (j : Int)) = True := eq_true (by omega)
                  have HJ8 : Aside0 (Int.tmod (j : Int) 3 = (t : Int)) := ⟨by rw [hjt]; exact (Int.ofNat_tmod _ _).symm⟩
                  have k1 : (c == 0) = false := beq_eq_false_iff_ne.mpr (by omega)
                  have k3 : ¬ c = 0 := by omega
                  have HK2 : Aside0 (wrap64 (c - 1) = c - 1) := ⟨by unfold wrap64; omega⟩
                  have HJ1 : Aside0 (wrap64 (97 + (j : Int) - 97) = (j : Int)) := ⟨by unfold wrap64; omega⟩
                  have HJ0 : Aside0 (wrap64 (97 + (j : Int)) = 97 + (j : Int)) := ⟨by unfold wrap64; omega⟩
                  have HJ9 : Aside0 (wrap64 (j : Int) = (j : Int)) := ⟨by unfold wrap64; omega⟩
                  have HFM : Aside0 (findE oPs m (t : Int) ((a : Int)) = 0 ∧ findL oPs m (t : Int) ((a : Int)) = ⟨100, (t : Int), tx⟩) := ⟨by have h := HFN.out; rw [show (a : Int) = (a : Int) from rfl] at h; exact h⟩
                  have k2 := HK2.out
                  have j1 := HJ1.out
                  have j0 := HJ0.out
                  have j9 := HJ9.out
                  have j8 := HJ8.out
                  clear hn3 ht3 hcR hc hja htx hjt HFN
                  go_wp2_with (first | (go_at_call 11; go_loud ((refine (take_lit (w.heap.size + 2) w.heap.size oPs m _ (t : Int) (a : Int) a ⟨100, (t : Int), tx⟩ _ rfl HB.out HL.out.size HFM.out.1 HFM.out.2 rfl HA.out (by have := HV.out.most (t : Int); omega)).mono ?_); rintro e w7 ⟨he, hB, hb, hf, -⟩; have he' : e = .returned (.tuple #[.agg #[.int .i64 100, .int .i64 (t : Int), .string tx], .int .i64 0]) := he; subst he'; clear he; have HB7a := Aside0.mk hB; have ho7 := hf.ints HO.out; have HL7 := Aside0.mk (HL.out.trans hb); have HB7 := Aside0.mk (hB.below (below_alloc (Below.refl w7.heap.size w7) (.cells #[.int .i64 100, .int .i64 (t : Int), .string tx] 30))); have HL8 := Aside0.mk (below_alloc HL7.out (.cells #[.int .i64 100, .int .i64 (t : Int), .string tx] 30)); have ho8 := Kd.R_alloc ho7 (.cells #[.int .i64 100, .int .i64 (t : Int), .string tx] 30); have HO8 := Aside0.mk ho8; have hcc := ints_cell ho8 j HJN.out; rw [HC.out] at hcc; have x7 := hcc.1; have y7 := hcc.2; have HOF8 := Aside0.mk ((HOF.out.bfr HB.out hf).bfr hB (BFr.of_below (below_alloc (Below.refl w7.heap.size w7) (.cells #[.int .i64 100, .int .i64 (t : Int), .string tx] 30)))); have HGW := Aside0.mk (Kd.R_base ho8 gw rfl); obtain ⟨cw7, hcw7⟩ := Kd.R_typed ho8 gw rfl; have HCW7 := Aside0.mk hcw7; clear hB hb hf ho7 ho8 hcc hcw7)) | (go_at_call 10; go_loud ((refine (waits_calls (w.heap.size + 2) w.heap.size oPs m (t : Int) _ HB.out).mono ?_); rintro e w5 ⟨he, rfl⟩; rw [HLM2.out] at he; subst he)))
                  go_roundg kk
                  case measure => omega
                  case rel =>
                    obtain ⟨hi2, -, -⟩ := HTK.out
                    rw [HC.out] at hi2
                    have hB9 := HB7.out.far3 HCW7.out HOF8.out j (.int .i64 (c - 1))
                    refine ⟨k + 1, upd m (t : Int) ((m (t : Int)).take a ++ (m (t : Int)).drop (a + 1)), want.set j (c - 1), by rw [HWK.out], ⟨?_⟩, ⟨by have := HKK.out; omega⟩, ⟨hi2⟩, ⟨fun p hp => ?_⟩, ⟨hB9⟩, ⟨ints_put HO8.out j (c - 1)⟩, ⟨?_⟩, ⟨HL8.out.setCell (p := ⟨gw, j, none⟩) HGW.out _⟩⟩
                    · rw [upd_same, List.length_append, List.length_take, List.length_drop]
                      have h1 := HA.out
                      have h2 := HLM.out
                      omega
                    · rw [upd_other _ _ (by omega)]
                      exact HE.out p hp
                    · obtain ⟨cs, hg⟩ := HB7.out.block
                      exact HOF8.out.kept hg (Below.heap_setCell _ ⟨gw, j, none⟩ _ _ (by show w.heap.size + 2 ≠ gw; intro e; rw [e] at hg; rw [HCW7.out] at hg; injection hg with hg; injection hg with _ hg; cases hg))
      | succ k1 =>
        have hlt : i < n := by omega
        have c1b : decide ((i : Int) < (n : Int)) = true := decide_eq_true (by omega)
        have c1n : decide (i < n) = true := decide_eq_true hlt
        have q1 : (i < n) = True := eq_true hlt
        have q2 : ((i : Int) < (n : Int)) = True := eq_true (by omega)
        have q3 : (0 ≤ (i : Int)) = True := eq_true (by omega)
        have ht : Int.tmod (i : Int) 3 = ((i % 3 : Nat) : Int) := (Int.ofNat_tmod _ _).symm
        have hw1 : wrap64 (97 + (i : Int)) = 97 + (i : Int) := by unfold wrap64; omega
        have hw2 : IntKind.u8.wrap (97 + (i : Int)) = 97 + (i : Int) := by rw [IntKind.wrap_u8]; omega
        have hcv := conv_one wr (97 + (i : Int))
        have HBa := Aside0.mk (HB.out.below (below_alloc (Below.refl wr.heap.size wr) (.cells #[.int .u8 (97 + (i : Int))] 5)))
        have HLa := Aside0.mk (below_alloc HL.out (.cells #[.int .u8 (97 + (i : Int))] 5))
        have HOFa : Aside0 (Off (wr.alloc (.cells #[.int .u8 (97 + (i : Int))] 5)) (w.heap.size + 2) gw) := ⟨HOF.out.bfr HB.out (BFr.of_below (below_alloc (Below.refl wr.heap.size wr) _))⟩
        have HRm : Aside0 ((m ((i % 3 : Nat) : Int)).length < 1024) := ⟨by have := HV.out.most ((i % 3 : Nat) : Int); omega⟩
        have HW : Aside0 (wrap64 ((i : Int) + 1) = ((i + 1 : Nat) : Int)) := ⟨by unfold wrap64; omega⟩
        have HI2 : Aside0 (i + 1 + k1 = n) := ⟨by omega⟩
        obtain ⟨m1, hm1⟩ : ∃ m1, upd m ((i % 3 : Nat) : Int) (m ((i % 3 : Nat) : Int) ++ [⟨100, ((i % 3 : Nat) : Int), txt i⟩]) = m1 := ⟨_, rfl⟩
        have HM1 := Aside0.mk hm1
        have hmp : m1 ((i % 3 : Nat) : Int) = m ((i % 3 : Nat) : Int) ++ [xO i] := by rw [← hm1, upd_same]; rfl
        obtain ⟨ln, hln⟩ : ∃ ln, (m1 ((i % 3 : Nat) : Int)).length = ln := ⟨_, rfl⟩
        have HLN := Aside0.mk hln
        have hfl := find_last ((i % 3 : Nat) : Int) m1 (m ((i % 3 : Nat) : Int)) (xO i) hmp (o_h2 i)
        rw [hln] at hfl
        have HFL := Aside0.mk hfl
        have HMP := Aside0.mk hmp
        have hl1 : 1 ≤ ln ∧ ln < 1024 := by rw [← hln, hmp, List.length_append, List.length_singleton]; have := HRm.out; have h2 := HV.out.most ((i % 3 : Nat) : Int); omega
        have HL1N := Aside0.mk hl1
        have hwl : wrap64 ((ln : Int) - 1) = (ln : Int) - 1 := by unfold wrap64; omega
        have hwll := HW.out
        clear hI hn3 hm1 hmp hln hfl hl1
        go_wp2_with (first | (go_at_call 9; go_loud ((refine (twice_ok (w.heap.size + 2) w.heap.size oPs m1 ((i % 3 : Nat) : Int) ((ln : Int) - 1) _ HB4.out HL4.out.size HFL.out.1 (by rw [HLN.out]; exact HL1N.out.2)).mono ?_); rintro e w6 ⟨rfl, hB, hb, hf⟩; rw [HFL.out.2] at hB; have HL6 := Aside0.mk (HL4.out.trans hb); have ho6 := hf.ints HO4.out; have HO6 := Aside0.mk ho6; have hcc := ints_cell ho6 i hlt; have x6 : w6.cell? ⟨gw, i, none⟩ = some (.int .i64 1) := hcc.1.trans (congrArg (fun z => some (Value.int .i64 z)) (by rw [List.getD_eq_getElem?_getD, List.getElem?_set, if_pos rfl, if_pos (by rw [HV.out.len]; exact hlt)]; rfl)); have y6 := hcc.2; obtain ⟨cw6, hcw6⟩ := Kd.R_typed ho6 gw rfl; have HOF6 := Aside0.mk (HOF4.out.bfr HB4.out hf); have HB7 := Aside0.mk (hB.far3 hcw6 HOF6.out i (.int .i64 2)); have HO7 := Aside0.mk (ints_put ho6 i 2); have HOF7 : Aside0 (Off (w6.setCell ⟨gw, i, none⟩ (.int .i64 2)) (w.heap.size + 2) gw) := ⟨by obtain ⟨cs, hg⟩ := hB.block; exact HOF6.out.kept hg (Below.heap_setCell _ ⟨gw, i, none⟩ _ _ (by show w.heap.size + 2 ≠ gw; intro e; rw [e] at hg; rw [hcw6] at hg; injection hg with hg; injection hg with _ hg; cases hg))⟩; have HGW := Aside0.mk (Kd.R_base ho6 gw rfl); clear hB hb hf ho6 hcc hcw6)) | (go_at_call 10; go_loud ((refine (waits_calls (w.heap.size + 2) w.heap.size oPs m1 ((i % 3 : Nat) : Int) _ HB4.out).mono ?_); rintro e w5 ⟨he, rfl⟩; rw [HLN.out] at he; subst he)) | (go_at_call 8; go_loud ((refine (put_lit (w.heap.size + 2) w.heap.size oPs m m1 100 ((i % 3 : Nat) : Int) (txt i) _ HBa.out HLa.out.size (o_h1 i) (txt_ok i) HRm.out HM1.out).mono ?_); rintro e w3 ⟨rfl, hB, hb, hf⟩; have HB3 := Aside0.mk hB; have HL3 := Aside0.mk (HLa.out.trans hb); have ho3 := hf.ints (Kd.R_alloc HO.out (.cells #[.int .u8 (97 + (i : Int))] 5)); have HO3 := Aside0.mk ho3; have hcc := ints_cell ho3 i hlt; have x3 : w3.cell? ⟨gw, i, none⟩ = some (.int .i64 0) := hcc.1.trans (congrArg (fun z => some (Value.int .i64 z)) (HV.out.zero i (Nat.le_refl _))); have y3 := hcc.2; obtain ⟨cw, hcw⟩ := Kd.R_typed ho3 gw rfl; have HOF3 := Aside0.mk ((HOFa.out).bfr HBa.out hf); have HB4 := Aside0.mk (hB.far3 hcw HOF3.out i (.int .i64 1)); have HO4 := Aside0.mk (ints_put ho3 i 1); have HOF4 : Aside0 (Off (w3.setCell ⟨gw, i, none⟩ (.int .i64 1)) (w.heap.size + 2) gw) := ⟨by obtain ⟨cs, hg⟩ := hB.block; exact HOF3.out.kept hg (Below.heap_setCell _ ⟨gw, i, none⟩ _ _ (by show w.heap.size + 2 ≠ gw; intro e; rw [e] at hg; rw [hcw] at hg; injection hg with hg; injection hg with _ hg; cases hg))⟩; have HGW3 := Aside0.mk (Kd.R_base ho3 gw rfl); have HL4 : Aside0 (Below w.heap.size w (w3.setCell ⟨gw, i, none⟩ (.int .i64 1))) := ⟨HL3.out.setCell (p := ⟨gw, i, none⟩) HGW3.out _⟩; clear hB hb hf ho3 hcc hcw)))
        · go_roundg k1
          case measure => omega
          case rel =>
            refine ⟨i + 1, _, _, by rw [hwll], HI2, ⟨HV.out.put hlt (by have := HN.out; omega) 2 (by omega) _ ?_⟩, HB7, ?_, HOF7, ⟨HL6.out.setCell (p := ⟨gw, i, none⟩) HGW.out _⟩⟩
            · rw [HMP.out, ← HM1.out, upd_upd]
              simp [List.replicate]
            · have h7 := HO7.out
              rw [List.set_set] at h7
              exact ⟨h7⟩
        · go_roundg k1
          case measure => omega
          case rel =>
            exact ⟨i + 1, m1, want.set i 1, by rw [hwll], HI2, ⟨HV.out.put hlt (by have := HN.out; omega) 1 (by omega) m1 HM1.out.symm⟩, HB4, HO4, HOF4, HL4⟩
theorem law_once {P Q R : Prop} (x0 x1 : Int) (a2 : Option Addr) (c2 : Nat) (l2 : List Int) (_ : P) (_ : Q) {W : World} (hC : Kd.C (Kd.int .i64) W a2 l2.length l2) (hl : l2.length ≤ c2) (_ : R) :
    Calls Try.prog 3 #[.int .i64 x0, .int .i64 x1, .slice a2 l2.length c2] W fun e w' => e = .returned (.bool true) ∧ Below W.heap.size W w' := by
  obtain ⟨r, hr, e⟩ := VLib.and_small x0 255 (by decide)
  have e' : Go.bits .and .i64 x0 255 = (r : Int) := e
  exact once_calls x0 x1 a2 c2 l2 (r % 30) W hC hl (by rw [e', Int.ofNat_tmod]; rfl) (Nat.mod_lt _ (by decide))
end Go.Proofs.Ytgcehbigcokpaaa.XA
