-- Written by a program of this session (wip/xprint.py) out of the translation.
import Derived.Test.YtffmndbgbooedaaXAx0
import Derived.Test.YtffmndbgbooedaaXAx2
import Derived.Test.YtffmndbgbooedaaXAx3
namespace Go.Proofs.Ytffmndbgbooedaa.XA
open Go.RowKit Go.Proofs.YtffmndbgbooedaaW.PrintWords Go.Proofs.YtffmndbgbooedaaW.PrintLast Go.Proofs.YtffmndbgbooedaaW.PrintMore Go.Proofs.Ytffmndbgbooedaa.XW
attribute [local go_sem high] max2_str unary_xor_u32 leq_str geq_str gtr_str
attribute [local go_sem] max2_int min2_int max_two min_two max_three min_three max_four min_four   -- for this text's walks alone
set_option linter.unusedVariables false
set_option linter.unusedSimpArgs false

attribute [local go_sem high] eqA50
-- NOT PRINTED: function 30 (api_Entry_30)

-- NOT PRINTED: function 27 (api_Entry_27)

-- NOT PRINTED: function 28 (api_Entry_28)

/-! ### span_Clip: function 21 -/
/-! #### words: an empty row; a row whose end is cleared -/
theorem clip_empty {α : Type} (d : Kd α) (e : Nat) (W : World) (base : Nat) (ok : Nat → Prop) (hb : base ≤ W.heap.size) (hok : ok W.heap.size) : d.R e (W.alloc (.cells #[] e)) base ok (.slice (some ⟨W.heap.size, 0, none⟩) 0 0) [] :=
  ⟨fun k hk => by simp [Value.ownBlock] at hk; subst hk; exact hok, [], ⟨by simp, .inr ⟨W.heap.size, 0, #[], rfl, hb, heap_alloc_new W _, Nat.le_refl _, by unfold maxLen; omega, by simp, by simp⟩⟩, Reps.none _ _⟩
theorem clip_zero_len (z : Array Value) (m : Nat) : (Builtin.zeroCells z m).toList.length = m * z.size := by simp [Builtin.zeroCells]
theorem clip_zero_one (z : Array Value) (m : Nat) (h1 : ∀ q ∈ z.toList, q.oneCell' = true) : ∀ q ∈ (Builtin.zeroCells z m).toList, q.oneCell' = true := by
  intro q hq
  simp only [Builtin.zeroCells, Array.toList_map, List.mem_map] at hq
  obtain ⟨i, hi, rfl⟩ := hq
  have hz : 0 < z.size := by
    rcases Nat.eq_zero_or_pos z.size with h | h
    · rw [h] at hi; simp at hi
    · exact h
  have hl : i % z.size < z.size := Nat.mod_lt _ hz
  rw [getElem!_pos z _ hl]
  exact h1 _ (by simp)
theorem clip_clear_run {P : Program} {α : Type} (d : Kd α) {W : World} {base e : Nat} {ok : Nat → Prop} {g n cap m c' i : Nat} {xs : List α} (t ty : TypeId) (z : Value) (ht : P.underlying t = some (.slice e)) (hv : ∀ w, (zeroValue e).run P w = .ok z w)
    (hzs : z.cells.size = d.sz) (h1 : ∀ q ∈ z.cells.toList, q.oneCell' = true) (him : i + m = n) (hm : 0 < m) (HO : d.R e W base ok (.slice (some ⟨g, 0, none⟩) n cap) xs) :
    ∃ w1, (Builtin.clear_ #[t] ty #[.slice (some ⟨g, i * d.sz, none⟩) m c']).run P W = .ok (.tuple #[]) w1 ∧ d.R e w1 base ok (.slice (some ⟨g, 0, none⟩) i cap) (xs.take i) ∧ W.grownBy w1 (some g) := by
  have hnx := (Kd.R_reads' HO).1
  obtain ⟨h0, inner, ho, hr⟩ := Kd.R_take HO (m := i) (by omega)
  have hl := clip_zero_len z.cells m
  have hone := clip_zero_one z.cells m h1
  rw [hzs] at hl
  have hil : (xs.take i).length = i := by rw [List.length_take]; omega
  have hown := Kd.R_own HO
  obtain ⟨inner2, ho2⟩ := hown
  rcases ho2.2 with ⟨hv', _⟩ | ⟨g', cap', cur, hv', hb, hh, hnc, hcm, hcs, _⟩
  · cases hv'
  injection hv' with ha _ hc
  injection ha with ha
  injection ha with hg'
  subst hg'; subst hc
  have hfit : i * d.sz + m * d.sz ≤ cur.size := by rw [hcs, ← Nat.add_mul]; exact Nat.mul_le_mul_right _ (by omega)
  have hst := run_storeCells_cells (P := P) g (i * d.sz) (Builtin.zeroCells z.cells m).toList 0 W (fun j hj => by rw [cell_of_row W g _ cur e (0, 0) hh]; rw [hl] at hj; simp; omega) (fun j _ => blk_frozen hh _) hone
  simp only [Nat.add_zero] at hst
  obtain ⟨m', rfl⟩ : ∃ m', m = m' + 1 := ⟨m - 1, by omega⟩
  obtain ⟨s1, s2, s3, s4⟩ := setCells_same g (Builtin.zeroCells z.cells (m' + 1)).toList (i * d.sz) W
  obtain ⟨cur', k1, k2, k3⟩ := setCells_row (Builtin.zeroCells z.cells (m' + 1)).toList (i * d.sz) W cur hh (by rw [hl]; exact hfit)
  refine ⟨W.setCells g (i * d.sz) (Builtin.zeroCells z.cells (m' + 1)).toList, by simp [Builtin.clear_, run_underlying ht, hv, hst], ⟨h0, inner, ?_, ?_⟩, ⟨s1, s2, s3, by rw [s4]; exact Nat.le_refl _, fun k _ hk => setCells_far _ _ k (fun he => hk (by rw [he]))⟩⟩
  · refine ⟨ho.1, .inr ⟨g, cap, cur', by rw [hil], hb, k1, by omega, hcm, k2.trans hcs, ?_⟩⟩
    rcases ho.2 with ⟨hv2, _⟩ | ⟨g2, cap2, cur2, hv2, _, hh2, _, _, _, ht2⟩
    · cases hv2
    · injection hv2 with ha2
      injection ha2 with ha2
      injection ha2 with hg2
      subst hg2
      rw [hh] at hh2
      injection hh2 with hh2
      injection hh2 with hcur
      subst hcur
      have hle : i * d.sz ≤ cur.toList.length := by rw [Array.length_toList]; omega
      rw [hil] at ht2 ⊢
      rw [k3, List.append_assoc, List.take_append_of_le_length (by rw [List.length_take]; omega), List.take_take, Nat.min_self]
      exact ht2
  · refine hr.imp_ (fun _ _ hp => d.M_move (fun k hk => setCells_far _ _ k (fun he => hk.2 ?_)) hp)
    rw [he]; rfl
theorem wpList_clear_row {P : Program} {ops : Array Oper} {rest : List Oper} {o : Oper} {a : Act} {Q : Exit → Act → World → Prop} {α : Type} (d : Kd α) {w0 W : World} (base : Nat) (hgd : o.guard = none) (hN : o.dst = none) (s : Operand) (t e : TypeId) (z : Value)
    (ho : o.op = .call { callee := .builtin .clear, args := #[s], argTypes := #[t] }) (ht : P.underlying t = some (.slice e)) (hv : ∀ w, (zeroValue e).run P w = .ok z w) (hzs : z.cells.size = d.sz) (h1 : ∀ q ∈ z.cells.toList, q.oneCell' = true)
    {g n cap m c' i o' : Nat} (xs : List α) (ok : Nat → Prop) (hs : a.eval s = .slice (some ⟨g, o', none⟩) m c') (hoff : o' = i * d.sz) (him : i + m = n) (hm : 0 < m) (HO : d.R e W base ok (.slice (some ⟨g, 0, none⟩) n cap) xs) (HB : Below base w0 W) (hbase : base ≤ W.heap.size)
    (h : ∀ w1, d.R e w1 base ok (.slice (some ⟨g, 0, none⟩) i cap) (xs.take i) → Below base w0 w1 → W.grownBy w1 (some g) → wpList P ops Q rest a w1) : wpList P ops Q (o :: rest) a W := by
  subst hoff
  have hbg : base ≤ g := Kd.R_base HO g (by simp [Value.ownBlock])
  obtain ⟨w1, hrun, hR, hg⟩ := clip_clear_run (P := P) (c' := c') d t o.type z ht hv hzs h1 him hm HO
  refine wpList_plain hgd fun K hK' => ?_
  unfold Oper.wp
  simp [execOp, ho, resolve, invoke, builtin, hs, hrun, Result.andThen]
  show K (a.put o.dst (.tuple #[])) w1
  rw [hN]
  exact hK' a w1 (h w1 hR (HB.grown hg hbase (fun k hk => by injection hk with hk; omega)) hg)
/-! #### what is kept -/
def span_Clip.l0 (lo hi : ByteArray) : List S50 → Option (List S50)
  | [] => some []
  | e :: t => (span_Has.f lo hi e.f0).bind fun b => (span_Clip.l0 lo hi t).bind fun r => if b = true then some (e :: r) else some r
def span_Clip.ix (lo hi : ByteArray) : List S50 → Int → Option Int
  | [], _ => some (-1)
  | e :: t, i => (span_Has.f lo hi e.f0).bind fun b => if b = true then span_Clip.ix lo hi t (i + 1) else some i
def span_Clip.f (l : List S50) (lo hi : ByteArray) : Option (List S50) := if l.length < 2932031007402 then span_Clip.l0 lo hi l else none
theorem span_Clip.ix_l0 (lo hi : ByteArray) : ∀ (l r : List S50) (i : Int), span_Clip.l0 lo hi l = some r → (span_Clip.ix lo hi l i = some (-1) ∧ r = l) ∨ ∃ (m : Nat) (rest : List S50), span_Clip.ix lo hi l i = some (i + m) ∧ m < l.length ∧ span_Clip.l0 lo hi (l.drop (m + 1)) = some rest ∧ r = l.take m ++ rest
  | [], r, i, h => .inl ⟨rfl, (Option.some.inj h).symm⟩
  | e :: t, r, i, h => by
    rw [span_Clip.l0] at h
    obtain ⟨b, hb, h⟩ := Option.bind_eq_some_iff.mp h
    obtain ⟨q, hq, h⟩ := Option.bind_eq_some_iff.mp h
    cases b with
    | false =>
      rw [if_neg (by decide)] at h
      refine .inr ⟨0, q, ?_, by simp, hq, by simpa using (Option.some.inj h).symm⟩
      rw [span_Clip.ix, hb, Option.bind_some, if_neg (by decide)]; simp
    | true =>
      rw [if_pos rfl] at h
      rcases span_Clip.ix_l0 lo hi t q (i + 1) hq with ⟨h1, h2⟩ | ⟨m, rest, h1, h2, h3, h4⟩
      · exact .inl ⟨by rw [span_Clip.ix, hb, Option.bind_some, if_pos rfl]; exact h1, by rw [← Option.some.inj h, h2]⟩
      · refine .inr ⟨m + 1, rest, ?_, by simpa using h2, h3, by rw [← Option.some.inj h, h4]; simp⟩
        rw [span_Clip.ix, hb, Option.bind_some, if_pos rfl, h1]; congr 1; omega
set_option maxHeartbeats 1600000 in
set_option maxRecDepth 100000 in
theorem span_Clip.one (g : Nat) (lo hi K V : ByteArray) (G : Bool) (Q : Int) (b : Bool) (W : World) (hb : W.heap[g]? = some (.cells #[.string lo, .string hi] 23 (0, 0))) (h : span_Has.f lo hi K = some b) :
    Calls Try.prog 29 #[.agg #[.string K, .string V, .bool G, .int .i64 Q], .pointer (some ⟨g, 0, none⟩)] W fun e w' => e = .returned (.bool (!b)) ∧ Below W.heap.size W w' := by
  have HL := Aside0.mk h
  have hb' := blk_alloc hb (.cells #[.string K, .string V, .bool G, .int .i64 Q] 50)
  have hc0 : (W.alloc (.cells #[.string K, .string V, .bool G, .int .i64 Q] 50)).cell? ⟨g, 0, none⟩ = some (.string lo) := (blk_cell hb' 0).trans rfl
  have hc1 : (W.alloc (.cells #[.string K, .string V, .bool G, .int .i64 Q] 50)).cell? ⟨g, 1, none⟩ = some (.string hi) := (blk_cell hb' 1).trans rfl
  have HB := Aside0.mk (below_alloc (Below.refl W.heap.size W) (.cells #[.string K, .string V, .bool G, .int .i64 Q] 50))
  clear hb h hb'
  go_enter Try.func29, Try.ntmps29
  go_wp2_with (go_at_call 13; (refine (span_Has.calls lo hi K b _ HL.out).mono ?_); rintro e w1 ⟨rfl, hb1⟩; have HB1 := Aside0.mk (below_step HB.out hb1); clear hb1)
  go_ret
  exact ⟨rfl, HB1.out⟩
set_option maxHeartbeats 1600000 in
set_option maxRecDepth 100000 in
theorem span_Clip.idx (gx : Nat) (lo hi : ByteArray) (A0 : Option Addr) (c0 : Nat) (l0 : List S50) (r : Int) (W : World) (hx : W.heap[gx]? = some (.cells #[.string lo, .string hi] 23 (0, 0))) (hr : Kd.C k50 W A0 l0.length l0) (hn : l0.length < 2932031007402) (h : span_Clip.ix lo hi l0 0 = some r) :
    Calls Try.prog 30 #[.slice A0 l0.length c0, .func (Fn.func 29) #[] #[.pointer (some ⟨gx, 0, none⟩)]] W fun e w' => e = .returned (.int .i64 r) ∧ Below W.heap.size W w' := by
  have HX := Aside0.mk hx
  have HR := Aside0.mk hr
  have HN := Aside0.mk hn
  have H' := Aside0.mk h
  have HB := Aside0.mk (Below.refl W.heap.size W)
  clear hx hr hn h
  go_enter Try.func30, Try.ntmps30
  go_wp2
  go_loopg [8] l0.length (fun kq v8 w' => ∃ (i : Nat), v8 = .int .i64 (i : Int) ∧ Aside0 (i + kq = l0.length) ∧ Aside0 (span_Clip.ix lo hi (l0.drop i) (i : Int) = some r) ∧ Aside0 (Below W.heap.size W w'))
  case atStart => exact ⟨0, rfl, ⟨Nat.zero_add _⟩, H', HB⟩
  case round =>
    clear H' HB
    obtain ⟨i, rfl, HI, HA, HB⟩ := hrel
    have hIe := HI.out
    have hn := HN.out
    have H := HA.out
    clear HA
    cases gk with
    | zero =>
      rw [List.drop_eq_nil_of_le (by omega)] at H
      have c1b : decide ((i : Int) < (l0.length : Int)) = false := decide_eq_false (by omega)
      have c1n : decide (i < l0.length) = false := decide_eq_false (by omega)
      obtain rfl := Option.some.inj H
      clear hIe hn H
      go_wp2
      go_ret
      exact ⟨rfl, HB.out⟩
    | succ k1 =>
      have hlt : i < l0.length := by omega
      have c1b : decide ((i : Int) < (l0.length : Int)) = true := decide_eq_true (by omega)
      have c1n : decide (i < l0.length) = true := decide_eq_true (by omega)
      have q1 : (i < l0.length) = True := eq_true (by omega)
      rw [(List.getElem_cons_drop hlt).symm, span_Clip.ix] at H
      obtain ⟨b, hb, H⟩ := Option.bind_eq_some_iff.mp H
      have hrd : rd_T50 l0 (i : Int) = l0[i] := by unfold rd_T50; rw [Int.toNat_natCast, List.getD_eq_getElem?_getD, List.getElem?_eq_getElem hlt]; rfl
      rw [← hrd] at hb
      obtain ⟨ad, ea, hx0, hx1, hx2, hx3⟩ := at_T50 (Kd.C_below HR.out HB.out) (i : Int) (by omega) (by omega)
      subst ea
      obtain ⟨x, hx⟩ : ∃ x, rd_T50 l0 (i : Int) = x := ⟨_, rfl⟩
      rw [hx] at hb hx0 hx1 hx2 hx3
      obtain ⟨K, V, G, Q⟩ := x
      rw [Int.toNat_natCast] at hx0 hx1 hx2 hx3
      dsimp only at hb hx0 hx1 hx2 hx3
      have HL := Aside0.mk hb
      have p0 : (0 ≤ (i : Int)) = True := eq_true (by omega)
      have p1 : ((i : Int) < (l0.length : Int)) = True := eq_true (by omega)
      have p0b : decide (0 ≤ (i : Int)) = true := decide_eq_true (by omega)
      have hw : wrap64 ((i : Int) + 1) = ((i + 1 : Nat) : Int) := by unfold wrap64; omega
      have HW := Aside0.mk hw
      have HI2 : Aside0 (i + 1 + k1 = l0.length) := ⟨by omega⟩
      clear hIe hn hb hx hrd hw
      cases b with
      | true =>
        rw [if_pos rfl] at H
        have H' := Aside0.mk H
        clear H
        go_wp2_with (go_at_call 29; (refine (span_Clip.one gx lo hi K V G Q true _ (blk_below HX.out HB.out) HL.out).mono ?_); rintro e w2 ⟨rfl, hb⟩; have HB2 := Aside0.mk (below_step HB.out hb); clear hb)
        go_roundg k1
        case measure => omega
        case rel => exact ⟨i + 1, by first | (rw [HW.out]; done) | (simp [*]; done) | exact congrArg (Value.int .i64) HW.out, HI2, ⟨by have := H'.out; rw [Int.natCast_add]; exact this⟩, HB2⟩
      | false =>
        rw [if_neg (by decide)] at H
        obtain rfl := Option.some.inj H
        clear H
        go_wp2_with (go_at_call 29; (refine (span_Clip.one gx lo hi K V G Q false _ (blk_below HX.out HB.out) HL.out).mono ?_); rintro e w2 ⟨rfl, hb⟩; have HB2 := Aside0.mk (below_step HB.out hb); clear hb)
        go_ret
        exact ⟨rfl, HB2.out⟩
set_option maxHeartbeats 1600000 in
set_option maxRecDepth 100000 in
theorem span_Clip.clone (A0 : Option Addr) (c0 : Nat) (l0 : List S50) (W : World) (hr : Kd.C k50 W A0 l0.length l0) (hn : l0.length < 2932031007402) :
    Calls Try.prog 28 #[.slice A0 l0.length c0] W fun e w' => ∃ v, e = .returned v ∧ Kd.R k50 50 w' W.heap.size (fun _ => True) v l0 ∧ Below W.heap.size W w' := by
  have HR := Aside0.mk hr
  have HN := Aside0.mk hn
  have hnil := fun (w : World) (a : Option Addr) (n c : Nat) => Go.Lib.run_eql_slice_nil (P := Try.prog) w 42 50 a n c 0 0 Try.underlying42
  clear hn
  cases A0 with
  | none =>
    have hl : l0 = [] := by
      rcases Nat.eq_zero_or_pos l0.length with h | h
      · exact List.length_eq_zero_iff.1 h
      · obtain ⟨ad, e, _⟩ := hr.2.2 h; cases e
    subst hl
    clear hr
    go_enter Try.func28, Try.ntmps28
    go_wp2
    go_ret
    exact ⟨_, rfl, Kd.R_nil _ _ _ _ _, Below.refl _ _⟩
  | some ad =>
    clear hr
    have HE := Aside0.mk (clip_empty k50 50 W W.heap.size (fun _ => True) (Nat.le_refl _) trivial)
    have HB := Aside0.mk (below_alloc (Below.refl W.heap.size W) (.cells #[] 50))
    go_enter Try.func28, Try.ntmps28
    go_wp2_with ((with_reducible refine gate_builtin (b := .append) (xs := #[.tmp 5, .tmp 6]) rfl ?_); at_builtin; refine Kd.R_append_rows k50 (w0 := W) W.heap.size rfl (.tmp 5) (.tmp 6) 42 50 (.agg #[(.string ⟨#[]⟩), (.string ⟨#[]⟩), (.bool false), (.int .i64 0)]) 48 rfl Try.underlying42 info50 rfl (by decide) (by omega) (.slice (some ⟨W.heap.size, 0, none⟩) 0 0) ([] : List S50) l0 _ _ _ (fun _ => True) (fun _ => False) rfl rfl HE.out (Kd.C_alloc HR.out _) (fun _ _ h => h) (fun _ h => h.elim) (fun _ _ => trivial) HB.out (below_size HB.out) (by have := HN.out; simp only [List.length_nil]; omega) ?_; intro v9 w9 ho hb hg hat; have HO9 := Aside0.mk ho; have HB9 := Aside0.mk hb; clear ho hb hg hat)
    go_ret
    exact ⟨_, rfl, HO9.out, HB9.out⟩
theorem clip_add0 (g n : Nat) : (⟨g, 0, none⟩ : Addr).add n = ⟨g, n, none⟩ := by
  unfold Addr.add
  split
  · next h => rw [h]
  · simp
set_option maxHeartbeats 3200000 in
set_option maxRecDepth 100000 in
theorem span_Clip.del (gx : Nat) (lo hi : ByteArray) (v : Value) (l0 r : List S50) (base : Nat) (W : World) (hx : W.heap[gx]? = some (.cells #[.string lo, .string hi] 23 (0, 0))) (hgx : gx < base) (hbase : base ≤ W.heap.size) (hr : Kd.R k50 50 W base (fun _ => True) v l0) (hn : l0.length < 2932031007402) (h : span_Clip.l0 lo hi l0 = some r) :
    Calls Try.prog 27 #[v, .func (Fn.func 29) #[] #[.pointer (some ⟨gx, 0, none⟩)]] W fun e w' => ∃ v', e = .returned v' ∧ Kd.R k50 50 w' base (fun _ => True) v' r ∧ Below base W w' := by
  have HX := Aside0.mk hx
  have HGX := Aside0.mk hgx
  have HBA := Aside0.mk hbase
  have HR := Aside0.mk hr
  have HN := Aside0.mk hn
  have toB : ∀ {w1 w2 : World}, base ≤ w1.heap.size → Below w1.heap.size w1 w2 → Below base w1 w2 := fun hb h => ⟨h.os, h.tape, h.output, h.size, fun k hk => h.block k (Nat.lt_of_lt_of_le hk hb)⟩
  have HTB := Aside0.mk @toB
  clear toB
  obtain ⟨A, c, rfl, hlc, hC⟩ := Kd.R_reads hr
  have HC := Aside0.mk hC
  rcases span_Clip.ix_l0 lo hi l0 r 0 h with ⟨hi1, rfl⟩ | ⟨m, rest, hi1, hm, hl0, rfl⟩
  · have HI := Aside0.mk hi1
    clear hx hgx hbase hr hn h hi1 hC hlc
    go_enter Try.func27, Try.ntmps27
    go_wp2_with (go_at_call 30; (refine (span_Clip.idx gx lo hi _ _ _ _ _ HX.out HC.out HN.out HI.out).mono ?_); rintro e w1 ⟨rfl, hb1⟩; have HB1 := Aside0.mk (HTB.out HBA.out hb1); have HR1 := Aside0.mk (Kd.R_below HR.out hb1); clear hb1)
    go_ret
    exact ⟨_, rfl, HR1.out, HB1.out⟩
  · rw [Int.zero_add] at hi1
    have HI := Aside0.mk hi1
    have HM := Aside0.mk hm
    have HL0 := Aside0.mk hl0
    obtain ⟨g, cap, hv, hbg, hgl, -⟩ := Kd.R_form hr (by omega)
    injection hv with ha hl hc
    subst hc
    obtain ⟨ad, had⟩ : ∃ ad : Addr, ad = ⟨g, 0, none⟩ := ⟨_, rfl⟩
    rw [← had] at ha
    subst ha
    have HAD := Aside0.mk had
    have HLC := Aside0.mk hlc
    have HBG := Aside0.mk hbg
    have hm1 : ((m : Int) == -1) = false := beq_eq_false_iff_ne.mpr (by omega)
    have hm2 : ((m : Int) = -1) = False := eq_false (by omega)
    have hmw : wrap64 ((m : Int) + 1) = ((m + 1 : Nat) : Int) := by unfold wrap64; omega
    have HMW := Aside0.mk hmw
    clear hx hgx hbase hr hn h hi1 hC hlc hm hl0 had hbg hgl hl hmw
    go_enter Try.func27, Try.ntmps27
    go_wp2_with (go_at_call 30; (refine (span_Clip.idx gx lo hi _ _ _ _ _ HX.out HC.out HN.out HI.out).mono ?_); rintro e w1 ⟨rfl, hb1⟩; have HB1 := Aside0.mk (HTB.out HBA.out hb1); have HR1 := Aside0.mk (Kd.R_below HR.out hb1); clear hb1)
    go_loopg [5, 6] (l0.length - (m + 1)) (fun kq v5 v6 w' => ∃ (j : Nat) (pre cur rest' : List S50), v5 = .int .i64 (pre.length : Int) ∧ v6 = .int .i64 (j : Int) ∧ Aside0 (j + kq = l0.length) ∧ Aside0 (pre.length < j) ∧ Aside0 (cur.length = l0.length) ∧ Aside0 (cur.take pre.length = pre) ∧ Aside0 (cur.drop j = l0.drop j) ∧ Aside0 (span_Clip.l0 lo hi (l0.drop j) = some rest') ∧ Aside0 (l0.take m ++ rest = pre ++ rest') ∧ Aside0 (Kd.R k50 50 w' base (fun _ => True) (.slice (some ad) l0.length c) cur) ∧ Aside0 (Below base W w'))
    case atStart =>
      have hm := HM.out
      have hle : (l0.take m).length = m := by rw [List.length_take]; omega
      exact ⟨m + 1, l0.take m, l0, rest, by rw [hle], by rw [HMW.out], ⟨by omega⟩, ⟨by omega⟩, ⟨rfl⟩, ⟨by rw [hle]⟩, ⟨rfl⟩, HL0, ⟨rfl⟩, HR1, HB1⟩
    case round =>
      clear HB1 HR1 HC HR HL0 HI hm1 hm2
      obtain ⟨j, pre, cur, rest', rfl, rfl, HJ, HPJ, HCL, HTK, HDR, HL, HE, HO, HB⟩ := hrel
      have hj := HJ.out
      have hpj := HPJ.out
      have hcl := HCL.out
      have hn := HN.out
      have hlc := HLC.out
      have hw1 : wrap64 ((pre.length : Int) + 1) = ((pre.length + 1 : Nat) : Int) := by unfold wrap64; omega
      have hw2 : wrap64 ((j : Int) + 1) = ((j + 1 : Nat) : Int) := by unfold wrap64; omega
      have HW1 := Aside0.mk hw1
      have HW2 := Aside0.mk hw2
      have HN2 : Aside0 (base ≤ wr.heap.size) := ⟨Nat.le_trans HBA.out HB.out.size⟩
      have HXR : Aside0 (wr.heap[gx]? = some (.cells #[.string lo, .string hi] 23 (0, 0))) := ⟨(HB.out.block gx HGX.out).trans HX.out⟩
      clear hw1 hw2
      cases gk with
      | zero =>
        have hd : l0.drop j = [] := List.drop_eq_nil_of_le (by omega)
        have hL := HL.out
        rw [hd] at hL
        have hre : rest' = [] := (Option.some.inj hL).symm
        subst hre
        have hE := HE.out
        rw [List.append_nil] at hE
        have HE2 := Aside0.mk hE
        have c1b : decide ((j : Int) < (l0.length : Int)) = false := decide_eq_false (by omega)
        have c1n : decide (j < l0.length) = false := decide_eq_false (by omega)
        have q1 : (pre.length ≤ l0.length) = True := eq_true (by omega)
        have q2 : (pre.length ≤ c) = True := eq_true (by omega)
        have q3 : ((pre.length : Int) ≤ (l0.length : Int)) = True := eq_true (by omega)
        have q4 : (c = pre.length) = False := eq_false (by omega)
        have q5 : (pre.length = c) = False := eq_false (by omega)
        have q6 : 0 ≤ (pre.length : Int) := by omega
        have HP : Aside0 (pre.length + (l0.length - pre.length) = l0.length ∧ 0 < l0.length - pre.length) := ⟨by omega⟩
        clear hj hpj hcl hn hlc hd hL hE
        go_wp2_with ((with_reducible refine gate_builtin (b := .clear) (xs := #[.tmp 38]) rfl ?_); go_loud (refine wpList_clear_row k50 (w0 := W) base rfl rfl (.tmp 38) 42 50 (.agg #[(.string ⟨#[]⟩), (.string ⟨#[]⟩), (.bool false), (.int .i64 0)]) rfl Try.underlying42 (fun _ => by kernel_rfl) rfl (by decide) (g := g) (n := l0.length) (cap := c) (m := l0.length - pre.length) (c' := c - pre.length) (i := pre.length) (o' := pre.length * 4) cur (fun _ => True) (by show Value.slice (some (ad.add (pre.length * 4))) _ _ = _; rw [HAD.out, clip_add0]) rfl HP.out.1 HP.out.2 (by have h_ := HO.out; rw [HAD.out] at h_; exact h_) HB.out HN2.out ?_); intro w9 hR hB hg; have HR9 := Aside0.mk hR; have HB9 := Aside0.mk hB; clear hR hB hg)
        go_ret
        refine ⟨_, rfl, ?_, HB9.out⟩
        have h9 := HR9.out
        rw [HTK.out, ← HAD.out] at h9
        rw [HE2.out]
        exact h9
      | succ k1 =>
        have hlt : j < l0.length := by omega
        have c1b : decide ((j : Int) < (l0.length : Int)) = true := decide_eq_true (by omega)
        have c1n : decide (j < l0.length) = true := decide_eq_true (by omega)
        have q1 : (j < l0.length) = True := eq_true hlt
        have q2 : (pre.length < l0.length) = True := eq_true (by omega)
        have q3 : ((pre.length : Int) < (l0.length : Int)) = True := eq_true (by omega)
        have q4 : ((j : Int) < (l0.length : Int)) = True := eq_true (by omega)
        have q5 : (0 ≤ (j : Int)) = True := eq_true (by omega)
        have q6 : (0 ≤ (pre.length : Int)) = True := eq_true (by omega)
        have hcj : cur[j]'(by omega) = l0[j] := by
          have h1 : cur.drop j = cur[j]'(by omega) :: cur.drop (j + 1) := (List.getElem_cons_drop (by omega)).symm
          have h2 : l0.drop j = l0[j] :: l0.drop (j + 1) := (List.getElem_cons_drop hlt).symm
          have h3 := HDR.out
          rw [h1, h2] at h3
          exact (List.cons.inj h3).1
        have hdr : cur.drop (j + 1) = l0.drop (j + 1) := by
          have h1 : cur.drop j = cur[j]'(by omega) :: cur.drop (j + 1) := (List.getElem_cons_drop (by omega)).symm
          have h2 : l0.drop j = l0[j] :: l0.drop (j + 1) := (List.getElem_cons_drop hlt).symm
          have h3 := HDR.out
          rw [h1, h2] at h3
          exact (List.cons.inj h3).2
        have hL := HL.out
        rw [(List.getElem_cons_drop hlt).symm, span_Clip.l0] at hL
        obtain ⟨b, hb, hL⟩ := Option.bind_eq_some_iff.mp hL
        obtain ⟨q, hq, hL⟩ := Option.bind_eq_some_iff.mp hL
        have hrd : rd_T50 cur (j : Int) = l0[j] := by rw [← hcj]; unfold rd_T50; rw [Int.toNat_natCast, List.getD_eq_getElem?_getD, List.getElem?_eq_getElem (by omega)]; rfl
        obtain ⟨ad', ea, hx0, hx1, hx2, hx3⟩ := at_T50 (Kd.R_reads' HO.out).2.2 (j : Int) (by omega) (by omega)
        injection ea with ea
        subst ea
        rw [hrd] at hx0 hx1 hx2 hx3
        rw [Int.toNat_natCast] at hx0 hx1 hx2 hx3
        obtain ⟨x, hx⟩ : ∃ x, l0[j] = x := ⟨_, rfl⟩
        rw [hx] at hb hL hx0 hx1 hx2 hx3 hcj
        obtain ⟨K, V, G, Q⟩ := x
        dsimp only at hb hx0 hx1 hx2 hx3
        have HH := Aside0.mk hb
        have HQ := Aside0.mk hq
        have HDR2 := Aside0.mk hdr
        have HLL := Aside0.mk hL
        have HJ2 : Aside0 (j + 1 + k1 = l0.length) := ⟨by omega⟩
        have HPI : Aside0 (pre.length < cur.length ∧ pre.length < l0.length) := ⟨by omega⟩
        clear hj hpj hcl hn hlc hrd hcj hdr hL hb hq hx
        cases b with
        | false =>
          have hL := HLL.out
          rw [if_neg (by decide)] at hL
          obtain rfl := Option.some.inj hL
          clear hL
          go_wp2_with (go_at_call 29; go_loud ((refine (span_Clip.one gx lo hi K V G Q false _ (blk_alloc HXR.out _) HH.out).mono ?_); rintro e w2 ⟨rfl, hb⟩; have HB2 := Aside0.mk (below_step (below_alloc (Below.refl wr.heap.size wr) _) hb); clear hb))
          go_roundg k1
          case measure => omega
          case rel => exact ⟨j + 1, pre, cur, _, rfl, by rw [HW2.out], HJ2, ⟨by have := HPJ.out; omega⟩, HCL, HTK, HDR2, HQ, HE, ⟨Kd.R_below HO.out HB2.out⟩, ⟨HB.out.trans (HTB.out HN2.out HB2.out)⟩⟩
        | true =>
          have hL := HLL.out
          rw [if_pos rfl] at hL
          have hre : rest' = (⟨K, V, G, Q⟩ : S50) :: q := (Option.some.inj hL).symm
          subst hre
          clear hL
          have hpl := HPI.out.1
          obtain ⟨ad5, c5, ea5, hc5, -, hcc5⟩ := Kd.C_get (Kd.R_reads' HO.out).2.2 (⟨K, V, G, Q⟩ : S50) (pre.length : Int) (by omega) (by omega)
          injection ea5 with ea5
          subst ea5
          have HC5 := Aside0.mk hc5
          have HCC5 := Aside0.mk hcc5
          have HLT2 : Aside0 (∀ j u, c5[j]? = some u → (ad.add ((pre.length : Int).toNat * k50.sz + j)).block < wr.heap.size) := ⟨fun j u hu => World.block_lt_of_cell? wr _ (hcc5 j u hu)⟩
          clear hpl hc5 hcc5
          go_wp2_with (first | (go_at_call 29; (refine (span_Clip.one gx lo hi K V G Q true _ (blk_alloc HXR.out _) HH.out).mono ?_); rintro e w2 ⟨rfl, hb⟩; have h4 := blk_below (heap_alloc_new wr (.cells #[.string K, .string V, .bool G, .int .i64 Q] 50)) hb; have y0 := (blk_cell h4 0).trans rfl; have y1 := (blk_cell h4 1).trans rfl; have y2 := (blk_cell h4 2).trans rfl; have y3 := (blk_cell h4 3).trans rfl; have HB2 := Aside0.mk (below_step (below_alloc (Below.refl wr.heap.size wr) _) hb); have HO2 := Aside0.mk (Kd.R_below HO.out HB2.out); have HBW := Aside0.mk (HB.out.trans (HTB.out HN2.out HB2.out)); clear hb h4) | ((with_reducible refine gate_ (.store 50 (.tmp 33) (.tmp 32)) rfl ?_); go_loud (refine Kd.R_store k50 (w0 := W) base rfl rfl 50 (.tmp 33) (.tmp 32) rfl 50 (g := g) (n := l0.length) (cap := c) (o' := pre.length * 4) (pre.length : Int) 0 cur (⟨K, V, G, Q⟩ : S50) (.agg #[.string K, .string V, .bool G, .int .i64 Q]) [.string K, .string V, .bool G, .int .i64 Q] c5 (fun _ => True) (fun _ => False) (by show Value.pointer (some (ad.add (pre.length * 4))) = _; rw [HAD.out, clip_add0]) (by rw [Int.toNat_natCast]; rfl) rfl rfl (by kernel_rfl) (by intro q_ hq_; simp only [List.mem_cons, List.not_mem_nil, or_false] at hq_; rcases hq_ with rfl | rfl | rfl | rfl <;> rfl) (by have h_ := HO2.out; rw [HAD.out] at h_; exact h_) (by omega) (by have := HPI.out.2; omega) HC5.out (fun j u hu => by have h_ := (HB2.out.cell (HLT2.out j u hu)).trans (HCC5.out j u hu); rw [HAD.out, clip_add0] at h_; exact h_) (Nat.le_refl 4) ?aM (fun _ hk => hk.elim) HBW.out ?_); (case aM => (have h5 := HC5.out; rw [List.take_zero, List.nil_append, List.drop_eq_nil_of_le (by rw [h5]; exact Nat.le_refl _), List.append_nil]; exact k50_mkM _ _ _ (⟨K, V, G, Q⟩ : S50))); intro w9 hR hB hg; have HR9 := Aside0.mk hR; have HB9 := Aside0.mk hB; clear hR hB hg))

          go_roundg k1
          case measure => omega
          case rel =>
            refine ⟨j + 1, pre ++ [(⟨K, V, G, Q⟩ : S50)], cur.set pre.length ⟨K, V, G, Q⟩, q, ?_, by rw [HW2.out], HJ2, ⟨by have := HPJ.out; rw [List.length_append, List.length_singleton]; omega⟩, ⟨by rw [List.length_set]; exact HCL.out⟩, ⟨?_⟩, ⟨?_⟩, HQ, ⟨by rw [HE.out]; simp⟩, ⟨?_⟩, HB9⟩
            · rw [List.length_append, List.length_singleton, HW1.out]
            · have h1 := HPI.out.1
              have h2 := HTK.out
              rw [List.length_append, List.length_singleton, List.take_succ_eq_append_getElem (by rw [List.length_set]; exact h1), List.take_set, List.set_eq_of_length_le (by rw [List.length_take]; omega), h2, List.getElem_set_self]
            · rw [List.drop_set_of_lt (by have := HPJ.out; omega)]; exact HDR2.out
            · have h9 := HR9.out
              rw [Int.toNat_natCast, ← HAD.out] at h9
              exact h9
set_option maxHeartbeats 1600000 in
set_option maxRecDepth 100000 in
theorem span_Clip.calls (A0 : Option Addr) (c0 : Nat) (l0 : List (S50)) (a1_0 : ByteArray) (a1_1 : ByteArray) (r : List (S50)) (w : World) (hr0 : Kd.C k50 w A0 l0.length l0) (hc0 : l0.length ≤ c0) (h : span_Clip.f l0 a1_0 a1_1 = some r) :
    Calls Try.prog 21 #[.slice A0 l0.length c0, .agg #[.string a1_0, .string a1_1]] w fun e w' => ∃ v0_ : Value, e = .returned (v0_) ∧ Kd.R k50 50 w' w.heap.size (fun _ => True) v0_ r ∧ Below w.heap.size w w' := by
  unfold span_Clip.f at h
  by_cases hn : l0.length < 2932031007402
  · rw [if_pos hn] at h
    have HN := Aside0.mk hn
    have HL := Aside0.mk h
    have HB0 := Aside0.mk (below_alloc (Below.refl w.heap.size w) (.cells #[.string a1_0, .string a1_1] 23))
    have HK0 := Aside0.mk (heap_alloc_new w (.cells #[.string a1_0, .string a1_1] 23))
    have HRa := Aside0.mk (Kd.C_alloc hr0 (.cells #[.string a1_0, .string a1_1] 23))
    have HS : Aside0 ((w.alloc (.cells #[.string a1_0, .string a1_1] 23)).heap.size = w.heap.size + 1) := ⟨by simp⟩
    clear h hn hr0 hc0
    go_enter Try.func21, Try.ntmps21
    go_wp2_with (first | (go_at_call 28; go_loud ((refine (span_Clip.clone _ _ l0 _ HRa.out HN.out).mono ?_); rintro e w1 ⟨v1, rfl, ho1, hb1⟩; have HO1 := Aside0.mk ho1; have HB1 := Aside0.mk (below_step HB0.out hb1); have HK1 := Aside0.mk (blk_below HK0.out hb1); have HZ1 := Aside0.mk hb1.size; clear ho1 hb1)) | (go_at_call 27; go_loud ((refine (span_Clip.del w.heap.size a1_0 a1_1 _ l0 r _ _ HK1.out (by rw [HS.out]; exact Nat.lt_succ_self _) HZ1.out HO1.out HN.out HL.out).mono ?_); rintro e w2 ⟨v2, rfl, ho2, hb2⟩; have HO2 := Aside0.mk ho2; have HB2 := Aside0.mk hb2; clear ho2 hb2)))
    go_ret
    refine ⟨_, rfl, Kd.R_lower HO2.out (by rw [HS.out]; exact Nat.le_succ _), HB1.out.trans ⟨HB2.out.os, HB2.out.tape, HB2.out.output, HB2.out.size, fun k hk => HB2.out.block k (by rw [HS.out]; omega)⟩⟩
  · rw [if_neg hn] at h
    exact absurd h (by simp)

/-! ### sorrelref04_Same: function 22 -/
def sorrelref04_Same.l0 : Nat → List (S50) → List (S50) → Int → Option (Bool)
  | 0, _, _, _ => none
  | k + 1, x0, x1, x5 => if x5 < (x0.length : Int) then (if 0 ≤ x5 then (if x5 < (x1.length : Int) then (if (!((((rd_T50 x0 x5).f0).toList) == (((rd_T50 x1 x5).f0).toList)) || (!((((rd_T50 x0 x5).f1).toList) == (((rd_T50 x1 x5).f1).toList)) || (!(((rd_T50 x0 x5).f2) == ((rd_T50 x1 x5).f2)) || (!(((rd_T50 x0 x5).f3) == ((rd_T50 x1 x5).f3)))))) = true then (some false) else (sorrelref04_Same.l0 k x0 x1 (wrap64 (x5 + 1)))) else (none)) else (none)) else (some true)
def sorrelref04_Same.f (k : Nat) (l0 : List (S50)) (l1 : List (S50)) : Option (Bool) := if (l0.length : Int) = (l1.length : Int) then (sorrelref04_Same.l0 k l0 l1 0) else (some false)
theorem sorrelref04_Same.mono_l : ∀ k, (∀ y0 y1 y2, LeO (sorrelref04_Same.l0 k y0 y1 y2) (sorrelref04_Same.l0 (k + 1) y0 y1 y2))
  | 0 => fun _ _ _ r h => by simp [sorrelref04_Same.l0] at h
  | k + 1 => by
    have ih0 := sorrelref04_Same.mono_l k
    · intro y0 y1 y2
      unfold sorrelref04_Same.l0
      repeat' first
      | (with_reducible exact ih0 _ _ _)
      | (with_reducible exact LeO.refl _)
      | (with_reducible exact LeO.none _)
      | (with_reducible refine LeO.ite ?_ ?_)
      | (with_reducible refine LeO.bind ?_ (fun _ => ?_))
      | exact ih0 _ _ _
      | exact LeO.none _
      | refine LeO.ite ?_ ?_
      | refine LeO.bind ?_ (fun _ => ?_)
theorem sorrelref04_Same.mono : ∀ a0 a1 k, LeO (sorrelref04_Same.f k a0 a1) (sorrelref04_Same.f (k + 1) a0 a1) := by
  intro a0 a1 k
  have ih0 := sorrelref04_Same.mono_l k
  unfold sorrelref04_Same.f
  repeat' first
      | (with_reducible exact ih0 _ _ _)
      | (with_reducible exact LeO.refl _)
      | (with_reducible exact LeO.none _)
      | (with_reducible refine LeO.ite ?_ ?_)
      | (with_reducible refine LeO.bind ?_ (fun _ => ?_))
      | exact ih0 _ _ _
      | exact LeO.none _
      | refine LeO.ite ?_ ?_
      | refine LeO.bind ?_ (fun _ => ?_)
set_option maxHeartbeats 8000000 in
set_option maxRecDepth 100000 in
theorem sorrelref04_Same.calls (k : Nat) (A0 : Option Addr) (c0 : Nat) (l0 : List (S50)) (A1 : Option Addr) (c1 : Nat) (l1 : List (S50)) (r : Bool) (w : World) (hr0 : Kd.C k50 w A0 l0.length l0) (hc0 : l0.length ≤ c0) (hr1 : Kd.C k50 w A1 l1.length l1) (hc1 : l1.length ≤ c1) (h : sorrelref04_Same.f k l0 l1 = some r) :
    Calls Try.prog 22 #[.slice A0 l0.length c0, .slice A1 l1.length c1] w fun e w' => e = .returned (.bool r) ∧ Drawn0 w w' := by
  have hu50 := Try.underlying50
  have HR0 := Aside0.mk hr0
  have HC0 := Aside0.mk hc0
  clear hr0 hc0
  have HR1 := Aside0.mk hr1
  have HC1 := Aside0.mk hc1
  clear hr1 hc1
  have H : (if (l0.length : Int) = (l1.length : Int) then (sorrelref04_Same.l0 k l0 l1 0) else (some false)) = some r := h
  clear h
  by_cases c3 : (l0.length : Int) = (l1.length : Int)
  · rw [if_pos c3] at H
    have c3b0 : ((l0.length : Int) == (l1.length : Int)) = true := beq_iff_eq.mpr c3
    have c3b1 : ((l0.length : Int) != (l1.length : Int)) = false := bne_eq_false_iff_eq.mpr c3
    have c3b2 : (l0.length == l1.length) = true := by first | simpa using c3 | (simp at c3 ⊢; omega)
    clear c3
    have H' := Aside0.mk H
    clear H
    go_enter Try.func22, Try.ntmps22
    go_wp2
    repeat (go_quiet (fail); try go_wp2)
    go_loopg [5] k (fun kq v5 w' => ∃ (x5_1 : Int), v5 = .int .i64 x5_1 ∧ Aside0 (sorrelref04_Same.l0 kq l0 l1 x5_1 = some r) ∧ Aside0 (kq ≤ k) ∧ Drawn0 w w')
    case atStart => exact ⟨(0), (by first | rfl | (simp; done) | (simp [*]; done) | exact isE1 _ | exact isE2 _ | exact isE3 _ | exact isE4 _ | exact congrArg Value.bool (isE1 _) | exact congrArg Value.bool (isE2 _) | exact congrArg Value.bool (isE3 _) | exact congrArg Value.bool (isE4 _)), H', ⟨Nat.le_refl _⟩, by repeat (first | exact Drawn0.refl _ | apply Drawn0.step)⟩
    case round =>
      clear H'
      try clear c1
      try clear c2
      try clear p2
      try clear c3
      try clear c3b0
      try clear c3b1
      try clear c3b2
      obtain ⟨x5_1, rfl, HA, HK1, ⟨m1, rfl⟩⟩ := hrel
      cases gk with
      | zero => exact absurd HA.out (by simp [sorrelref04_Same.l0])
      | succ k1 =>
        have H := HA.out
        clear HA
        simp only [sorrelref04_Same.l0] at H
        by_cases c4 : x5_1 < (l0.length : Int)
        · rw [if_pos c4] at H
          have c4b0 : decide (x5_1 < (l0.length : Int)) = true := decide_eq_true c4
          clear c4
          by_cases c5 : 0 ≤ x5_1
          · rw [if_pos c5] at H
            have c5b0 : decide (0 ≤ x5_1) = true := decide_eq_true c5
            clear c5
            by_cases c6 : x5_1 < (l1.length : Int)
            · rw [if_pos c6] at H
              have c6b0 : decide (x5_1 < (l1.length : Int)) = true := decide_eq_true c6
              clear c6
              by_cases c7 : (!((((rd_T50 l0 x5_1).f0).toList) == (((rd_T50 l1 x5_1).f0).toList)) || (!((((rd_T50 l0 x5_1).f1).toList) == (((rd_T50 l1 x5_1).f1).toList)) || (!(((rd_T50 l0 x5_1).f2) == ((rd_T50 l1 x5_1).f2)) || (!(((rd_T50 l0 x5_1).f3) == ((rd_T50 l1 x5_1).f3)))))) = true
              · rw [if_pos c7] at H
                have c7b0 : (!((((rd_T50 l0 x5_1).f0).toList) == (((rd_T50 l1 x5_1).f0).toList)) || (!((((rd_T50 l0 x5_1).f1).toList) == (((rd_T50 l1 x5_1).f1).toList)) || (!(((rd_T50 l0 x5_1).f2) == ((rd_T50 l1 x5_1).f2)) || (!(((rd_T50 l0 x5_1).f3) == ((rd_T50 l1 x5_1).f3)))))) = true := c7
                clear c7
                obtain rfl := Option.some.inj H
                have p261 : 0 ≤ (x5_1 : Int) := of_decide_eq_true (by first | (with_reducible assumption) | assumption)
                have q261 : x5_1 < (l0.length : Int) := of_decide_eq_true (by first | (with_reducible assumption) | assumption)
                obtain ⟨ad261, e261, hx261_0, hx261_1, hx261_2, hx261_3⟩ := at_T50 HR0.out x5_1 p261 q261
                cases e261
                replace p261 := eq_true p261
                replace q261 := eq_true q261
                have p262 : 0 ≤ (x5_1 : Int) := of_decide_eq_true (by first | (with_reducible assumption) | assumption)
                have q262 : x5_1 < (l1.length : Int) := of_decide_eq_true (by first | (with_reducible assumption) | assumption)
                obtain ⟨ad262, e262, hx262_0, hx262_1, hx262_2, hx262_3⟩ := at_T50 HR1.out x5_1 p262 q262
                cases e262
                replace p262 := eq_true p262
                replace q262 := eq_true q262
                go_wp2
                repeat (go_quiet (fail); try go_wp2)
                go_ret
                exact ⟨by first | rfl | (simp; done) | (simp [*]; done) | exact isE1 _ | exact isE2 _ | exact isE3 _ | exact isE4 _ | exact congrArg Value.bool (isE1 _) | exact congrArg Value.bool (isE2 _) | exact congrArg Value.bool (isE3 _) | exact congrArg Value.bool (isE4 _), by repeat (first | exact Drawn0.refl _ | apply Drawn0.step)⟩
              · rw [if_neg c7] at H
                have c7b0 : (!((((rd_T50 l0 x5_1).f0).toList) == (((rd_T50 l1 x5_1).f0).toList)) || (!((((rd_T50 l0 x5_1).f1).toList) == (((rd_T50 l1 x5_1).f1).toList)) || (!(((rd_T50 l0 x5_1).f2) == ((rd_T50 l1 x5_1).f2)) || (!(((rd_T50 l0 x5_1).f3) == ((rd_T50 l1 x5_1).f3)))))) = false := by simpa using c7
                clear c7
                have H' := Aside0.mk H
                clear H
                have p261 : 0 ≤ (x5_1 : Int) := of_decide_eq_true (by first | (with_reducible assumption) | assumption)
                have q261 : x5_1 < (l0.length : Int) := of_decide_eq_true (by first | (with_reducible assumption) | assumption)
                obtain ⟨ad261, e261, hx261_0, hx261_1, hx261_2, hx261_3⟩ := at_T50 HR0.out x5_1 p261 q261
                cases e261
                replace p261 := eq_true p261
                replace q261 := eq_true q261
                have p262 : 0 ≤ (x5_1 : Int) := of_decide_eq_true (by first | (with_reducible assumption) | assumption)
                have q262 : x5_1 < (l1.length : Int) := of_decide_eq_true (by first | (with_reducible assumption) | assumption)
                obtain ⟨ad262, e262, hx262_0, hx262_1, hx262_2, hx262_3⟩ := at_T50 HR1.out x5_1 p262 q262
                cases e262
                replace p262 := eq_true p262
                replace q262 := eq_true q262
                go_wp2
                repeat (go_quiet (fail); try go_wp2)
                go_roundg k1
                case measure => have := HK1.out; omega
                case rel => exact ⟨(wrap64 (x5_1 + 1)), (by first | rfl | (simp; done) | (simp [*]; done) | exact isE1 _ | exact isE2 _ | exact isE3 _ | exact isE4 _ | exact congrArg Value.bool (isE1 _) | exact congrArg Value.bool (isE2 _) | exact congrArg Value.bool (isE3 _) | exact congrArg Value.bool (isE4 _)), H', ⟨by have := HK1.out; omega⟩, by repeat (first | exact Drawn0.refl _ | apply Drawn0.step)⟩
            · rw [if_neg c6] at H
              exact absurd H (by simp)
          · rw [if_neg c5] at H
            exact absurd H (by simp)
        · rw [if_neg c4] at H
          have c4b0 : decide (x5_1 < (l0.length : Int)) = false := decide_eq_false c4
          clear c4
          obtain rfl := Option.some.inj H
          go_wp2
          repeat (go_quiet (fail); try go_wp2)
          go_ret
          exact ⟨by first | rfl | (simp; done) | (simp [*]; done) | exact isE1 _ | exact isE2 _ | exact isE3 _ | exact isE4 _ | exact congrArg Value.bool (isE1 _) | exact congrArg Value.bool (isE2 _) | exact congrArg Value.bool (isE3 _) | exact congrArg Value.bool (isE4 _), by repeat (first | exact Drawn0.refl _ | apply Drawn0.step)⟩
  · rw [if_neg c3] at H
    have c3b0 : ((l0.length : Int) == (l1.length : Int)) = false := beq_eq_false_iff_ne.mpr c3
    have c3b1 : ((l0.length : Int) != (l1.length : Int)) = true := bne_iff_ne.mpr c3
    have c3b2 : (l0.length == l1.length) = false := by first | simpa using c3 | (simp at c3 ⊢; omega)
    obtain rfl := Option.some.inj H
    go_enter Try.func22, Try.ntmps22
    go_wp2
    repeat (go_quiet (fail); try go_wp2)
    go_ret
    exact ⟨by first | rfl | (simp; done) | (simp [*]; done) | exact isE1 _ | exact isE2 _ | exact isE3 _ | exact isE4 _ | exact congrArg Value.bool (isE1 _) | exact congrArg Value.bool (isE2 _) | exact congrArg Value.bool (isE3 _) | exact congrArg Value.bool (isE4 _), by repeat (first | exact Drawn0.refl _ | apply Drawn0.step)⟩

/-! ### sorrelref04_Clip: function 23 -/
def sorrelref04_Clip.l0 : Nat → List (S50) → List (S50) → Int → ByteArray → ByteArray → Option ((List (S50)))
  | 0, _, _, _, _, _ => none
  | k + 1, x0, x5, x6, x264000, x264001 => if x6 < (x0.length : Int) then (if 0 ≤ x6 then ((sorrelref04_Has.f x264000 x264001 ((rd_T50 x0 x6).f0)).bind fun t265 => (if t265 = true then (if x5.length < 2932031007402 then (sorrelref04_Clip.l0 k x0 (x5 ++ [(⟨(rd_T50 x0 x6).f0, (rd_T50 x0 x6).f1, (rd_T50 x0 x6).f2, (rd_T50 x0 x6).f3⟩ : S50)]) (wrap64 (x6 + 1)) x264000 x264001) else (none)) else (sorrelref04_Clip.l0 k x0 x5 (wrap64 (x6 + 1)) x264000 x264001))) else (none)) else (some x5)
def sorrelref04_Clip.f (k : Nat) (l0 : List (S50)) (a1_0 : ByteArray) (a1_1 : ByteArray) : Option ((List (S50))) := sorrelref04_Clip.l0 k l0 ([] : List (S50)) 0 a1_0 a1_1
theorem sorrelref04_Clip.mono_l : ∀ k, (∀ y0 y1 y2 y3 y4, LeO (sorrelref04_Clip.l0 k y0 y1 y2 y3 y4) (sorrelref04_Clip.l0 (k + 1) y0 y1 y2 y3 y4))
  | 0 => fun _ _ _ _ _ r h => by simp [sorrelref04_Clip.l0] at h
  | k + 1 => by
    have ih0 := sorrelref04_Clip.mono_l k
    · intro y0 y1 y2 y3 y4
      unfold sorrelref04_Clip.l0
      repeat' first
      | (with_reducible exact ih0 _ _ _ _ _)
      | (with_reducible exact LeO.refl _)
      | (with_reducible exact LeO.none _)
      | (with_reducible refine LeO.ite ?_ ?_)
      | (with_reducible refine LeO.bind ?_ (fun _ => ?_))
      | exact ih0 _ _ _ _ _
      | exact LeO.none _
      | refine LeO.ite ?_ ?_
      | refine LeO.bind ?_ (fun _ => ?_)
theorem sorrelref04_Clip.mono : ∀ a0 a1 a2 k, LeO (sorrelref04_Clip.f k a0 a1 a2) (sorrelref04_Clip.f (k + 1) a0 a1 a2) := by
  intro a0 a1 a2 k
  have ih0 := sorrelref04_Clip.mono_l k
  unfold sorrelref04_Clip.f
  repeat' first
      | (with_reducible exact ih0 _ _ _ _ _)
      | (with_reducible exact LeO.refl _)
      | (with_reducible exact LeO.none _)
      | (with_reducible refine LeO.ite ?_ ?_)
      | (with_reducible refine LeO.bind ?_ (fun _ => ?_))
      | exact ih0 _ _ _ _ _
      | exact LeO.none _
      | refine LeO.ite ?_ ?_
      | refine LeO.bind ?_ (fun _ => ?_)
set_option maxHeartbeats 8000000 in
set_option maxRecDepth 100000 in
theorem sorrelref04_Clip.calls (k : Nat) (A0 : Option Addr) (c0 : Nat) (l0 : List (S50)) (a1_0 : ByteArray) (a1_1 : ByteArray) (r : List (S50)) (w : World) (hr0 : Kd.C k50 w A0 l0.length l0) (hc0 : l0.length ≤ c0) (h : sorrelref04_Clip.f k l0 a1_0 a1_1 = some r) :
    Calls Try.prog 23 #[.slice A0 l0.length c0, .agg #[.string a1_0, .string a1_1]] w fun e w' => ∃ v0_ : Value, e = .returned (v0_) ∧ Kd.R k50 50 w' w.heap.size (fun _ => True) v0_ r ∧ Below w.heap.size w w' := by
  have hu23 := Try.underlying23
  have hu50 := Try.underlying50
  have HR0 := Aside0.mk hr0
  have HC0 := Aside0.mk hc0
  clear hr0 hc0
  have HB := Aside0.mk (Below.refl w.heap.size w)
  have H : (sorrelref04_Clip.l0 k l0 ([] : List (S50)) 0 a1_0 a1_1) = some r := h
  clear h
  have H' := Aside0.mk H
  clear H
  go_enter Try.func23, Try.ntmps23
  go_wp2_with (first | ((with_reducible refine gate_dst (N := 3) rfl ?_); refine box_event ?hg (N := 3) ?hd (cs := #[.string a1_0, .string a1_1]) (t := 23) ?hr ?_; (case hd => rfl); (case hg => rfl); (case hr => first | (go_simp; done) | (go_simp; rfl)); intro gb263 hg w3 hbox hb; have n0_ := Aside0.mk (below_step (by repeat (first | (with_reducible first | exact HB.out | apply below_alloc | apply pw_below_drewN | apply below_drew1) | exact HB.out)) hb); have n1_ := Aside0.mk (hbox); have n2_ := Aside0.mk ((by rw [hg]; exact (below_size (by repeat (first | (with_reducible first | exact HB.out | apply below_alloc | apply pw_below_drewN | apply below_drew1) | exact HB.out))) : w.heap.size ≤ gb263)); have n3_ := Aside0.mk ((by rw [hg]; exact (below_size (by repeat (first | (with_reducible first | exact HB.out | apply below_alloc | apply pw_below_drewN | apply below_drew1) | exact HB.out))) : w.heap.size ≤ gb263)); clear HB; have HB := n0_; have BK263 := n1_; have GW263 := n2_; have GE263 := n3_; clear n0_ n1_ n2_ n3_; clear hb hbox hg))
  go_loopg [5, 6] k (fun kq v5 v6 w' => ∃ (x5_1 : List (S50)) (x6_1 : Int), v6 = .int .i64 x6_1 ∧ Aside0 (sorrelref04_Clip.l0 kq l0 x5_1 x6_1 a1_0 a1_1 = some r) ∧ Aside0 (kq ≤ k) ∧ Aside0 (Kd.R k50 50 w' w.heap.size (fun _ => True) v5 x5_1) ∧ Aside0 (w'.heap[gb263]? = some (.cells #[.string a1_0, .string a1_1] 23 (0, 0))) ∧ Aside0 (Below w.heap.size w w'))
  case atStart => exact ⟨(([] : List (S50))), (0), (by first | rfl | (simp; done) | (simp [*]; done) | exact isE1 _ | exact isE2 _ | exact isE3 _ | exact isE4 _ | exact congrArg Value.bool (isE1 _) | exact congrArg Value.bool (isE2 _) | exact congrArg Value.bool (isE3 _) | exact congrArg Value.bool (isE4 _)), H', ⟨Nat.le_refl _⟩, ⟨by first | exact Kd.R_nil _ _ _ _ _ | exact Kd.N_nil _ _ _ _ _ | exact Kd.V_nil _ _ _ _ _ | exact Kd.Q_nil _ _ _ _ _ | exact Kd.S_nil _ _ _ _ _⟩, ⟨by (with_reducible repeat (first | refine blk_drewN ?_ _ | refine blk_drew ?_ | refine blk_alloc ?_ _)); exact BK263.out⟩, ⟨by repeat (first | (with_reducible first | exact HB.out | apply below_alloc | apply pw_below_drewN | apply below_drew1 | refine below_set ?_ GE263.out) | exact HB.out)⟩⟩
  case round =>
    clear H'
    try clear c2
    try clear p2
    obtain ⟨x5_1, x6_1, rfl, HA, HK1, HO_5, BK263, HB⟩ := hrel
    cases gk with
    | zero => exact absurd HA.out (by simp [sorrelref04_Clip.l0])
    | succ k1 =>
      have H := HA.out
      clear HA
      simp only [sorrelref04_Clip.l0] at H
      by_cases c4 : x6_1 < (l0.length : Int)
      · rw [if_pos c4] at H
        have c4b0 : decide (x6_1 < (l0.length : Int)) = true := decide_eq_true c4
        clear c4
        by_cases c5 : 0 ≤ x6_1
        · rw [if_pos c5] at H
          have c5b0 : decide (0 ≤ x6_1) = true := decide_eq_true c5
          clear c5
          replace H := Option.bind_eq_some_iff.mp H
          obtain ⟨t265, A60, H⟩ := H
          replace H : (if t265 = true then (if x5_1.length < 2932031007402 then (sorrelref04_Clip.l0 k1 l0 (x5_1 ++ [(⟨(rd_T50 l0 x6_1).f0, (rd_T50 l0 x6_1).f1, (rd_T50 l0 x6_1).f2, (rd_T50 l0 x6_1).f3⟩ : S50)]) (wrap64 (x6_1 + 1)) a1_0 a1_1) else (none)) else (sorrelref04_Clip.l0 k1 l0 x5_1 (wrap64 (x6_1 + 1)) a1_0 a1_1)) = some r := H
          have A6 := Aside0.mk A60
          clear A60
          by_cases c7 : t265 = true
          · subst c7
            have H1 : (if x5_1.length < 2932031007402 then (sorrelref04_Clip.l0 k1 l0 (x5_1 ++ [(⟨(rd_T50 l0 x6_1).f0, (rd_T50 l0 x6_1).f1, (rd_T50 l0 x6_1).f2, (rd_T50 l0 x6_1).f3⟩ : S50)]) (wrap64 (x6_1 + 1)) a1_0 a1_1) else (none)) = some r := by rw [if_pos rfl] at H; exact H
            clear H
            have H := H1
            clear H1
            by_cases c8 : x5_1.length < 2932031007402
            · rw [if_pos c8] at H
              have LMc8 := Aside0.mk c8
              clear c8
              obtain ⟨y267, hy267⟩ : ∃ y_ : List (S50), y_ = (x5_1 ++ [(⟨(rd_T50 l0 x6_1).f0, (rd_T50 l0 x6_1).f1, (rd_T50 l0 x6_1).f2, (rd_T50 l0 x6_1).f3⟩ : S50)]) := ⟨_, rfl⟩
              replace H : (sorrelref04_Clip.l0 k1 l0 y267 (wrap64 (x6_1 + 1)) a1_0 a1_1) = some r := by first | (rw [hy267]; with_reducible exact H) | (have H2_ := (Option.bind_some _ _).symm.trans H; rw [hy267]; with_reducible exact H2_) | (have H2_ := (Option.bind_some _ _).symm.trans H; with_reducible exact H2_) | with_reducible exact H | (rw [hy267]; exact H) | exact H
              have Ny267 := Aside0.mk hy267
              clear hy267
              have H' := Aside0.mk H
              clear H
              try go_wp2
              have n0_ := Aside0.mk (Kd.R_drew HO_5.out)
              have n1_ := Aside0.mk (blk_drew BK263.out)
              have n2_ := Aside0.mk (below_drew1 HB.out)
              clear HO_5
              clear BK263
              clear HB
              have HO_5 := n0_
              have BK263 := n1_
              have HB := n2_
              clear n0_ n1_ n2_
              have p264 : 0 ≤ (x6_1 : Int) := of_decide_eq_true (by first | (with_reducible assumption) | assumption)
              have q264 : x6_1 < (l0.length : Int) := of_decide_eq_true (by first | (with_reducible assumption) | assumption)
              obtain ⟨ad264, e264, hx264_0, hx264_1, hx264_2, hx264_3⟩ := at_T50 HR0.out x6_1 p264 q264
              have hw264_3 := hx264_3
              have hw264_2 := hx264_2
              have hw264_1 := hx264_1
              have hw264_0 := hx264_0
              cases e264
              replace hx264_0 := (HB.out.cell (World.block_lt_of_cell? w _ hx264_0)).trans hx264_0
              replace hx264_1 := (HB.out.cell (World.block_lt_of_cell? w _ hx264_1)).trans hx264_1
              replace hx264_2 := (HB.out.cell (World.block_lt_of_cell? w _ hx264_2)).trans hx264_2
              replace hx264_3 := (HB.out.cell (World.block_lt_of_cell? w _ hx264_3)).trans hx264_3
              replace p264 := eq_true p264
              replace q264 := eq_true q264
              refine start_ (n := 7) (S := fun w' => w'.cell? ⟨gb263, 0, none⟩ = some (.string a1_0) ∧ w'.cell? ⟨gb263, 1, none⟩ = some (.string a1_1) ∧ w'.cell? (ad264.add ((x6_1).toNat * 4)) = some (.string ((rd_T50 l0 x6_1).f0)) ∧ w'.cell? ⟨(ad264.add ((x6_1).toNat * 4)).block, (ad264.add ((x6_1).toNat * 4)).off + 1, none⟩ = some (.string ((rd_T50 l0 x6_1).f1)) ∧ w'.cell? ⟨(ad264.add ((x6_1).toNat * 4)).block, (ad264.add ((x6_1).toNat * 4)).off + 2, none⟩ = some (.bool ((rd_T50 l0 x6_1).f2)) ∧ w'.cell? ⟨(ad264.add ((x6_1).toNat * 4)).block, (ad264.add ((x6_1).toNat * 4)).off + 3, none⟩ = some (.int .i64 ((rd_T50 l0 x6_1).f3))) (ds := []) #[false, false, false, false, false, false, false] (by kernel_rfl) rfl rfl ⟨(blk_cell BK263.out 0).trans rfl, (blk_cell BK263.out 1).trans rfl, ((HB.out.cell (World.block_lt_of_cell? w _ hw264_0)).trans hw264_0), ((HB.out.cell (World.block_lt_of_cell? w _ hw264_1)).trans hw264_1), ((HB.out.cell (World.block_lt_of_cell? w _ hw264_2)).trans hw264_2), ((HB.out.cell (World.block_lt_of_cell? w _ hw264_3)).trans hw264_3)⟩ (fun hHeld => ?_)
              generalize wr.drew = w9 at HO_5 BK263 HB hx264_0 hx264_1 hx264_2 hx264_3 hHeld ⊢
              refine pure_ (i := 1) (N := some 14) (v := ?_) (a' := ?_) #[false, true, false, false, false, false, false] rfl rfl (by kernel_rfl) (fun _ _ _ h => h) (Or.inl ⟨by rfl, ?_⟩) ?_ ?_
              rotate_left
              · intro w'
                go_simp
                with_reducible rfl
              rotate_left
              · simp only [Act.put, List.setIfInBounds_toArray, List.set_cons_zero, List.set_cons_succ, i64_w, i32_w]
                rfl
              refine pure_ (i := 2) (N := some 15) (v := ?_) (a' := ?_) #[false, true, true, false, false, false, false] rfl rfl (by kernel_rfl) (fun _ _ _ h => h) (Or.inl ⟨by rfl, ?_⟩) ?_ ?_
              rotate_left
              · intro w'
                go_simp
                with_reducible rfl
              rotate_left
              · simp only [Act.put, List.setIfInBounds_toArray, List.set_cons_zero, List.set_cons_succ, i64_w, i32_w]
                rfl
              refine pure_ (i := 3) (N := some 16) (v := ?_) (a' := ?_) #[false, true, true, true, false, false, false] rfl rfl (by kernel_rfl) (fun _ _ _ h => h) (Or.inl ⟨by rfl, ?_⟩) ?_ ?_
              rotate_left
              · intro w'
                go_simp
                with_reducible rfl
              rotate_left
              · simp only [Act.put, List.setIfInBounds_toArray, List.set_cons_zero, List.set_cons_succ, i64_w, i32_w]
                rfl
              refine pure_ (i := 4) (N := some 17) (v := ?_) (a' := ?_) #[false, true, true, true, true, false, false] rfl rfl (by kernel_rfl) (fun _ _ _ h => h) (Or.inl ⟨by rfl, ?_⟩) ?_ ?_
              rotate_left
              · intro w'
                go_simp
                with_reducible rfl
              rotate_left
              · simp only [Act.put, List.setIfInBounds_toArray, List.set_cons_zero, List.set_cons_succ, i64_w, i32_w]
                rfl
              refine take_ (i := 0) (N := some 13) (v := ?_) (a' := ?_) #[true, true, true, true, true, false, false] rfl rfl (by kernel_rfl) (fun _ _ _ h => h) (Or.inl ⟨by rfl, ?_⟩) hHeld ?_ ?_
              rotate_left
              · rintro w' ⟨s0, s1, s2, s3, s4, s5⟩
                go_simp
                with_reducible rfl
              rotate_left
              · simp only [Act.put, List.setIfInBounds_toArray, List.set_cons_zero, List.set_cons_succ, i64_w, i32_w]
                rfl
              refine take_ (i := 5) (N := some 18) (v := ?_) (a' := ?_) #[true, true, true, true, true, true, false] rfl rfl (by kernel_rfl) (fun _ _ _ h => h) (Or.inl ⟨by rfl, ?_⟩) hHeld ?_ ?_
              rotate_left
              · rintro w' ⟨s0, s1, s2, s3, s4, s5⟩
                go_simp
                with_reducible rfl
              rotate_left
              · simp only [Act.put, List.setIfInBounds_toArray, List.set_cons_zero, List.set_cons_succ, i64_w, i32_w]
                rfl
              refine one_ (i := 6) (N := some 19) #[true, true, true, true, true, true, true] rfl rfl (by kernel_rfl) (by decide) (fun K hK => ?_)
              refine goes_ Try.func14 (by kernel_rfl) rfl #[.agg #[.string a1_0, .string a1_1], .string ((rd_T50 l0 x6_1).f0)] (by rfl) rfl rfl (by (try simp only [List.map_toArray, List.map_cons, List.map_nil]); first | done | rfl | (simp only [List.length_drop, List.length_take]; rfl)) ?_
              with_reducible refine (sorrelref04_Has.calls a1_0 a1_1 ((rd_T50 l0 x6_1).f0) true _ A6.out).mono ?_
              rintro e w10 ⟨rfl, hb⟩
              refine ⟨_, rfl, ?_⟩
              have n0_ := Aside0.mk (Kd.R_below (by (with_reducible repeat (first | apply Kd.R_alloc | apply Kd.R_drewN | apply Kd.R_drew)); exact HO_5.out) hb)
              have n1_ := Aside0.mk (blk_below (g := gb263) (o := .cells #[.string a1_0, .string a1_1] 23 (0, 0)) (by (with_reducible repeat (first | refine blk_drewN ?_ _ | refine blk_drew ?_ | refine blk_alloc ?_ _)); exact BK263.out) hb)
              have n2_ := Aside0.mk (below_step (by repeat (first | (with_reducible first | exact HB.out | apply below_alloc | apply pw_below_drewN | apply below_drew1 | refine below_set ?_ GE263.out) | exact HB.out)) hb)
              clear HO_5
              clear BK263
              clear HB
              have HO_5 := n0_
              have BK263 := n1_
              have HB := n2_
              clear n0_ n1_ n2_
              (try clear hb)
              (try clear hb2)
              (try clear hk)
              (try clear hi)
              refine hK.out _ _ ⟨(blk_cell BK263.out 0).trans rfl, (blk_cell BK263.out 1).trans rfl, ((HB.out.cell (World.block_lt_of_cell? w _ hw264_0)).trans hw264_0), ((HB.out.cell (World.block_lt_of_cell? w _ hw264_1)).trans hw264_1), ((HB.out.cell (World.block_lt_of_cell? w _ hw264_2)).trans hw264_2), ((HB.out.cell (World.block_lt_of_cell? w _ hw264_3)).trans hw264_3)⟩ (fun hHeld => ?_)
              clear hK K
              refine norm_ (a' := ?_) ?_ ?_
              rotate_left
              · show Act.put _ (some 19) _ = _
                simp only [Act.put, List.setIfInBounds_toArray, List.set_cons_zero, List.set_cons_succ, i64_w, i32_w]
                rfl
              refine done_ (by kernel_rfl) ?_
              have p266 : 0 ≤ (x6_1 : Int) := of_decide_eq_true (by first | (with_reducible assumption) | assumption)
              have q266 : x6_1 < (l0.length : Int) := of_decide_eq_true (by first | (with_reducible assumption) | assumption)
              obtain ⟨ad266, e266, hx266_0, hx266_1, hx266_2, hx266_3⟩ := at_T50 HR0.out x6_1 p266 q266
              obtain rfl : ad264 = ad266 := (by injection e266)
              replace hx266_0 := (HB.out.cell (World.block_lt_of_cell? w _ hx266_0)).trans hx266_0
              replace hx266_1 := (HB.out.cell (World.block_lt_of_cell? w _ hx266_1)).trans hx266_1
              replace hx266_2 := (HB.out.cell (World.block_lt_of_cell? w _ hx266_2)).trans hx266_2
              replace hx266_3 := (HB.out.cell (World.block_lt_of_cell? w _ hx266_3)).trans hx266_3
              replace p266 := eq_true p266
              replace q266 := eq_true q266
              try go_wp2_with (first | ((with_reducible refine gate_builtin (b := .append) (xs := #[.tmp 20, .tmp 25]) rfl ?_); at_builtin; refine Kd.R_append k50 (w0 := w) w.heap.size rfl (.tmp 20) (.tmp 25) 42 50 (.agg #[(.string ⟨#[]⟩), (.string ⟨#[]⟩), (.bool false), (.int .i64 0)]) 48 rfl Try.underlying42 info50 rfl (by decide) (by omega) u5 x5_1 (⟨(rd_T50 l0 x6_1).f0, (rd_T50 l0 x6_1).f1, (rd_T50 l0 x6_1).f2, (rd_T50 l0 x6_1).f3⟩ : S50) [.string ((rd_T50 l0 x6_1).f0), .string ((rd_T50 l0 x6_1).f1), .bool ((rd_T50 l0 x6_1).f2), .int .i64 ((rd_T50 l0 x6_1).f3)] (fun _ => True) (fun _ => False) rfl rfl ?aP (fun _ hk => hk.elim) ?aF ?aO ?aB ?aS ?aL ?_; (case aP => exact k50_mkM _ _ _ (⟨(rd_T50 l0 x6_1).f0, (rd_T50 l0 x6_1).f1, (rd_T50 l0 x6_1).f2, (rd_T50 l0 x6_1).f3⟩ : S50)); (case aB => exact (by repeat (first | (with_reducible first | exact HB.out | apply below_alloc | apply pw_below_drewN | apply below_drew1 | refine below_set ?_ GE263.out) | exact HB.out))); (case aF => exact (fun _ _ => trivial)); (case aO => exact (by (with_reducible repeat (first | apply Kd.R_alloc | apply Kd.R_drewN | apply Kd.R_drew)); exact HO_5.out)); (case aS => exact (below_size (by repeat (first | (with_reducible first | exact HB.out | apply below_alloc | apply pw_below_drewN | apply below_drew1 | refine below_set ?_ GE263.out) | exact HB.out)))); (case aL => have := LMc8.out; omega); intro v268 w11 ho hb hg hat; rw [← Ny267.out] at ho; have n0_ := Aside0.mk (blk_grown (g := gb263) (o := .cells #[.string a1_0, .string a1_1] 23 (0, 0)) (by (with_reducible repeat (first | refine blk_drewN ?_ _ | refine blk_drew ?_ | refine blk_alloc ?_ _)); exact BK263.out) hg (Kd.R_ne HO_5.out BK263.out (by decide))); have n1_ := Aside0.mk (hb); have n2_ := Aside0.mk (ho); clear BK263; clear HB; clear HO_5; have BK263 := n0_; have HB := n1_; have HO269 := n2_; clear n0_ n1_ n2_; clear ho hb hg hat))
              go_roundg k1
              case measure => have := HK1.out; omega
              case rel => exact ⟨(y267), (wrap64 (x6_1 + 1)), (by first | rfl | (simp; done) | (simp [*]; done) | exact isE1 _ | exact isE2 _ | exact isE3 _ | exact isE4 _ | exact congrArg Value.bool (isE1 _) | exact congrArg Value.bool (isE2 _) | exact congrArg Value.bool (isE3 _) | exact congrArg Value.bool (isE4 _)), H', ⟨by have := HK1.out; omega⟩, ⟨by (with_reducible repeat (first | apply Kd.R_alloc | apply Kd.R_drewN | apply Kd.R_drew)); exact HO269.out⟩, ⟨by (with_reducible repeat (first | refine blk_drewN ?_ _ | refine blk_drew ?_ | refine blk_alloc ?_ _)); exact BK263.out⟩, ⟨by repeat (first | (with_reducible first | exact HB.out | apply below_alloc | apply pw_below_drewN | apply below_drew1 | refine below_set ?_ GE263.out) | exact HB.out)⟩⟩
            · rw [if_neg c8] at H
              exact absurd H (by simp)
          · replace c7 := Bool.eq_false_iff.mpr c7
            subst c7
            have H1 : (sorrelref04_Clip.l0 k1 l0 x5_1 (wrap64 (x6_1 + 1)) a1_0 a1_1) = some r := by rw [if_neg (show ¬ (false = true) by decide)] at H; exact H
            clear H
            have H := H1
            clear H1
            have H' := Aside0.mk H
            clear H
            try go_wp2
            have n0_ := Aside0.mk (Kd.R_drew HO_5.out)
            have n1_ := Aside0.mk (blk_drew BK263.out)
            have n2_ := Aside0.mk (below_drew1 HB.out)
            clear HO_5
            clear BK263
            clear HB
            have HO_5 := n0_
            have BK263 := n1_
            have HB := n2_
            clear n0_ n1_ n2_
            have p264 : 0 ≤ (x6_1 : Int) := of_decide_eq_true (by first | (with_reducible assumption) | assumption)
            have q264 : x6_1 < (l0.length : Int) := of_decide_eq_true (by first | (with_reducible assumption) | assumption)
            obtain ⟨ad264, e264, hx264_0, hx264_1, hx264_2, hx264_3⟩ := at_T50 HR0.out x6_1 p264 q264
            have hw264_3 := hx264_3
            have hw264_2 := hx264_2
            have hw264_1 := hx264_1
            have hw264_0 := hx264_0
            cases e264
            replace hx264_0 := (HB.out.cell (World.block_lt_of_cell? w _ hx264_0)).trans hx264_0
            replace hx264_1 := (HB.out.cell (World.block_lt_of_cell? w _ hx264_1)).trans hx264_1
            replace hx264_2 := (HB.out.cell (World.block_lt_of_cell? w _ hx264_2)).trans hx264_2
            replace hx264_3 := (HB.out.cell (World.block_lt_of_cell? w _ hx264_3)).trans hx264_3
            replace p264 := eq_true p264
            replace q264 := eq_true q264
            refine start_ (n := 7) (S := fun w' => w'.cell? ⟨gb263, 0, none⟩ = some (.string a1_0) ∧ w'.cell? ⟨gb263, 1, none⟩ = some (.string a1_1) ∧ w'.cell? (ad264.add ((x6_1).toNat * 4)) = some (.string ((rd_T50 l0 x6_1).f0)) ∧ w'.cell? ⟨(ad264.add ((x6_1).toNat * 4)).block, (ad264.add ((x6_1).toNat * 4)).off + 1, none⟩ = some (.string ((rd_T50 l0 x6_1).f1)) ∧ w'.cell? ⟨(ad264.add ((x6_1).toNat * 4)).block, (ad264.add ((x6_1).toNat * 4)).off + 2, none⟩ = some (.bool ((rd_T50 l0 x6_1).f2)) ∧ w'.cell? ⟨(ad264.add ((x6_1).toNat * 4)).block, (ad264.add ((x6_1).toNat * 4)).off + 3, none⟩ = some (.int .i64 ((rd_T50 l0 x6_1).f3))) (ds := []) #[false, false, false, false, false, false, false] (by kernel_rfl) rfl rfl ⟨(blk_cell BK263.out 0).trans rfl, (blk_cell BK263.out 1).trans rfl, ((HB.out.cell (World.block_lt_of_cell? w _ hw264_0)).trans hw264_0), ((HB.out.cell (World.block_lt_of_cell? w _ hw264_1)).trans hw264_1), ((HB.out.cell (World.block_lt_of_cell? w _ hw264_2)).trans hw264_2), ((HB.out.cell (World.block_lt_of_cell? w _ hw264_3)).trans hw264_3)⟩ (fun hHeld => ?_)
            generalize wr.drew = w12 at HO_5 BK263 HB hx264_0 hx264_1 hx264_2 hx264_3 hHeld ⊢
            refine pure_ (i := 1) (N := some 14) (v := ?_) (a' := ?_) #[false, true, false, false, false, false, false] rfl rfl (by kernel_rfl) (fun _ _ _ h => h) (Or.inl ⟨by rfl, ?_⟩) ?_ ?_
            rotate_left
            · intro w'
              go_simp
              with_reducible rfl
            rotate_left
            · simp only [Act.put, List.setIfInBounds_toArray, List.set_cons_zero, List.set_cons_succ, i64_w, i32_w]
              rfl
            refine pure_ (i := 2) (N := some 15) (v := ?_) (a' := ?_) #[false, true, true, false, false, false, false] rfl rfl (by kernel_rfl) (fun _ _ _ h => h) (Or.inl ⟨by rfl, ?_⟩) ?_ ?_
            rotate_left
            · intro w'
              go_simp
              with_reducible rfl
            rotate_left
            · simp only [Act.put, List.setIfInBounds_toArray, List.set_cons_zero, List.set_cons_succ, i64_w, i32_w]
              rfl
            refine pure_ (i := 3) (N := some 16) (v := ?_) (a' := ?_) #[false, true, true, true, false, false, false] rfl rfl (by kernel_rfl) (fun _ _ _ h => h) (Or.inl ⟨by rfl, ?_⟩) ?_ ?_
            rotate_left
            · intro w'
              go_simp
              with_reducible rfl
            rotate_left
            · simp only [Act.put, List.setIfInBounds_toArray, List.set_cons_zero, List.set_cons_succ, i64_w, i32_w]
              rfl
            refine pure_ (i := 4) (N := some 17) (v := ?_) (a' := ?_) #[false, true, true, true, true, false, false] rfl rfl (by kernel_rfl) (fun _ _ _ h => h) (Or.inl ⟨by rfl, ?_⟩) ?_ ?_
            rotate_left
            · intro w'
              go_simp
              with_reducible rfl
            rotate_left
            · simp only [Act.put, List.setIfInBounds_toArray, List.set_cons_zero, List.set_cons_succ, i64_w, i32_w]
              rfl
            refine take_ (i := 0) (N := some 13) (v := ?_) (a' := ?_) #[true, true, true, true, true, false, false] rfl rfl (by kernel_rfl) (fun _ _ _ h => h) (Or.inl ⟨by rfl, ?_⟩) hHeld ?_ ?_
            rotate_left
            · rintro w' ⟨s0, s1, s2, s3, s4, s5⟩
              go_simp
              with_reducible rfl
            rotate_left
            · simp only [Act.put, List.setIfInBounds_toArray, List.set_cons_zero, List.set_cons_succ, i64_w, i32_w]
              rfl
            refine take_ (i := 5) (N := some 18) (v := ?_) (a' := ?_) #[true, true, true, true, true, true, false] rfl rfl (by kernel_rfl) (fun _ _ _ h => h) (Or.inl ⟨by rfl, ?_⟩) hHeld ?_ ?_
            rotate_left
            · rintro w' ⟨s0, s1, s2, s3, s4, s5⟩
              go_simp
              with_reducible rfl
            rotate_left
            · simp only [Act.put, List.setIfInBounds_toArray, List.set_cons_zero, List.set_cons_succ, i64_w, i32_w]
              rfl
            refine one_ (i := 6) (N := some 19) #[true, true, true, true, true, true, true] rfl rfl (by kernel_rfl) (by decide) (fun K hK => ?_)
            refine goes_ Try.func14 (by kernel_rfl) rfl #[.agg #[.string a1_0, .string a1_1], .string ((rd_T50 l0 x6_1).f0)] (by rfl) rfl rfl (by (try simp only [List.map_toArray, List.map_cons, List.map_nil]); first | done | rfl | (simp only [List.length_drop, List.length_take]; rfl)) ?_
            with_reducible refine (sorrelref04_Has.calls a1_0 a1_1 ((rd_T50 l0 x6_1).f0) false _ A6.out).mono ?_
            rintro e w13 ⟨rfl, hb⟩
            refine ⟨_, rfl, ?_⟩
            have n0_ := Aside0.mk (Kd.R_below (by (with_reducible repeat (first | apply Kd.R_alloc | apply Kd.R_drewN | apply Kd.R_drew)); exact HO_5.out) hb)
            have n1_ := Aside0.mk (blk_below (g := gb263) (o := .cells #[.string a1_0, .string a1_1] 23 (0, 0)) (by (with_reducible repeat (first | refine blk_drewN ?_ _ | refine blk_drew ?_ | refine blk_alloc ?_ _)); exact BK263.out) hb)
            have n2_ := Aside0.mk (below_step (by repeat (first | (with_reducible first | exact HB.out | apply below_alloc | apply pw_below_drewN | apply below_drew1 | refine below_set ?_ GE263.out) | exact HB.out)) hb)
            clear HO_5
            clear BK263
            clear HB
            have HO_5 := n0_
            have BK263 := n1_
            have HB := n2_
            clear n0_ n1_ n2_
            (try clear hb)
            (try clear hb2)
            (try clear hk)
            (try clear hi)
            refine hK.out _ _ ⟨(blk_cell BK263.out 0).trans rfl, (blk_cell BK263.out 1).trans rfl, ((HB.out.cell (World.block_lt_of_cell? w _ hw264_0)).trans hw264_0), ((HB.out.cell (World.block_lt_of_cell? w _ hw264_1)).trans hw264_1), ((HB.out.cell (World.block_lt_of_cell? w _ hw264_2)).trans hw264_2), ((HB.out.cell (World.block_lt_of_cell? w _ hw264_3)).trans hw264_3)⟩ (fun hHeld => ?_)
            clear hK K
            refine norm_ (a' := ?_) ?_ ?_
            rotate_left
            · show Act.put _ (some 19) _ = _
              simp only [Act.put, List.setIfInBounds_toArray, List.set_cons_zero, List.set_cons_succ, i64_w, i32_w]
              rfl
            refine done_ (by kernel_rfl) ?_
            try go_wp2
            go_roundg k1
            case measure => have := HK1.out; omega
            case rel => exact ⟨(x5_1), (wrap64 (x6_1 + 1)), (by first | rfl | (simp; done) | (simp [*]; done) | exact isE1 _ | exact isE2 _ | exact isE3 _ | exact isE4 _ | exact congrArg Value.bool (isE1 _) | exact congrArg Value.bool (isE2 _) | exact congrArg Value.bool (isE3 _) | exact congrArg Value.bool (isE4 _)), H', ⟨by have := HK1.out; omega⟩, ⟨by (with_reducible repeat (first | apply Kd.R_alloc | apply Kd.R_drewN | apply Kd.R_drew)); exact HO_5.out⟩, ⟨by (with_reducible repeat (first | refine blk_drewN ?_ _ | refine blk_drew ?_ | refine blk_alloc ?_ _)); exact BK263.out⟩, ⟨by repeat (first | (with_reducible first | exact HB.out | apply below_alloc | apply pw_below_drewN | apply below_drew1 | refine below_set ?_ GE263.out) | exact HB.out)⟩⟩
        · rw [if_neg c5] at H
          exact absurd H (by simp)
      · rw [if_neg c4] at H
        have c4b0 : decide (x6_1 < (l0.length : Int)) = false := decide_eq_false c4
        clear c4
        obtain rfl := Option.some.inj H
        go_wp2
        go_ret
        exact ⟨_, by first | rfl | (simp [errW_none, errW_some] <;> rfl) | (simp [*, errW_none, errW_some] <;> rfl), by (with_reducible repeat (first | apply Kd.R_alloc | apply Kd.R_drewN | apply Kd.R_drew)); exact HO_5.out, by repeat (first | (with_reducible first | exact HB.out | apply below_alloc | apply pw_below_drewN | apply below_drew1 | refine below_set ?_ GE263.out) | exact HB.out)⟩

end Go.Proofs.Ytffmndbgbooedaa.XA
