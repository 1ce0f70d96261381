import Derived.Test.YtlmoafkmhenejaakOXAx0
import Derived.Test.YtlmoafkmhenejaakOXAx4
import Derived.Test.YtlmoafkmhenejaakOXAx7
namespace Go.Proofs.YtlmoafkmhenejaaW.PrintWords
end Go.Proofs.YtlmoafkmhenejaaW.PrintWords
namespace Go.Proofs.YtlmoafkmhenejaaW.PrintLast
end Go.Proofs.YtlmoafkmhenejaaW.PrintLast
namespace Go.Proofs.YtlmoafkmhenejaaW.PrintMore
end Go.Proofs.YtlmoafkmhenejaaW.PrintMore
namespace Go.Proofs.Ytlmoafkmhenejaa.XW
end Go.Proofs.Ytlmoafkmhenejaa.XW
namespace Go.Proofs.Ytlmoafkmhenejaa.XA
open Go.RowKit Go.Proofs.YtlmoafkmhenejaaW.PrintWords Go.Proofs.YtlmoafkmhenejaaW.PrintLast Go.Proofs.YtlmoafkmhenejaaW.PrintMore Go.Proofs.Ytlmoafkmhenejaa.XW
attribute [local go_sem high] max2_str unary_xor_u32 leq_str geq_str gtr_str
attribute [local go_sem] max2_int min2_int max_two min_two max_three min_three max_four min_four   -- for this text's walks alone
set_option linter.unusedVariables false
set_option linter.unusedSimpArgs false
theorem clip_empty {α : Type} (d : Kd α) (e : Nat) (W : World) (base : Nat) (ok : Nat → Prop) (hb : base ≤ W.heap.size) (hok : ok W.heap.size) : d.R e (W.alloc (.cells #[] e)) base ok (.slice (some ⟨W.heap.size, 0, none⟩) 0 0) [] :=
  ⟨fun k hk => by simp [Value.ownBlock] at hk; subst hk; exact hok, [], ⟨by simp, .inr ⟨W.heap.size, 0, #[], rfl, hb, heap_alloc_new W _, Nat.le_refl _, by unfold maxLen; omega, by simp, by simp⟩⟩, Reps.none _ _⟩
theorem clip_zero_len (z : Array Value) (m : Nat) : (Builtin.zeroCells z m).toList.length = m * z.size := by simp [Builtin.zeroCells]
theorem clip_zero_one (z : Array Value) (m : Nat) (h1 : ∀ q ∈ z.toList, q.oneCell' = true) : ∀ q ∈ (Builtin.zeroCells z m).toList, q.oneCell' = true := by
  intro q hq
  simp only [Builtin.zeroCells, Array.toList_map, List.mem_map] at hq
  obtain ⟨i, hi, rfl⟩ := hq
  have hz : 0 < z.size := by
    rcases Nat.eq_zero_or_pos z.size with h | h
    · rw [h] at hi; simp at hi
    · exact h
  have hl : i % z.size < z.size := Nat.mod_lt _ hz
  rw [getElem!_pos z _ hl]
  exact h1 _ (by simp)
theorem clip_clear_run {P : Program} {α : Type} (d : Kd α) {W : World} {base e : Nat} {ok : Nat → Prop} {g n cap m c' i : Nat} {xs : List α} (t ty : TypeId) (z : Value) (ht : P.underlying t = some (.slice e)) (hv : ∀ w, (zeroValue e).run P w = .ok z w)
    (hzs : z.cells.size = d.sz) (h1 : ∀ q ∈ z.cells.toList, q.oneCell' = true) (him : i + m = n) (hm : 0 < m) (HO : d.R e W base ok (.slice (some ⟨g, 0, none⟩) n cap) xs) :
    ∃ w1, (Builtin.clear_ #[t] ty #[.slice (some ⟨g, i * d.sz, none⟩) m c']).run P W = .ok (.tuple #[]) w1 ∧ d.R e w1 base ok (.slice (some ⟨g, 0, none⟩) i cap) (xs.take i) ∧ W.grownBy w1 (some g) := by
  have hnx := (Kd.R_reads' HO).1
  obtain ⟨h0, inner, ho, hr⟩ := Kd.R_take HO (m := i) (by omega)
  have hl := clip_zero_len z.cells m
  have hone := clip_zero_one z.cells m h1
  rw [hzs] at hl
  have hil : (xs.take i).length = i := by rw [List.length_take]; omega
  have hown := Kd.R_own HO
  obtain ⟨inner2, ho2⟩ := hown
  rcases ho2.2 with ⟨hv', _⟩ | ⟨g', cap', cur, hv', hb, hh, hnc, hcm, hcs, _⟩
  · cases hv'
  injection hv' with ha _ hc
  injection ha with ha
  injection ha with hg'
  subst hg'; subst hc
  have hfit : i * d.sz + m * d.sz ≤ cur.size := by rw [hcs, ← Nat.add_mul]; exact Nat.mul_le_mul_right _ (by omega)
  have hst := run_storeCells_cells (P := P) g (i * d.sz) (Builtin.zeroCells z.cells m).toList 0 W (fun j hj => by rw [cell_of_row W g _ cur e (0, 0) hh]; rw [hl] at hj; simp; omega) (fun j _ => blk_frozen hh _) hone
  simp only [Nat.add_zero] at hst
  obtain ⟨m', rfl⟩ : ∃ m', m = m' + 1 := ⟨m - 1, by omega⟩
  obtain ⟨s1, s2, s3, s4⟩ := setCells_same g (Builtin.zeroCells z.cells (m' + 1)).toList (i * d.sz) W
  obtain ⟨cur', k1, k2, k3⟩ := setCells_row (Builtin.zeroCells z.cells (m' + 1)).toList (i * d.sz) W cur hh (by rw [hl]; exact hfit)
  refine ⟨W.setCells g (i * d.sz) (Builtin.zeroCells z.cells (m' + 1)).toList, by simp [Builtin.clear_, run_underlying ht, hv, hst], ⟨h0, inner, ?_, ?_⟩, ⟨s1, s2, s3, by rw [s4]; exact Nat.le_refl _, fun k _ hk => setCells_far _ _ k (fun he => hk (by rw [he]))⟩⟩
  · refine ⟨ho.1, .inr ⟨g, cap, cur', by rw [hil], hb, k1, by omega, hcm, k2.trans hcs, ?_⟩⟩
    rcases ho.2 with ⟨hv2, _⟩ | ⟨g2, cap2, cur2, hv2, _, hh2, _, _, _, ht2⟩
    · cases hv2
    · injection hv2 with ha2
      injection ha2 with ha2
      injection ha2 with hg2
      subst hg2; rw [hh] at hh2; injection hh2 with hh2
      injection hh2 with hcur
      subst hcur; have hle : i * d.sz ≤ cur.toList.length := by rw [Array.length_toList]; omega
      rw [hil] at ht2 ⊢; rw [k3, List.append_assoc, List.take_append_of_le_length (by rw [List.length_take]; omega), List.take_take, Nat.min_self]; exact ht2
  · refine hr.imp_ (fun _ _ hp => d.M_move (fun k hk => setCells_far _ _ k (fun he => hk.2 ?_)) hp); rw [he]; rfl
theorem wpList_clear_row {P : Program} {ops : Array Oper} {rest : List Oper} {o : Oper} {a : Act} {Q : Exit → Act → World → Prop} {α : Type} (d : Kd α) {w0 W : World} (base : Nat) (hgd : o.guard = none) (hN : o.dst = none) (s : Operand) (t e : TypeId) (z : Value)
    (ho : o.op = .call { callee := .builtin .clear, args := #[s], argTypes := #[t] }) (ht : P.underlying t = some (.slice e)) (hv : ∀ w, (zeroValue e).run P w = .ok z w) (hzs : z.cells.size = d.sz) (h1 : ∀ q ∈ z.cells.toList, q.oneCell' = true)
    {g n cap m c' i o' : Nat} (xs : List α) (ok : Nat → Prop) (hs : a.eval s = .slice (some ⟨g, o', none⟩) m c') (hoff : o' = i * d.sz) (him : i + m = n) (hm : 0 < m) (HO : d.R e W base ok (.slice (some ⟨g, 0, none⟩) n cap) xs) (HB : Below base w0 W) (hbase : base ≤ W.heap.size)
    (h : ∀ w1, d.R e w1 base ok (.slice (some ⟨g, 0, none⟩) i cap) (xs.take i) → Below base w0 w1 → W.grownBy w1 (some g) → wpList P ops Q rest a w1) : wpList P ops Q (o :: rest) a W := by
  subst hoff
  have hbg : base ≤ g := Kd.R_base HO g (by simp [Value.ownBlock])
  obtain ⟨w1, hrun, hR, hg⟩ := clip_clear_run (P := P) (c' := c') d t o.type z ht hv hzs h1 him hm HO
  refine wpList_plain hgd fun K hK' => ?_
  unfold Oper.wp
  simp [execOp, ho, resolve, invoke, builtin, hs, hrun, Result.andThen]
  show K (a.put o.dst (.tuple #[])) w1
  rw [hN]
  exact hK' a w1 (h w1 hR (HB.grown hg hbase (fun k hk => by injection hk with hk; omega)) hg)
def span_Clip.l0 (lo hi : ByteArray) : List S43 → Option (List S43)
  | [] => some []
  | e :: t => (span_Has.f lo hi e.f0).bind fun b => (span_Clip.l0 lo hi t).bind fun r => if b = true then some (e :: r) else some r
def span_Clip.ix (lo hi : ByteArray) : List S43 → Int → Option Int
  | [], _ => some (-1)
  | e :: t, i => (span_Has.f lo hi e.f0).bind fun b => if b = true then span_Clip.ix lo hi t (i + 1) else some i
def span_Clip.f (l : List S43) (lo hi : ByteArray) : Option (List S43) := if l.length < 2932031007402 then span_Clip.l0 lo hi l else none
theorem span_Clip.ix_l0 (lo hi : ByteArray) : ∀ (l r : List S43) (i : Int), span_Clip.l0 lo hi l = some r → (span_Clip.ix lo hi l i = some (-1) ∧ r = l) ∨ ∃ (m : Nat) (rest : List S43), span_Clip.ix lo hi l i = some (i + m) ∧ m < l.length ∧ span_Clip.l0 lo hi (l.drop (m + 1)) = some rest ∧ r = l.take m ++ rest
  | [], r, i, h => .inl ⟨rfl, (Option.some.inj h).symm⟩
  | e :: t, r, i, h => by
    rw [span_Clip.l0] at h; obtain ⟨b, hb, h⟩ := Option.bind_eq_some_iff.mp h; obtain ⟨q, hq, h⟩ := Option.bind_eq_some_iff.mp h
    cases b with
    | false =>
      rw [if_neg (by decide)] at h; refine .inr ⟨0, q, ?_, by simp, hq, by simpa using (Option.some.inj h).symm⟩; rw [span_Clip.ix, hb, Option.bind_some, if_neg (by decide)]; simp
    | true =>
      rw [if_pos rfl] at h
      rcases span_Clip.ix_l0 lo hi t q (i + 1) hq with ⟨h1, h2⟩ | ⟨m, rest, h1, h2, h3, h4⟩
      · exact .inl ⟨by rw [span_Clip.ix, hb, Option.bind_some, if_pos rfl]; exact h1, by rw [← Option.some.inj h, h2]⟩
      · refine .inr ⟨m + 1, rest, ?_, by simpa using h2, h3, by rw [← Option.some.inj h, h4]; simp⟩; rw [span_Clip.ix, hb, Option.bind_some, if_pos rfl, h1]; congr 1; omega
set_option maxHeartbeats 1600000 in
set_option maxRecDepth 100000 in
theorem span_Clip.one (g : Nat) (lo hi K V : ByteArray) (G : Bool) (Q : Int) (b : Bool) (W : World) (hb : W.heap[g]? = some (.cells #[.string lo, .string hi] 38 (0, 0))) (h : span_Has.f lo hi K = some b) :
    Calls Try.prog 97 #[.agg #[.string K, .string V, .bool G, .int .i64 Q], .pointer (some ⟨g, 0, none⟩)] W fun e w' => e = .returned (.bool (!b)) ∧ Below W.heap.size W w' := by
  have HL := Aside0.mk h
  have hb' := blk_alloc hb (.cells #[.string K, .string V, .bool G, .int .i64 Q] 43)
  have hc0 : (W.alloc (.cells #[.string K, .string V, .bool G, .int .i64 Q] 43)).cell? ⟨g, 0, none⟩ = some (.string lo) := (blk_cell hb' 0).trans rfl
  have hc1 : (W.alloc (.cells #[.string K, .string V, .bool G, .int .i64 Q] 43)).cell? ⟨g, 1, none⟩ = some (.string hi) := (blk_cell hb' 1).trans rfl
  have HB := Aside0.mk (below_alloc (Below.refl W.heap.size W) (.cells #[.string K, .string V, .bool G, .int .i64 Q] 43))
  clear hb h hb'
  go_enter Try.func97, Try.ntmps97
  go_wp2_with (go_at_call 98; (refine (span_Has.calls lo hi K b _ HL.out).mono ?_); rintro e w1 ⟨rfl, hb1⟩; have HB1 := Aside0.mk (below_step HB.out hb1); clear hb1)
  go_ret
  exact ⟨rfl, HB1.out⟩
set_option maxHeartbeats 1600000 in
set_option maxRecDepth 100000 in
theorem span_Clip.idx (gx : Nat) (lo hi : ByteArray) (A0 : Option Addr) (c0 : Nat) (l0 : List S43) (r : Int) (W : World) (hx : W.heap[gx]? = some (.cells #[.string lo, .string hi] 38 (0, 0))) (hr : Kd.C k43 W A0 l0.length l0) (hn : l0.length < 2932031007402) (h : span_Clip.ix lo hi l0 0 = some r) :
    Calls Try.prog 108 #[.slice A0 l0.length c0, .func (Fn.func 97) #[] #[.pointer (some ⟨gx, 0, none⟩)]] W fun e w' => e = .returned (.int .i64 r) ∧ Below W.heap.size W w' := by
  have HX := Aside0.mk hx
  have HR := Aside0.mk hr
  have HN := Aside0.mk hn
  have H' := Aside0.mk h
  have HB := Aside0.mk (Below.refl W.heap.size W)
  clear hx hr hn h
  go_enter Try.func108, Try.ntmps108
  go_wp2
  go_loopg [8] l0.length (fun kq v8 w' => ∃ (i : Nat), v8 = .int .i64 (i : Int) ∧ Aside0 (i + kq = l0.length) ∧ Aside0 (span_Clip.ix lo hi (l0.drop i) (i : Int) = some r) ∧ Aside0 (Below W.heap.size W w'))
  case atStart => exact ⟨0, rfl, ⟨Nat.zero_add _⟩, H', HB⟩
  case round =>
    clear H' HB; obtain ⟨i, rfl, HI, HA, HB⟩ := hrel; have hIe := HI.out; have hn := HN.out; have H := HA.out; clear HA
    cases gk with
    | zero =>
      rw [List.drop_eq_nil_of_le (by omega)] at H; have c1b : decide ((i : Int) < (l0.length : Int)) = false := decide_eq_false (by omega); have c1n : decide (i < l0.length) = false := decide_eq_false (by omega); obtain rfl := Option.some.inj H; clear hIe hn H; go_wp2; go_ret; exact ⟨rfl, HB.out⟩
    | succ k1 =>
      have hlt : i < l0.length := by omega
      have c1b : decide ((i : Int) < (l0.length : Int)) = true := decide_eq_true (by omega); have c1n : decide (i < l0.length) = true := decide_eq_true (by omega); have q1 : (i < l0.length) = True := eq_true (by omega); rw [(List.getElem_cons_drop hlt).symm, span_Clip.ix] at H; obtain ⟨b, hb, H⟩ := Option.bind_eq_some_iff.mp H; have hrd : rd_T43 l0 (i : Int) = l0[i] := by unfold rd_T43; rw [Int.toNat_natCast, List.getD_eq_getElem?_getD, List.getElem?_eq_getElem hlt]; rfl
      rw [← hrd] at hb; obtain ⟨ad, ea, hx0, hx1, hx2, hx3⟩ := at_T43 (Kd.C_below HR.out HB.out) (i : Int) (by omega) (by omega); subst ea; obtain ⟨x, hx⟩ : ∃ x, rd_T43 l0 (i : Int) = x := ⟨_, rfl⟩; rw [hx] at hb hx0 hx1 hx2 hx3; obtain ⟨K, V, G, Q⟩ := x; rw [Int.toNat_natCast] at hx0 hx1 hx2 hx3; dsimp only at hb hx0 hx1 hx2 hx3; have HL := Aside0.mk hb; have p0 : (0 ≤ (i : Int)) = True := eq_true (by omega); have p1 : ((i : Int) < (l0.length : Int)) = True := eq_true (by omega); have p0b : decide (0 ≤ (i : Int)) = true := decide_eq_true (by omega); have hw : wrap64 ((i : Int) + 1) = ((i + 1 : Nat) : Int) := by unfold wrap64; omega
      have HW := Aside0.mk hw; have HI2 : Aside0 (i + 1 + k1 = l0.length) := ⟨by omega⟩; clear hIe hn hb hx hrd hw
      cases b with
      | true =>
        rw [if_pos rfl] at H; have H' := Aside0.mk H; clear H
        go_wp2_with (go_at_call 97; (refine (span_Clip.one gx lo hi K V G Q true _ (blk_below HX.out HB.out) HL.out).mono ?_); rintro e w2 ⟨rfl, hb⟩; have HB2 := Aside0.mk (below_step HB.out hb); clear hb)
        go_roundg k1
        case measure => omega
        case rel => exact ⟨i + 1, by first | (rw [HW.out]; done) | (simp [*]; done) | exact congrArg (Value.int .i64) HW.out, HI2, ⟨by have := H'.out; rw [Int.natCast_add]; exact this⟩, HB2⟩
      | false =>
        rw [if_neg (by decide)] at H; obtain rfl := Option.some.inj H; clear H
        go_wp2_with (go_at_call 97; (refine (span_Clip.one gx lo hi K V G Q false _ (blk_below HX.out HB.out) HL.out).mono ?_); rintro e w2 ⟨rfl, hb⟩; have HB2 := Aside0.mk (below_step HB.out hb); clear hb)
        go_ret; exact ⟨rfl, HB2.out⟩
set_option maxHeartbeats 1600000 in
set_option maxRecDepth 100000 in
theorem span_Clip.clone (A0 : Option Addr) (c0 : Nat) (l0 : List S43) (W : World) (hr : Kd.C k43 W A0 l0.length l0) (hn : l0.length < 2932031007402) :
    Calls Try.prog 62 #[.slice A0 l0.length c0] W fun e w' => ∃ v, e = .returned v ∧ Kd.R k43 43 w' W.heap.size (fun _ => True) v l0 ∧ Below W.heap.size W w' := by
  have HR := Aside0.mk hr
  have HN := Aside0.mk hn
  have hnil := fun (w : World) (a : Option Addr) (n c : Nat) => Go.Lib.run_eql_slice_nil (P := Try.prog) w 22 43 a n c 0 0 Try.underlying22
  clear hn
  cases A0 with
  | none =>
    have hl : l0 = [] := by
      rcases Nat.eq_zero_or_pos l0.length with h | h
      · exact List.length_eq_zero_iff.1 h
      · obtain ⟨ad, e, _⟩ := hr.2.2 h; cases e
    subst hl; clear hr; go_enter Try.func62, Try.ntmps62; go_wp2; go_ret; exact ⟨_, rfl, Kd.R_nil _ _ _ _ _, Below.refl _ _⟩
  | some ad =>
    clear hr; have HE := Aside0.mk (clip_empty k43 43 W W.heap.size (fun _ => True) (Nat.le_refl _) trivial); have HB := Aside0.mk (below_alloc (Below.refl W.heap.size W) (.cells #[] 43)); go_enter Try.func62, Try.ntmps62
    go_wp2_with ((with_reducible refine gate_builtin (b := .append) (xs := #[.tmp 5, .tmp 6]) rfl ?_); at_builtin; refine Kd.R_append_rows k43 (w0 := W) W.heap.size rfl (.tmp 5) (.tmp 6) 22 43 (.agg #[(.string ⟨#[]⟩), (.string ⟨#[]⟩), (.bool false), (.int .i64 0)]) 48 rfl Try.underlying22 info43 rfl (by decide) (by omega) (.slice (some ⟨W.heap.size, 0, none⟩) 0 0) ([] : List S43) l0 _ _ _ (fun _ => True) (fun _ => False) rfl rfl HE.out (Kd.C_alloc HR.out _) (fun _ _ h => h) (fun _ h => h.elim) (fun _ _ => trivial) HB.out (below_size HB.out) (by have := HN.out; simp only [List.length_nil]; omega) ?_; intro v9 w9 ho hb hg hat; have HO9 := Aside0.mk ho; have HB9 := Aside0.mk hb; clear ho hb hg hat)
    go_ret; exact ⟨_, rfl, HO9.out, HB9.out⟩
theorem clip_add0 (g n : Nat) : (⟨g, 0, none⟩ : Addr).add n = ⟨g, n, none⟩ := by
  unfold Addr.add
  split
  · next h => rw [h]
  · simp
set_option maxHeartbeats 3200000 in
set_option maxRecDepth 100000 in
theorem span_Clip.del (gx : Nat) (lo hi : ByteArray) (v : Value) (l0 r : List S43) (base : Nat) (W : World) (hx : W.heap[gx]? = some (.cells #[.string lo, .string hi] 38 (0, 0))) (hgx : gx < base) (hbase : base ≤ W.heap.size) (hr : Kd.R k43 43 W base (fun _ => True) v l0) (hn : l0.length < 2932031007402) (h : span_Clip.l0 lo hi l0 = some r) :
    Calls Try.prog 96 #[v, .func (Fn.func 97) #[] #[.pointer (some ⟨gx, 0, none⟩)]] W fun e w' => ∃ v', e = .returned v' ∧ Kd.R k43 43 w' base (fun _ => True) v' r ∧ Below base W w' := by
  have HX := Aside0.mk hx
  have HGX := Aside0.mk hgx
  have HBA := Aside0.mk hbase
  have HR := Aside0.mk hr
  have HN := Aside0.mk hn
  have toB : ∀ {w1 w2 : World}, base ≤ w1.heap.size → Below w1.heap.size w1 w2 → Below base w1 w2 := fun hb h => ⟨h.os, h.tape, h.output, h.size, fun k hk => h.block k (Nat.lt_of_lt_of_le hk hb)⟩
  have HTB := Aside0.mk @toB
  clear toB
  obtain ⟨A, c, rfl, hlc, hC⟩ := Kd.R_reads hr
  have HC := Aside0.mk hC
  rcases span_Clip.ix_l0 lo hi l0 r 0 h with ⟨hi1, rfl⟩ | ⟨m, rest, hi1, hm, hl0, rfl⟩
  · have HI := Aside0.mk hi1; clear hx hgx hbase hr hn h hi1 hC hlc; go_enter Try.func96, Try.ntmps96
    go_wp2_with (go_at_call 108; (refine (span_Clip.idx gx lo hi _ _ _ _ _ HX.out HC.out HN.out HI.out).mono ?_); rintro e w1 ⟨rfl, hb1⟩; have HB1 := Aside0.mk (HTB.out HBA.out hb1); have HR1 := Aside0.mk (Kd.R_below HR.out hb1); clear hb1)
    go_ret; exact ⟨_, rfl, HR1.out, HB1.out⟩
  · rw [Int.zero_add] at hi1; have HI := Aside0.mk hi1; have HM := Aside0.mk hm; have HL0 := Aside0.mk hl0; obtain ⟨g, cap, hv, hbg, hgl, -⟩ := Kd.R_form hr (by omega); injection hv with ha hl hc
    subst hc; obtain ⟨ad, had⟩ : ∃ ad : Addr, ad = ⟨g, 0, none⟩ := ⟨_, rfl⟩; rw [← had] at ha; subst ha; have HAD := Aside0.mk had; have HLC := Aside0.mk hlc; have HBG := Aside0.mk hbg; have hm1 : ((m : Int) == -1) = false := beq_eq_false_iff_ne.mpr (by omega); have hm2 : ((m : Int) = -1) = False := eq_false (by omega); have hmw : wrap64 ((m : Int) + 1) = ((m + 1 : Nat) : Int) := by unfold wrap64; omega
    have HMW := Aside0.mk hmw; clear hx hgx hbase hr hn h hi1 hC hlc hm hl0 had hbg hgl hl hmw; go_enter Try.func96, Try.ntmps96
    go_wp2_with (go_at_call 108; (refine (span_Clip.idx gx lo hi _ _ _ _ _ HX.out HC.out HN.out HI.out).mono ?_); rintro e w1 ⟨rfl, hb1⟩; have HB1 := Aside0.mk (HTB.out HBA.out hb1); have HR1 := Aside0.mk (Kd.R_below HR.out hb1); clear hb1)
    go_loopg [5, 6] (l0.length - (m + 1)) (fun kq v5 v6 w' => ∃ (j : Nat) (pre cur rest' : List S43), v5 = .int .i64 (pre.length : Int) ∧ v6 = .int .i64 (j : Int) ∧ Aside0 (j + kq = l0.length) ∧ Aside0 (pre.length < j) ∧ Aside0 (cur.length = l0.length) ∧ Aside0 (cur.take pre.length = pre) ∧ Aside0 (cur.drop j = l0.drop j) ∧ Aside0 (span_Clip.l0 lo hi (l0.drop j) = some rest') ∧ Aside0 (l0.take m ++ rest = pre ++ rest') ∧ Aside0 (Kd.R k43 43 w' base (fun _ => True) (.slice (some ad) l0.length c) cur) ∧ Aside0 (Below base W w'))
    case atStart =>
      have hm := HM.out; have hle : (l0.take m).length = m := by rw [List.length_take]; omega
      exact ⟨m + 1, l0.take m, l0, rest, by rw [hle], by rw [HMW.out], ⟨by omega⟩, ⟨by omega⟩, ⟨rfl⟩, ⟨by rw [hle]⟩, ⟨rfl⟩, HL0, ⟨rfl⟩, HR1, HB1⟩
    case round =>
      clear HB1 HR1 HC HR HL0 HI hm1 hm2; obtain ⟨j, pre, cur, rest', rfl, rfl, HJ, HPJ, HCL, HTK, HDR, HL, HE, HO, HB⟩ := hrel; have hj := HJ.out; have hpj := HPJ.out; have hcl := HCL.out; have hn := HN.out; have hlc := HLC.out; have hw1 : wrap64 ((pre.length : Int) + 1) = ((pre.length + 1 : Nat) : Int) := by unfold wrap64; omega
      have hw2 : wrap64 ((j : Int) + 1) = ((j + 1 : Nat) : Int) := by unfold wrap64; omega
      have HW1 := Aside0.mk hw1; have HW2 := Aside0.mk hw2; have HN2 : Aside0 (base ≤ wr.heap.size) := ⟨Nat.le_trans HBA.out HB.out.size⟩; have HXR : Aside0 (wr.heap[gx]? = some (.cells #[.string lo, .string hi] 38 (0, 0))) := ⟨(HB.out.block gx HGX.out).trans HX.out⟩; clear hw1 hw2
      cases gk with
      | zero =>
        have hd : l0.drop j = [] := List.drop_eq_nil_of_le (by omega); have hL := HL.out; rw [hd] at hL; have hre : rest' = [] := (Option.some.inj hL).symm; subst hre; have hE := HE.out; rw [List.append_nil] at hE; have HE2 := Aside0.mk hE; have c1b : decide ((j : Int) < (l0.length : Int)) = false := decide_eq_false (by omega); have c1n : decide (j < l0.length) = false := decide_eq_false (by omega); have q1 : (pre.length ≤ l0.length) = True := eq_true (by omega); have q2 : (pre.length ≤ c) = True := eq_true (by omega); have q3 : ((pre.length : Int) ≤ (l0.length : Int)) = True := eq_true (by omega); have q4 : (c = pre.length) = False := eq_false (by omega); have q5 : (pre.length = c) = False := eq_false (by omega); have q6 : 0 ≤ (pre.length : Int) := by omega
        have HP : Aside0 (pre.length + (l0.length - pre.length) = l0.length ∧ 0 < l0.length - pre.length) := ⟨by omega⟩; clear hj hpj hcl hn hlc hd hL hE
        go_wp2_with ((with_reducible refine gate_builtin (b := .clear) (xs := #[.tmp 38]) rfl ?_); go_loud (refine wpList_clear_row k43 (w0 := W) base rfl rfl (.tmp 38) 22 43 (.agg #[(.string ⟨#[]⟩), (.string ⟨#[]⟩), (.bool false), (.int .i64 0)]) rfl Try.underlying22 (fun _ => by kernel_rfl) rfl (by decide) (g := g) (n := l0.length) (cap := c) (m := l0.length - pre.length) (c' := c - pre.length) (i := pre.length) (o' := pre.length * 4) cur (fun _ => True) (by show Value.slice (some (ad.add (pre.length * 4))) _ _ = _; rw [HAD.out, clip_add0]) rfl HP.out.1 HP.out.2 (by have h_ := HO.out; rw [HAD.out] at h_; exact h_) HB.out HN2.out ?_); intro w9 hR hB hg; have HR9 := Aside0.mk hR; have HB9 := Aside0.mk hB; clear hR hB hg)
        go_ret; refine ⟨_, rfl, ?_, HB9.out⟩
        have h9 := HR9.out; rw [HTK.out, ← HAD.out] at h9; rw [HE2.out]; exact h9
      | succ k1 =>
        have hlt : j < l0.length := by omega
        have c1b : decide ((j : Int) < (l0.length : Int)) = true := decide_eq_true (by omega); have c1n : decide (j < l0.length) = true := decide_eq_true (by omega); have q1 : (j < l0.length) = True := eq_true hlt; have q2 : (pre.length < l0.length) = True := eq_true (by omega); have q3 : ((pre.length : Int) < (l0.length : Int)) = True := eq_true (by omega); have q4 : ((j : Int) < (l0.length : Int)) = True := eq_true (by omega); have q5 : (0 ≤ (j : Int)) = True := eq_true (by omega); have q6 : (0 ≤ (pre.length : Int)) = True := eq_true (by omega)
        have hcj : cur[j]'(by omega) = l0[j] := by
          have h1 : cur.drop j = cur[j]'(by omega) :: cur.drop (j + 1) := (List.getElem_cons_drop (by omega)).symm; have h2 : l0.drop j = l0[j] :: l0.drop (j + 1) := (List.getElem_cons_drop hlt).symm; have h3 := HDR.out; rw [h1, h2] at h3; exact (List.cons.inj h3).1
        have hdr : cur.drop (j + 1) = l0.drop (j + 1) := by
          have h1 : cur.drop j = cur[j]'(by omega) :: cur.drop (j + 1) := (List.getElem_cons_drop (by omega)).symm; have h2 : l0.drop j = l0[j] :: l0.drop (j + 1) := (List.getElem_cons_drop hlt).symm; have h3 := HDR.out; rw [h1, h2] at h3; exact (List.cons.inj h3).2
        have hL := HL.out; rw [(List.getElem_cons_drop hlt).symm, span_Clip.l0] at hL; obtain ⟨b, hb, hL⟩ := Option.bind_eq_some_iff.mp hL; obtain ⟨q, hq, hL⟩ := Option.bind_eq_some_iff.mp hL; have hrd : rd_T43 cur (j : Int) = l0[j] := by rw [← hcj]; unfold rd_T43; rw [Int.toNat_natCast, List.getD_eq_getElem?_getD, List.getElem?_eq_getElem (by omega)]; rfl
        obtain ⟨ad', ea, hx0, hx1, hx2, hx3⟩ := at_T43 (Kd.R_reads' HO.out).2.2 (j : Int) (by omega) (by omega); injection ea with ea
        subst ea; rw [hrd] at hx0 hx1 hx2 hx3; rw [Int.toNat_natCast] at hx0 hx1 hx2 hx3; obtain ⟨x, hx⟩ : ∃ x, l0[j] = x := ⟨_, rfl⟩; rw [hx] at hb hL hx0 hx1 hx2 hx3 hcj; obtain ⟨K, V, G, Q⟩ := x; dsimp only at hb hx0 hx1 hx2 hx3; have HH := Aside0.mk hb; have HQ := Aside0.mk hq; have HDR2 := Aside0.mk hdr; have HLL := Aside0.mk hL; have HJ2 : Aside0 (j + 1 + k1 = l0.length) := ⟨by omega⟩; have HPI : Aside0 (pre.length < cur.length ∧ pre.length < l0.length) := ⟨by omega⟩; clear hj hpj hcl hn hlc hrd hcj hdr hL hb hq hx
        cases b with
        | false =>
          have hL := HLL.out; rw [if_neg (by decide)] at hL; obtain rfl := Option.some.inj hL; clear hL
          go_wp2_with (go_at_call 97; go_loud ((refine (span_Clip.one gx lo hi K V G Q false _ (blk_alloc HXR.out _) HH.out).mono ?_); rintro e w2 ⟨rfl, hb⟩; have HB2 := Aside0.mk (below_step (below_alloc (Below.refl wr.heap.size wr) _) hb); clear hb))
          go_roundg k1
          case measure => omega
          case rel => exact ⟨j + 1, pre, cur, _, rfl, by rw [HW2.out], HJ2, ⟨by have := HPJ.out; omega⟩, HCL, HTK, HDR2, HQ, HE, ⟨Kd.R_below HO.out HB2.out⟩, ⟨HB.out.trans (HTB.out HN2.out HB2.out)⟩⟩
        | true =>
          have hL := HLL.out; rw [if_pos rfl] at hL; have hre : rest' = (⟨K, V, G, Q⟩ : S43) :: q := (Option.some.inj hL).symm; subst hre; clear hL; have hpl := HPI.out.1; obtain ⟨ad5, c5, ea5, hc5, -, hcc5⟩ := Kd.C_get (Kd.R_reads' HO.out).2.2 (⟨K, V, G, Q⟩ : S43) (pre.length : Int) (by omega) (by omega); injection ea5 with ea5
          subst ea5; have HC5 := Aside0.mk hc5; have HCC5 := Aside0.mk hcc5; have HLT2 : Aside0 (∀ j u, c5[j]? = some u → (ad.add ((pre.length : Int).toNat * k43.sz + j)).block < wr.heap.size) := ⟨fun j u hu => World.block_lt_of_cell? wr _ (hcc5 j u hu)⟩; clear hpl hc5 hcc5
          go_wp2_with (first | (go_at_call 97; (refine (span_Clip.one gx lo hi K V G Q true _ (blk_alloc HXR.out _) HH.out).mono ?_); rintro e w2 ⟨rfl, hb⟩; have h4 := blk_below (heap_alloc_new wr (.cells #[.string K, .string V, .bool G, .int .i64 Q] 43)) hb; have y0 := (blk_cell h4 0).trans rfl; have y1 := (blk_cell h4 1).trans rfl; have y2 := (blk_cell h4 2).trans rfl; have y3 := (blk_cell h4 3).trans rfl; have HB2 := Aside0.mk (below_step (below_alloc (Below.refl wr.heap.size wr) _) hb); have HO2 := Aside0.mk (Kd.R_below HO.out HB2.out); have HBW := Aside0.mk (HB.out.trans (HTB.out HN2.out HB2.out)); clear hb h4) | ((with_reducible refine gate_ (.store 43 (.tmp 33) (.tmp 32)) rfl ?_); go_loud (refine Kd.R_store k43 (w0 := W) base rfl rfl 43 (.tmp 33) (.tmp 32) rfl 43 (g := g) (n := l0.length) (cap := c) (o' := pre.length * 4) (pre.length : Int) 0 cur (⟨K, V, G, Q⟩ : S43) (.agg #[.string K, .string V, .bool G, .int .i64 Q]) [.string K, .string V, .bool G, .int .i64 Q] c5 (fun _ => True) (fun _ => False) (by show Value.pointer (some (ad.add (pre.length * 4))) = _; rw [HAD.out, clip_add0]) (by rw [Int.toNat_natCast]; rfl) rfl rfl (by kernel_rfl) (by intro q_ hq_; simp only [List.mem_cons, List.not_mem_nil, or_false] at hq_; rcases hq_ with rfl | rfl | rfl | rfl <;> rfl) (by have h_ := HO2.out; rw [HAD.out] at h_; exact h_) (by omega) (by have := HPI.out.2; omega) HC5.out (fun j u hu => by have h_ := (HB2.out.cell (HLT2.out j u hu)).trans (HCC5.out j u hu); rw [HAD.out, clip_add0] at h_; exact h_) (Nat.le_refl 4) ?aM (fun _ hk => hk.elim) HBW.out ?_); (case aM => (have h5 := HC5.out; rw [List.take_zero, List.nil_append, List.drop_eq_nil_of_le (by rw [h5]; exact Nat.le_refl _), List.append_nil]; exact k43_mkM _ _ _ (⟨K, V, G, Q⟩ : S43))); intro w9 hR hB hg; have HR9 := Aside0.mk hR; have HB9 := Aside0.mk hB; clear hR hB hg))

          go_roundg k1
          case measure => omega
          case rel =>
            refine ⟨j + 1, pre ++ [(⟨K, V, G, Q⟩ : S43)], cur.set pre.length ⟨K, V, G, Q⟩, q, ?_, by rw [HW2.out], HJ2, ⟨by have := HPJ.out; rw [List.length_append, List.length_singleton]; omega⟩, ⟨by rw [List.length_set]; exact HCL.out⟩, ⟨?_⟩, ⟨?_⟩, HQ, ⟨by rw [HE.out]; simp⟩, ⟨?_⟩, HB9⟩
            · rw [List.length_append, List.length_singleton, HW1.out]
            · have h1 := HPI.out.1; have h2 := HTK.out; rw [List.length_append, List.length_singleton, List.take_succ_eq_append_getElem (by rw [List.length_set]; exact h1), List.take_set, List.set_eq_of_length_le (by rw [List.length_take]; omega), h2, List.getElem_set_self]
            · rw [List.drop_set_of_lt (by have := HPJ.out; omega)]; exact HDR2.out
            · have h9 := HR9.out; rw [Int.toNat_natCast, ← HAD.out] at h9; exact h9
set_option maxHeartbeats 1600000 in
set_option maxRecDepth 100000 in
theorem span_Clip.calls (A0 : Option Addr) (c0 : Nat) (l0 : List (S43)) (a1_0 : ByteArray) (a1_1 : ByteArray) (r : List (S43)) (w : World) (hr0 : Kd.C k43 w A0 l0.length l0) (hc0 : l0.length ≤ c0) (h : span_Clip.f l0 a1_0 a1_1 = some r) :
    Calls Try.prog 59 #[.slice A0 l0.length c0, .agg #[.string a1_0, .string a1_1]] w fun e w' => ∃ v0_ : Value, e = .returned (v0_) ∧ Kd.R k43 43 w' w.heap.size (fun _ => True) v0_ r ∧ Below w.heap.size w w' := by
  unfold span_Clip.f at h
  by_cases hn : l0.length < 2932031007402
  · rw [if_pos hn] at h; have HN := Aside0.mk hn; have HL := Aside0.mk h; have HB0 := Aside0.mk (below_alloc (Below.refl w.heap.size w) (.cells #[.string a1_0, .string a1_1] 38)); have HK0 := Aside0.mk (heap_alloc_new w (.cells #[.string a1_0, .string a1_1] 38)); have HRa := Aside0.mk (Kd.C_alloc hr0 (.cells #[.string a1_0, .string a1_1] 38)); have HS : Aside0 ((w.alloc (.cells #[.string a1_0, .string a1_1] 38)).heap.size = w.heap.size + 1) := ⟨by simp⟩; clear h hn hr0 hc0; go_enter Try.func59, Try.ntmps59
    go_wp2_with (first | (go_at_call 62; go_loud ((refine (span_Clip.clone _ _ l0 _ HRa.out HN.out).mono ?_); rintro e w1 ⟨v1, rfl, ho1, hb1⟩; have HO1 := Aside0.mk ho1; have HB1 := Aside0.mk (below_step HB0.out hb1); have HK1 := Aside0.mk (blk_below HK0.out hb1); have HZ1 := Aside0.mk hb1.size; clear ho1 hb1)) | (go_at_call 96; go_loud ((refine (span_Clip.del w.heap.size a1_0 a1_1 _ l0 r _ _ HK1.out (by rw [HS.out]; exact Nat.lt_succ_self _) HZ1.out HO1.out HN.out HL.out).mono ?_); rintro e w2 ⟨v2, rfl, ho2, hb2⟩; have HO2 := Aside0.mk ho2; have HB2 := Aside0.mk hb2; clear ho2 hb2)))
    go_ret; refine ⟨_, rfl, Kd.R_lower HO2.out (by rw [HS.out]; exact Nat.le_succ _), HB1.out.trans ⟨HB2.out.os, HB2.out.tape, HB2.out.output, HB2.out.size, fun k hk => HB2.out.block k (by rw [HS.out]; omega)⟩⟩
  · rw [if_neg hn] at h; exact absurd h (by simp)
set_option maxHeartbeats 1600000 in
set_option maxRecDepth 100000 in
theorem bloom_Has.one (g : Nat) (s : ByteArray) (p : Int) (W : World) (hb0 : W.heap[g]? = some (.cells #[.string s] 9 (0, 0)))
    (h1 : 0 ≤ wrap64 (Int.tdiv p 8)) (h2 : wrap64 (Int.tdiv p 8) < (s.size : Int)) (h3 : 0 ≤ Int.tmod p 8) :
    Calls Try.prog 101 #[.int .i64 p, .pointer (some ⟨g, 0, none⟩)] W fun e w' => e = .returned (.bool (Go.bits .and .u8 (bt s (wrap64 (Int.tdiv p 8))) (shl .u8 1 (Int.tmod p 8)) != 0)) ∧ Drawn0 W w' := by
  have HK := Aside0.mk hb0
  have hc : W.cell? ⟨g, 0, none⟩ = some (.string s) := (blk_cell hb0 0).trans rfl
  have hf := blk_frozen hb0 0
  clear hb0
  obtain ⟨ji1, hji1⟩ : ∃ j_ : Int, (wrap64 (Int.tdiv p 8)) = j_ := ⟨_, rfl⟩
  rw [hji1] at h1 h2 ⊢
  have hji1w : (IntKind.i64.wrap (Int.tdiv p 8)) = ji1 := (i64_w _).trans hji1
  obtain ⟨ji2, hji2⟩ : ∃ j_ : Int, (Int.tmod p 8) = j_ := ⟨_, rfl⟩
  rw [hji2] at h3 ⊢
  obtain ⟨ji3, hji3⟩ : ∃ j_ : Int, (shl .u8 1 ji2) = j_ := ⟨_, rfl⟩
  rw [hji3]
  have hji3_ : (IntKind.u8.wrap (1 * 2 ^ min (ji2).toNat 8)) = ji3 := hji3
  have hji3z : (ji2) ≤ 8 → (IntKind.u8.wrap (1 * 2 ^ (ji2).toNat)) = ji3 := shl_small hji3
  have hji3u : (IntKind.u8.wrap (2 ^ min (ji2).toNat 8)) = ji3 := by have h_ := hji3_; rw [Int.one_mul] at h_; exact h_
  have hji3v : (ji2) ≤ 8 → (IntKind.u8.wrap (2 ^ (ji2).toNat)) = ji3 := fun hle_ => by have h_ := hji3z hle_; rw [Int.one_mul] at h_; exact h_
  have hx10 := bt_at s ji1
  have c1 : decide (0 ≤ ji1) = true := decide_eq_true h1
  have c2 : decide (ji1 < (s.size : Int)) = true := decide_eq_true h2
  have c3b1 : decide (0 ≤ ji2) = true := decide_eq_true h3
  have p10 := eq_true h1
  have q10 := eq_true h2
  have p12 := eq_true h3
  go_enter Try.func101, Try.ntmps101
  go_wp2
  go_quiet (fail)
  go_wp2
  go_ret
  exact ⟨by first | rfl | (simp; done) | (simp only [← hji1, ← hji2, ← hji3] <;> (first | rfl | simp)) | (simp [*]; done), by repeat (first | exact Drawn0.refl _ | apply Drawn0.step)⟩
def bloom_Has.l0 : Nat → ByteArray → Int → Int → Int → Int → Option (Bool)
  | 0, _, _, _, _, _ => none
  | k + 1, s, a, b, n, i => if i < 6 then (if n = 0 then (none) else (if 0 ≤ (wrap64 (Int.tdiv (Int.tmod (wrap64 (a + (wrap64 (i * b)))) n) 8)) then (if (wrap64 (Int.tdiv (Int.tmod (wrap64 (a + (wrap64 (i * b)))) n) 8)) < (s.size : Int) then (if 0 ≤ (Int.tmod (Int.tmod (wrap64 (a + (wrap64 (i * b)))) n) 8) then (if (Go.bits .and .u8 (bt s (wrap64 (Int.tdiv (Int.tmod (wrap64 (a + (wrap64 (i * b)))) n) 8))) (shl .u8 1 (Int.tmod (Int.tmod (wrap64 (a + (wrap64 (i * b)))) n) 8)) != 0) = true then (bloom_Has.l0 k s a b n (wrap64 (i + 1))) else (some false)) else (none)) else (none)) else (none))) else (some true)
def bloom_Has.f (k : Nat) (s : ByteArray) (key : ByteArray) : Option (Bool) := if s.toList = ([] : List UInt8) then (some true) else ((crc_Sum.f k key).bind fun ta => (if key.size + 1 ≤ 9223372036854775807 then ((crc_Sum.f k (key ++ (⟨#[35]⟩ : ByteArray))).bind fun tb => (bloom_Has.l0 k s ta (Go.bits .or .i64 tb 1) (wrap64 (8 * (s.size : Int))) 0)) else (none)))
set_option maxHeartbeats 1600000 in
set_option maxRecDepth 100000 in
theorem bloom_Has.each (k : Nat) (g : Nat) (s : ByteArray) (key : ByteArray) (n ta tb : Int) (r : Bool) (W : World) (hb0 : W.heap[g]? = some (.cells #[.string s] 9 (0, 0)))
    (hA : crc_Sum.f k key = some ta) (c5 : key.size + 1 ≤ 9223372036854775807) (hB : crc_Sum.f k (key ++ (⟨#[35]⟩ : ByteArray)) = some tb) (h : bloom_Has.l0 k s ta (Go.bits .or .i64 tb 1) n 0 = some r) :
    Calls Try.prog 73 #[.string key, .int .i64 n, .func (Fn.func 101) #[] #[.pointer (some ⟨g, 0, none⟩)]] W fun e w' => e = .returned (.bool r) ∧ Drawn0 W w' := by
  have HK := Aside0.mk hb0
  have A4 := Aside0.mk hA
  have A6 := Aside0.mk hB
  clear hb0 hA hB
  have c5b0 := eq_true c5
  have c5b1 : decide (key.size + 1 ≤ 9223372036854775807) = true := decide_eq_true c5
  try have c5b2 : (9223372036854775807 < key.size + 1) = False := eq_false (Nat.not_lt.2 c5)
  obtain ⟨b, hb⟩ : ∃ b : Int, Go.bits .or .i64 tb 1 = b := ⟨_, rfl⟩
  rw [hb] at h
  have H' := Aside0.mk h
  clear h c5
  go_enter Try.func73, Try.ntmps73
  go_wp2_with (first | ((with_reducible refine gate_callee (f := 77) rfl ?_); refine goesL_ (some 11) rfl rfl Try.func77 (by kernel_rfl) rfl #[.string key] rfl (by (try simp only [List.map_toArray, List.map_cons, List.map_nil]); first | done | rfl) ?_; (with_reducible refine (crc_Sum.calls k key ta _ A4.out).mono ?_); rintro e w' ⟨rfl, ⟨nd, rfl⟩⟩; refine ⟨_, rfl, ?_⟩) | ((with_reducible refine gate_callee (f := 77) rfl ?_); refine goesL_ (some 14) rfl rfl Try.func77 (by kernel_rfl) rfl #[.string (key ++ (⟨#[35]⟩ : ByteArray))] rfl (by (try simp only [List.map_toArray, List.map_cons, List.map_nil]); first | done | rfl) ?_; (with_reducible refine (crc_Sum.calls k (key ++ (⟨#[35]⟩ : ByteArray)) tb _ A6.out).mono ?_); rintro e w' ⟨rfl, ⟨nd, rfl⟩⟩; refine ⟨_, rfl, ?_⟩))
  go_loopg [16] k (fun kq v16 w' => ∃ (i : Int), v16 = .int .i64 i ∧ Aside0 (bloom_Has.l0 kq s ta b n i = some r) ∧ Aside0 (kq ≤ k) ∧ Drawn0 W w')
  case atStart => exact ⟨0, rfl, H', ⟨Nat.le_refl _⟩, by repeat (first | exact Drawn0.refl _ | apply Drawn0.step)⟩
  case round =>
    clear H'; obtain ⟨i, rfl, HA, HK1, ⟨m1, rfl⟩⟩ := hrel
    cases gk with
    | zero => exact absurd HA.out (by simp [bloom_Has.l0])
    | succ k1 =>
      have H := HA.out; clear HA; simp only [bloom_Has.l0] at H
      by_cases c2 : i < 6
      · rw [if_pos c2] at H; have c2b0 : decide (i < 6) = true := decide_eq_true c2; clear c2
        by_cases c7 : n = 0
        · rw [if_pos c7] at H; exact absurd H (by simp)
        · rw [if_neg c7] at H; have c7b0 : (n == 0) = false := beq_eq_false_iff_ne.mpr c7; have c7b1 : (n != 0) = true := bne_iff_ne.mpr c7; obtain ⟨p, hp⟩ : ∃ p : Int, Int.tmod (wrap64 (ta + (wrap64 (i * b)))) n = p := ⟨_, rfl⟩; rw [hp] at H
          by_cases d1 : 0 ≤ wrap64 (Int.tdiv p 8)
          · rw [if_pos d1] at H
            by_cases d2 : wrap64 (Int.tdiv p 8) < (s.size : Int)
            · rw [if_pos d2] at H
              by_cases d3 : 0 ≤ Int.tmod p 8
              · rw [if_pos d3] at H; have A1 := Aside0.mk d1; have A2 := Aside0.mk d2; have A3 := Aside0.mk d3; clear d1 d2 d3; obtain ⟨q, hq⟩ : ∃ q : Bool, (Go.bits .and .u8 (bt s (wrap64 (Int.tdiv p 8))) (shl .u8 1 (Int.tmod p 8)) != 0) = q := ⟨_, rfl⟩; rw [hq] at H; have AQ := Aside0.mk hq; clear hq
                cases q with
                | true =>
                  rw [if_pos rfl] at H; have H' := Aside0.mk H; clear H
                  go_wp2_with (go_at_call 101; (try rw [hp]); (refine (bloom_Has.one g s p (W.drewN m1) (blk_drewN HK.out m1) A1.out A2.out A3.out).mono ?_); rintro e w7 ⟨he, ⟨nd, hw7⟩⟩; rw [AQ.out] at he; subst he; subst hw7)
                  go_roundg k1
                  case measure => have := HK1.out; omega
                  case rel => exact ⟨wrap64 (i + 1), (by first | rfl | (simp; done) | (simp [*]; done)), H', ⟨by have := HK1.out; omega⟩, by repeat (first | exact Drawn0.refl _ | apply Drawn0.step)⟩
                | false =>
                  rw [if_neg (by decide)] at H; obtain rfl := Option.some.inj H
                  go_wp2_with (go_at_call 101; (try rw [hp]); (refine (bloom_Has.one g s p (W.drewN m1) (blk_drewN HK.out m1) A1.out A2.out A3.out).mono ?_); rintro e w7 ⟨he, ⟨nd, hw7⟩⟩; rw [AQ.out] at he; subst he; subst hw7)
                  go_ret; exact ⟨rfl, by repeat (first | exact Drawn0.refl _ | apply Drawn0.step)⟩
              · rw [if_neg d3] at H; exact absurd H (by simp)
            · rw [if_neg d2] at H; exact absurd H (by simp)
          · rw [if_neg d1] at H; exact absurd H (by simp)
      · rw [if_neg c2] at H; have c2b0 : decide (i < 6) = false := decide_eq_false c2; clear c2; obtain rfl := Option.some.inj H; go_wp2; go_ret; exact ⟨rfl, by repeat (first | exact Drawn0.refl _ | apply Drawn0.step)⟩
set_option maxHeartbeats 1600000 in
set_option maxRecDepth 100000 in
theorem bloom_Has.calls (k : Nat) (a0 : ByteArray) (a1 : ByteArray) (r : Bool) (w : World) (h : bloom_Has.f k a0 a1 = some r) :
    Calls Try.prog 61 #[.string a0, .string a1] w fun e w' => e = .returned (.bool r) ∧ Below w.heap.size w w' := by
  unfold bloom_Has.f at h
  have hk0 := heap_alloc_new w (.cells #[.string a0] 9)
  have hc0 : (w.alloc (.cells #[.string a0] 9)).cell? ⟨w.heap.size, 0, none⟩ = some (.string a0) := (blk_cell hk0 0).trans rfl
  have HB := Aside0.mk (below_alloc (Below.refl w.heap.size w) (.cells #[.string a0] 9))
  by_cases c : a0.toList = ([] : List UInt8)
  · rw [if_pos c] at h; obtain rfl := Option.some.inj h; have cb0 : (a0.toList == ([] : List UInt8)) = true := beq_iff_eq.mpr c; have cb1 : a0.toList.isEmpty = true := by rw [c]; rfl
    go_enter Try.func61, Try.ntmps61; go_wp2; go_ret; exact ⟨by first | rfl | (simp; done) | (simp [*]; done), by repeat (first | (with_reducible first | exact HB.out | apply below_alloc | apply pw_below_drewN | apply below_drew1) | exact HB.out)⟩
  · rw [if_neg c] at h; have cb0 : (a0.toList == ([] : List UInt8)) = false := beq_eq_false_iff_ne.mpr c; have cb1 : a0.toList.isEmpty = false := by rw [isE3]; exact cb0
    obtain ⟨ta, A4, h⟩ := Option.bind_eq_some_iff.mp h
    by_cases c5 : a1.size + 1 ≤ 9223372036854775807
    · rw [if_pos c5] at h; obtain ⟨tb, A6, h⟩ := Option.bind_eq_some_iff.mp h; have H := Aside0.mk h; have B4 := Aside0.mk A4; have B5 := Aside0.mk c5; have B6 := Aside0.mk A6; clear h A4 A6 c5; go_enter Try.func61, Try.ntmps61
      go_wp2_with (go_at_call 73; (refine (bloom_Has.each k w.heap.size a0 a1 _ ta tb r _ (heap_alloc_new w _) B4.out B5.out B6.out H.out).mono ?_); rintro e w7 ⟨rfl, ⟨nd, rfl⟩⟩)
      go_ret; exact ⟨by first | rfl | (simp; done) | (simp [*]; done), by repeat (first | (with_reducible first | exact HB.out | apply below_alloc | apply pw_below_drewN | apply below_drew1) | exact HB.out)⟩
    · rw [if_neg c5] at h; exact absurd h (by simp)
def sorrelref08_Size.f (a0 : Int) : Option (Int) := some (8 * (mx 8 (((10 * (mn (mx a0 0) 4096)) + 7) / 8)))
set_option maxHeartbeats 8000000 in
set_option maxRecDepth 100000 in
theorem sorrelref08_Size.calls (a0 : Int) (r : Int) (w : World) (h : sorrelref08_Size.f a0 = some r) :
    Calls Try.prog 63 #[.int .i64 a0] w fun e w' => e = .returned (.int .i64 r) ∧ Below w.heap.size w w' := by
  have HB := Aside0.mk (Below.refl w.heap.size w)
  have H : (some (8 * (mx 8 (((10 * (mn (mx a0 0) 4096)) + 7) / 8)))) = some r := h
  clear h
  obtain ⟨ji2, hji2⟩ : ∃ j_ : Int, (mx a0 0) = j_ := ⟨_, rfl⟩
  replace H : (some (8 * (mx 8 (((10 * (mn (ji2) 4096)) + 7) / 8)))) = some r := by first | (rw [hji2] at H; exact H) | (simp only [hji2] at H ⊢; exact H)
  (try (have hji2l : 0 ≤ ji2 := by (rw [← hji2]; unfold mx; (repeat' split) <;> omega)))
  (try (have hji2m : 0 ≤ ji2 := by omega))
  have hji2_ : (if a0 < 0 then 0 else a0) = ji2 := hji2
  obtain ⟨ji3, hji3⟩ : ∃ j_ : Int, (mn (ji2) 4096) = j_ := ⟨_, rfl⟩
  replace H : (some (8 * (mx 8 (((10 * (ji3)) + 7) / 8)))) = some r := by first | (rw [hji3] at H; exact H) | (simp only [hji3] at H ⊢; exact H)
  have hji3_ : (if 4096 < (ji2) then 4096 else (ji2)) = ji3 := hji3
  obtain ⟨ji4, hji4⟩ : ∃ j_ : Int, (mx 8 (((10 * (ji3)) + 7) / 8)) = j_ := ⟨_, rfl⟩
  replace H : (some (8 * (ji4))) = some r := by first | (rw [hji4] at H; exact H) | (simp only [hji4] at H ⊢; exact H)
  have hji4_ : (if 8 < (((10 * (ji3)) + 7) / 8) then (((10 * (ji3)) + 7) / 8) else 8) = ji4 := hji4
  obtain rfl := Option.some.inj H
  go_enter Try.func63, Try.ntmps63
  go_wp2
  go_ret
  exact ⟨by first | rfl | (simp [errW_none, errW_some] <;> rfl) | (simp only [← hji2, ← hji3, ← hji4]; first | rfl | (simp [errW_none, errW_some] <;> rfl)) | (simp [*, errW_none, errW_some] <;> rfl), by repeat (first | (with_reducible first | exact HB.out | apply below_alloc | apply pw_below_drewN | apply below_drew1) | exact HB.out)⟩
mutual
def sorrelref02_More.l0 : Nat → ByteArray → Int → Int → Option (Int)
  | 0, _, _, _ => none
  | k + 1, x1, x5, x6 => if x6 < (x1.size : Int) then (if 0 ≤ x6 then (sorrelref02_More.l1 k x1 (Go.bits .xor .i64 x5 (wrap64 (bt x1 x6))) x6 0) else (none)) else (some (Go.bits .xor .i64 x5 4294967295))
def sorrelref02_More.l1 : Nat → ByteArray → Int → Int → Int → Option (Int)
  | 0, _, _, _, _ => none
  | k + 1, x1, x5, x6, x7 => if x7 < 8 then (if (Go.bits .and .i64 x5 1) = 1 then (sorrelref02_More.l1 k x1 (Go.bits .xor .i64 (x5 / 2) 2197175160) x6 (wrap64 (x7 + 1))) else (sorrelref02_More.l1 k x1 (x5 / 2) x6 (wrap64 (x7 + 1)))) else (sorrelref02_More.l0 k x1 x5 (wrap64 (x6 + 1)))
end
def sorrelref02_More.f (k : Nat) (a0 : Int) (a1 : ByteArray) : Option (Int) := sorrelref02_More.l0 k a1 (Go.bits .xor .i64 (Go.bits .and .i64 a0 4294967295) 4294967295) 0
set_option maxHeartbeats 8000000 in
set_option maxRecDepth 100000 in
theorem sorrelref02_More.calls (k : Nat) (a0 : Int) (a1 : ByteArray) (r : Int) (w : World) (h : sorrelref02_More.f k a0 a1 = some r) :
    Calls Try.prog 107 #[.int .i64 a0, .string a1] w fun e w' => e = .returned (.int .i64 r) ∧ Drawn0 w w' := by
  have H : (sorrelref02_More.l0 k a1 (Go.bits .xor .i64 (Go.bits .and .i64 a0 4294967295) 4294967295) 0) = some r := h
  clear h
  have H' := Aside0.mk H
  clear H
  go_enter Try.func107, Try.ntmps107
  go_wp2
  go_loopg [5, 6] k (fun kq v5 v6 w' => ∃ (x5_1 : Int) (x6_1 : Int), v5 = .int .i64 x5_1 ∧ v6 = .int .i64 x6_1 ∧ Aside0 (sorrelref02_More.l0 kq a1 x5_1 x6_1 = some r) ∧ Aside0 (kq ≤ k) ∧ Drawn0 w w')
  case atStart => exact ⟨(Go.bits .xor .i64 (Go.bits .and .i64 a0 4294967295) 4294967295), (0), (by first | rfl | (simp; done) | (simp [*]; done) | exact isE1 _ | exact isE2 _ | exact isE3 _ | exact isE4 _ | exact congrArg Value.bool (isE1 _) | exact congrArg Value.bool (isE2 _) | exact congrArg Value.bool (isE3 _) | exact congrArg Value.bool (isE4 _)), (by first | rfl | (simp; done) | (simp [*]; done) | exact isE1 _ | exact isE2 _ | exact isE3 _ | exact isE4 _ | exact congrArg Value.bool (isE1 _) | exact congrArg Value.bool (isE2 _) | exact congrArg Value.bool (isE3 _) | exact congrArg Value.bool (isE4 _)), H', ⟨Nat.le_refl _⟩, by repeat (first | exact Drawn0.refl _ | apply Drawn0.step)⟩
  case round =>
    clear H'
    try clear c1
    try clear p2
    obtain ⟨x5_1, x6_1, rfl, rfl, HA, HK1, ⟨m1, rfl⟩⟩ := hrel
    cases gk with
    | zero => exact absurd HA.out (by simp [sorrelref02_More.l0])
    | succ k1 =>
      have H := HA.out; clear HA; simp only [sorrelref02_More.l0] at H
      by_cases c3 : x6_1 < (a1.size : Int)
      · rw [if_pos c3] at H; have c3b0 : decide (x6_1 < (a1.size : Int)) = true := decide_eq_true c3; clear c3
        by_cases c4 : 0 ≤ x6_1
        · rw [if_pos c4] at H; have c4b0 : decide (0 ≤ x6_1) = true := decide_eq_true c4; clear c4; have H' := Aside0.mk H; clear H; have p5 : 0 ≤ (x6_1 : Int) := of_decide_eq_true (by first | (with_reducible assumption) | assumption); have q5 : x6_1 < (a1.size : Int) := of_decide_eq_true (by first | (with_reducible assumption) | assumption); have hx5 := bt_at a1 x6_1; replace p5 := eq_true p5; replace q5 := eq_true q5; go_wp2
          go_loopg [5, 7] k1 (fun kq v5 v7 w' => ∃ (x5_2 : Int) (x7_2 : Int), v5 = .int .i64 x5_2 ∧ v7 = .int .i64 x7_2 ∧ Aside0 (sorrelref02_More.l1 kq a1 x5_2 x6_1 x7_2 = some r) ∧ Aside0 (kq ≤ k1) ∧ Drawn0 w w')
          case atStart => exact ⟨(Go.bits .xor .i64 x5_1 (wrap64 (bt a1 x6_1))), (0), (by first | rfl | (simp; done) | (simp [*]; done) | exact isE1 _ | exact isE2 _ | exact isE3 _ | exact isE4 _ | exact congrArg Value.bool (isE1 _) | exact congrArg Value.bool (isE2 _) | exact congrArg Value.bool (isE3 _) | exact congrArg Value.bool (isE4 _)), (by first | rfl | (simp; done) | (simp [*]; done) | exact isE1 _ | exact isE2 _ | exact isE3 _ | exact isE4 _ | exact congrArg Value.bool (isE1 _) | exact congrArg Value.bool (isE2 _) | exact congrArg Value.bool (isE3 _) | exact congrArg Value.bool (isE4 _)), H', ⟨Nat.le_refl _⟩, by repeat (first | exact Drawn0.refl _ | apply Drawn0.step)⟩
          case round =>
            clear H'
            try clear c1
            try clear p2
            try clear c3
            try clear c3b0
            try clear c4
            try clear c4b0
            try clear p5
            try clear q5
            try clear hx5
            try clear p2
            try clear p5
            try clear q5
            obtain ⟨x5_2, x7_2, rfl, rfl, HA, HK2, ⟨m2, rfl⟩⟩ := hrel
            cases gk with
            | zero => exact absurd HA.out (by simp [sorrelref02_More.l1])
            | succ k2 =>
              have H := HA.out; clear HA; simp only [sorrelref02_More.l1] at H
              by_cases c6 : x7_2 < 8
              · rw [if_pos c6] at H; have c6b0 : decide (x7_2 < 8) = true := decide_eq_true c6; clear c6
                by_cases c7 : (Go.bits .and .i64 x5_2 1) = 1
                · rw [if_pos c7] at H; have c7b0 : ((Go.bits .and .i64 x5_2 1) == 1) = true := beq_iff_eq.mpr c7; have c7b1 : ((Go.bits .and .i64 x5_2 1) != 1) = false := bne_eq_false_iff_eq.mpr c7; clear c7; have H' := Aside0.mk H; clear H; go_wp2
                  go_roundg k2
                  case measure => have := HK1.out; have := HK2.out; omega
                  case rel => exact ⟨(Go.bits .xor .i64 (x5_2 / 2) 2197175160), (wrap64 (x7_2 + 1)), (by first | rfl | (simp; done) | (simp [*]; done) | exact isE1 _ | exact isE2 _ | exact isE3 _ | exact isE4 _ | exact congrArg Value.bool (isE1 _) | exact congrArg Value.bool (isE2 _) | exact congrArg Value.bool (isE3 _) | exact congrArg Value.bool (isE4 _)), (by first | rfl | (simp; done) | (simp [*]; done) | exact isE1 _ | exact isE2 _ | exact isE3 _ | exact isE4 _ | exact congrArg Value.bool (isE1 _) | exact congrArg Value.bool (isE2 _) | exact congrArg Value.bool (isE3 _) | exact congrArg Value.bool (isE4 _)), H', ⟨by have := HK1.out; have := HK2.out; omega⟩, by repeat (first | exact Drawn0.refl _ | apply Drawn0.step)⟩
                · rw [if_neg c7] at H; have c7b0 : ((Go.bits .and .i64 x5_2 1) == 1) = false := beq_eq_false_iff_ne.mpr c7; have c7b1 : ((Go.bits .and .i64 x5_2 1) != 1) = true := bne_iff_ne.mpr c7; have H' := Aside0.mk H; clear H; go_wp2
                  go_roundg k2
                  case measure => have := HK1.out; have := HK2.out; omega
                  case rel => exact ⟨(x5_2 / 2), (wrap64 (x7_2 + 1)), (by first | rfl | (simp; done) | (simp [*]; done) | exact isE1 _ | exact isE2 _ | exact isE3 _ | exact isE4 _ | exact congrArg Value.bool (isE1 _) | exact congrArg Value.bool (isE2 _) | exact congrArg Value.bool (isE3 _) | exact congrArg Value.bool (isE4 _)), (by first | rfl | (simp; done) | (simp [*]; done) | exact isE1 _ | exact isE2 _ | exact isE3 _ | exact isE4 _ | exact congrArg Value.bool (isE1 _) | exact congrArg Value.bool (isE2 _) | exact congrArg Value.bool (isE3 _) | exact congrArg Value.bool (isE4 _)), H', ⟨by have := HK1.out; have := HK2.out; omega⟩, by repeat (first | exact Drawn0.refl _ | apply Drawn0.step)⟩
              · rw [if_neg c6] at H; have c6b0 : decide (x7_2 < 8) = false := decide_eq_false c6; clear c6; have H' := Aside0.mk H; clear H; go_wp2
                go_roundg k2
                case measure => have := HK1.out; have := HK2.out; omega
                case rel => exact ⟨(x5_2), (wrap64 (x6_1 + 1)), (by first | rfl | (simp; done) | (simp [*]; done) | exact isE1 _ | exact isE2 _ | exact isE3 _ | exact isE4 _ | exact congrArg Value.bool (isE1 _) | exact congrArg Value.bool (isE2 _) | exact congrArg Value.bool (isE3 _) | exact congrArg Value.bool (isE4 _)), (by first | rfl | (simp; done) | (simp [*]; done) | exact isE1 _ | exact isE2 _ | exact isE3 _ | exact isE4 _ | exact congrArg Value.bool (isE1 _) | exact congrArg Value.bool (isE2 _) | exact congrArg Value.bool (isE3 _) | exact congrArg Value.bool (isE4 _)), H', ⟨by have := HK1.out; have := HK2.out; omega⟩, by repeat (first | exact Drawn0.refl _ | apply Drawn0.step)⟩
        · rw [if_neg c4] at H; exact absurd H (by simp)
      · rw [if_neg c3] at H; have c3b0 : decide (x6_1 < (a1.size : Int)) = false := decide_eq_false c3; clear c3; obtain rfl := Option.some.inj H; go_wp2; go_ret; exact ⟨by first | rfl | (simp; done) | (simp [*]; done) | exact isE1 _ | exact isE2 _ | exact isE3 _ | exact isE4 _ | exact congrArg Value.bool (isE1 _) | exact congrArg Value.bool (isE2 _) | exact congrArg Value.bool (isE3 _) | exact congrArg Value.bool (isE4 _), by repeat (first | exact Drawn0.refl _ | apply Drawn0.step)⟩
def sorrelref02_Sum.f (k : Nat) (a0 : ByteArray) : Option (Int) := (sorrelref02_More.f k 0 a0).bind fun t173 => (some t173)
set_option maxHeartbeats 8000000 in
set_option maxRecDepth 100000 in
theorem sorrelref02_Sum.calls (k : Nat) (a0 : ByteArray) (r : Int) (w : World) (h : sorrelref02_Sum.f k a0 = some r) :
    Calls Try.prog 86 #[.string a0] w fun e w' => e = .returned (.int .i64 r) ∧ Drawn0 w w' := by
  have H : ((sorrelref02_More.f k 0 a0).bind fun t173 => (some t173)) = some r := h
  clear h
  replace H := Option.bind_eq_some_iff.mp H
  obtain ⟨t173, A20, H⟩ := H
  replace H : (some t173) = some r := H
  have A2 := Aside0.mk A20
  clear A20
  obtain rfl := Option.some.inj H
  go_enter Try.func86, Try.ntmps86
  go_wp2_with (first | ((with_reducible refine gate_callee (f := 107) rfl ?_); refine goesL_ (some 4) rfl rfl Try.func107 (by kernel_rfl) rfl #[.int .i64 0, .string a0] rfl (by (try simp only [List.map_toArray, List.map_cons, List.map_nil]); first | done | rfl | (simp only [List.length_drop, List.length_take]; rfl)) ?_; (with_reducible refine (sorrelref02_More.calls k 0 a0 t173 _ A2.out).mono ?_); rintro e w' ⟨rfl, ⟨nd, rfl⟩⟩; refine ⟨_, rfl, ?_⟩))
  go_ret
  exact ⟨by first | rfl | (simp; done) | (simp [*]; done) | exact isE1 _ | exact isE2 _ | exact isE3 _ | exact isE4 _ | exact congrArg Value.bool (isE1 _) | exact congrArg Value.bool (isE2 _) | exact congrArg Value.bool (isE3 _) | exact congrArg Value.bool (isE4 _), by repeat (first | exact Drawn0.refl _ | apply Drawn0.step)⟩
def sorrelref08_place.f (k : Nat) (a0 : ByteArray) (a1 : Int) (a2 : Int) : Option (Int) := (sorrelref02_Sum.f k a0).bind fun t174 => (if a0.size + 1 ≤ 9223372036854775807 then ((sorrelref02_Sum.f k (a0 ++ (⟨#[35]⟩ : ByteArray))).bind fun t175 => (if a2 = 0 then (none) else (some (Int.tmod (wrap64 (t174 + (wrap64 (a1 * (Go.bits .or .i64 t175 1))))) a2)))) else (none))
set_option maxHeartbeats 8000000 in
set_option maxRecDepth 100000 in
theorem sorrelref08_place.calls (k : Nat) (a0 : ByteArray) (a1 : Int) (a2 : Int) (r : Int) (w : World) (h : sorrelref08_place.f k a0 a1 a2 = some r) :
    Calls Try.prog 64 #[.string a0, .int .i64 a1, .int .i64 a2] w fun e w' => e = .returned (.int .i64 r) ∧ Drawn0 w w' := by
  have H : ((sorrelref02_Sum.f k a0).bind fun t174 => (if a0.size + 1 ≤ 9223372036854775807 then ((sorrelref02_Sum.f k (a0 ++ (⟨#[35]⟩ : ByteArray))).bind fun t175 => (if a2 = 0 then (none) else (some (Int.tmod (wrap64 (t174 + (wrap64 (a1 * (Go.bits .or .i64 t175 1))))) a2)))) else (none))) = some r := h
  clear h
  replace H := Option.bind_eq_some_iff.mp H
  obtain ⟨t174, A40, H⟩ := H
  replace H : (if a0.size + 1 ≤ 9223372036854775807 then ((sorrelref02_Sum.f k (a0 ++ (⟨#[35]⟩ : ByteArray))).bind fun t175 => (if a2 = 0 then (none) else (some (Int.tmod (wrap64 (t174 + (wrap64 (a1 * (Go.bits .or .i64 t175 1))))) a2)))) else (none)) = some r := H
  have A4 := Aside0.mk A40
  clear A40
  by_cases c5 : a0.size + 1 ≤ 9223372036854775807
  · rw [if_pos c5] at H; have c5b0 := eq_true c5; have c5b1 : decide (a0.size + 1 ≤ 9223372036854775807) = true := decide_eq_true c5
    try have c5b2 : (9223372036854775807 < a0.size + 1) = False := eq_false (Nat.not_lt.2 c5)
    replace H := Option.bind_eq_some_iff.mp H; obtain ⟨t175, A60, H⟩ := H; replace H : (if a2 = 0 then (none) else (some (Int.tmod (wrap64 (t174 + (wrap64 (a1 * (Go.bits .or .i64 t175 1))))) a2))) = some r := H; have A6 := Aside0.mk A60; clear A60
    by_cases c7 : a2 = 0
    · rw [if_pos c7] at H; exact absurd H (by simp)
    · rw [if_neg c7] at H; have c7b0 : (a2 == 0) = false := beq_eq_false_iff_ne.mpr c7; have c7b1 : (a2 != 0) = true := bne_iff_ne.mpr c7; obtain rfl := Option.some.inj H; go_enter Try.func64, Try.ntmps64
      go_wp2_with (first | ((with_reducible refine gate_callee (f := 86) rfl ?_); refine goesL_ (some 8) rfl rfl Try.func86 (by kernel_rfl) rfl #[.string a0] rfl (by (try simp only [List.map_toArray, List.map_cons, List.map_nil]); first | done | rfl | (simp only [List.length_drop, List.length_take]; rfl)) ?_; (with_reducible refine (sorrelref02_Sum.calls k a0 t174 _ A4.out).mono ?_); rintro e w' ⟨rfl, ⟨nd, rfl⟩⟩; refine ⟨_, rfl, ?_⟩) | ((with_reducible refine gate_callee (f := 86) rfl ?_); refine goesL_ (some 12) rfl rfl Try.func86 (by kernel_rfl) rfl #[.string (a0 ++ (⟨#[35]⟩ : ByteArray))] rfl (by (try simp only [List.map_toArray, List.map_cons, List.map_nil]); first | done | rfl | (simp only [List.length_drop, List.length_take]; rfl)) ?_; (with_reducible refine (sorrelref02_Sum.calls k (a0 ++ (⟨#[35]⟩ : ByteArray)) t175 _ A6.out).mono ?_); rintro e w' ⟨rfl, ⟨nd, rfl⟩⟩; refine ⟨_, rfl, ?_⟩))
      go_ret; exact ⟨by first | rfl | (simp; done) | (simp [*]; done) | exact isE1 _ | exact isE2 _ | exact isE3 _ | exact isE4 _ | exact congrArg Value.bool (isE1 _) | exact congrArg Value.bool (isE2 _) | exact congrArg Value.bool (isE3 _) | exact congrArg Value.bool (isE4 _), by repeat (first | exact Drawn0.refl _ | apply Drawn0.step)⟩
  · rw [if_neg c5] at H; exact absurd H (by simp)
end Go.Proofs.Ytlmoafkmhenejaa.XA
