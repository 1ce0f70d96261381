import Derived.Test.YtlmoafkmhenejaakNXAx0
import Derived.Test.YtlmoafkmhenejaakNMTab6
import Derived.Test.YtlmoafkmhenejaakNXAx3
import Derived.Test.YtlmoafkmhenejaakNXAx4
import Derived.Test.YtlmoafkmhenejaakNXAx6
namespace Go.Proofs.YtlmoafkmhenejaaW.PrintWords
end Go.Proofs.YtlmoafkmhenejaaW.PrintWords
namespace Go.Proofs.YtlmoafkmhenejaaW.PrintLast
end Go.Proofs.YtlmoafkmhenejaaW.PrintLast
namespace Go.Proofs.YtlmoafkmhenejaaW.PrintMore
end Go.Proofs.YtlmoafkmhenejaaW.PrintMore
namespace Go.Proofs.Ytlmoafkmhenejaa.XW
end Go.Proofs.Ytlmoafkmhenejaa.XW
namespace Go.Proofs.Ytlmoafkmhenejaa.XA
open Go.RowKit Go.Proofs.YtlmoafkmhenejaaW.PrintWords Go.Proofs.YtlmoafkmhenejaaW.PrintLast Go.Proofs.YtlmoafkmhenejaaW.PrintMore Go.Proofs.Ytlmoafkmhenejaa.XW
attribute [local go_sem high] max2_str unary_xor_u32 leq_str geq_str gtr_str
attribute [local go_sem] max2_int min2_int max_two min_two max_three min_three max_four min_four   -- for this text's walks alone
set_option linter.unusedVariables false
set_option linter.unusedSimpArgs false
attribute [local go_sem high] eqA43
def block_Take.l0 : Nat → Int → ByteArray → Bool → List S43 → ByteArray → Int → Option (List S43 × Int)
  | 0, _, _, _, _, _, _ => none
  | k + 1, n, s, ok, out, last, i =>
    if i < n then ((block_reader_number.f k s ok).bind fun a => (block_reader_text.f k a.2.1 a.2.2).bind fun b => (block_reader_number.f k b.2.1 b.2.2).bind fun c =>
      if c.2.2 = true then
        (if a.1 ≤ (last.size : Int) then
          (if 0 ≤ a.1 then
            (if (last.extract 0 a.1.toNat).size + b.1.size ≤ 9223372036854775807 then
              ((block_common.f k last (last.extract 0 a.1.toNat ++ b.1)).bind fun d =>
              if d = a.1 then
                (if out.length < 2932031007402 then
                  (if Go.bits .and .i64 c.1 1 = 0 then
                    ((block_reader_text.f k c.2.1 c.2.2).bind fun v => block_Take.l0 k n v.2.1 v.2.2 (out ++ [(⟨last.extract 0 a.1.toNat ++ b.1, v.1, false, c.1 / 2⟩ : S43)]) (last.extract 0 a.1.toNat ++ b.1) (wrap64 (i + 1)))
                  else block_Take.l0 k n c.2.1 c.2.2 (out ++ [(⟨last.extract 0 a.1.toNat ++ b.1, (⟨#[]⟩ : ByteArray), true, c.1 / 2⟩ : S43)]) (last.extract 0 a.1.toNat ++ b.1) (wrap64 (i + 1)))
                else none)
              else some ([], 90))
            else none)
          else none)
        else some ([], 90))
      else some ([], 90))
    else (if ok = true then (if s.toList = ([] : List UInt8) then ((block_Check.f k out).bind fun e => if e = 0 then some (out, 0) else some ([], 90)) else some ([], 90)) else some ([], 90))
def block_Take.f (k : Nat) (a0 : ByteArray) : Option (List S43 × Int) :=
  (crc_Check.f k a0).bind fun c => if c = true then
    (if 0 ≤ wrap64 ((a0.size : Int) - 4) then
      (if wrap64 ((a0.size : Int) - 4) ≤ (a0.size : Int) then
        ((block_reader_number.f k (a0.extract 0 (wrap64 ((a0.size : Int) - 4)).toNat) true).bind fun a =>
          if a.2.2 = true then (if a.1 > 4096 then some ([], 90) else block_Take.l0 k a.1 a.2.1 a.2.2 [] (⟨#[]⟩ : ByteArray) 0) else some ([], 90))
      else none)
    else none)
  else some ([], 90)
theorem R_keepT {w w1 : World} {base g : Nat} {ok : Nat → Prop} {v : Value} {xs : List S43} {cs : Array Value} (h : Kd.R k43 43 w base ok v xs) (hb : w.heap[g]? = some (.cells cs 109 (0, 0))) (hk : KeepBut w w1 g none) : Kd.R k43 43 w1 base ok v xs :=
  Kd.R_mono (Kd.R_keep (Kd.R_types h hb (by decide)) hk (fun _ hk => hk.2)) (fun _ hk => hk.1)
set_option maxHeartbeats 8000000 in
set_option maxRecDepth 100000 in
theorem block_Take.calls (k : Nat) (a0 : ByteArray) (r1 : List S43) (r2 : Int) (w : World) (h : block_Take.f k a0 = some (r1, r2)) :
    Calls Try.prog 55 #[.string a0] w fun e w' => ∃ v0_ : Value, e = .returned (.tuple #[v0_, .int .i64 r2]) ∧ Kd.R k43 43 w' w.heap.size (fun _ => True) v0_ r1 ∧ Below w.heap.size w w' := by
  unfold block_Take.f at h
  obtain ⟨c, hA, h⟩ := Option.bind_eq_some_iff.mp h
  have A1 := Aside0.mk hA
  clear hA
  cases c with
  | false =>
    rw [if_neg (by decide)] at h
    simp only [Option.some.injEq, Prod.mk.injEq] at h
    obtain ⟨rfl, rfl⟩ := h
    go_enter Try.func55, Try.ntmps55
    go_wp2_with (go_at_call 89; (refine (crc_Check.calls k a0 false _ A1.out).mono ?_); rintro e w1 ⟨rfl, hb1⟩; have HB1 := Aside0.mk hb1; clear hb1)
    go_ret2
    exact ⟨_, rfl, Kd.R_nil _ _ _ _ _, HB1.out⟩
  | true =>
    rw [if_pos rfl] at h
    obtain ⟨ji, hji⟩ : ∃ j_ : Int, wrap64 ((a0.size : Int) - 4) = j_ := ⟨_, rfl⟩
    rw [hji] at h
    have hjiw : IntKind.i64.wrap ((a0.size : Int) - 4) = ji := (i64_w _).trans hji
    by_cases c2 : 0 ≤ ji
    · rw [if_pos c2] at h
      by_cases c3 : ji ≤ (a0.size : Int)
      · rw [if_pos c3] at h
        have p2 := eq_true c2
        have p3 := eq_true c3
        have p2b : decide (0 ≤ ji) = true := decide_eq_true c2
        have p3b : decide (ji ≤ (a0.size : Int)) = true := decide_eq_true c3
        obtain ⟨⟨n, s1, ok1⟩, hN, h⟩ := Option.bind_eq_some_iff.mp h
        dsimp only at h
        have A2 := Aside0.mk hN
        clear hN c2 c3
        cases ok1 with
        | false =>
          rw [if_neg (by decide)] at h
          simp only [Option.some.injEq, Prod.mk.injEq] at h
          obtain ⟨rfl, rfl⟩ := h
          go_enter Try.func55, Try.ntmps55
          go_wp2_with (first | (go_at_call 89; (refine (crc_Check.calls k a0 true _ A1.out).mono ?_); rintro e w1 ⟨rfl, hb1⟩; have HB1 := Aside0.mk hb1; clear hb1) | (go_at_call 90; (refine (block_reader_number.calls k w1.heap.size (a0.extract 0 ji.toNat) true n s1 _ w _ (heap_alloc_new w1 _) (below_size HB1.out) (below_alloc HB1.out _) A2.out).mono ?_); rintro e w2 ⟨rfl, hk, hb, hkb⟩; have HK := Aside0.mk hk; have HB := Aside0.mk hb; have HGE := Aside0.mk (below_size HB1.out); have hc0 := (blk_cell hk 0).trans rfl; have hc1 := (blk_cell hk 1).trans rfl; clear hk hb hkb))
          go_ret2
          exact ⟨_, rfl, Kd.R_nil _ _ _ _ _, HB.out⟩
        | true =>
          rw [if_pos rfl] at h
          by_cases c5 : n > 4096
          · rw [if_pos c5] at h
            have c5b : decide (4096 < n) = true := decide_eq_true c5
            clear c5
            simp only [Option.some.injEq, Prod.mk.injEq] at h
            obtain ⟨rfl, rfl⟩ := h
            go_enter Try.func55, Try.ntmps55
            go_wp2_with (first | (go_at_call 89; (refine (crc_Check.calls k a0 true _ A1.out).mono ?_); rintro e w1 ⟨rfl, hb1⟩; have HB1 := Aside0.mk hb1; clear hb1) | (go_at_call 90; (refine (block_reader_number.calls k w1.heap.size (a0.extract 0 ji.toNat) true n s1 _ w _ (heap_alloc_new w1 _) (below_size HB1.out) (below_alloc HB1.out _) A2.out).mono ?_); rintro e w2 ⟨rfl, hk, hb, hkb⟩; have HK := Aside0.mk hk; have HB := Aside0.mk hb; have HGE := Aside0.mk (below_size HB1.out); have hc0 := (blk_cell hk 0).trans rfl; have hc1 := (blk_cell hk 1).trans rfl; clear hk hb hkb))
            go_ret2
            exact ⟨_, rfl, Kd.R_nil _ _ _ _ _, HB.out⟩
          · rw [if_neg c5] at h
            have c5b : decide (4096 < n) = false := decide_eq_false c5
            clear c5
            have H' := Aside0.mk h
            clear h
            go_enter Try.func55, Try.ntmps55
            go_wp2_with (first | (go_at_call 89; (refine (crc_Check.calls k a0 true _ A1.out).mono ?_); rintro e w1 ⟨rfl, hb1⟩; have HB1 := Aside0.mk hb1; clear hb1) | (go_at_call 90; (refine (block_reader_number.calls k w1.heap.size (a0.extract 0 ji.toNat) true n s1 _ w _ (heap_alloc_new w1 _) (below_size HB1.out) (below_alloc HB1.out _) A2.out).mono ?_); rintro e w2 ⟨rfl, hk, hb, hkb⟩; have HK := Aside0.mk hk; have HB := Aside0.mk hb; have HGE := Aside0.mk (below_size HB1.out); have hc0 := (blk_cell hk 0).trans rfl; have hc1 := (blk_cell hk 1).trans rfl; clear hk hb hkb))
            go_loopg [6, 7, 34] k (fun kq v6 v7 v34 w' => ∃ (s : ByteArray) (ok : Bool) (out : List S43) (last : ByteArray) (i : Int), v7 = .string last ∧ v34 = .int .i64 i ∧ Aside0 (block_Take.l0 kq n s ok out last i = some (r1, r2)) ∧ Aside0 (kq ≤ k) ∧ Aside0 (w'.heap[w1.heap.size]? = some (.cells #[.string s, .bool ok] 109 (0, 0))) ∧ Aside0 (Kd.R k43 43 w' w.heap.size (fun _ => True) v6 out) ∧ Aside0 (Below w.heap.size w w'))
            case atStart => exact ⟨_, _, [], _, 0, rfl, rfl, H', ⟨Nat.le_refl _⟩, HK, ⟨Kd.R_nil _ _ _ _ _⟩, HB⟩
            case round =>
              clear H' HK HB hc0 hc1
              obtain ⟨s, ok, out, last, i, rfl, rfl, HA, HKQ, HK, HO, HB⟩ := hrel
              cases gk with
              | zero => exact absurd HA.out (by simp [block_Take.l0])
              | succ k1 =>
                have H := HA.out
                clear HA
                simp only [block_Take.l0] at H
                by_cases ci : i < n
                · rw [if_pos ci] at H
                  have cib : decide (i < n) = true := decide_eq_true ci
                  clear ci
                  obtain ⟨⟨q, s1, ok1⟩, hN1, H⟩ := Option.bind_eq_some_iff.mp H
                  obtain ⟨⟨t, s2, ok2⟩, hT1, H⟩ := Option.bind_eq_some_iff.mp H
                  obtain ⟨⟨c, s3, ok3⟩, hN2, H⟩ := Option.bind_eq_some_iff.mp H
                  dsimp only at hN1 hT1 hN2 H
                  have N1 := Aside0.mk hN1
                  have T1 := Aside0.mk hT1
                  have N2 := Aside0.mk hN2
                  clear hN1 hT1 hN2
                  cases ok3 with
                  | false =>
                    rw [if_neg (by decide)] at H
                    simp only [Option.some.injEq, Prod.mk.injEq] at H
                    obtain ⟨rfl, rfl⟩ := H
                    go_wp2_with (first | ((with_reducible refine gate_callee (f := 90) rfl ?_); refine goesL_ (some 37) rfl rfl Try.func90 (by kernel_rfl) rfl #[.pointer (some ⟨w1.heap.size, 0, none⟩)] rfl (by (try simp only [List.map_toArray, List.map_cons, List.map_nil]); first | done | rfl) ?_; (with_reducible refine (block_reader_number.calls k1 w1.heap.size s ok q s1 ok1 w _ HK.out HGE.out HB.out N1.out).mono ?_); rintro e wwa ⟨rfl, hk, hb, hkb⟩; refine ⟨_, rfl, ?_⟩; have HKa := Aside0.mk hk; have HBa := Aside0.mk hb; have HOa := Aside0.mk (R_keepT HO.out HK.out hkb); have hca0 := (blk_cell hk 0).trans rfl; have hca1 := (blk_cell hk 1).trans rfl; clear hk hb hkb) | ((with_reducible refine gate_callee (f := 91) rfl ?_); refine goesL_ (some 39) rfl rfl Try.func91 (by kernel_rfl) rfl #[.pointer (some ⟨w1.heap.size, 0, none⟩)] rfl (by (try simp only [List.map_toArray, List.map_cons, List.map_nil]); first | done | rfl) ?_; (with_reducible refine (block_reader_text.calls k1 w1.heap.size s1 ok1 t s2 ok2 w _ HKa.out HGE.out HBa.out T1.out).mono ?_); rintro e wwb ⟨rfl, hk, hb, hkb⟩; refine ⟨_, rfl, ?_⟩; have HKb := Aside0.mk hk; have HBb := Aside0.mk hb; have HOb := Aside0.mk (R_keepT HOa.out HKa.out hkb); have hcb0 := (blk_cell hk 0).trans rfl; have hcb1 := (blk_cell hk 1).trans rfl; clear hk hb hkb) | ((with_reducible refine gate_callee (f := 90) rfl ?_); refine goesL_ (some 41) rfl rfl Try.func90 (by kernel_rfl) rfl #[.pointer (some ⟨w1.heap.size, 0, none⟩)] rfl (by (try simp only [List.map_toArray, List.map_cons, List.map_nil]); first | done | rfl) ?_; (with_reducible refine (block_reader_number.calls k1 w1.heap.size s2 ok2 c s3 _ w _ HKb.out HGE.out HBb.out N2.out).mono ?_); rintro e wwc ⟨rfl, hk, hb, hkb⟩; refine ⟨_, rfl, ?_⟩; have HKc := Aside0.mk hk; have HBc := Aside0.mk hb; have HOc := Aside0.mk (R_keepT HOb.out HKb.out hkb); have hcc0 := (blk_cell hk 0).trans rfl; have hcc1 := (blk_cell hk 1).trans rfl; clear hk hb hkb))
                    go_ret2
                    exact ⟨_, rfl, Kd.R_nil _ _ _ _ _, HBc.out⟩
                  | true =>
                    rw [if_pos rfl] at H
                    by_cases c1 : q ≤ (last.size : Int)
                    · rw [if_pos c1] at H
                      by_cases c2 : 0 ≤ q
                      · rw [if_pos c2] at H
                        by_cases c3 : (last.extract 0 q.toNat).size + t.size ≤ 9223372036854775807
                        · rw [if_pos c3] at H
                          have c1b : decide ((last.size : Int) < q) = false := decide_eq_false (by omega)
                          have c1c := eq_true c1
                          have c1d : decide (q ≤ (last.size : Int)) = true := decide_eq_true c1
                          have c2b := eq_true c2
                          have c2c : decide (0 ≤ q) = true := decide_eq_true c2
                          have c3b := eq_true c3
                          have c3c : (9223372036854775807 < (last.extract 0 q.toNat).size + t.size) = False := eq_false (Nat.not_lt.2 c3)
                          clear c1 c2
                          obtain ⟨d, hD, H⟩ := Option.bind_eq_some_iff.mp H
                          have D1 := Aside0.mk hD
                          clear hD
                          by_cases c4 : d = q
                          · rw [if_pos c4] at H
                            subst c4
                            by_cases c5 : out.length < 2932031007402
                            · rw [if_pos c5] at H
                              have LM := Aside0.mk c5
                              clear c5
                              by_cases c6 : Go.bits .and .i64 c 1 = 0
                              · rw [if_pos c6] at H
                                have c6b : (Go.bits .and .i64 c 1 == 0) = true := beq_iff_eq.mpr c6
                                have c6c : (Go.bits .and .i64 c 1 != 0) = false := bne_eq_false_iff_eq.mpr c6
                                clear c6
                                obtain ⟨⟨v, s4, ok4⟩, hT2, H⟩ := Option.bind_eq_some_iff.mp H
                                dsimp only at hT2 H
                                have T2 := Aside0.mk hT2
                                have H' := Aside0.mk H
                                clear hT2 H
                                go_wp2_with (first | ((with_reducible refine gate_callee (f := 90) rfl ?_); refine goesL_ (some 37) rfl rfl Try.func90 (by kernel_rfl) rfl #[.pointer (some ⟨w1.heap.size, 0, none⟩)] rfl (by (try simp only [List.map_toArray, List.map_cons, List.map_nil]); first | done | rfl) ?_; (with_reducible refine (block_reader_number.calls k1 w1.heap.size s ok d s1 ok1 w _ HK.out HGE.out HB.out N1.out).mono ?_); rintro e wwa ⟨rfl, hk, hb, hkb⟩; refine ⟨_, rfl, ?_⟩; have HKa := Aside0.mk hk; have HBa := Aside0.mk hb; have HOa := Aside0.mk (R_keepT HO.out HK.out hkb); have hca0 := (blk_cell hk 0).trans rfl; have hca1 := (blk_cell hk 1).trans rfl; clear hk hb hkb) | ((with_reducible refine gate_callee (f := 91) rfl ?_); refine goesL_ (some 39) rfl rfl Try.func91 (by kernel_rfl) rfl #[.pointer (some ⟨w1.heap.size, 0, none⟩)] rfl (by (try simp only [List.map_toArray, List.map_cons, List.map_nil]); first | done | rfl) ?_; (with_reducible refine (block_reader_text.calls k1 w1.heap.size s1 ok1 t s2 ok2 w _ HKa.out HGE.out HBa.out T1.out).mono ?_); rintro e wwb ⟨rfl, hk, hb, hkb⟩; refine ⟨_, rfl, ?_⟩; have HKb := Aside0.mk hk; have HBb := Aside0.mk hb; have HOb := Aside0.mk (R_keepT HOa.out HKa.out hkb); have hcb0 := (blk_cell hk 0).trans rfl; have hcb1 := (blk_cell hk 1).trans rfl; clear hk hb hkb) | ((with_reducible refine gate_callee (f := 90) rfl ?_); refine goesL_ (some 41) rfl rfl Try.func90 (by kernel_rfl) rfl #[.pointer (some ⟨w1.heap.size, 0, none⟩)] rfl (by (try simp only [List.map_toArray, List.map_cons, List.map_nil]); first | done | rfl) ?_; (with_reducible refine (block_reader_number.calls k1 w1.heap.size s2 ok2 c s3 _ w _ HKb.out HGE.out HBb.out N2.out).mono ?_); rintro e wwc ⟨rfl, hk, hb, hkb⟩; refine ⟨_, rfl, ?_⟩; have HKc := Aside0.mk hk; have HBc := Aside0.mk hb; have HOc := Aside0.mk (R_keepT HOb.out HKb.out hkb); have hcc0 := (blk_cell hk 0).trans rfl; have hcc1 := (blk_cell hk 1).trans rfl; clear hk hb hkb) | (go_at_call 71; (refine (block_common.calls k1 last (last.extract 0 d.toNat ++ t) d _ D1.out).mono ?_); rintro e wwd ⟨rfl, hb⟩; have HKd := Aside0.mk (blk_below HKc.out hb); have HBd := Aside0.mk (below_step HBc.out hb); have HOd := Aside0.mk (Kd.R_below HOc.out hb); clear hb) | (go_at_call 91; (refine (block_reader_text.calls k1 w1.heap.size s3 true v s4 ok4 w (wwd.alloc _) (blk_alloc HKd.out _) HGE.out (below_alloc HBd.out _) T2.out).mono ?_); rintro e wwf ⟨rfl, hk, hb, hkb⟩; have HKf := Aside0.mk hk; have HBf := Aside0.mk hb; have HOf := Aside0.mk (R_keepT (Kd.R_alloc (Kd.R_elderB HOd.out wwd.heap.size (Nat.le_refl _)) _) (blk_alloc HKd.out _) hkb); have hef := (hkb.2 wwd.heap.size (blk_lt (heap_alloc_new wwd _)) (Nat.ne_of_gt (blk_lt HKd.out)) (by simp)).trans (heap_alloc_new wwd _); have hx0 := (blk_cell hef 0).trans rfl; have hx1 := (blk_cell hef 1).trans rfl; have hx2 := (blk_cell hef 2).trans rfl; have hx3 := (blk_cell hef 3).trans rfl; have hz1 := blk_frozen hef 1; clear hk hb hkb hef) | ((with_reducible refine gate_builtin (b := .append) (xs := #[.tmp 83, .tmp 85]) rfl ?_); at_builtin; refine Kd.R_append k43 (w0 := w) w.heap.size rfl (.tmp 83) (.tmp 85) 22 43 (.agg #[(.string ⟨#[]⟩), (.string ⟨#[]⟩), (.bool false), (.int .i64 0)]) 48 rfl Try.underlying22 info43 rfl (by decide) (by omega) u6 out (⟨last.extract 0 d.toNat ++ t, v, false, c / 2⟩ : S43) [.string (last.extract 0 d.toNat ++ t), .string v, .bool false, .int .i64 (c / 2)] (fun _ => True) (fun _ => False) rfl (by first | (go_simp; done) | (go_simp; rfl)) ?aP (fun _ hk => hk.elim) ?aF ?aO ?aB ?aS ?aL ?_; (case aP => exact k43_mkM _ _ _ (⟨last.extract 0 d.toNat ++ t, v, false, c / 2⟩ : S43)); (case aB => exact (by repeat (first | (with_reducible first | exact HBf.out | apply below_alloc | apply pw_below_drewN | apply below_drew1 | refine below_set ?_ (Nat.le_of_lt (Nat.lt_of_le_of_lt HGE.out (blk_lt HKd.out)))) | exact HBf.out))); (case aF => exact (fun _ _ => trivial)); (case aO => exact (by (with_reducible repeat (first | apply Kd.R_alloc | apply Kd.R_drewN | apply Kd.R_drew)); exact (Kd.R_mono (Kd.R_far (p := ⟨wwd.heap.size, 1, none⟩) HOf.out (fun _ hk => hk.2) (.string v)) (fun _ _ => trivial)))); (case aS => exact (below_size (by repeat (first | (with_reducible first | exact HBf.out | apply below_alloc | apply pw_below_drewN | apply below_drew1 | refine below_set ?_ (Nat.le_of_lt (Nat.lt_of_le_of_lt HGE.out (blk_lt HKd.out)))) | exact HBf.out)))); (case aL => have := LM.out; omega); intro v9 w9 ho hb hg hat; have HK9 := Aside0.mk (blk_grown (g := w1.heap.size) (o := .cells #[.string s4, .bool ok4] 109 (0, 0)) (by (with_reducible repeat (first | refine blk_alloc ?_ _ | refine blk_drewN ?_ _ | refine blk_drew ?_)); exact (blk_far HKf.out (p := ⟨wwd.heap.size, 1, none⟩) (Nat.ne_of_lt (blk_lt HKd.out)) (.string v))) hg (Kd.R_ne HOf.out HKf.out (by decide))); have HO9 := Aside0.mk ho; have HB9 := Aside0.mk hb; clear ho hb hg hat))
                                go_roundg k1
                                case measure => have := HKQ.out; omega
                                case rel => exact ⟨s4, ok4, _, _, _, rfl, rfl, H', ⟨by have := HKQ.out; omega⟩, HK9, HO9, HB9⟩
                              · rw [if_neg c6] at H
                                have c6b : (Go.bits .and .i64 c 1 == 0) = false := beq_eq_false_iff_ne.mpr c6
                                have c6c : (Go.bits .and .i64 c 1 != 0) = true := bne_iff_ne.mpr c6
                                clear c6
                                have H' := Aside0.mk H
                                clear H
                                go_wp2_with (first | ((with_reducible refine gate_callee (f := 90) rfl ?_); refine goesL_ (some 37) rfl rfl Try.func90 (by kernel_rfl) rfl #[.pointer (some ⟨w1.heap.size, 0, none⟩)] rfl (by (try simp only [List.map_toArray, List.map_cons, List.map_nil]); first | done | rfl) ?_; (with_reducible refine (block_reader_number.calls k1 w1.heap.size s ok d s1 ok1 w _ HK.out HGE.out HB.out N1.out).mono ?_); rintro e wwa ⟨rfl, hk, hb, hkb⟩; refine ⟨_, rfl, ?_⟩; have HKa := Aside0.mk hk; have HBa := Aside0.mk hb; have HOa := Aside0.mk (R_keepT HO.out HK.out hkb); have hca0 := (blk_cell hk 0).trans rfl; have hca1 := (blk_cell hk 1).trans rfl; clear hk hb hkb) | ((with_reducible refine gate_callee (f := 91) rfl ?_); refine goesL_ (some 39) rfl rfl Try.func91 (by kernel_rfl) rfl #[.pointer (some ⟨w1.heap.size, 0, none⟩)] rfl (by (try simp only [List.map_toArray, List.map_cons, List.map_nil]); first | done | rfl) ?_; (with_reducible refine (block_reader_text.calls k1 w1.heap.size s1 ok1 t s2 ok2 w _ HKa.out HGE.out HBa.out T1.out).mono ?_); rintro e wwb ⟨rfl, hk, hb, hkb⟩; refine ⟨_, rfl, ?_⟩; have HKb := Aside0.mk hk; have HBb := Aside0.mk hb; have HOb := Aside0.mk (R_keepT HOa.out HKa.out hkb); have hcb0 := (blk_cell hk 0).trans rfl; have hcb1 := (blk_cell hk 1).trans rfl; clear hk hb hkb) | ((with_reducible refine gate_callee (f := 90) rfl ?_); refine goesL_ (some 41) rfl rfl Try.func90 (by kernel_rfl) rfl #[.pointer (some ⟨w1.heap.size, 0, none⟩)] rfl (by (try simp only [List.map_toArray, List.map_cons, List.map_nil]); first | done | rfl) ?_; (with_reducible refine (block_reader_number.calls k1 w1.heap.size s2 ok2 c s3 _ w _ HKb.out HGE.out HBb.out N2.out).mono ?_); rintro e wwc ⟨rfl, hk, hb, hkb⟩; refine ⟨_, rfl, ?_⟩; have HKc := Aside0.mk hk; have HBc := Aside0.mk hb; have HOc := Aside0.mk (R_keepT HOb.out HKb.out hkb); have hcc0 := (blk_cell hk 0).trans rfl; have hcc1 := (blk_cell hk 1).trans rfl; clear hk hb hkb) | (go_at_call 71; (refine (block_common.calls k1 last (last.extract 0 d.toNat ++ t) d _ D1.out).mono ?_); rintro e wwd ⟨rfl, hb⟩; have HKd := Aside0.mk (blk_below HKc.out hb); have HBd := Aside0.mk (below_step HBc.out hb); have HOd := Aside0.mk (Kd.R_below HOc.out hb); clear hb) | ((with_reducible refine gate_builtin (b := .append) (xs := #[.tmp 83, .tmp 85]) rfl ?_); at_builtin; refine Kd.R_append k43 (w0 := w) w.heap.size rfl (.tmp 83) (.tmp 85) 22 43 (.agg #[(.string ⟨#[]⟩), (.string ⟨#[]⟩), (.bool false), (.int .i64 0)]) 48 rfl Try.underlying22 info43 rfl (by decide) (by omega) u6 out (⟨last.extract 0 d.toNat ++ t, (⟨#[]⟩ : ByteArray), true, c / 2⟩ : S43) [.string (last.extract 0 d.toNat ++ t), .string (⟨#[]⟩ : ByteArray), .bool true, .int .i64 (c / 2)] (fun _ => True) (fun _ => False) rfl (by first | (go_simp; done) | (go_simp; rfl)) ?aP (fun _ hk => hk.elim) ?aF ?aO ?aB ?aS ?aL ?_; (case aP => exact k43_mkM _ _ _ (⟨last.extract 0 d.toNat ++ t, (⟨#[]⟩ : ByteArray), true, c / 2⟩ : S43)); (case aB => exact (by repeat (first | (with_reducible first | exact HBd.out | apply below_alloc | apply pw_below_drewN | apply below_drew1 | refine below_set ?_ (Nat.le_of_lt (Nat.lt_of_le_of_lt HGE.out (blk_lt HKd.out)))) | exact HBd.out))); (case aF => exact (fun _ _ => trivial)); (case aO => exact (by (with_reducible repeat (first | apply Kd.R_alloc | apply Kd.R_drewN | apply Kd.R_drew)); exact HOd.out)); (case aS => exact (below_size (by repeat (first | (with_reducible first | exact HBd.out | apply below_alloc | apply pw_below_drewN | apply below_drew1 | refine below_set ?_ (Nat.le_of_lt (Nat.lt_of_le_of_lt HGE.out (blk_lt HKd.out)))) | exact HBd.out)))); (case aL => have := LM.out; omega); intro v9 w9 ho hb hg hat; have HK9 := Aside0.mk (blk_grown (g := w1.heap.size) (o := .cells #[.string s3, .bool true] 109 (0, 0)) (by (with_reducible repeat (first | refine blk_alloc ?_ _ | refine blk_drewN ?_ _ | refine blk_drew ?_)); exact HKd.out) hg (Kd.R_ne HOd.out HKd.out (by decide))); have HO9 := Aside0.mk ho; have HB9 := Aside0.mk hb; clear ho hb hg hat))
                                go_roundg k1
                                case measure => have := HKQ.out; omega
                                case rel => exact ⟨s3, true, _, _, _, rfl, rfl, H', ⟨by have := HKQ.out; omega⟩, HK9, HO9, HB9⟩
                            · rw [if_neg c5] at H
                              exact absurd H (by simp)
                          · rw [if_neg c4] at H
                            have c4b : (d == q) = false := beq_eq_false_iff_ne.mpr c4
                            have c4c : (d != q) = true := bne_iff_ne.mpr c4
                            clear c4
                            simp only [Option.some.injEq, Prod.mk.injEq] at H
                            obtain ⟨rfl, rfl⟩ := H
                            go_wp2_with (first | ((with_reducible refine gate_callee (f := 90) rfl ?_); refine goesL_ (some 37) rfl rfl Try.func90 (by kernel_rfl) rfl #[.pointer (some ⟨w1.heap.size, 0, none⟩)] rfl (by (try simp only [List.map_toArray, List.map_cons, List.map_nil]); first | done | rfl) ?_; (with_reducible refine (block_reader_number.calls k1 w1.heap.size s ok q s1 ok1 w _ HK.out HGE.out HB.out N1.out).mono ?_); rintro e wwa ⟨rfl, hk, hb, hkb⟩; refine ⟨_, rfl, ?_⟩; have HKa := Aside0.mk hk; have HBa := Aside0.mk hb; have HOa := Aside0.mk (R_keepT HO.out HK.out hkb); have hca0 := (blk_cell hk 0).trans rfl; have hca1 := (blk_cell hk 1).trans rfl; clear hk hb hkb) | ((with_reducible refine gate_callee (f := 91) rfl ?_); refine goesL_ (some 39) rfl rfl Try.func91 (by kernel_rfl) rfl #[.pointer (some ⟨w1.heap.size, 0, none⟩)] rfl (by (try simp only [List.map_toArray, List.map_cons, List.map_nil]); first | done | rfl) ?_; (with_reducible refine (block_reader_text.calls k1 w1.heap.size s1 ok1 t s2 ok2 w _ HKa.out HGE.out HBa.out T1.out).mono ?_); rintro e wwb ⟨rfl, hk, hb, hkb⟩; refine ⟨_, rfl, ?_⟩; have HKb := Aside0.mk hk; have HBb := Aside0.mk hb; have HOb := Aside0.mk (R_keepT HOa.out HKa.out hkb); have hcb0 := (blk_cell hk 0).trans rfl; have hcb1 := (blk_cell hk 1).trans rfl; clear hk hb hkb) | ((with_reducible refine gate_callee (f := 90) rfl ?_); refine goesL_ (some 41) rfl rfl Try.func90 (by kernel_rfl) rfl #[.pointer (some ⟨w1.heap.size, 0, none⟩)] rfl (by (try simp only [List.map_toArray, List.map_cons, List.map_nil]); first | done | rfl) ?_; (with_reducible refine (block_reader_number.calls k1 w1.heap.size s2 ok2 c s3 _ w _ HKb.out HGE.out HBb.out N2.out).mono ?_); rintro e wwc ⟨rfl, hk, hb, hkb⟩; refine ⟨_, rfl, ?_⟩; have HKc := Aside0.mk hk; have HBc := Aside0.mk hb; have HOc := Aside0.mk (R_keepT HOb.out HKb.out hkb); have hcc0 := (blk_cell hk 0).trans rfl; have hcc1 := (blk_cell hk 1).trans rfl; clear hk hb hkb) | (go_at_call 71; (refine (block_common.calls k1 last (last.extract 0 q.toNat ++ t) d _ D1.out).mono ?_); rintro e wwd ⟨rfl, hb⟩; have HKd := Aside0.mk (blk_below HKc.out hb); have HBd := Aside0.mk (below_step HBc.out hb); have HOd := Aside0.mk (Kd.R_below HOc.out hb); clear hb))
                            go_ret2
                            exact ⟨_, rfl, Kd.R_nil _ _ _ _ _, HBd.out⟩
                        · rw [if_neg c3] at H
                          exact absurd H (by simp)
                      · rw [if_neg c2] at H
                        exact absurd H (by simp)
                    · rw [if_neg c1] at H
                      have c1b : decide ((last.size : Int) < q) = true := decide_eq_true (by omega)
                      clear c1
                      simp only [Option.some.injEq, Prod.mk.injEq] at H
                      obtain ⟨rfl, rfl⟩ := H
                      go_wp2_with (first | ((with_reducible refine gate_callee (f := 90) rfl ?_); refine goesL_ (some 37) rfl rfl Try.func90 (by kernel_rfl) rfl #[.pointer (some ⟨w1.heap.size, 0, none⟩)] rfl (by (try simp only [List.map_toArray, List.map_cons, List.map_nil]); first | done | rfl) ?_; (with_reducible refine (block_reader_number.calls k1 w1.heap.size s ok q s1 ok1 w _ HK.out HGE.out HB.out N1.out).mono ?_); rintro e wwa ⟨rfl, hk, hb, hkb⟩; refine ⟨_, rfl, ?_⟩; have HKa := Aside0.mk hk; have HBa := Aside0.mk hb; have HOa := Aside0.mk (R_keepT HO.out HK.out hkb); have hca0 := (blk_cell hk 0).trans rfl; have hca1 := (blk_cell hk 1).trans rfl; clear hk hb hkb) | ((with_reducible refine gate_callee (f := 91) rfl ?_); refine goesL_ (some 39) rfl rfl Try.func91 (by kernel_rfl) rfl #[.pointer (some ⟨w1.heap.size, 0, none⟩)] rfl (by (try simp only [List.map_toArray, List.map_cons, List.map_nil]); first | done | rfl) ?_; (with_reducible refine (block_reader_text.calls k1 w1.heap.size s1 ok1 t s2 ok2 w _ HKa.out HGE.out HBa.out T1.out).mono ?_); rintro e wwb ⟨rfl, hk, hb, hkb⟩; refine ⟨_, rfl, ?_⟩; have HKb := Aside0.mk hk; have HBb := Aside0.mk hb; have HOb := Aside0.mk (R_keepT HOa.out HKa.out hkb); have hcb0 := (blk_cell hk 0).trans rfl; have hcb1 := (blk_cell hk 1).trans rfl; clear hk hb hkb) | ((with_reducible refine gate_callee (f := 90) rfl ?_); refine goesL_ (some 41) rfl rfl Try.func90 (by kernel_rfl) rfl #[.pointer (some ⟨w1.heap.size, 0, none⟩)] rfl (by (try simp only [List.map_toArray, List.map_cons, List.map_nil]); first | done | rfl) ?_; (with_reducible refine (block_reader_number.calls k1 w1.heap.size s2 ok2 c s3 _ w _ HKb.out HGE.out HBb.out N2.out).mono ?_); rintro e wwc ⟨rfl, hk, hb, hkb⟩; refine ⟨_, rfl, ?_⟩; have HKc := Aside0.mk hk; have HBc := Aside0.mk hb; have HOc := Aside0.mk (R_keepT HOb.out HKb.out hkb); have hcc0 := (blk_cell hk 0).trans rfl; have hcc1 := (blk_cell hk 1).trans rfl; clear hk hb hkb))
                      go_ret2
                      exact ⟨_, rfl, Kd.R_nil _ _ _ _ _, HBc.out⟩
                · rw [if_neg ci] at H
                  have cib : decide (i < n) = false := decide_eq_false ci
                  clear ci
                  have hc0 : wr.cell? ⟨w1.heap.size, 0, none⟩ = some (.string s) := (blk_cell HK.out 0).trans rfl
                  have hc1 : wr.cell? ⟨w1.heap.size, 1, none⟩ = some (.bool ok) := (blk_cell HK.out 1).trans rfl
                  cases ok with
                  | false =>
                    rw [if_neg (by decide)] at H
                    simp only [Option.some.injEq, Prod.mk.injEq] at H
                    obtain ⟨rfl, rfl⟩ := H
                    go_wp2
                    go_ret2
                    exact ⟨_, rfl, Kd.R_nil _ _ _ _ _, HB.out⟩
                  | true =>
                    rw [if_pos rfl] at H
                    by_cases ce : s.toList = ([] : List UInt8)
                    · rw [if_pos ce] at H
                      have ce0 : (s.toList == ([] : List UInt8)) = true := beq_iff_eq.mpr ce
                      have ce1 : s.toList.isEmpty = true := by rw [ce]; rfl
                      have ce2 : (s.toList != ([] : List UInt8)) = false := bne_eq_false_iff_eq.mpr ce
                      obtain ⟨e, hE, H⟩ := Option.bind_eq_some_iff.mp H
                      have E1 := Aside0.mk hE
                      clear hE ce
                      obtain ⟨Ao, co, eo⟩ := Kd.R_slice HO.out
                      subst eo
                      by_cases c7 : e = 0
                      · rw [if_pos c7] at H
                        subst c7
                        simp only [Option.some.injEq, Prod.mk.injEq] at H
                        obtain ⟨rfl, rfl⟩ := H
                        go_wp2_with (first | (go_at_call 32; (refine (block_Check.calls k1 _ _ out _ _ (Kd.R_reads' HO.out).2.2 (Kd.R_reads' HO.out).2.1 E1.out).mono ?_); rintro e w5 ⟨rfl, hbe⟩; have HBE := Aside0.mk hbe; clear hbe))
                        go_ret2
                        exact ⟨_, rfl, Kd.R_below HO.out HBE.out, below_step HB.out HBE.out⟩
                      · rw [if_neg c7] at H
                        have c7b : (e == 0) = false := beq_eq_false_iff_ne.mpr c7
                        have c7c : (e != 0) = true := bne_iff_ne.mpr c7
                        clear c7
                        simp only [Option.some.injEq, Prod.mk.injEq] at H
                        obtain ⟨rfl, rfl⟩ := H
                        go_wp2_with (first | (go_at_call 32; (refine (block_Check.calls k1 _ _ out _ _ (Kd.R_reads' HO.out).2.2 (Kd.R_reads' HO.out).2.1 E1.out).mono ?_); rintro e w5 ⟨rfl, hbe⟩; have HBE := Aside0.mk hbe; clear hbe))
                        go_ret2
                        exact ⟨_, rfl, Kd.R_nil _ _ _ _ _, below_step HB.out HBE.out⟩
                    · rw [if_neg ce] at H
                      have ce0 : (s.toList == ([] : List UInt8)) = false := beq_eq_false_iff_ne.mpr ce
                      have ce1 : s.toList.isEmpty = false := by rw [isE3]; exact ce0
                      have ce2 : (s.toList != ([] : List UInt8)) = true := bne_iff_ne.mpr ce
                      clear ce
                      simp only [Option.some.injEq, Prod.mk.injEq] at H
                      obtain ⟨rfl, rfl⟩ := H
                      go_wp2
                      go_ret2
                      exact ⟨_, rfl, Kd.R_nil _ _ _ _ _, HB.out⟩
      · rw [if_neg c3] at h
        exact absurd h (by simp)
    · rw [if_neg c2] at h
      exact absurd h (by simp)
def sorrelref04_Same.l0 : Nat → List (S43) → List (S43) → Int → Option (Bool)
  | 0, _, _, _ => none
  | k + 1, x0, x1, x5 => if x5 < (x0.length : Int) then (if 0 ≤ x5 then (if x5 < (x1.length : Int) then (if (!((((rd_T43 x0 x5).f0).toList) == (((rd_T43 x1 x5).f0).toList)) || (!((((rd_T43 x0 x5).f1).toList) == (((rd_T43 x1 x5).f1).toList)) || (!(((rd_T43 x0 x5).f2) == ((rd_T43 x1 x5).f2)) || (!(((rd_T43 x0 x5).f3) == ((rd_T43 x1 x5).f3)))))) = true then (some false) else (sorrelref04_Same.l0 k x0 x1 (wrap64 (x5 + 1)))) else (none)) else (none)) else (some true)
def sorrelref04_Same.f (k : Nat) (l0 : List (S43)) (l1 : List (S43)) : Option (Bool) := if (l0.length : Int) = (l1.length : Int) then (sorrelref04_Same.l0 k l0 l1 0) else (some false)
set_option maxHeartbeats 8000000 in
set_option maxRecDepth 100000 in
theorem sorrelref04_Same.calls (k : Nat) (A0 : Option Addr) (c0 : Nat) (l0 : List (S43)) (A1 : Option Addr) (c1 : Nat) (l1 : List (S43)) (r : Bool) (w : World) (hr0 : Kd.C k43 w A0 l0.length l0) (hc0 : l0.length ≤ c0) (hr1 : Kd.C k43 w A1 l1.length l1) (hc1 : l1.length ≤ c1) (h : sorrelref04_Same.f k l0 l1 = some r) :
    Calls Try.prog 19 #[.slice A0 l0.length c0, .slice A1 l1.length c1] w fun e w' => e = .returned (.bool r) ∧ Drawn0 w w' := by
  have hu43 := Try.underlying43
  have HR0 := Aside0.mk hr0
  have HC0 := Aside0.mk hc0
  clear hr0 hc0
  have HR1 := Aside0.mk hr1
  have HC1 := Aside0.mk hc1
  clear hr1 hc1
  have H : (if (l0.length : Int) = (l1.length : Int) then (sorrelref04_Same.l0 k l0 l1 0) else (some false)) = some r := h
  clear h
  by_cases c3 : (l0.length : Int) = (l1.length : Int)
  · rw [if_pos c3] at H
    have c3b0 : ((l0.length : Int) == (l1.length : Int)) = true := beq_iff_eq.mpr c3
    have c3b1 : ((l0.length : Int) != (l1.length : Int)) = false := bne_eq_false_iff_eq.mpr c3
    have c3b2 : (l0.length == l1.length) = true := by first | simpa using c3 | (simp at c3 ⊢; omega)
    clear c3
    have H' := Aside0.mk H
    clear H
    go_enter Try.func19, Try.ntmps19
    go_wp2
    repeat (go_quiet (fail); try go_wp2)
    go_loopg [5] k (fun kq v5 w' => ∃ (x5_1 : Int), v5 = .int .i64 x5_1 ∧ Aside0 (sorrelref04_Same.l0 kq l0 l1 x5_1 = some r) ∧ Aside0 (kq ≤ k) ∧ Drawn0 w w')
    case atStart => exact ⟨(0), (by first | rfl | (simp; done) | (simp [*]; done) | exact isE1 _ | exact isE2 _ | exact isE3 _ | exact isE4 _ | exact congrArg Value.bool (isE1 _) | exact congrArg Value.bool (isE2 _) | exact congrArg Value.bool (isE3 _) | exact congrArg Value.bool (isE4 _)), H', ⟨Nat.le_refl _⟩, by repeat (first | exact Drawn0.refl _ | apply Drawn0.step)⟩
    case round =>
      clear H'
      try clear c1
      try clear p2
      try clear c3
      try clear c3b0
      try clear c3b1
      try clear c3b2
      obtain ⟨x5_1, rfl, HA, HK1, ⟨m1, rfl⟩⟩ := hrel
      cases gk with
      | zero => exact absurd HA.out (by simp [sorrelref04_Same.l0])
      | succ k1 =>
        have H := HA.out
        clear HA
        simp only [sorrelref04_Same.l0] at H
        by_cases c4 : x5_1 < (l0.length : Int)
        · rw [if_pos c4] at H
          have c4b0 : decide (x5_1 < (l0.length : Int)) = true := decide_eq_true c4
          clear c4
          by_cases c5 : 0 ≤ x5_1
          · rw [if_pos c5] at H
            have c5b0 : decide (0 ≤ x5_1) = true := decide_eq_true c5
            clear c5
            by_cases c6 : x5_1 < (l1.length : Int)
            · rw [if_pos c6] at H
              have c6b0 : decide (x5_1 < (l1.length : Int)) = true := decide_eq_true c6
              clear c6
              by_cases c7 : (!((((rd_T43 l0 x5_1).f0).toList) == (((rd_T43 l1 x5_1).f0).toList)) || (!((((rd_T43 l0 x5_1).f1).toList) == (((rd_T43 l1 x5_1).f1).toList)) || (!(((rd_T43 l0 x5_1).f2) == ((rd_T43 l1 x5_1).f2)) || (!(((rd_T43 l0 x5_1).f3) == ((rd_T43 l1 x5_1).f3)))))) = true
              · rw [if_pos c7] at H
                have c7b0 : (!((((rd_T43 l0 x5_1).f0).toList) == (((rd_T43 l1 x5_1).f0).toList)) || (!((((rd_T43 l0 x5_1).f1).toList) == (((rd_T43 l1 x5_1).f1).toList)) || (!(((rd_T43 l0 x5_1).f2) == ((rd_T43 l1 x5_1).f2)) || (!(((rd_T43 l0 x5_1).f3) == ((rd_T43 l1 x5_1).f3)))))) = true := c7
                clear c7
                obtain rfl := Option.some.inj H
                have p160 : 0 ≤ (x5_1 : Int) := of_decide_eq_true (by first | (with_reducible assumption) | assumption)
                have q160 : x5_1 < (l0.length : Int) := of_decide_eq_true (by first | (with_reducible assumption) | assumption)
                obtain ⟨ad160, e160, hx160_0, hx160_1, hx160_2, hx160_3⟩ := at_T43 HR0.out x5_1 p160 q160
                cases e160
                replace p160 := eq_true p160
                replace q160 := eq_true q160
                have p161 : 0 ≤ (x5_1 : Int) := of_decide_eq_true (by first | (with_reducible assumption) | assumption)
                have q161 : x5_1 < (l1.length : Int) := of_decide_eq_true (by first | (with_reducible assumption) | assumption)
                obtain ⟨ad161, e161, hx161_0, hx161_1, hx161_2, hx161_3⟩ := at_T43 HR1.out x5_1 p161 q161
                cases e161
                replace p161 := eq_true p161
                replace q161 := eq_true q161
                go_wp2
                repeat (go_quiet (fail); try go_wp2)
                go_ret
                exact ⟨by first | rfl | (simp; done) | (simp [*]; done) | exact isE1 _ | exact isE2 _ | exact isE3 _ | exact isE4 _ | exact congrArg Value.bool (isE1 _) | exact congrArg Value.bool (isE2 _) | exact congrArg Value.bool (isE3 _) | exact congrArg Value.bool (isE4 _), by repeat (first | exact Drawn0.refl _ | apply Drawn0.step)⟩
              · rw [if_neg c7] at H
                have c7b0 : (!((((rd_T43 l0 x5_1).f0).toList) == (((rd_T43 l1 x5_1).f0).toList)) || (!((((rd_T43 l0 x5_1).f1).toList) == (((rd_T43 l1 x5_1).f1).toList)) || (!(((rd_T43 l0 x5_1).f2) == ((rd_T43 l1 x5_1).f2)) || (!(((rd_T43 l0 x5_1).f3) == ((rd_T43 l1 x5_1).f3)))))) = false := by simpa using c7
                clear c7
                have H' := Aside0.mk H
                clear H
                have p160 : 0 ≤ (x5_1 : Int) := of_decide_eq_true (by first | (with_reducible assumption) | assumption)
                have q160 : x5_1 < (l0.length : Int) := of_decide_eq_true (by first | (with_reducible assumption) | assumption)
                obtain ⟨ad160, e160, hx160_0, hx160_1, hx160_2, hx160_3⟩ := at_T43 HR0.out x5_1 p160 q160
                cases e160
                replace p160 := eq_true p160
                replace q160 := eq_true q160
                have p161 : 0 ≤ (x5_1 : Int) := of_decide_eq_true (by first | (with_reducible assumption) | assumption)
                have q161 : x5_1 < (l1.length : Int) := of_decide_eq_true (by first | (with_reducible assumption) | assumption)
                obtain ⟨ad161, e161, hx161_0, hx161_1, hx161_2, hx161_3⟩ := at_T43 HR1.out x5_1 p161 q161
                cases e161
                replace p161 := eq_true p161
                replace q161 := eq_true q161
                go_wp2
                repeat (go_quiet (fail); try go_wp2)
                go_roundg k1
                case measure => have := HK1.out; omega
                case rel => exact ⟨(wrap64 (x5_1 + 1)), (by first | rfl | (simp; done) | (simp [*]; done) | exact isE1 _ | exact isE2 _ | exact isE3 _ | exact isE4 _ | exact congrArg Value.bool (isE1 _) | exact congrArg Value.bool (isE2 _) | exact congrArg Value.bool (isE3 _) | exact congrArg Value.bool (isE4 _)), H', ⟨by have := HK1.out; omega⟩, by repeat (first | exact Drawn0.refl _ | apply Drawn0.step)⟩
            · rw [if_neg c6] at H
              exact absurd H (by simp)
          · rw [if_neg c5] at H
            exact absurd H (by simp)
        · rw [if_neg c4] at H
          have c4b0 : decide (x5_1 < (l0.length : Int)) = false := decide_eq_false c4
          clear c4
          obtain rfl := Option.some.inj H
          go_wp2
          repeat (go_quiet (fail); try go_wp2)
          go_ret
          exact ⟨by first | rfl | (simp; done) | (simp [*]; done) | exact isE1 _ | exact isE2 _ | exact isE3 _ | exact isE4 _ | exact congrArg Value.bool (isE1 _) | exact congrArg Value.bool (isE2 _) | exact congrArg Value.bool (isE3 _) | exact congrArg Value.bool (isE4 _), by repeat (first | exact Drawn0.refl _ | apply Drawn0.step)⟩
  · rw [if_neg c3] at H
    have c3b0 : ((l0.length : Int) == (l1.length : Int)) = false := beq_eq_false_iff_ne.mpr c3
    have c3b1 : ((l0.length : Int) != (l1.length : Int)) = true := bne_iff_ne.mpr c3
    have c3b2 : (l0.length == l1.length) = false := by first | simpa using c3 | (simp at c3 ⊢; omega)
    obtain rfl := Option.some.inj H
    go_enter Try.func19, Try.ntmps19
    go_wp2
    repeat (go_quiet (fail); try go_wp2)
    go_ret
    exact ⟨by first | rfl | (simp; done) | (simp [*]; done) | exact isE1 _ | exact isE2 _ | exact isE3 _ | exact isE4 _ | exact congrArg Value.bool (isE1 _) | exact congrArg Value.bool (isE2 _) | exact congrArg Value.bool (isE3 _) | exact congrArg Value.bool (isE4 _), by repeat (first | exact Drawn0.refl _ | apply Drawn0.step)⟩
def span_ahead.f (a0 : ByteArray) (a1 : ByteArray) : Option (Bool) := if a1.toList = ([] : List UInt8) then (some true) else (some (Op.bytesLess a0.toList a1.toList))
set_option maxHeartbeats 8000000 in
set_option maxRecDepth 100000 in
theorem span_ahead.calls (a0 : ByteArray) (a1 : ByteArray) (r : Bool) (w : World) (h : span_ahead.f a0 a1 = some r) :
    Calls Try.prog 110 #[.string a0, .string a1] w fun e w' => e = .returned (.bool r) ∧ Drawn0 w w' := by
  have H : (if a1.toList = ([] : List UInt8) then (some true) else (some (Op.bytesLess a0.toList a1.toList))) = some r := h
  clear h
  by_cases c3 : a1.toList = ([] : List UInt8)
  · rw [if_pos c3] at H
    have c3b0 : (a1.toList == ([] : List UInt8)) = true := beq_iff_eq.mpr c3
    have c3b1 : (a1.toList != ([] : List UInt8)) = false := bne_eq_false_iff_eq.mpr c3
    clear c3
    obtain rfl := Option.some.inj H
    go_enter Try.func110, Try.ntmps110
    go_wp2
    go_ret
    exact ⟨by first | rfl | (simp; done) | (simp [*]; done) | exact isE1 _ | exact isE2 _ | exact isE3 _ | exact isE4 _ | exact congrArg Value.bool (isE1 _) | exact congrArg Value.bool (isE2 _) | exact congrArg Value.bool (isE3 _) | exact congrArg Value.bool (isE4 _), by repeat (first | exact Drawn0.refl _ | apply Drawn0.step)⟩
  · rw [if_neg c3] at H
    have c3b0 : (a1.toList == ([] : List UInt8)) = false := beq_eq_false_iff_ne.mpr c3
    have c3b1 : (a1.toList != ([] : List UInt8)) = true := bne_iff_ne.mpr c3
    obtain rfl := Option.some.inj H
    go_enter Try.func110, Try.ntmps110
    go_wp2
    go_ret
    exact ⟨by first | rfl | (simp; done) | (simp [*]; done) | exact isE1 _ | exact isE2 _ | exact isE3 _ | exact isE4 _ | exact congrArg Value.bool (isE1 _) | exact congrArg Value.bool (isE2 _) | exact congrArg Value.bool (isE3 _) | exact congrArg Value.bool (isE4 _), by repeat (first | exact Drawn0.refl _ | apply Drawn0.step)⟩
def span_may.f (a0_0 : ByteArray) (a0_1 : ByteArray) : Option (Bool) := if (a0_0.size : Int) ≤ 64 then (if (a0_1.size : Int) ≤ 64 then ((span_ahead.f a0_0 a0_1).bind fun t163 => (some t163)) else (some false)) else (some false)
set_option maxHeartbeats 8000000 in
set_option maxRecDepth 100000 in
theorem span_may.calls (a0_0 : ByteArray) (a0_1 : ByteArray) (r : Bool) (w : World) (h : span_may.f a0_0 a0_1 = some r) :
    Calls Try.prog 109 #[.agg #[.string a0_0, .string a0_1]] w fun e w' => e = .returned (.bool r) ∧ Below w.heap.size w w' := by
  have hu38 := Try.underlying38
  have HB := Aside0.mk (Below.refl w.heap.size w)
  have H : (if (a0_0.size : Int) ≤ 64 then (if (a0_1.size : Int) ≤ 64 then ((span_ahead.f a0_0 a0_1).bind fun t163 => (some t163)) else (some false)) else (some false)) = some r := h
  clear h
  by_cases c2 : (a0_0.size : Int) ≤ 64
  · rw [if_pos c2] at H
    have c2b0 : decide ((a0_0.size : Int) ≤ 64) = true := decide_eq_true c2
    have c2b1 : decide (a0_0.size ≤ 64) = true := decide_eq_true (by omega)
    clear c2
    by_cases c3 : (a0_1.size : Int) ≤ 64
    · rw [if_pos c3] at H
      have c3b0 : decide ((a0_1.size : Int) ≤ 64) = true := decide_eq_true c3
      have c3b1 : decide (a0_1.size ≤ 64) = true := decide_eq_true (by omega)
      clear c3
      replace H := Option.bind_eq_some_iff.mp H
      obtain ⟨t163, A40, H⟩ := H
      replace H : (some t163) = some r := H
      have A4 := Aside0.mk A40
      clear A40
      obtain rfl := Option.some.inj H
      go_enter Try.func109, Try.ntmps109
      go_wp2_with (first | ((with_reducible refine gate_dst (N := 1) rfl ?_); (try (refine gate_guard (by rfl) ?_; dsimp only)); refine box_event ?hg (N := 1) ?hd (cs := #[.string a0_0, .string a0_1]) (t := 38) ?hr ?_; (case hd => rfl); (case hg => rfl); (case hr => first | (go_simp; done) | (go_simp; rfl)); intro gb162 hg w5 hbox hb; have n0_ := Aside0.mk (below_step (by repeat (first | (with_reducible first | exact HB.out | apply below_alloc | apply pw_below_drewN | apply below_drew1) | exact HB.out)) hb); have n1_ := Aside0.mk (hbox); have n2_ := Aside0.mk ((by rw [hg]; exact (below_size (by repeat (first | (with_reducible first | exact HB.out | apply below_alloc | apply pw_below_drewN | apply below_drew1) | exact HB.out))) : w.heap.size ≤ gb162)); have n3_ := Aside0.mk ((by rw [hg]; exact (below_size (by repeat (first | (with_reducible first | exact HB.out | apply below_alloc | apply pw_below_drewN | apply below_drew1) | exact HB.out))) : w.heap.size ≤ gb162)); clear HB; have HB := n0_; have BK162 := n1_; have GW162 := n2_; have GE162 := n3_; clear n0_ n1_ n2_ n3_; clear hb hbox hg; have hcz6_0 : w5.cell? ⟨gb162, 0, none⟩ = some (.string a0_0) := (blk_cell BK162.out 0).trans rfl; have hcz6_1 : w5.cell? ⟨gb162, 1, none⟩ = some (.string a0_1) := (blk_cell BK162.out 1).trans rfl; have hfz6_0 := blk_frozen BK162.out 0; have hfz6_1 := blk_frozen BK162.out 1) | (go_at_call 110; (with_reducible refine (span_ahead.calls a0_0 a0_1 t163 _ A4.out).mono ?_); rintro e w' ⟨rfl, ⟨nd, rfl⟩⟩))
      go_ret
      exact ⟨by first | rfl | (simp [errW_none, errW_some] <;> rfl) | (simp [*, errW_none, errW_some] <;> rfl), by repeat (first | (with_reducible first | exact HB.out | apply below_alloc | apply pw_below_drewN | apply below_drew1 | refine below_set ?_ GE162.out) | exact HB.out)⟩
    · rw [if_neg c3] at H
      have c3b0 : decide ((a0_1.size : Int) ≤ 64) = false := decide_eq_false c3
      have c3b1 : decide (a0_1.size ≤ 64) = false := decide_eq_false (by omega)
      clear c3
      obtain rfl := Option.some.inj H
      go_enter Try.func109, Try.ntmps109
      go_wp2_with (first | ((with_reducible refine gate_dst (N := 1) rfl ?_); (try (refine gate_guard (by rfl) ?_; dsimp only)); refine box_event ?hg (N := 1) ?hd (cs := #[.string a0_0, .string a0_1]) (t := 38) ?hr ?_; (case hd => rfl); (case hg => rfl); (case hr => first | (go_simp; done) | (go_simp; rfl)); intro gb162 hg w7 hbox hb; have n0_ := Aside0.mk (below_step (by repeat (first | (with_reducible first | exact HB.out | apply below_alloc | apply pw_below_drewN | apply below_drew1) | exact HB.out)) hb); have n1_ := Aside0.mk (hbox); have n2_ := Aside0.mk ((by rw [hg]; exact (below_size (by repeat (first | (with_reducible first | exact HB.out | apply below_alloc | apply pw_below_drewN | apply below_drew1) | exact HB.out))) : w.heap.size ≤ gb162)); have n3_ := Aside0.mk ((by rw [hg]; exact (below_size (by repeat (first | (with_reducible first | exact HB.out | apply below_alloc | apply pw_below_drewN | apply below_drew1) | exact HB.out))) : w.heap.size ≤ gb162)); clear HB; have HB := n0_; have BK162 := n1_; have GW162 := n2_; have GE162 := n3_; clear n0_ n1_ n2_ n3_; clear hb hbox hg; have hcz8_0 : w7.cell? ⟨gb162, 0, none⟩ = some (.string a0_0) := (blk_cell BK162.out 0).trans rfl; have hcz8_1 : w7.cell? ⟨gb162, 1, none⟩ = some (.string a0_1) := (blk_cell BK162.out 1).trans rfl; have hfz8_0 := blk_frozen BK162.out 0; have hfz8_1 := blk_frozen BK162.out 1))
      go_ret
      exact ⟨by first | rfl | (simp [errW_none, errW_some] <;> rfl) | (simp [*, errW_none, errW_some] <;> rfl), by repeat (first | (with_reducible first | exact HB.out | apply below_alloc | apply pw_below_drewN | apply below_drew1 | refine below_set ?_ GE162.out) | exact HB.out)⟩
  · rw [if_neg c2] at H
    have c2b0 : decide ((a0_0.size : Int) ≤ 64) = false := decide_eq_false c2
    have c2b1 : decide (a0_0.size ≤ 64) = false := decide_eq_false (by omega)
    clear c2
    obtain rfl := Option.some.inj H
    go_enter Try.func109, Try.ntmps109
    go_wp2_with (first | ((with_reducible refine gate_dst (N := 1) rfl ?_); (try (refine gate_guard (by rfl) ?_; dsimp only)); refine box_event ?hg (N := 1) ?hd (cs := #[.string a0_0, .string a0_1]) (t := 38) ?hr ?_; (case hd => rfl); (case hg => rfl); (case hr => first | (go_simp; done) | (go_simp; rfl)); intro gb162 hg w9 hbox hb; have n0_ := Aside0.mk (below_step (by repeat (first | (with_reducible first | exact HB.out | apply below_alloc | apply pw_below_drewN | apply below_drew1) | exact HB.out)) hb); have n1_ := Aside0.mk (hbox); have n2_ := Aside0.mk ((by rw [hg]; exact (below_size (by repeat (first | (with_reducible first | exact HB.out | apply below_alloc | apply pw_below_drewN | apply below_drew1) | exact HB.out))) : w.heap.size ≤ gb162)); have n3_ := Aside0.mk ((by rw [hg]; exact (below_size (by repeat (first | (with_reducible first | exact HB.out | apply below_alloc | apply pw_below_drewN | apply below_drew1) | exact HB.out))) : w.heap.size ≤ gb162)); clear HB; have HB := n0_; have BK162 := n1_; have GW162 := n2_; have GE162 := n3_; clear n0_ n1_ n2_ n3_; clear hb hbox hg; have hcz10_0 : w9.cell? ⟨gb162, 0, none⟩ = some (.string a0_0) := (blk_cell BK162.out 0).trans rfl; have hcz10_1 : w9.cell? ⟨gb162, 1, none⟩ = some (.string a0_1) := (blk_cell BK162.out 1).trans rfl; have hfz10_0 := blk_frozen BK162.out 0; have hfz10_1 := blk_frozen BK162.out 1))
    go_ret
    exact ⟨by first | rfl | (simp [errW_none, errW_some] <;> rfl) | (simp [*, errW_none, errW_some] <;> rfl), by repeat (first | (with_reducible first | exact HB.out | apply below_alloc | apply pw_below_drewN | apply below_drew1 | refine below_set ?_ GE162.out) | exact HB.out)⟩
def span_Has.f (a0_0 : ByteArray) (a0_1 : ByteArray) (a1 : ByteArray) : Option (Bool) := (span_may.f a0_0 a0_1).bind fun t165 => (if t165 = true then ((span_Key.f a1).bind fun t166 => (if t166 = true then (if ((Op.bytesLess a1.toList a0_0.toList) = true) then (some false) else ((span_ahead.f a1 a0_1).bind fun t167 => (some t167))) else (some false))) else (some false))
set_option maxHeartbeats 8000000 in
set_option maxRecDepth 100000 in
theorem span_Has.calls (a0_0 : ByteArray) (a0_1 : ByteArray) (a1 : ByteArray) (r : Bool) (w : World) (h : span_Has.f a0_0 a0_1 a1 = some r) :
    Calls Try.prog 98 #[.agg #[.string a0_0, .string a0_1], .string a1] w fun e w' => e = .returned (.bool r) ∧ Below w.heap.size w w' := by
  have hu38 := Try.underlying38
  have HB := Aside0.mk (Below.refl w.heap.size w)
  have H : ((span_may.f a0_0 a0_1).bind fun t165 => (if t165 = true then ((span_Key.f a1).bind fun t166 => (if t166 = true then (if ((Op.bytesLess a1.toList a0_0.toList) = true) then (some false) else ((span_ahead.f a1 a0_1).bind fun t167 => (some t167))) else (some false))) else (some false))) = some r := h
  clear h
  replace H := Option.bind_eq_some_iff.mp H
  obtain ⟨t165, A30, H⟩ := H
  replace H : (if t165 = true then ((span_Key.f a1).bind fun t166 => (if t166 = true then (if ((Op.bytesLess a1.toList a0_0.toList) = true) then (some false) else ((span_ahead.f a1 a0_1).bind fun t167 => (some t167))) else (some false))) else (some false)) = some r := H
  have A3 := Aside0.mk A30
  clear A30
  by_cases c4 : t165 = true
  · subst c4
    have H1 : ((span_Key.f a1).bind fun t166 => (if t166 = true then (if ((Op.bytesLess a1.toList a0_0.toList) = true) then (some false) else ((span_ahead.f a1 a0_1).bind fun t167 => (some t167))) else (some false))) = some r := by rw [if_pos rfl] at H; exact H
    clear H
    have H := H1
    clear H1
    replace H := Option.bind_eq_some_iff.mp H
    obtain ⟨t166, A50, H⟩ := H
    replace H : (if t166 = true then (if ((Op.bytesLess a1.toList a0_0.toList) = true) then (some false) else ((span_ahead.f a1 a0_1).bind fun t167 => (some t167))) else (some false)) = some r := H
    have A5 := Aside0.mk A50
    clear A50
    by_cases c6 : t166 = true
    · subst c6
      have H1 : (if ((Op.bytesLess a1.toList a0_0.toList) = true) then (some false) else ((span_ahead.f a1 a0_1).bind fun t167 => (some t167))) = some r := by rw [if_pos rfl] at H; exact H
      clear H
      have H := H1
      clear H1
      by_cases c7 : ((Op.bytesLess a1.toList a0_0.toList) = true)
      · rw [if_pos c7] at H
        have c7b0 : (Op.bytesLess a1.toList a0_0.toList) = true := c7
        clear c7
        obtain rfl := Option.some.inj H
        go_enter Try.func98, Try.ntmps98
        go_wp2_with (first | ((with_reducible refine gate_dst (N := 2) rfl ?_); refine box_event ?hg (N := 2) ?hd (cs := #[.string a0_0, .string a0_1]) (t := 38) ?hr ?_; (case hd => rfl); (case hg => rfl); (case hr => first | (go_simp; done) | (go_simp; rfl)); intro gb164 hg w8 hbox hb; have n0_ := Aside0.mk (below_step (by repeat (first | (with_reducible first | exact HB.out | apply below_alloc | apply pw_below_drewN | apply below_drew1) | exact HB.out)) hb); have n1_ := Aside0.mk (hbox); have n2_ := Aside0.mk ((by rw [hg]; exact (below_size (by repeat (first | (with_reducible first | exact HB.out | apply below_alloc | apply pw_below_drewN | apply below_drew1) | exact HB.out))) : w.heap.size ≤ gb164)); have n3_ := Aside0.mk ((by rw [hg]; exact (below_size (by repeat (first | (with_reducible first | exact HB.out | apply below_alloc | apply pw_below_drewN | apply below_drew1) | exact HB.out))) : w.heap.size ≤ gb164)); clear HB; have HB := n0_; have BK164 := n1_; have GW164 := n2_; have GE164 := n3_; clear n0_ n1_ n2_ n3_; clear hb hbox hg; have hcz9_0 : w8.cell? ⟨gb164, 0, none⟩ = some (.string a0_0) := (blk_cell BK164.out 0).trans rfl; have hcz9_1 : w8.cell? ⟨gb164, 1, none⟩ = some (.string a0_1) := (blk_cell BK164.out 1).trans rfl; have hfz9_0 := blk_frozen BK164.out 0; have hfz9_1 := blk_frozen BK164.out 1) | ((with_reducible refine gate_callee (f := 109) rfl ?_); refine goesL_ (some 6) rfl rfl Try.func109 (by kernel_rfl) rfl #[.agg #[.string a0_0, .string a0_1]] rfl (by (try simp only [List.map_toArray, List.map_cons, List.map_nil]); first | done | rfl | (simp only [List.length_drop, List.length_take]; rfl)) ?_; (with_reducible refine (span_may.calls a0_0 a0_1 true _ A3.out).mono ?_); rintro e w10 ⟨rfl, hb⟩; refine ⟨_, rfl, ?_⟩; have n0_ := Aside0.mk (blk_below (g := gb164) (o := .cells #[.string a0_0, .string a0_1] 38 (0, 0)) (by (with_reducible repeat (first | refine blk_drewN ?_ _ | refine blk_drew ?_ | refine blk_alloc ?_ _)); exact BK164.out) hb); have n1_ := Aside0.mk (below_step (by repeat (first | (with_reducible first | exact HB.out | apply below_alloc | apply pw_below_drewN | apply below_drew1 | refine below_set ?_ GE164.out) | exact HB.out)) hb); clear BK164; clear HB; have BK164 := n0_; have HB := n1_; clear n0_ n1_; (try clear hb); (try clear hb2); (try clear hk); (try clear hi)) | (go_at_call 103; (with_reducible refine (span_Key.calls a1 true _ A5.out).mono ?_); rintro e w' ⟨rfl, ⟨nd, rfl⟩⟩; have hcz11_0 : w10.cell? ⟨gb164, 0, none⟩ = some (.string a0_0) := (blk_cell BK164.out 0).trans rfl; have hcz11_1 : w10.cell? ⟨gb164, 1, none⟩ = some (.string a0_1) := (blk_cell BK164.out 1).trans rfl; have hfz11_0 := blk_frozen BK164.out 0; have hfz11_1 := blk_frozen BK164.out 1))
        go_ret
        exact ⟨by first | rfl | (simp [errW_none, errW_some] <;> rfl) | (simp [*, errW_none, errW_some] <;> rfl), by repeat (first | (with_reducible first | exact HB.out | apply below_alloc | apply pw_below_drewN | apply below_drew1 | refine below_set ?_ GE164.out) | exact HB.out)⟩
      · rw [if_neg c7] at H
        have c7b0 : (Op.bytesLess a1.toList a0_0.toList) = false := by simpa using c7
        clear c7
        replace H := Option.bind_eq_some_iff.mp H
        obtain ⟨t167, A120, H⟩ := H
        replace H : (some t167) = some r := H
        have A12 := Aside0.mk A120
        clear A120
        obtain rfl := Option.some.inj H
        go_enter Try.func98, Try.ntmps98
        go_wp2_with (first | ((with_reducible refine gate_dst (N := 2) rfl ?_); refine box_event ?hg (N := 2) ?hd (cs := #[.string a0_0, .string a0_1]) (t := 38) ?hr ?_; (case hd => rfl); (case hg => rfl); (case hr => first | (go_simp; done) | (go_simp; rfl)); intro gb164 hg w13 hbox hb; have n0_ := Aside0.mk (below_step (by repeat (first | (with_reducible first | exact HB.out | apply below_alloc | apply pw_below_drewN | apply below_drew1) | exact HB.out)) hb); have n1_ := Aside0.mk (hbox); have n2_ := Aside0.mk ((by rw [hg]; exact (below_size (by repeat (first | (with_reducible first | exact HB.out | apply below_alloc | apply pw_below_drewN | apply below_drew1) | exact HB.out))) : w.heap.size ≤ gb164)); have n3_ := Aside0.mk ((by rw [hg]; exact (below_size (by repeat (first | (with_reducible first | exact HB.out | apply below_alloc | apply pw_below_drewN | apply below_drew1) | exact HB.out))) : w.heap.size ≤ gb164)); clear HB; have HB := n0_; have BK164 := n1_; have GW164 := n2_; have GE164 := n3_; clear n0_ n1_ n2_ n3_; clear hb hbox hg; have hcz14_0 : w13.cell? ⟨gb164, 0, none⟩ = some (.string a0_0) := (blk_cell BK164.out 0).trans rfl; have hcz14_1 : w13.cell? ⟨gb164, 1, none⟩ = some (.string a0_1) := (blk_cell BK164.out 1).trans rfl; have hfz14_0 := blk_frozen BK164.out 0; have hfz14_1 := blk_frozen BK164.out 1) | ((with_reducible refine gate_callee (f := 109) rfl ?_); refine goesL_ (some 6) rfl rfl Try.func109 (by kernel_rfl) rfl #[.agg #[.string a0_0, .string a0_1]] rfl (by (try simp only [List.map_toArray, List.map_cons, List.map_nil]); first | done | rfl | (simp only [List.length_drop, List.length_take]; rfl)) ?_; (with_reducible refine (span_may.calls a0_0 a0_1 true _ A3.out).mono ?_); rintro e w15 ⟨rfl, hb⟩; refine ⟨_, rfl, ?_⟩; have n0_ := Aside0.mk (blk_below (g := gb164) (o := .cells #[.string a0_0, .string a0_1] 38 (0, 0)) (by (with_reducible repeat (first | refine blk_drewN ?_ _ | refine blk_drew ?_ | refine blk_alloc ?_ _)); exact BK164.out) hb); have n1_ := Aside0.mk (below_step (by repeat (first | (with_reducible first | exact HB.out | apply below_alloc | apply pw_below_drewN | apply below_drew1 | refine below_set ?_ GE164.out) | exact HB.out)) hb); clear BK164; clear HB; have BK164 := n0_; have HB := n1_; clear n0_ n1_; (try clear hb); (try clear hb2); (try clear hk); (try clear hi)) | (go_at_call 103; (with_reducible refine (span_Key.calls a1 true _ A5.out).mono ?_); rintro e w' ⟨rfl, ⟨nd, rfl⟩⟩; have hcz16_0 : w15.cell? ⟨gb164, 0, none⟩ = some (.string a0_0) := (blk_cell BK164.out 0).trans rfl; have hcz16_1 : w15.cell? ⟨gb164, 1, none⟩ = some (.string a0_1) := (blk_cell BK164.out 1).trans rfl; have hfz16_0 := blk_frozen BK164.out 0; have hfz16_1 := blk_frozen BK164.out 1) | (go_at_call 110; (with_reducible refine (span_ahead.calls a1 a0_1 t167 _ A12.out).mono ?_); rintro e w' ⟨rfl, ⟨nd, rfl⟩⟩))
        go_ret
        exact ⟨by first | rfl | (simp [errW_none, errW_some] <;> rfl) | (simp [*, errW_none, errW_some] <;> rfl), by repeat (first | (with_reducible first | exact HB.out | apply below_alloc | apply pw_below_drewN | apply below_drew1 | refine below_set ?_ GE164.out) | exact HB.out)⟩
    · replace c6 := Bool.eq_false_iff.mpr c6
      subst c6
      have H1 : (some false) = some r := by rw [if_neg (show ¬ (false = true) by decide)] at H; exact H
      clear H
      have H := H1
      clear H1
      obtain rfl := Option.some.inj H
      go_enter Try.func98, Try.ntmps98
      go_wp2_with (first | ((with_reducible refine gate_dst (N := 2) rfl ?_); refine box_event ?hg (N := 2) ?hd (cs := #[.string a0_0, .string a0_1]) (t := 38) ?hr ?_; (case hd => rfl); (case hg => rfl); (case hr => first | (go_simp; done) | (go_simp; rfl)); intro gb164 hg w17 hbox hb; have n0_ := Aside0.mk (below_step (by repeat (first | (with_reducible first | exact HB.out | apply below_alloc | apply pw_below_drewN | apply below_drew1) | exact HB.out)) hb); have n1_ := Aside0.mk (hbox); have n2_ := Aside0.mk ((by rw [hg]; exact (below_size (by repeat (first | (with_reducible first | exact HB.out | apply below_alloc | apply pw_below_drewN | apply below_drew1) | exact HB.out))) : w.heap.size ≤ gb164)); have n3_ := Aside0.mk ((by rw [hg]; exact (below_size (by repeat (first | (with_reducible first | exact HB.out | apply below_alloc | apply pw_below_drewN | apply below_drew1) | exact HB.out))) : w.heap.size ≤ gb164)); clear HB; have HB := n0_; have BK164 := n1_; have GW164 := n2_; have GE164 := n3_; clear n0_ n1_ n2_ n3_; clear hb hbox hg; have hcz18_0 : w17.cell? ⟨gb164, 0, none⟩ = some (.string a0_0) := (blk_cell BK164.out 0).trans rfl; have hcz18_1 : w17.cell? ⟨gb164, 1, none⟩ = some (.string a0_1) := (blk_cell BK164.out 1).trans rfl; have hfz18_0 := blk_frozen BK164.out 0; have hfz18_1 := blk_frozen BK164.out 1) | ((with_reducible refine gate_callee (f := 109) rfl ?_); refine goesL_ (some 6) rfl rfl Try.func109 (by kernel_rfl) rfl #[.agg #[.string a0_0, .string a0_1]] rfl (by (try simp only [List.map_toArray, List.map_cons, List.map_nil]); first | done | rfl | (simp only [List.length_drop, List.length_take]; rfl)) ?_; (with_reducible refine (span_may.calls a0_0 a0_1 true _ A3.out).mono ?_); rintro e w19 ⟨rfl, hb⟩; refine ⟨_, rfl, ?_⟩; have n0_ := Aside0.mk (blk_below (g := gb164) (o := .cells #[.string a0_0, .string a0_1] 38 (0, 0)) (by (with_reducible repeat (first | refine blk_drewN ?_ _ | refine blk_drew ?_ | refine blk_alloc ?_ _)); exact BK164.out) hb); have n1_ := Aside0.mk (below_step (by repeat (first | (with_reducible first | exact HB.out | apply below_alloc | apply pw_below_drewN | apply below_drew1 | refine below_set ?_ GE164.out) | exact HB.out)) hb); clear BK164; clear HB; have BK164 := n0_; have HB := n1_; clear n0_ n1_; (try clear hb); (try clear hb2); (try clear hk); (try clear hi)) | (go_at_call 103; (with_reducible refine (span_Key.calls a1 false _ A5.out).mono ?_); rintro e w' ⟨rfl, ⟨nd, rfl⟩⟩))
      go_ret
      exact ⟨by first | rfl | (simp [errW_none, errW_some] <;> rfl) | (simp [*, errW_none, errW_some] <;> rfl), by repeat (first | (with_reducible first | exact HB.out | apply below_alloc | apply pw_below_drewN | apply below_drew1 | refine below_set ?_ GE164.out) | exact HB.out)⟩
  · replace c4 := Bool.eq_false_iff.mpr c4
    subst c4
    have H1 : (some false) = some r := by rw [if_neg (show ¬ (false = true) by decide)] at H; exact H
    clear H
    have H := H1
    clear H1
    obtain rfl := Option.some.inj H
    go_enter Try.func98, Try.ntmps98
    go_wp2_with (first | ((with_reducible refine gate_dst (N := 2) rfl ?_); refine box_event ?hg (N := 2) ?hd (cs := #[.string a0_0, .string a0_1]) (t := 38) ?hr ?_; (case hd => rfl); (case hg => rfl); (case hr => first | (go_simp; done) | (go_simp; rfl)); intro gb164 hg w20 hbox hb; have n0_ := Aside0.mk (below_step (by repeat (first | (with_reducible first | exact HB.out | apply below_alloc | apply pw_below_drewN | apply below_drew1) | exact HB.out)) hb); have n1_ := Aside0.mk (hbox); have n2_ := Aside0.mk ((by rw [hg]; exact (below_size (by repeat (first | (with_reducible first | exact HB.out | apply below_alloc | apply pw_below_drewN | apply below_drew1) | exact HB.out))) : w.heap.size ≤ gb164)); have n3_ := Aside0.mk ((by rw [hg]; exact (below_size (by repeat (first | (with_reducible first | exact HB.out | apply below_alloc | apply pw_below_drewN | apply below_drew1) | exact HB.out))) : w.heap.size ≤ gb164)); clear HB; have HB := n0_; have BK164 := n1_; have GW164 := n2_; have GE164 := n3_; clear n0_ n1_ n2_ n3_; clear hb hbox hg; have hcz21_0 : w20.cell? ⟨gb164, 0, none⟩ = some (.string a0_0) := (blk_cell BK164.out 0).trans rfl; have hcz21_1 : w20.cell? ⟨gb164, 1, none⟩ = some (.string a0_1) := (blk_cell BK164.out 1).trans rfl; have hfz21_0 := blk_frozen BK164.out 0; have hfz21_1 := blk_frozen BK164.out 1) | ((with_reducible refine gate_callee (f := 109) rfl ?_); refine goesL_ (some 6) rfl rfl Try.func109 (by kernel_rfl) rfl #[.agg #[.string a0_0, .string a0_1]] rfl (by (try simp only [List.map_toArray, List.map_cons, List.map_nil]); first | done | rfl | (simp only [List.length_drop, List.length_take]; rfl)) ?_; (with_reducible refine (span_may.calls a0_0 a0_1 false _ A3.out).mono ?_); rintro e w22 ⟨rfl, hb⟩; refine ⟨_, rfl, ?_⟩; have n0_ := Aside0.mk (blk_below (g := gb164) (o := .cells #[.string a0_0, .string a0_1] 38 (0, 0)) (by (with_reducible repeat (first | refine blk_drewN ?_ _ | refine blk_drew ?_ | refine blk_alloc ?_ _)); exact BK164.out) hb); have n1_ := Aside0.mk (below_step (by repeat (first | (with_reducible first | exact HB.out | apply below_alloc | apply pw_below_drewN | apply below_drew1 | refine below_set ?_ GE164.out) | exact HB.out)) hb); clear BK164; clear HB; have BK164 := n0_; have HB := n1_; clear n0_ n1_; (try clear hb); (try clear hb2); (try clear hk); (try clear hi)))
    go_ret
    exact ⟨by first | rfl | (simp [errW_none, errW_some] <;> rfl) | (simp [*, errW_none, errW_some] <;> rfl), by repeat (first | (with_reducible first | exact HB.out | apply below_alloc | apply pw_below_drewN | apply below_drew1 | refine below_set ?_ GE164.out) | exact HB.out)⟩
end Go.Proofs.Ytlmoafkmhenejaa.XA
