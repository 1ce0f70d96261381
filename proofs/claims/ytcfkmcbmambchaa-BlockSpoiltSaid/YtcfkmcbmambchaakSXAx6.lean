import Derived.Test.YtcfkmcbmambchaakSXAx0
import Derived.Test.YtcfkmcbmambchaakSXAx1
import Derived.Test.YtcfkmcbmambchaakSXAx2
import Derived.Test.YtcfkmcbmambchaakSXAx3
import Derived.Test.YtcfkmcbmambchaakSXAx4
import Derived.Test.YtcfkmcbmambchaakSXAx5
namespace Go.Proofs.YtcfkmcbmambchaaW.PrintWords
end Go.Proofs.YtcfkmcbmambchaaW.PrintWords
namespace Go.Proofs.YtcfkmcbmambchaaW.PrintLast
end Go.Proofs.YtcfkmcbmambchaaW.PrintLast
namespace Go.Proofs.YtcfkmcbmambchaaW.PrintMore
end Go.Proofs.YtcfkmcbmambchaaW.PrintMore
namespace Go.Proofs.Ytcfkmcbmambchaa.XW
end Go.Proofs.Ytcfkmcbmambchaa.XW
namespace Go.Proofs.Ytcfkmcbmambchaa.XA
open Go.RowKit Go.Proofs.YtcfkmcbmambchaaW.PrintWords Go.Proofs.YtcfkmcbmambchaaW.PrintLast Go.Proofs.YtcfkmcbmambchaaW.PrintMore Go.Proofs.Ytcfkmcbmambchaa.XW
attribute [local go_sem high] max2_str unary_xor_u32 leq_str geq_str gtr_str
attribute [local go_sem] max2_int min2_int max_two min_two max_three min_three max_four min_four   -- for this text's walks alone
set_option linter.unusedVariables false
set_option linter.unusedSimpArgs false
attribute [local go_sem high] eqA36
def block_Take.l0 : Nat → Int → ByteArray → Bool → List S36 → ByteArray → Int → Option (List S36 × Int)
  | 0, _, _, _, _, _, _ => none
  | k + 1, n, s, ok, out, last, i =>
    if i < n then ((block_reader_number.f k s ok).bind fun a => (block_reader_text.f k a.2.1 a.2.2).bind fun b => (block_reader_number.f k b.2.1 b.2.2).bind fun c =>
      if c.2.2 = true then
        (if a.1 ≤ (last.size : Int) then
          (if 0 ≤ a.1 then
            (if (last.extract 0 a.1.toNat).size + b.1.size ≤ 9223372036854775807 then
              ((block_common.f k last (last.extract 0 a.1.toNat ++ b.1)).bind fun d =>
              if d = a.1 then
                (if out.length < 2932031007402 then
                  (if Go.bits .and .i64 c.1 1 = 0 then
                    ((block_reader_text.f k c.2.1 c.2.2).bind fun v => block_Take.l0 k n v.2.1 v.2.2 (out ++ [(⟨last.extract 0 a.1.toNat ++ b.1, v.1, false, c.1 / 2⟩ : S36)]) (last.extract 0 a.1.toNat ++ b.1) (wrap64 (i + 1)))
                  else block_Take.l0 k n c.2.1 c.2.2 (out ++ [(⟨last.extract 0 a.1.toNat ++ b.1, (⟨#[]⟩ : ByteArray), true, c.1 / 2⟩ : S36)]) (last.extract 0 a.1.toNat ++ b.1) (wrap64 (i + 1)))
                else none)
              else some ([], 90))
            else none)
          else none)
        else some ([], 90))
      else some ([], 90))
    else (if ok = true then (if s.toList = ([] : List UInt8) then ((block_Check.f k out).bind fun e => if e = 0 then some (out, 0) else some ([], 90)) else some ([], 90)) else some ([], 90))
def block_Take.f (k : Nat) (a0 : ByteArray) : Option (List S36 × Int) :=
  (crc_Check.f k a0).bind fun c => if c = true then
    (if 0 ≤ wrap64 ((a0.size : Int) - 4) then
      (if wrap64 ((a0.size : Int) - 4) ≤ (a0.size : Int) then
        ((block_reader_number.f k (a0.extract 0 (wrap64 ((a0.size : Int) - 4)).toNat) true).bind fun a =>
          if a.2.2 = true then (if a.1 > 4096 then some ([], 90) else block_Take.l0 k a.1 a.2.1 a.2.2 [] (⟨#[]⟩ : ByteArray) 0) else some ([], 90))
      else none)
    else none)
  else some ([], 90)
theorem block_Take.mono_l : ∀ k, (∀ y0 y1 y2 y3 y4 y5, LeO (block_Take.l0 k y0 y1 y2 y3 y4 y5) (block_Take.l0 (k + 1) y0 y1 y2 y3 y4 y5))
  | 0 => fun _ _ _ _ _ _ r h => by simp [block_Take.l0] at h
  | k + 1 => by
    have ih0 := block_Take.mono_l k
    intro y0 y1 y2 y3 y4 y5
    unfold block_Take.l0
    repeat' first
      | (with_reducible exact ih0 _ _ _ _ _ _)
      | (with_reducible exact block_reader_number.mono _ _ _)
      | (with_reducible exact block_reader_text.mono _ _ _)
      | (with_reducible exact block_common.mono _ _ _)
      | (with_reducible exact block_Check.mono _ _)
      | (with_reducible exact LeO.refl _)
      | (with_reducible exact LeO.none _)
      | (with_reducible refine LeO.ite ?_ ?_)
      | (with_reducible refine LeO.bind ?_ (fun _ => ?_))
theorem block_Take.mono : ∀ a0 k, LeO (block_Take.f k a0) (block_Take.f (k + 1) a0) := by
  intro a0 k
  have ih0 := block_Take.mono_l k
  unfold block_Take.f
  repeat' first
    | (with_reducible exact ih0 _ _ _ _ _ _)
    | (with_reducible exact crc_Check.mono _ _)
    | (with_reducible exact block_reader_number.mono _ _ _)
    | (with_reducible exact LeO.refl _)
    | (with_reducible exact LeO.none _)
    | (with_reducible refine LeO.ite ?_ ?_)
    | (with_reducible refine LeO.bind ?_ (fun _ => ?_))
theorem R_keepT {w w1 : World} {base g : Nat} {ok : Nat → Prop} {v : Value} {xs : List S36} {cs : Array Value} (h : Kd.R k36 36 w base ok v xs) (hb : w.heap[g]? = some (.cells cs 63 (0, 0))) (hk : KeepBut w w1 g none) : Kd.R k36 36 w1 base ok v xs :=
  Kd.R_mono (Kd.R_keep (Kd.R_types h hb (by decide)) hk (fun _ hk => hk.2)) (fun _ hk => hk.1)
set_option maxHeartbeats 8000000 in
set_option maxRecDepth 100000 in
theorem block_Take.calls (k : Nat) (a0 : ByteArray) (r1 : List S36) (r2 : Int) (w : World) (h : block_Take.f k a0 = some (r1, r2)) :
    Calls Try.prog 15 #[.string a0] w fun e w' => ∃ v0_ : Value, e = .returned (.tuple #[v0_, .int .i64 r2]) ∧ Kd.R k36 36 w' w.heap.size (fun _ => True) v0_ r1 ∧ Below w.heap.size w w' := by
  unfold block_Take.f at h
  obtain ⟨c, hA, h⟩ := Option.bind_eq_some_iff.mp h
  have A1 := Aside0.mk hA
  clear hA
  cases c with
  | false =>
    rw [if_neg (by decide)] at h
    simp only [Option.some.injEq, Prod.mk.injEq] at h
    obtain ⟨rfl, rfl⟩ := h
    go_enter Try.func15, Try.ntmps15
    go_wp2_with (go_at_call 37; (refine (crc_Check.calls k a0 false _ A1.out).mono ?_); rintro e w1 ⟨rfl, hb1⟩; have HB1 := Aside0.mk hb1; clear hb1)
    go_ret2
    exact ⟨_, rfl, Kd.R_nil _ _ _ _ _, HB1.out⟩
  | true =>
    rw [if_pos rfl] at h
    obtain ⟨ji, hji⟩ : ∃ j_ : Int, wrap64 ((a0.size : Int) - 4) = j_ := ⟨_, rfl⟩
    rw [hji] at h
    have hjiw : IntKind.i64.wrap ((a0.size : Int) - 4) = ji := (i64_w _).trans hji
    by_cases c2 : 0 ≤ ji
    · rw [if_pos c2] at h
      by_cases c3 : ji ≤ (a0.size : Int)
      · rw [if_pos c3] at h
        have p2 := eq_true c2
        have p3 := eq_true c3
        have p2b : decide (0 ≤ ji) = true := decide_eq_true c2
        have p3b : decide (ji ≤ (a0.size : Int)) = true := decide_eq_true c3
        obtain ⟨⟨n, s1, ok1⟩, hN, h⟩ := Option.bind_eq_some_iff.mp h
        dsimp only at h
        have A2 := Aside0.mk hN
        clear hN c2 c3
        cases ok1 with
        | false =>
          rw [if_neg (by decide)] at h
          simp only [Option.some.injEq, Prod.mk.injEq] at h
          obtain ⟨rfl, rfl⟩ := h
          go_enter Try.func15, Try.ntmps15
          go_wp2_with (first | (go_at_call 37; (refine (crc_Check.calls k a0 true _ A1.out).mono ?_); rintro e w1 ⟨rfl, hb1⟩; have HB1 := Aside0.mk hb1; clear hb1) | (go_at_call 38; (refine (block_reader_number.calls k w1.heap.size (a0.extract 0 ji.toNat) true n s1 _ w _ (heap_alloc_new w1 _) (below_size HB1.out) (below_alloc HB1.out _) A2.out).mono ?_); rintro e w2 ⟨rfl, hk, hb, hkb⟩; have HK := Aside0.mk hk; have HB := Aside0.mk hb; have HGE := Aside0.mk (below_size HB1.out); have hc0 := (blk_cell hk 0).trans rfl; have hc1 := (blk_cell hk 1).trans rfl; clear hk hb hkb))
          go_ret2
          exact ⟨_, rfl, Kd.R_nil _ _ _ _ _, HB.out⟩
        | true =>
          rw [if_pos rfl] at h
          by_cases c5 : n > 4096
          · rw [if_pos c5] at h
            have c5b : decide (4096 < n) = true := decide_eq_true c5
            clear c5
            simp only [Option.some.injEq, Prod.mk.injEq] at h
            obtain ⟨rfl, rfl⟩ := h
            go_enter Try.func15, Try.ntmps15
            go_wp2_with (first | (go_at_call 37; (refine (crc_Check.calls k a0 true _ A1.out).mono ?_); rintro e w1 ⟨rfl, hb1⟩; have HB1 := Aside0.mk hb1; clear hb1) | (go_at_call 38; (refine (block_reader_number.calls k w1.heap.size (a0.extract 0 ji.toNat) true n s1 _ w _ (heap_alloc_new w1 _) (below_size HB1.out) (below_alloc HB1.out _) A2.out).mono ?_); rintro e w2 ⟨rfl, hk, hb, hkb⟩; have HK := Aside0.mk hk; have HB := Aside0.mk hb; have HGE := Aside0.mk (below_size HB1.out); have hc0 := (blk_cell hk 0).trans rfl; have hc1 := (blk_cell hk 1).trans rfl; clear hk hb hkb))
            go_ret2
            exact ⟨_, rfl, Kd.R_nil _ _ _ _ _, HB.out⟩
          · rw [if_neg c5] at h
            have c5b : decide (4096 < n) = false := decide_eq_false c5
            clear c5
            have H' := Aside0.mk h
            clear h
            go_enter Try.func15, Try.ntmps15
            go_wp2_with (first | (go_at_call 37; (refine (crc_Check.calls k a0 true _ A1.out).mono ?_); rintro e w1 ⟨rfl, hb1⟩; have HB1 := Aside0.mk hb1; clear hb1) | (go_at_call 38; (refine (block_reader_number.calls k w1.heap.size (a0.extract 0 ji.toNat) true n s1 _ w _ (heap_alloc_new w1 _) (below_size HB1.out) (below_alloc HB1.out _) A2.out).mono ?_); rintro e w2 ⟨rfl, hk, hb, hkb⟩; have HK := Aside0.mk hk; have HB := Aside0.mk hb; have HGE := Aside0.mk (below_size HB1.out); have hc0 := (blk_cell hk 0).trans rfl; have hc1 := (blk_cell hk 1).trans rfl; clear hk hb hkb))
            go_loopg [6, 7, 34] k (fun kq v6 v7 v34 w' => ∃ (s : ByteArray) (ok : Bool) (out : List S36) (last : ByteArray) (i : Int), v7 = .string last ∧ v34 = .int .i64 i ∧ Aside0 (block_Take.l0 kq n s ok out last i = some (r1, r2)) ∧ Aside0 (kq ≤ k) ∧ Aside0 (w'.heap[w1.heap.size]? = some (.cells #[.string s, .bool ok] 63 (0, 0))) ∧ Aside0 (Kd.R k36 36 w' w.heap.size (fun _ => True) v6 out) ∧ Aside0 (Below w.heap.size w w'))
            case atStart => exact ⟨_, _, [], _, 0, rfl, rfl, H', ⟨Nat.le_refl _⟩, HK, ⟨Kd.R_nil _ _ _ _ _⟩, HB⟩
            case round =>
              clear H' HK HB hc0 hc1
              obtain ⟨s, ok, out, last, i, rfl, rfl, HA, HKQ, HK, HO, HB⟩ := hrel
              cases gk with
              | zero => exact absurd HA.out (by simp [block_Take.l0])
              | succ k1 =>
                have H := HA.out
                clear HA
                simp only [block_Take.l0] at H
                by_cases ci : i < n
                · rw [if_pos ci] at H
                  have cib : decide (i < n) = true := decide_eq_true ci
                  clear ci
                  obtain ⟨⟨q, s1, ok1⟩, hN1, H⟩ := Option.bind_eq_some_iff.mp H
                  obtain ⟨⟨t, s2, ok2⟩, hT1, H⟩ := Option.bind_eq_some_iff.mp H
                  obtain ⟨⟨c, s3, ok3⟩, hN2, H⟩ := Option.bind_eq_some_iff.mp H
                  dsimp only at hN1 hT1 hN2 H
                  have N1 := Aside0.mk hN1
                  have T1 := Aside0.mk hT1
                  have N2 := Aside0.mk hN2
                  clear hN1 hT1 hN2
                  cases ok3 with
                  | false =>
                    rw [if_neg (by decide)] at H
                    simp only [Option.some.injEq, Prod.mk.injEq] at H
                    obtain ⟨rfl, rfl⟩ := H
                    go_wp2_with (first | ((with_reducible refine gate_callee (f := 38) rfl ?_); refine goesL_ (some 37) rfl rfl Try.func38 (by kernel_rfl) rfl #[.pointer (some ⟨w1.heap.size, 0, none⟩)] rfl (by (try simp only [List.map_toArray, List.map_cons, List.map_nil]); first | done | rfl) ?_; (with_reducible refine (block_reader_number.calls k1 w1.heap.size s ok q s1 ok1 w _ HK.out HGE.out HB.out N1.out).mono ?_); rintro e wwa ⟨rfl, hk, hb, hkb⟩; refine ⟨_, rfl, ?_⟩; have HKa := Aside0.mk hk; have HBa := Aside0.mk hb; have HOa := Aside0.mk (R_keepT HO.out HK.out hkb); have hca0 := (blk_cell hk 0).trans rfl; have hca1 := (blk_cell hk 1).trans rfl; clear hk hb hkb) | ((with_reducible refine gate_callee (f := 39) rfl ?_); refine goesL_ (some 39) rfl rfl Try.func39 (by kernel_rfl) rfl #[.pointer (some ⟨w1.heap.size, 0, none⟩)] rfl (by (try simp only [List.map_toArray, List.map_cons, List.map_nil]); first | done | rfl) ?_; (with_reducible refine (block_reader_text.calls k1 w1.heap.size s1 ok1 t s2 ok2 w _ HKa.out HGE.out HBa.out T1.out).mono ?_); rintro e wwb ⟨rfl, hk, hb, hkb⟩; refine ⟨_, rfl, ?_⟩; have HKb := Aside0.mk hk; have HBb := Aside0.mk hb; have HOb := Aside0.mk (R_keepT HOa.out HKa.out hkb); have hcb0 := (blk_cell hk 0).trans rfl; have hcb1 := (blk_cell hk 1).trans rfl; clear hk hb hkb) | ((with_reducible refine gate_callee (f := 38) rfl ?_); refine goesL_ (some 41) rfl rfl Try.func38 (by kernel_rfl) rfl #[.pointer (some ⟨w1.heap.size, 0, none⟩)] rfl (by (try simp only [List.map_toArray, List.map_cons, List.map_nil]); first | done | rfl) ?_; (with_reducible refine (block_reader_number.calls k1 w1.heap.size s2 ok2 c s3 _ w _ HKb.out HGE.out HBb.out N2.out).mono ?_); rintro e wwc ⟨rfl, hk, hb, hkb⟩; refine ⟨_, rfl, ?_⟩; have HKc := Aside0.mk hk; have HBc := Aside0.mk hb; have HOc := Aside0.mk (R_keepT HOb.out HKb.out hkb); have hcc0 := (blk_cell hk 0).trans rfl; have hcc1 := (blk_cell hk 1).trans rfl; clear hk hb hkb))
                    go_ret2
                    exact ⟨_, rfl, Kd.R_nil _ _ _ _ _, HBc.out⟩
                  | true =>
                    rw [if_pos rfl] at H
                    by_cases c1 : q ≤ (last.size : Int)
                    · rw [if_pos c1] at H
                      by_cases c2 : 0 ≤ q
                      · rw [if_pos c2] at H
                        by_cases c3 : (last.extract 0 q.toNat).size + t.size ≤ 9223372036854775807
                        · rw [if_pos c3] at H
                          have c1b : decide ((last.size : Int) < q) = false := decide_eq_false (by omega)
                          have c1c := eq_true c1
                          have c1d : decide (q ≤ (last.size : Int)) = true := decide_eq_true c1
                          have c2b := eq_true c2
                          have c2c : decide (0 ≤ q) = true := decide_eq_true c2
                          have c3b := eq_true c3
                          have c3c : (9223372036854775807 < (last.extract 0 q.toNat).size + t.size) = False := eq_false (Nat.not_lt.2 c3)
                          clear c1 c2
                          obtain ⟨d, hD, H⟩ := Option.bind_eq_some_iff.mp H
                          have D1 := Aside0.mk hD
                          clear hD
                          by_cases c4 : d = q
                          · rw [if_pos c4] at H
                            subst c4
                            by_cases c5 : out.length < 2932031007402
                            · rw [if_pos c5] at H
                              have LM := Aside0.mk c5
                              clear c5
                              by_cases c6 : Go.bits .and .i64 c 1 = 0
                              · rw [if_pos c6] at H
                                have c6b : (Go.bits .and .i64 c 1 == 0) = true := beq_iff_eq.mpr c6
                                have c6c : (Go.bits .and .i64 c 1 != 0) = false := bne_eq_false_iff_eq.mpr c6
                                clear c6
                                obtain ⟨⟨v, s4, ok4⟩, hT2, H⟩ := Option.bind_eq_some_iff.mp H
                                dsimp only at hT2 H
                                have T2 := Aside0.mk hT2
                                have H' := Aside0.mk H
                                clear hT2 H
                                go_wp2_with (first | ((with_reducible refine gate_callee (f := 38) rfl ?_); refine goesL_ (some 37) rfl rfl Try.func38 (by kernel_rfl) rfl #[.pointer (some ⟨w1.heap.size, 0, none⟩)] rfl (by (try simp only [List.map_toArray, List.map_cons, List.map_nil]); first | done | rfl) ?_; (with_reducible refine (block_reader_number.calls k1 w1.heap.size s ok d s1 ok1 w _ HK.out HGE.out HB.out N1.out).mono ?_); rintro e wwa ⟨rfl, hk, hb, hkb⟩; refine ⟨_, rfl, ?_⟩; have HKa := Aside0.mk hk; have HBa := Aside0.mk hb; have HOa := Aside0.mk (R_keepT HO.out HK.out hkb); have hca0 := (blk_cell hk 0).trans rfl; have hca1 := (blk_cell hk 1).trans rfl; clear hk hb hkb) | ((with_reducible refine gate_callee (f := 39) rfl ?_); refine goesL_ (some 39) rfl rfl Try.func39 (by kernel_rfl) rfl #[.pointer (some ⟨w1.heap.size, 0, none⟩)] rfl (by (try simp only [List.map_toArray, List.map_cons, List.map_nil]); first | done | rfl) ?_; (with_reducible refine (block_reader_text.calls k1 w1.heap.size s1 ok1 t s2 ok2 w _ HKa.out HGE.out HBa.out T1.out).mono ?_); rintro e wwb ⟨rfl, hk, hb, hkb⟩; refine ⟨_, rfl, ?_⟩; have HKb := Aside0.mk hk; have HBb := Aside0.mk hb; have HOb := Aside0.mk (R_keepT HOa.out HKa.out hkb); have hcb0 := (blk_cell hk 0).trans rfl; have hcb1 := (blk_cell hk 1).trans rfl; clear hk hb hkb) | ((with_reducible refine gate_callee (f := 38) rfl ?_); refine goesL_ (some 41) rfl rfl Try.func38 (by kernel_rfl) rfl #[.pointer (some ⟨w1.heap.size, 0, none⟩)] rfl (by (try simp only [List.map_toArray, List.map_cons, List.map_nil]); first | done | rfl) ?_; (with_reducible refine (block_reader_number.calls k1 w1.heap.size s2 ok2 c s3 _ w _ HKb.out HGE.out HBb.out N2.out).mono ?_); rintro e wwc ⟨rfl, hk, hb, hkb⟩; refine ⟨_, rfl, ?_⟩; have HKc := Aside0.mk hk; have HBc := Aside0.mk hb; have HOc := Aside0.mk (R_keepT HOb.out HKb.out hkb); have hcc0 := (blk_cell hk 0).trans rfl; have hcc1 := (blk_cell hk 1).trans rfl; clear hk hb hkb) | (go_at_call 27; (refine (block_common.calls k1 last (last.extract 0 d.toNat ++ t) d _ D1.out).mono ?_); rintro e wwd ⟨rfl, hb⟩; have HKd := Aside0.mk (blk_below HKc.out hb); have HBd := Aside0.mk (below_step HBc.out hb); have HOd := Aside0.mk (Kd.R_below HOc.out hb); clear hb) | (go_at_call 39; (refine (block_reader_text.calls k1 w1.heap.size s3 true v s4 ok4 w (wwd.alloc _) (blk_alloc HKd.out _) HGE.out (below_alloc HBd.out _) T2.out).mono ?_); rintro e wwf ⟨rfl, hk, hb, hkb⟩; have HKf := Aside0.mk hk; have HBf := Aside0.mk hb; have HOf := Aside0.mk (R_keepT (Kd.R_alloc (Kd.R_elderB HOd.out wwd.heap.size (Nat.le_refl _)) _) (blk_alloc HKd.out _) hkb); have hef := (hkb.2 wwd.heap.size (blk_lt (heap_alloc_new wwd _)) (Nat.ne_of_gt (blk_lt HKd.out)) (by simp)).trans (heap_alloc_new wwd _); have hx0 := (blk_cell hef 0).trans rfl; have hx1 := (blk_cell hef 1).trans rfl; have hx2 := (blk_cell hef 2).trans rfl; have hx3 := (blk_cell hef 3).trans rfl; have hz1 := blk_frozen hef 1; clear hk hb hkb hef) | ((with_reducible refine gate_builtin (b := .append) (xs := #[.tmp 83, .tmp 85]) rfl ?_); at_builtin; refine Kd.R_append k36 (w0 := w) w.heap.size rfl (.tmp 83) (.tmp 85) 22 36 (.agg #[(.string ⟨#[]⟩), (.string ⟨#[]⟩), (.bool false), (.int .i64 0)]) 48 rfl Try.underlying22 info36 rfl (by decide) (by omega) u6 out (⟨last.extract 0 d.toNat ++ t, v, false, c / 2⟩ : S36) [.string (last.extract 0 d.toNat ++ t), .string v, .bool false, .int .i64 (c / 2)] (fun _ => True) (fun _ => False) rfl (by first | (go_simp; done) | (go_simp; rfl)) ?aP (fun _ hk => hk.elim) ?aF ?aO ?aB ?aS ?aL ?_; (case aP => exact k36_mkM _ _ _ (⟨last.extract 0 d.toNat ++ t, v, false, c / 2⟩ : S36)); (case aB => exact (by repeat (first | (with_reducible first | exact HBf.out | apply below_alloc | apply pw_below_drewN | apply below_drew1 | refine below_set ?_ (Nat.le_of_lt (Nat.lt_of_le_of_lt HGE.out (blk_lt HKd.out)))) | exact HBf.out))); (case aF => exact (fun _ _ => trivial)); (case aO => exact (by (with_reducible repeat (first | apply Kd.R_alloc | apply Kd.R_drewN | apply Kd.R_drew)); exact (Kd.R_mono (Kd.R_far (p := ⟨wwd.heap.size, 1, none⟩) HOf.out (fun _ hk => hk.2) (.string v)) (fun _ _ => trivial)))); (case aS => exact (below_size (by repeat (first | (with_reducible first | exact HBf.out | apply below_alloc | apply pw_below_drewN | apply below_drew1 | refine below_set ?_ (Nat.le_of_lt (Nat.lt_of_le_of_lt HGE.out (blk_lt HKd.out)))) | exact HBf.out)))); (case aL => have := LM.out; omega); intro v9 w9 ho hb hg hat; have HK9 := Aside0.mk (blk_grown (g := w1.heap.size) (o := .cells #[.string s4, .bool ok4] 63 (0, 0)) (by (with_reducible repeat (first | refine blk_alloc ?_ _ | refine blk_drewN ?_ _ | refine blk_drew ?_)); exact (blk_far HKf.out (p := ⟨wwd.heap.size, 1, none⟩) (Nat.ne_of_lt (blk_lt HKd.out)) (.string v))) hg (Kd.R_ne HOf.out HKf.out (by decide))); have HO9 := Aside0.mk ho; have HB9 := Aside0.mk hb; clear ho hb hg hat))
                                go_roundg k1
                                case measure => have := HKQ.out; omega
                                case rel => exact ⟨s4, ok4, _, _, _, rfl, rfl, H', ⟨by have := HKQ.out; omega⟩, HK9, HO9, HB9⟩
                              · rw [if_neg c6] at H
                                have c6b : (Go.bits .and .i64 c 1 == 0) = false := beq_eq_false_iff_ne.mpr c6
                                have c6c : (Go.bits .and .i64 c 1 != 0) = true := bne_iff_ne.mpr c6
                                clear c6
                                have H' := Aside0.mk H
                                clear H
                                go_wp2_with (first | ((with_reducible refine gate_callee (f := 38) rfl ?_); refine goesL_ (some 37) rfl rfl Try.func38 (by kernel_rfl) rfl #[.pointer (some ⟨w1.heap.size, 0, none⟩)] rfl (by (try simp only [List.map_toArray, List.map_cons, List.map_nil]); first | done | rfl) ?_; (with_reducible refine (block_reader_number.calls k1 w1.heap.size s ok d s1 ok1 w _ HK.out HGE.out HB.out N1.out).mono ?_); rintro e wwa ⟨rfl, hk, hb, hkb⟩; refine ⟨_, rfl, ?_⟩; have HKa := Aside0.mk hk; have HBa := Aside0.mk hb; have HOa := Aside0.mk (R_keepT HO.out HK.out hkb); have hca0 := (blk_cell hk 0).trans rfl; have hca1 := (blk_cell hk 1).trans rfl; clear hk hb hkb) | ((with_reducible refine gate_callee (f := 39) rfl ?_); refine goesL_ (some 39) rfl rfl Try.func39 (by kernel_rfl) rfl #[.pointer (some ⟨w1.heap.size, 0, none⟩)] rfl (by (try simp only [List.map_toArray, List.map_cons, List.map_nil]); first | done | rfl) ?_; (with_reducible refine (block_reader_text.calls k1 w1.heap.size s1 ok1 t s2 ok2 w _ HKa.out HGE.out HBa.out T1.out).mono ?_); rintro e wwb ⟨rfl, hk, hb, hkb⟩; refine ⟨_, rfl, ?_⟩; have HKb := Aside0.mk hk; have HBb := Aside0.mk hb; have HOb := Aside0.mk (R_keepT HOa.out HKa.out hkb); have hcb0 := (blk_cell hk 0).trans rfl; have hcb1 := (blk_cell hk 1).trans rfl; clear hk hb hkb) | ((with_reducible refine gate_callee (f := 38) rfl ?_); refine goesL_ (some 41) rfl rfl Try.func38 (by kernel_rfl) rfl #[.pointer (some ⟨w1.heap.size, 0, none⟩)] rfl (by (try simp only [List.map_toArray, List.map_cons, List.map_nil]); first | done | rfl) ?_; (with_reducible refine (block_reader_number.calls k1 w1.heap.size s2 ok2 c s3 _ w _ HKb.out HGE.out HBb.out N2.out).mono ?_); rintro e wwc ⟨rfl, hk, hb, hkb⟩; refine ⟨_, rfl, ?_⟩; have HKc := Aside0.mk hk; have HBc := Aside0.mk hb; have HOc := Aside0.mk (R_keepT HOb.out HKb.out hkb); have hcc0 := (blk_cell hk 0).trans rfl; have hcc1 := (blk_cell hk 1).trans rfl; clear hk hb hkb) | (go_at_call 27; (refine (block_common.calls k1 last (last.extract 0 d.toNat ++ t) d _ D1.out).mono ?_); rintro e wwd ⟨rfl, hb⟩; have HKd := Aside0.mk (blk_below HKc.out hb); have HBd := Aside0.mk (below_step HBc.out hb); have HOd := Aside0.mk (Kd.R_below HOc.out hb); clear hb) | ((with_reducible refine gate_builtin (b := .append) (xs := #[.tmp 83, .tmp 85]) rfl ?_); at_builtin; refine Kd.R_append k36 (w0 := w) w.heap.size rfl (.tmp 83) (.tmp 85) 22 36 (.agg #[(.string ⟨#[]⟩), (.string ⟨#[]⟩), (.bool false), (.int .i64 0)]) 48 rfl Try.underlying22 info36 rfl (by decide) (by omega) u6 out (⟨last.extract 0 d.toNat ++ t, (⟨#[]⟩ : ByteArray), true, c / 2⟩ : S36) [.string (last.extract 0 d.toNat ++ t), .string (⟨#[]⟩ : ByteArray), .bool true, .int .i64 (c / 2)] (fun _ => True) (fun _ => False) rfl (by first | (go_simp; done) | (go_simp; rfl)) ?aP (fun _ hk => hk.elim) ?aF ?aO ?aB ?aS ?aL ?_; (case aP => exact k36_mkM _ _ _ (⟨last.extract 0 d.toNat ++ t, (⟨#[]⟩ : ByteArray), true, c / 2⟩ : S36)); (case aB => exact (by repeat (first | (with_reducible first | exact HBd.out | apply below_alloc | apply pw_below_drewN | apply below_drew1 | refine below_set ?_ (Nat.le_of_lt (Nat.lt_of_le_of_lt HGE.out (blk_lt HKd.out)))) | exact HBd.out))); (case aF => exact (fun _ _ => trivial)); (case aO => exact (by (with_reducible repeat (first | apply Kd.R_alloc | apply Kd.R_drewN | apply Kd.R_drew)); exact HOd.out)); (case aS => exact (below_size (by repeat (first | (with_reducible first | exact HBd.out | apply below_alloc | apply pw_below_drewN | apply below_drew1 | refine below_set ?_ (Nat.le_of_lt (Nat.lt_of_le_of_lt HGE.out (blk_lt HKd.out)))) | exact HBd.out)))); (case aL => have := LM.out; omega); intro v9 w9 ho hb hg hat; have HK9 := Aside0.mk (blk_grown (g := w1.heap.size) (o := .cells #[.string s3, .bool true] 63 (0, 0)) (by (with_reducible repeat (first | refine blk_alloc ?_ _ | refine blk_drewN ?_ _ | refine blk_drew ?_)); exact HKd.out) hg (Kd.R_ne HOd.out HKd.out (by decide))); have HO9 := Aside0.mk ho; have HB9 := Aside0.mk hb; clear ho hb hg hat))
                                go_roundg k1
                                case measure => have := HKQ.out; omega
                                case rel => exact ⟨s3, true, _, _, _, rfl, rfl, H', ⟨by have := HKQ.out; omega⟩, HK9, HO9, HB9⟩
                            · rw [if_neg c5] at H
                              exact absurd H (by simp)
                          · rw [if_neg c4] at H
                            have c4b : (d == q) = false := beq_eq_false_iff_ne.mpr c4
                            have c4c : (d != q) = true := bne_iff_ne.mpr c4
                            clear c4
                            simp only [Option.some.injEq, Prod.mk.injEq] at H
                            obtain ⟨rfl, rfl⟩ := H
                            go_wp2_with (first | ((with_reducible refine gate_callee (f := 38) rfl ?_); refine goesL_ (some 37) rfl rfl Try.func38 (by kernel_rfl) rfl #[.pointer (some ⟨w1.heap.size, 0, none⟩)] rfl (by (try simp only [List.map_toArray, List.map_cons, List.map_nil]); first | done | rfl) ?_; (with_reducible refine (block_reader_number.calls k1 w1.heap.size s ok q s1 ok1 w _ HK.out HGE.out HB.out N1.out).mono ?_); rintro e wwa ⟨rfl, hk, hb, hkb⟩; refine ⟨_, rfl, ?_⟩; have HKa := Aside0.mk hk; have HBa := Aside0.mk hb; have HOa := Aside0.mk (R_keepT HO.out HK.out hkb); have hca0 := (blk_cell hk 0).trans rfl; have hca1 := (blk_cell hk 1).trans rfl; clear hk hb hkb) | ((with_reducible refine gate_callee (f := 39) rfl ?_); refine goesL_ (some 39) rfl rfl Try.func39 (by kernel_rfl) rfl #[.pointer (some ⟨w1.heap.size, 0, none⟩)] rfl (by (try simp only [List.map_toArray, List.map_cons, List.map_nil]); first | done | rfl) ?_; (with_reducible refine (block_reader_text.calls k1 w1.heap.size s1 ok1 t s2 ok2 w _ HKa.out HGE.out HBa.out T1.out).mono ?_); rintro e wwb ⟨rfl, hk, hb, hkb⟩; refine ⟨_, rfl, ?_⟩; have HKb := Aside0.mk hk; have HBb := Aside0.mk hb; have HOb := Aside0.mk (R_keepT HOa.out HKa.out hkb); have hcb0 := (blk_cell hk 0).trans rfl; have hcb1 := (blk_cell hk 1).trans rfl; clear hk hb hkb) | ((with_reducible refine gate_callee (f := 38) rfl ?_); refine goesL_ (some 41) rfl rfl Try.func38 (by kernel_rfl) rfl #[.pointer (some ⟨w1.heap.size, 0, none⟩)] rfl (by (try simp only [List.map_toArray, List.map_cons, List.map_nil]); first | done | rfl) ?_; (with_reducible refine (block_reader_number.calls k1 w1.heap.size s2 ok2 c s3 _ w _ HKb.out HGE.out HBb.out N2.out).mono ?_); rintro e wwc ⟨rfl, hk, hb, hkb⟩; refine ⟨_, rfl, ?_⟩; have HKc := Aside0.mk hk; have HBc := Aside0.mk hb; have HOc := Aside0.mk (R_keepT HOb.out HKb.out hkb); have hcc0 := (blk_cell hk 0).trans rfl; have hcc1 := (blk_cell hk 1).trans rfl; clear hk hb hkb) | (go_at_call 27; (refine (block_common.calls k1 last (last.extract 0 q.toNat ++ t) d _ D1.out).mono ?_); rintro e wwd ⟨rfl, hb⟩; have HKd := Aside0.mk (blk_below HKc.out hb); have HBd := Aside0.mk (below_step HBc.out hb); have HOd := Aside0.mk (Kd.R_below HOc.out hb); clear hb))
                            go_ret2
                            exact ⟨_, rfl, Kd.R_nil _ _ _ _ _, HBd.out⟩
                        · rw [if_neg c3] at H
                          exact absurd H (by simp)
                      · rw [if_neg c2] at H
                        exact absurd H (by simp)
                    · rw [if_neg c1] at H
                      have c1b : decide ((last.size : Int) < q) = true := decide_eq_true (by omega)
                      clear c1
                      simp only [Option.some.injEq, Prod.mk.injEq] at H
                      obtain ⟨rfl, rfl⟩ := H
                      go_wp2_with (first | ((with_reducible refine gate_callee (f := 38) rfl ?_); refine goesL_ (some 37) rfl rfl Try.func38 (by kernel_rfl) rfl #[.pointer (some ⟨w1.heap.size, 0, none⟩)] rfl (by (try simp only [List.map_toArray, List.map_cons, List.map_nil]); first | done | rfl) ?_; (with_reducible refine (block_reader_number.calls k1 w1.heap.size s ok q s1 ok1 w _ HK.out HGE.out HB.out N1.out).mono ?_); rintro e wwa ⟨rfl, hk, hb, hkb⟩; refine ⟨_, rfl, ?_⟩; have HKa := Aside0.mk hk; have HBa := Aside0.mk hb; have HOa := Aside0.mk (R_keepT HO.out HK.out hkb); have hca0 := (blk_cell hk 0).trans rfl; have hca1 := (blk_cell hk 1).trans rfl; clear hk hb hkb) | ((with_reducible refine gate_callee (f := 39) rfl ?_); refine goesL_ (some 39) rfl rfl Try.func39 (by kernel_rfl) rfl #[.pointer (some ⟨w1.heap.size, 0, none⟩)] rfl (by (try simp only [List.map_toArray, List.map_cons, List.map_nil]); first | done | rfl) ?_; (with_reducible refine (block_reader_text.calls k1 w1.heap.size s1 ok1 t s2 ok2 w _ HKa.out HGE.out HBa.out T1.out).mono ?_); rintro e wwb ⟨rfl, hk, hb, hkb⟩; refine ⟨_, rfl, ?_⟩; have HKb := Aside0.mk hk; have HBb := Aside0.mk hb; have HOb := Aside0.mk (R_keepT HOa.out HKa.out hkb); have hcb0 := (blk_cell hk 0).trans rfl; have hcb1 := (blk_cell hk 1).trans rfl; clear hk hb hkb) | ((with_reducible refine gate_callee (f := 38) rfl ?_); refine goesL_ (some 41) rfl rfl Try.func38 (by kernel_rfl) rfl #[.pointer (some ⟨w1.heap.size, 0, none⟩)] rfl (by (try simp only [List.map_toArray, List.map_cons, List.map_nil]); first | done | rfl) ?_; (with_reducible refine (block_reader_number.calls k1 w1.heap.size s2 ok2 c s3 _ w _ HKb.out HGE.out HBb.out N2.out).mono ?_); rintro e wwc ⟨rfl, hk, hb, hkb⟩; refine ⟨_, rfl, ?_⟩; have HKc := Aside0.mk hk; have HBc := Aside0.mk hb; have HOc := Aside0.mk (R_keepT HOb.out HKb.out hkb); have hcc0 := (blk_cell hk 0).trans rfl; have hcc1 := (blk_cell hk 1).trans rfl; clear hk hb hkb))
                      go_ret2
                      exact ⟨_, rfl, Kd.R_nil _ _ _ _ _, HBc.out⟩
                · rw [if_neg ci] at H
                  have cib : decide (i < n) = false := decide_eq_false ci
                  clear ci
                  have hc0 : wr.cell? ⟨w1.heap.size, 0, none⟩ = some (.string s) := (blk_cell HK.out 0).trans rfl
                  have hc1 : wr.cell? ⟨w1.heap.size, 1, none⟩ = some (.bool ok) := (blk_cell HK.out 1).trans rfl
                  cases ok with
                  | false =>
                    rw [if_neg (by decide)] at H
                    simp only [Option.some.injEq, Prod.mk.injEq] at H
                    obtain ⟨rfl, rfl⟩ := H
                    go_wp2
                    go_ret2
                    exact ⟨_, rfl, Kd.R_nil _ _ _ _ _, HB.out⟩
                  | true =>
                    rw [if_pos rfl] at H
                    by_cases ce : s.toList = ([] : List UInt8)
                    · rw [if_pos ce] at H
                      have ce0 : (s.toList == ([] : List UInt8)) = true := beq_iff_eq.mpr ce
                      have ce1 : s.toList.isEmpty = true := by rw [ce]; rfl
                      have ce2 : (s.toList != ([] : List UInt8)) = false := bne_eq_false_iff_eq.mpr ce
                      obtain ⟨e, hE, H⟩ := Option.bind_eq_some_iff.mp H
                      have E1 := Aside0.mk hE
                      clear hE ce
                      obtain ⟨Ao, co, eo⟩ := Kd.R_slice HO.out
                      subst eo
                      by_cases c7 : e = 0
                      · rw [if_pos c7] at H
                        subst c7
                        simp only [Option.some.injEq, Prod.mk.injEq] at H
                        obtain ⟨rfl, rfl⟩ := H
                        go_wp2_with (first | (go_at_call 13; (refine (block_Check.calls k1 _ _ out _ _ (Kd.R_reads' HO.out).2.2 (Kd.R_reads' HO.out).2.1 E1.out).mono ?_); rintro e w5 ⟨rfl, hbe⟩; have HBE := Aside0.mk hbe; clear hbe))
                        go_ret2
                        exact ⟨_, rfl, Kd.R_below HO.out HBE.out, below_step HB.out HBE.out⟩
                      · rw [if_neg c7] at H
                        have c7b : (e == 0) = false := beq_eq_false_iff_ne.mpr c7
                        have c7c : (e != 0) = true := bne_iff_ne.mpr c7
                        clear c7
                        simp only [Option.some.injEq, Prod.mk.injEq] at H
                        obtain ⟨rfl, rfl⟩ := H
                        go_wp2_with (first | (go_at_call 13; (refine (block_Check.calls k1 _ _ out _ _ (Kd.R_reads' HO.out).2.2 (Kd.R_reads' HO.out).2.1 E1.out).mono ?_); rintro e w5 ⟨rfl, hbe⟩; have HBE := Aside0.mk hbe; clear hbe))
                        go_ret2
                        exact ⟨_, rfl, Kd.R_nil _ _ _ _ _, below_step HB.out HBE.out⟩
                    · rw [if_neg ce] at H
                      have ce0 : (s.toList == ([] : List UInt8)) = false := beq_eq_false_iff_ne.mpr ce
                      have ce1 : s.toList.isEmpty = false := by rw [isE3]; exact ce0
                      have ce2 : (s.toList != ([] : List UInt8)) = true := bne_iff_ne.mpr ce
                      clear ce
                      simp only [Option.some.injEq, Prod.mk.injEq] at H
                      obtain ⟨rfl, rfl⟩ := H
                      go_wp2
                      go_ret2
                      exact ⟨_, rfl, Kd.R_nil _ _ _ _ _, HB.out⟩
      · rw [if_neg c3] at h
        exact absurd h (by simp)
    · rw [if_neg c2] at h
      exact absurd h (by simp)
def sorrelref04_Same.l0 : Nat → List (S36) → List (S36) → Int → Option (Bool)
  | 0, _, _, _ => none
  | k + 1, x0, x1, x5 => if x5 < (x0.length : Int) then (if 0 ≤ x5 then (if x5 < (x1.length : Int) then (if (!((((rd_T36 x0 x5).f0).toList) == (((rd_T36 x1 x5).f0).toList)) || (!((((rd_T36 x0 x5).f1).toList) == (((rd_T36 x1 x5).f1).toList)) || (!(((rd_T36 x0 x5).f2) == ((rd_T36 x1 x5).f2)) || (!(((rd_T36 x0 x5).f3) == ((rd_T36 x1 x5).f3)))))) = true then (some false) else (sorrelref04_Same.l0 k x0 x1 (wrap64 (x5 + 1)))) else (none)) else (none)) else (some true)
def sorrelref04_Same.f (k : Nat) (l0 : List (S36)) (l1 : List (S36)) : Option (Bool) := if (l0.length : Int) = (l1.length : Int) then (sorrelref04_Same.l0 k l0 l1 0) else (some false)
theorem sorrelref04_Same.mono_l : ∀ k, (∀ y0 y1 y2, LeO (sorrelref04_Same.l0 k y0 y1 y2) (sorrelref04_Same.l0 (k + 1) y0 y1 y2))
  | 0 => fun _ _ _ r h => by simp [sorrelref04_Same.l0] at h
  | k + 1 => by
    have ih0 := sorrelref04_Same.mono_l k
    · intro y0 y1 y2
      unfold sorrelref04_Same.l0
      repeat' first
      | (with_reducible exact ih0 _ _ _)
      | (with_reducible exact LeO.refl _)
      | (with_reducible exact LeO.none _)
      | (with_reducible refine LeO.ite ?_ ?_)
      | (with_reducible refine LeO.bind ?_ (fun _ => ?_))
      | exact ih0 _ _ _
      | exact LeO.none _
      | refine LeO.ite ?_ ?_
      | refine LeO.bind ?_ (fun _ => ?_)
theorem sorrelref04_Same.mono : ∀ a0 a1 k, LeO (sorrelref04_Same.f k a0 a1) (sorrelref04_Same.f (k + 1) a0 a1) := by
  intro a0 a1 k
  have ih0 := sorrelref04_Same.mono_l k
  unfold sorrelref04_Same.f
  repeat' first
      | (with_reducible exact ih0 _ _ _)
      | (with_reducible exact LeO.refl _)
      | (with_reducible exact LeO.none _)
      | (with_reducible refine LeO.ite ?_ ?_)
      | (with_reducible refine LeO.bind ?_ (fun _ => ?_))
      | exact ih0 _ _ _
      | exact LeO.none _
      | refine LeO.ite ?_ ?_
      | refine LeO.bind ?_ (fun _ => ?_)
set_option maxHeartbeats 8000000 in
set_option maxRecDepth 100000 in
theorem sorrelref04_Same.calls (k : Nat) (A0 : Option Addr) (c0 : Nat) (l0 : List (S36)) (A1 : Option Addr) (c1 : Nat) (l1 : List (S36)) (r : Bool) (w : World) (hr0 : Kd.C k36 w A0 l0.length l0) (hc0 : l0.length ≤ c0) (hr1 : Kd.C k36 w A1 l1.length l1) (hc1 : l1.length ≤ c1) (h : sorrelref04_Same.f k l0 l1 = some r) :
    Calls Try.prog 17 #[.slice A0 l0.length c0, .slice A1 l1.length c1] w fun e w' => e = .returned (.bool r) ∧ Drawn0 w w' := by
  have hu36 := Try.underlying36
  have HR0 := Aside0.mk hr0
  have HC0 := Aside0.mk hc0
  clear hr0 hc0
  have HR1 := Aside0.mk hr1
  have HC1 := Aside0.mk hc1
  clear hr1 hc1
  have H : (if (l0.length : Int) = (l1.length : Int) then (sorrelref04_Same.l0 k l0 l1 0) else (some false)) = some r := h
  clear h
  by_cases c3 : (l0.length : Int) = (l1.length : Int)
  · rw [if_pos c3] at H
    have c3b0 : ((l0.length : Int) == (l1.length : Int)) = true := beq_iff_eq.mpr c3
    have c3b1 : ((l0.length : Int) != (l1.length : Int)) = false := bne_eq_false_iff_eq.mpr c3
    have c3b2 : (l0.length == l1.length) = true := by first | simpa using c3 | (simp at c3 ⊢; omega)
    clear c3
    have H' := Aside0.mk H
    clear H
    go_enter Try.func17, Try.ntmps17
    go_wp2
    repeat (go_quiet (fail); try go_wp2)
    go_loopg [5] k (fun kq v5 w' => ∃ (x5_1 : Int), v5 = .int .i64 x5_1 ∧ Aside0 (sorrelref04_Same.l0 kq l0 l1 x5_1 = some r) ∧ Aside0 (kq ≤ k) ∧ Drawn0 w w')
    case atStart => exact ⟨(0), (by first | rfl | (simp; done) | (simp [*]; done) | exact isE1 _ | exact isE2 _ | exact isE3 _ | exact isE4 _ | exact congrArg Value.bool (isE1 _) | exact congrArg Value.bool (isE2 _) | exact congrArg Value.bool (isE3 _) | exact congrArg Value.bool (isE4 _)), H', ⟨Nat.le_refl _⟩, by repeat (first | exact Drawn0.refl _ | apply Drawn0.step)⟩
    case round =>
      clear H'
      try clear c1
      try clear p2
      try clear c3
      try clear c3b0
      try clear c3b1
      try clear c3b2
      obtain ⟨x5_1, rfl, HA, HK1, ⟨m1, rfl⟩⟩ := hrel
      cases gk with
      | zero => exact absurd HA.out (by simp [sorrelref04_Same.l0])
      | succ k1 =>
        have H := HA.out
        clear HA
        simp only [sorrelref04_Same.l0] at H
        by_cases c4 : x5_1 < (l0.length : Int)
        · rw [if_pos c4] at H
          have c4b0 : decide (x5_1 < (l0.length : Int)) = true := decide_eq_true c4
          clear c4
          by_cases c5 : 0 ≤ x5_1
          · rw [if_pos c5] at H
            have c5b0 : decide (0 ≤ x5_1) = true := decide_eq_true c5
            clear c5
            by_cases c6 : x5_1 < (l1.length : Int)
            · rw [if_pos c6] at H
              have c6b0 : decide (x5_1 < (l1.length : Int)) = true := decide_eq_true c6
              clear c6
              by_cases c7 : (!((((rd_T36 l0 x5_1).f0).toList) == (((rd_T36 l1 x5_1).f0).toList)) || (!((((rd_T36 l0 x5_1).f1).toList) == (((rd_T36 l1 x5_1).f1).toList)) || (!(((rd_T36 l0 x5_1).f2) == ((rd_T36 l1 x5_1).f2)) || (!(((rd_T36 l0 x5_1).f3) == ((rd_T36 l1 x5_1).f3)))))) = true
              · rw [if_pos c7] at H
                have c7b0 : (!((((rd_T36 l0 x5_1).f0).toList) == (((rd_T36 l1 x5_1).f0).toList)) || (!((((rd_T36 l0 x5_1).f1).toList) == (((rd_T36 l1 x5_1).f1).toList)) || (!(((rd_T36 l0 x5_1).f2) == ((rd_T36 l1 x5_1).f2)) || (!(((rd_T36 l0 x5_1).f3) == ((rd_T36 l1 x5_1).f3)))))) = true := c7
                clear c7
                obtain rfl := Option.some.inj H
                have p128 : 0 ≤ (x5_1 : Int) := of_decide_eq_true (by first | (with_reducible assumption) | assumption)
                have q128 : x5_1 < (l0.length : Int) := of_decide_eq_true (by first | (with_reducible assumption) | assumption)
                obtain ⟨ad128, e128, hx128_0, hx128_1, hx128_2, hx128_3⟩ := at_T36 HR0.out x5_1 p128 q128
                cases e128
                replace p128 := eq_true p128
                replace q128 := eq_true q128
                have p129 : 0 ≤ (x5_1 : Int) := of_decide_eq_true (by first | (with_reducible assumption) | assumption)
                have q129 : x5_1 < (l1.length : Int) := of_decide_eq_true (by first | (with_reducible assumption) | assumption)
                obtain ⟨ad129, e129, hx129_0, hx129_1, hx129_2, hx129_3⟩ := at_T36 HR1.out x5_1 p129 q129
                cases e129
                replace p129 := eq_true p129
                replace q129 := eq_true q129
                go_wp2
                repeat (go_quiet (fail); try go_wp2)
                go_ret
                exact ⟨by first | rfl | (simp; done) | (simp [*]; done) | exact isE1 _ | exact isE2 _ | exact isE3 _ | exact isE4 _ | exact congrArg Value.bool (isE1 _) | exact congrArg Value.bool (isE2 _) | exact congrArg Value.bool (isE3 _) | exact congrArg Value.bool (isE4 _), by repeat (first | exact Drawn0.refl _ | apply Drawn0.step)⟩
              · rw [if_neg c7] at H
                have c7b0 : (!((((rd_T36 l0 x5_1).f0).toList) == (((rd_T36 l1 x5_1).f0).toList)) || (!((((rd_T36 l0 x5_1).f1).toList) == (((rd_T36 l1 x5_1).f1).toList)) || (!(((rd_T36 l0 x5_1).f2) == ((rd_T36 l1 x5_1).f2)) || (!(((rd_T36 l0 x5_1).f3) == ((rd_T36 l1 x5_1).f3)))))) = false := by simpa using c7
                clear c7
                have H' := Aside0.mk H
                clear H
                have p128 : 0 ≤ (x5_1 : Int) := of_decide_eq_true (by first | (with_reducible assumption) | assumption)
                have q128 : x5_1 < (l0.length : Int) := of_decide_eq_true (by first | (with_reducible assumption) | assumption)
                obtain ⟨ad128, e128, hx128_0, hx128_1, hx128_2, hx128_3⟩ := at_T36 HR0.out x5_1 p128 q128
                cases e128
                replace p128 := eq_true p128
                replace q128 := eq_true q128
                have p129 : 0 ≤ (x5_1 : Int) := of_decide_eq_true (by first | (with_reducible assumption) | assumption)
                have q129 : x5_1 < (l1.length : Int) := of_decide_eq_true (by first | (with_reducible assumption) | assumption)
                obtain ⟨ad129, e129, hx129_0, hx129_1, hx129_2, hx129_3⟩ := at_T36 HR1.out x5_1 p129 q129
                cases e129
                replace p129 := eq_true p129
                replace q129 := eq_true q129
                go_wp2
                repeat (go_quiet (fail); try go_wp2)
                go_roundg k1
                case measure => have := HK1.out; omega
                case rel => exact ⟨(wrap64 (x5_1 + 1)), (by first | rfl | (simp; done) | (simp [*]; done) | exact isE1 _ | exact isE2 _ | exact isE3 _ | exact isE4 _ | exact congrArg Value.bool (isE1 _) | exact congrArg Value.bool (isE2 _) | exact congrArg Value.bool (isE3 _) | exact congrArg Value.bool (isE4 _)), H', ⟨by have := HK1.out; omega⟩, by repeat (first | exact Drawn0.refl _ | apply Drawn0.step)⟩
            · rw [if_neg c6] at H
              exact absurd H (by simp)
          · rw [if_neg c5] at H
            exact absurd H (by simp)
        · rw [if_neg c4] at H
          have c4b0 : decide (x5_1 < (l0.length : Int)) = false := decide_eq_false c4
          clear c4
          obtain rfl := Option.some.inj H
          go_wp2
          repeat (go_quiet (fail); try go_wp2)
          go_ret
          exact ⟨by first | rfl | (simp; done) | (simp [*]; done) | exact isE1 _ | exact isE2 _ | exact isE3 _ | exact isE4 _ | exact congrArg Value.bool (isE1 _) | exact congrArg Value.bool (isE2 _) | exact congrArg Value.bool (isE3 _) | exact congrArg Value.bool (isE4 _), by repeat (first | exact Drawn0.refl _ | apply Drawn0.step)⟩
  · rw [if_neg c3] at H
    have c3b0 : ((l0.length : Int) == (l1.length : Int)) = false := beq_eq_false_iff_ne.mpr c3
    have c3b1 : ((l0.length : Int) != (l1.length : Int)) = true := bne_iff_ne.mpr c3
    have c3b2 : (l0.length == l1.length) = false := by first | simpa using c3 | (simp at c3 ⊢; omega)
    obtain rfl := Option.some.inj H
    go_enter Try.func17, Try.ntmps17
    go_wp2
    repeat (go_quiet (fail); try go_wp2)
    go_ret
    exact ⟨by first | rfl | (simp; done) | (simp [*]; done) | exact isE1 _ | exact isE2 _ | exact isE3 _ | exact isE4 _ | exact congrArg Value.bool (isE1 _) | exact congrArg Value.bool (isE2 _) | exact congrArg Value.bool (isE3 _) | exact congrArg Value.bool (isE4 _), by repeat (first | exact Drawn0.refl _ | apply Drawn0.step)⟩
def block_Find.s0 : Nat → List S36 → ByteArray → Int → Int → Int → Option Int
  | 0, _, _, _, _, _ => none
  | k + 1, l, key, q, i, j =>
    if i < j then
      (if 0 ≤ i then (if j ≤ (l.length : Int) then
        ((block_Less.f (rd_T36 l ((i + j) / 2)).f0 (rd_T36 l ((i + j) / 2)).f1 (rd_T36 l ((i + j) / 2)).f2 (rd_T36 l ((i + j) / 2)).f3 key (⟨#[]⟩ : ByteArray) false q).bind fun b =>
          if b = true then block_Find.s0 k l key q ((i + j) / 2 + 1) j else block_Find.s0 k l key q i ((i + j) / 2))
      else none) else none)
    else some i
theorem block_Find.mono_s : ∀ k, (∀ y0 y1 y2 y3 y4, LeO (block_Find.s0 k y0 y1 y2 y3 y4) (block_Find.s0 (k + 1) y0 y1 y2 y3 y4))
  | 0 => fun _ _ _ _ _ r h => by simp [block_Find.s0] at h
  | k + 1 => by
    have ih0 := block_Find.mono_s k
    intro y0 y1 y2 y3 y4
    unfold block_Find.s0
    repeat' first
      | (with_reducible exact ih0 _ _ _ _ _)
      | (with_reducible exact LeO.refl _)
      | (with_reducible exact LeO.none _)
      | (with_reducible refine LeO.ite ?_ ?_)
      | (with_reducible refine LeO.bind ?_ (fun _ => ?_))
set_option maxHeartbeats 1600000 in
set_option maxRecDepth 100000 in
theorem block_Find.one (g3 g4 g5 : Nat) (A0 : Option Addr) (c0 : Nat) (l0 : List S36) (key : ByteArray) (q j : Int) (b : Bool) (W : World) (h3 : W.heap[g3]? = some (.cells #[.slice A0 l0.length c0] 22 (0, 0))) (h4 : W.heap[g4]? = some (.cells #[.string key] 9 (0, 0))) (h5 : W.heap[g5]? = some (.cells #[.int .i64 q] 3 (0, 0)))
    (hr : Kd.C k36 W A0 l0.length l0) (j0 : 0 ≤ j) (j1 : j < (l0.length : Int)) (h : block_Less.f (rd_T36 l0 j).f0 (rd_T36 l0 j).f1 (rd_T36 l0 j).f2 (rd_T36 l0 j).f3 key (⟨#[]⟩ : ByteArray) false q = some b) :
    Calls Try.prog 44 #[.int .i64 j, .pointer (some ⟨g3, 0, none⟩), .pointer (some ⟨g4, 0, none⟩), .pointer (some ⟨g5, 0, none⟩)] W fun e w' => e = .returned (.bool (!b)) ∧ Below W.heap.size W w' := by
  have HL := Aside0.mk h
  have hc3 : W.cell? ⟨g3, 0, none⟩ = some (.slice A0 l0.length c0) := (blk_cell h3 0).trans rfl
  have hc4 : W.cell? ⟨g4, 0, none⟩ = some (.string key) := (blk_cell h4 0).trans rfl
  have hc5 : W.cell? ⟨g5, 0, none⟩ = some (.int .i64 q) := (blk_cell h5 0).trans rfl
  obtain ⟨ad', ea, hx0, hx1, hx2, hx3⟩ := at_T36 hr j j0 j1
  subst ea
  obtain ⟨x, hx⟩ : ∃ x, rd_T36 l0 j = x := ⟨_, rfl⟩
  rw [hx] at HL hx0 hx1 hx2 hx3
  obtain ⟨K, V, G, Q⟩ := x
  dsimp only at HL hx0 hx1 hx2 hx3
  have p0 := eq_true j0
  have p1 := eq_true j1
  have p0b : decide (0 ≤ j) = true := decide_eq_true j0
  have p1b : decide (j < (l0.length : Int)) = true := decide_eq_true j1
  clear h h3 h4 h5 hr j0 j1 hx
  go_enter Try.func44, Try.ntmps44
  go_wp2
  go_still_tail 7, (by kernel_rfl)
  change wpList _ _ _ _ _ W.drew
  go_wp2_with (go_at_call 21; (refine (block_Less.calls K V G Q key (⟨#[]⟩ : ByteArray) false q b _ HL.out).mono ?_); rintro e w1 ⟨rfl, hb1⟩; have HB1 := Aside0.mk hb1; clear hb1)
  go_ret
  exact ⟨rfl, below_then (below_drew1 (Below.refl W.heap.size W)) (Nat.le_refl _) HB1.out⟩
set_option maxHeartbeats 1600000 in
set_option maxRecDepth 100000 in
theorem block_Find.search (k : Nat) (g3 g4 g5 : Nat) (A0 : Option Addr) (c0 : Nat) (l0 : List S36) (key : ByteArray) (q n r : Int) (W : World) (h3 : W.heap[g3]? = some (.cells #[.slice A0 l0.length c0] 22 (0, 0))) (h4 : W.heap[g4]? = some (.cells #[.string key] 9 (0, 0))) (h5 : W.heap[g5]? = some (.cells #[.int .i64 q] 3 (0, 0)))
    (hr : Kd.C k36 W A0 l0.length l0) (hn : l0.length ≤ 4096) (h : block_Find.s0 k l0 key q 0 n = some r) :
    Calls Try.prog 45 #[.int .i64 n, .func (Fn.func 44) #[] #[.pointer (some ⟨g3, 0, none⟩), .pointer (some ⟨g4, 0, none⟩), .pointer (some ⟨g5, 0, none⟩)]] W fun e w' => e = .returned (.int .i64 r) ∧ Below W.heap.size W w' := by
  have H3 := Aside0.mk h3
  have H4 := Aside0.mk h4
  have H5 := Aside0.mk h5
  have HR := Aside0.mk hr
  have HN := Aside0.mk hn
  have H' := Aside0.mk h
  have HB := Aside0.mk (Below.refl W.heap.size W)
  clear h3 h4 h5 hr hn h
  go_enter Try.func45, Try.ntmps45
  go_wp2
  go_loopg [5, 6] k (fun kq v5 v6 w' => ∃ (i j : Int), v5 = .int .i64 i ∧ v6 = .int .i64 j ∧ Aside0 (block_Find.s0 kq l0 key q i j = some r) ∧ Aside0 (kq ≤ k) ∧ Aside0 (Below W.heap.size W w'))
  case atStart => exact ⟨0, n, rfl, rfl, H', ⟨Nat.le_refl _⟩, HB⟩
  case round =>
    clear H' HB
    obtain ⟨i, j, rfl, rfl, HA, HKQ, HB⟩ := hrel
    cases gk with
    | zero => exact absurd HA.out (by simp [block_Find.s0])
    | succ k1 =>
      have H := HA.out
      clear HA
      simp only [block_Find.s0] at H
      by_cases c1 : i < j
      · rw [if_pos c1] at H
        by_cases c2 : 0 ≤ i
        · rw [if_pos c2] at H
          by_cases c3 : j ≤ (l0.length : Int)
          · rw [if_pos c3] at H
            obtain ⟨b, hL, H⟩ := Option.bind_eq_some_iff.mp H
            have HL := Aside0.mk hL
            have hn := HN.out
            have p1 : decide (i < j) = true := decide_eq_true c1
            obtain ⟨m, hm⟩ : ∃ m : Int, (i + j) / 2 = m := ⟨_, rfl⟩
            have M0 : Aside0 (0 ≤ m) := ⟨by omega⟩
            have M1 : Aside0 (m < (l0.length : Int)) := ⟨by omega⟩
            have M2 : Aside0 (m ≤ 4096) := ⟨by omega⟩
            have b0 : 0 ≤ i := c2
            have b1 : i ≤ 4096 := by omega
            have b2 : 0 ≤ j := by omega
            have b3 : j ≤ 4096 := by omega
            have b4 : 0 ≤ m := M0.out
            have b5 : m ≤ 4096 := M2.out
            rw [hm] at H HL
            clear hL c1 c2 c3 hn
            cases b with
            | true =>
              rw [if_pos rfl] at H
              have H' := Aside0.mk H
              clear H
              go_wp2_with (go_at_call 44; (refine (block_Find.one g3 g4 g5 A0 c0 l0 key q m _ wr (blk_below H3.out HB.out) (blk_below H4.out HB.out) (blk_below H5.out HB.out) (Kd.C_below HR.out HB.out) M0.out M1.out HL.out).mono ?_); rintro e w2 ⟨rfl, hb⟩; have HB2 := Aside0.mk (below_step HB.out hb); clear hb)
              go_roundg k1
              case measure => have := HKQ.out; omega
              case rel => exact ⟨_, _, rfl, rfl, H', ⟨by have := HKQ.out; omega⟩, HB2⟩
            | false =>
              rw [if_neg (by decide)] at H
              have H' := Aside0.mk H
              clear H
              go_wp2_with (go_at_call 44; (refine (block_Find.one g3 g4 g5 A0 c0 l0 key q m _ wr (blk_below H3.out HB.out) (blk_below H4.out HB.out) (blk_below H5.out HB.out) (Kd.C_below HR.out HB.out) M0.out M1.out HL.out).mono ?_); rintro e w2 ⟨rfl, hb⟩; have HB2 := Aside0.mk (below_step HB.out hb); clear hb)
              go_roundg k1
              case measure => have := HKQ.out; omega
              case rel => exact ⟨_, _, rfl, rfl, H', ⟨by have := HKQ.out; omega⟩, HB2⟩
          · rw [if_neg c3] at H
            exact absurd H (by simp)
        · rw [if_neg c2] at H
          exact absurd H (by simp)
      · rw [if_neg c1] at H
        have p1 : decide (i < j) = false := decide_eq_false c1
        clear c1
        obtain rfl := Option.some.inj H
        go_wp2
        go_ret
        exact ⟨rfl, HB.out⟩
def block_Find.f (k : Nat) (l : List S36) (key : ByteArray) (q : Int) : Option (ByteArray × ByteArray × Bool × Int × Bool) :=
  (block_Check.f k l).bind fun t => if t = 0 then
    (if l.length ≤ 4096 then
      ((block_Find.s0 k l key q 0 (l.length : Int)).bind fun r =>
        if r = (l.length : Int) then some ((⟨#[]⟩ : ByteArray), (⟨#[]⟩ : ByteArray), false, 0, false)
        else (if 0 ≤ r then (if r < (l.length : Int) then
          (if (rd_T36 l r).f0.toList = key.toList then some ((rd_T36 l r).f0, (rd_T36 l r).f1, (rd_T36 l r).f2, (rd_T36 l r).f3, true) else some ((⟨#[]⟩ : ByteArray), (⟨#[]⟩ : ByteArray), false, 0, false))
        else none) else none))
    else none)
  else some ((⟨#[]⟩ : ByteArray), (⟨#[]⟩ : ByteArray), false, 0, false)
theorem block_Find.mono : ∀ a0 a1 a2 k, LeO (block_Find.f k a0 a1 a2) (block_Find.f (k + 1) a0 a1 a2) := by
  intro a0 a1 a2 k
  have ih0 := block_Find.mono_s k
  unfold block_Find.f
  repeat' first
    | (with_reducible exact ih0 _ _ _ _ _)
    | (with_reducible exact block_Check.mono _ _)
    | (with_reducible exact LeO.refl _)
    | (with_reducible exact LeO.none _)
    | (with_reducible refine LeO.ite ?_ ?_)
    | (with_reducible refine LeO.bind ?_ (fun _ => ?_))
theorem block_Find.boxes (w : World) (o1 o2 o3 o4 : Obj) : ((((w.alloc o1).alloc o2).alloc o3).alloc o4).heap[w.heap.size]? = some o1 ∧ ((((w.alloc o1).alloc o2).alloc o3).alloc o4).heap[w.heap.size + 1]? = some o2 ∧ ((((w.alloc o1).alloc o2).alloc o3).alloc o4).heap[w.heap.size + 2]? = some o3 ∧ ((((w.alloc o1).alloc o2).alloc o3).alloc o4).heap[w.heap.size + 3]? = some o4 := by
  have s1 : (w.alloc o1).heap.size = w.heap.size + 1 := by simp
  have s2 : ((w.alloc o1).alloc o2).heap.size = w.heap.size + 2 := by simp
  have s3 : (((w.alloc o1).alloc o2).alloc o3).heap.size = w.heap.size + 3 := by simp
  exact ⟨blk_alloc (blk_alloc (blk_alloc (heap_alloc_new w o1) _) _) _, blk_alloc (blk_alloc (s1 ▸ heap_alloc_new (w.alloc o1) o2) _) _, blk_alloc (s2 ▸ heap_alloc_new ((w.alloc o1).alloc o2) o3) _, s3 ▸ heap_alloc_new (((w.alloc o1).alloc o2).alloc o3) o4⟩
theorem block_Find.put4 {W : World} {g : Nat} {t : TypeId} {c0 c1 c2 c3 x0 x1 x2 x3 : Value} (h : W.heap[g]? = some (.cells #[c0, c1, c2, c3] t (0, 0))) : ((((W.setCell ⟨g, 0, none⟩ x0).setCell ⟨g, 1, none⟩ x1).setCell ⟨g, 2, none⟩ x2).setCell ⟨g, 3, none⟩ x3).heap[g]? = some (.cells #[x0, x1, x2, x3] t (0, 0)) :=
  blk_put (blk_put (blk_put (blk_put h 0 x0 rfl) 1 x1 rfl) 2 x2 rfl) 3 x3 rfl
set_option maxHeartbeats 4000000 in
set_option maxRecDepth 100000 in
theorem block_Find.calls (k : Nat) (A0 : Option Addr) (c0 : Nat) (l0 : List S36) (a1 : ByteArray) (a2 : Int) (r1 : ByteArray) (r2 : ByteArray) (r3 : Bool) (r4 : Int) (r5 : Bool) (w : World) (hr0 : Kd.C k36 w A0 l0.length l0) (hc0 : l0.length ≤ c0) (h : block_Find.f k l0 a1 a2 = some (r1, r2, r3, r4, r5)) :
    Calls Try.prog 19 #[.slice A0 l0.length c0, .string a1, .int .i64 a2] w fun e w' => e = .returned (.tuple #[.agg #[.string r1, .string r2, .bool r3, .int .i64 r4], .bool r5]) ∧ Below w.heap.size w w' := by
  have HC0 := Aside0.mk hc0
  have HB := Aside0.mk (Below.refl w.heap.size w)
  have HR := Aside0.mk hr0
  clear hr0 hc0
  unfold block_Find.f at h
  obtain ⟨t, hA, h⟩ := Option.bind_eq_some_iff.mp h
  have A1 := Aside0.mk hA
  clear hA
  by_cases c1 : t = 0
  · rw [if_pos c1] at h
    subst c1
    by_cases c2 : l0.length ≤ 4096
    · rw [if_pos c2] at h
      obtain ⟨r, hS, h⟩ := Option.bind_eq_some_iff.mp h
      have S1 := Aside0.mk hS
      have LN := Aside0.mk c2
      clear hS c2
      by_cases c3 : r = (l0.length : Int)
      · rw [if_pos c3] at h
        subst c3
        simp only [Option.some.injEq, Prod.mk.injEq] at h
        obtain ⟨rfl, rfl, rfl, rfl, rfl⟩ := h
        go_enter Try.func19, Try.ntmps19
        go_wp2_with (first | (go_at_call 13; (refine (block_Check.calls k _ c0 l0 _ _ (by (with_reducible repeat (first | refine Kd.C_alloc ?_ _)); exact HR.out) HC0.out A1.out).mono ?_); rintro e w1 ⟨rfl, hb1⟩; have HB1 := Aside0.mk (below_step (by repeat (first | (with_reducible first | exact HB.out | apply below_alloc) | exact HB.out)) hb1); obtain ⟨g3, g4, g5, g6⟩ := block_Find.boxes w (.cells #[.slice A0 l0.length c0] 22) (.cells #[.string a1] 9) (.cells #[.int .i64 a2] 3) (.cells #[.string (⟨#[]⟩ : ByteArray), .string (⟨#[]⟩ : ByteArray), .bool false, .int .i64 0] 36); have G3 := Aside0.mk (blk_below g3 hb1); have G4 := Aside0.mk (blk_below g4 hb1); have G5 := Aside0.mk (blk_below g5 hb1); have G6 := Aside0.mk (blk_below g6 hb1); have hc3 : w1.cell? ⟨w.heap.size, 0, none⟩ = some (.slice A0 l0.length c0) := (blk_cell G3.out 0).trans rfl; have v60 := (blk_cell G6.out 0).trans rfl; have v61 := (blk_cell G6.out 1).trans rfl; have v62 := (blk_cell G6.out 2).trans rfl; have v63 := (blk_cell G6.out 3).trans rfl; have f60 := blk_frozen G6.out 0; have f61 := blk_frozen G6.out 1; have f62 := blk_frozen G6.out 2; have f63 := blk_frozen G6.out 3; clear g3 g4 g5 g6 hb1) | (go_at_call 45; (refine (block_Find.search k w.heap.size (w.heap.size + 1) (w.heap.size + 2) A0 c0 l0 a1 a2 (l0.length : Int) _ w1 G3.out G4.out G5.out (Kd.C_below HR.out HB1.out) LN.out S1.out).mono ?_); rintro e w2 ⟨rfl, hb2⟩; have HB2 := Aside0.mk (below_step HB1.out hb2); have F3 := Aside0.mk (blk_below G3.out hb2); have F4 := Aside0.mk (blk_below G4.out hb2); have F6 := Aside0.mk (blk_below G6.out hb2); have hd3 : w2.cell? ⟨w.heap.size, 0, none⟩ = some (.slice A0 l0.length c0) := (blk_cell F3.out 0).trans rfl; have hd4 : w2.cell? ⟨w.heap.size + 1, 0, none⟩ = some (.string a1) := (blk_cell F4.out 0).trans rfl; have u60 := (blk_cell F6.out 0).trans rfl; have u61 := (blk_cell F6.out 1).trans rfl; have u62 := (blk_cell F6.out 2).trans rfl; have u63 := (blk_cell F6.out 3).trans rfl; have e60 := blk_frozen F6.out 0; have e61 := blk_frozen F6.out 1; have e62 := blk_frozen F6.out 2; have e63 := blk_frozen F6.out 3; clear hb2))
        go_quiet (fail)
        go_wp2
        refine bodyPost_ret (results_ct rfl _ _ (w.heap.size + 3) 36 #[.string (⟨#[]⟩ : ByteArray), .string (⟨#[]⟩ : ByteArray), .bool false, .int .i64 0] (0, 0) _ rfl (block_Find.put4 (blk_drewN F6.out _)) Try.underlying36 rfl (by kernel_rfl)) rfl ?_
        exact ⟨rfl, by repeat (first | (with_reducible first | exact HB2.out | apply pw_below_drewN | apply below_drew1 | refine below_set ?_ (by omega)) | exact HB2.out)⟩
      · rw [if_neg c3] at h
        have p3 : (r == (l0.length : Int)) = false := beq_eq_false_iff_ne.mpr c3
        clear c3
        by_cases c4 : 0 ≤ r
        · rw [if_pos c4] at h
          by_cases c5 : r < (l0.length : Int)
          · rw [if_pos c5] at h
            obtain ⟨x, hx⟩ : ∃ x, rd_T36 l0 r = x := ⟨_, rfl⟩
            have HX := Aside0.mk hx
            rw [hx] at h
            clear hx
            have C4 := Aside0.mk c4
            have C5 := Aside0.mk c5
            have p4 := eq_true c4
            have p4b : decide (0 ≤ r) = true := decide_eq_true c4
            have p5 := eq_true c5
            have p5b : decide (r < (l0.length : Int)) = true := decide_eq_true c5
            clear c4 c5
            obtain ⟨K, V, G, Q⟩ := x
            dsimp only at h
            obtain ⟨ad, e117, _⟩ := at_T36 HR.out r C4.out C5.out
            subst e117
            by_cases c6 : K.toList = a1.toList
            · rw [if_pos c6] at h
              have p6 : (K.toList == a1.toList) = true := beq_iff_eq.mpr c6
              have p6b : (K.toList != a1.toList) = false := bne_eq_false_iff_eq.mpr c6
              clear c6
              simp only [Option.some.injEq, Prod.mk.injEq] at h
              obtain ⟨rfl, rfl, rfl, rfl, rfl⟩ := h
              go_enter Try.func19, Try.ntmps19
              go_wp2_with (first | (go_at_call 13; (refine (block_Check.calls k _ c0 l0 _ _ (by (with_reducible repeat (first | refine Kd.C_alloc ?_ _)); exact HR.out) HC0.out A1.out).mono ?_); rintro e w1 ⟨rfl, hb1⟩; have HB1 := Aside0.mk (below_step (by repeat (first | (with_reducible first | exact HB.out | apply below_alloc) | exact HB.out)) hb1); obtain ⟨g3, g4, g5, g6⟩ := block_Find.boxes w (.cells #[.slice (some ad) l0.length c0] 22) (.cells #[.string a1] 9) (.cells #[.int .i64 a2] 3) (.cells #[.string (⟨#[]⟩ : ByteArray), .string (⟨#[]⟩ : ByteArray), .bool false, .int .i64 0] 36); have G3 := Aside0.mk (blk_below g3 hb1); have G4 := Aside0.mk (blk_below g4 hb1); have G5 := Aside0.mk (blk_below g5 hb1); have G6 := Aside0.mk (blk_below g6 hb1); have hc3 : w1.cell? ⟨w.heap.size, 0, none⟩ = some (.slice (some ad) l0.length c0) := (blk_cell G3.out 0).trans rfl; have v60 := (blk_cell G6.out 0).trans rfl; have v61 := (blk_cell G6.out 1).trans rfl; have v62 := (blk_cell G6.out 2).trans rfl; have v63 := (blk_cell G6.out 3).trans rfl; have f60 := blk_frozen G6.out 0; have f61 := blk_frozen G6.out 1; have f62 := blk_frozen G6.out 2; have f63 := blk_frozen G6.out 3; clear g3 g4 g5 g6 hb1) | (go_at_call 45; (refine (block_Find.search k w.heap.size (w.heap.size + 1) (w.heap.size + 2) (some ad) c0 l0 a1 a2 (l0.length : Int) _ w1 G3.out G4.out G5.out (Kd.C_below HR.out HB1.out) LN.out S1.out).mono ?_); rintro e w2 ⟨rfl, hb2⟩; have HB2 := Aside0.mk (below_step HB1.out hb2); have F3 := Aside0.mk (blk_below G3.out hb2); have F4 := Aside0.mk (blk_below G4.out hb2); have F6 := Aside0.mk (blk_below G6.out hb2); have hd3 : w2.cell? ⟨w.heap.size, 0, none⟩ = some (.slice (some ad) l0.length c0) := (blk_cell F3.out 0).trans rfl; have hd4 : w2.cell? ⟨w.heap.size + 1, 0, none⟩ = some (.string a1) := (blk_cell F4.out 0).trans rfl; have u60 := (blk_cell F6.out 0).trans rfl; have u61 := (blk_cell F6.out 1).trans rfl; have u62 := (blk_cell F6.out 2).trans rfl; have u63 := (blk_cell F6.out 3).trans rfl; have e60 := blk_frozen F6.out 0; have e61 := blk_frozen F6.out 1; have e62 := blk_frozen F6.out 2; have e63 := blk_frozen F6.out 3; obtain ⟨ad', ea, hx0, hx1, hx2, hx3⟩ := at_T36 (Kd.C_below HR.out HB2.out) r C4.out C5.out; cases ea; rw [HX.out] at hx0 hx1 hx2 hx3; clear hb2))
              go_quiet (fail)
              go_wp2
              refine bodyPost_ret (results_ct rfl _ _ (w.heap.size + 3) 36 #[.string K, .string V, .bool G, .int .i64 Q] (0, 0) _ rfl (block_Find.put4 (blk_drewN F6.out _)) Try.underlying36 rfl (by kernel_rfl)) rfl ?_
              exact ⟨rfl, by repeat (first | (with_reducible first | exact HB2.out | apply pw_below_drewN | apply below_drew1 | refine below_set ?_ (by omega)) | exact HB2.out)⟩
            · rw [if_neg c6] at h
              have p6 : (K.toList == a1.toList) = false := beq_eq_false_iff_ne.mpr c6
              have p6b : (K.toList != a1.toList) = true := bne_iff_ne.mpr c6
              clear c6
              simp only [Option.some.injEq, Prod.mk.injEq] at h
              obtain ⟨rfl, rfl, rfl, rfl, rfl⟩ := h
              go_enter Try.func19, Try.ntmps19
              go_wp2_with (first | (go_at_call 13; (refine (block_Check.calls k _ c0 l0 _ _ (by (with_reducible repeat (first | refine Kd.C_alloc ?_ _)); exact HR.out) HC0.out A1.out).mono ?_); rintro e w1 ⟨rfl, hb1⟩; have HB1 := Aside0.mk (below_step (by repeat (first | (with_reducible first | exact HB.out | apply below_alloc) | exact HB.out)) hb1); obtain ⟨g3, g4, g5, g6⟩ := block_Find.boxes w (.cells #[.slice (some ad) l0.length c0] 22) (.cells #[.string a1] 9) (.cells #[.int .i64 a2] 3) (.cells #[.string (⟨#[]⟩ : ByteArray), .string (⟨#[]⟩ : ByteArray), .bool false, .int .i64 0] 36); have G3 := Aside0.mk (blk_below g3 hb1); have G4 := Aside0.mk (blk_below g4 hb1); have G5 := Aside0.mk (blk_below g5 hb1); have G6 := Aside0.mk (blk_below g6 hb1); have hc3 : w1.cell? ⟨w.heap.size, 0, none⟩ = some (.slice (some ad) l0.length c0) := (blk_cell G3.out 0).trans rfl; have v60 := (blk_cell G6.out 0).trans rfl; have v61 := (blk_cell G6.out 1).trans rfl; have v62 := (blk_cell G6.out 2).trans rfl; have v63 := (blk_cell G6.out 3).trans rfl; have f60 := blk_frozen G6.out 0; have f61 := blk_frozen G6.out 1; have f62 := blk_frozen G6.out 2; have f63 := blk_frozen G6.out 3; clear g3 g4 g5 g6 hb1) | (go_at_call 45; (refine (block_Find.search k w.heap.size (w.heap.size + 1) (w.heap.size + 2) (some ad) c0 l0 a1 a2 (l0.length : Int) _ w1 G3.out G4.out G5.out (Kd.C_below HR.out HB1.out) LN.out S1.out).mono ?_); rintro e w2 ⟨rfl, hb2⟩; have HB2 := Aside0.mk (below_step HB1.out hb2); have F3 := Aside0.mk (blk_below G3.out hb2); have F4 := Aside0.mk (blk_below G4.out hb2); have F6 := Aside0.mk (blk_below G6.out hb2); have hd3 : w2.cell? ⟨w.heap.size, 0, none⟩ = some (.slice (some ad) l0.length c0) := (blk_cell F3.out 0).trans rfl; have hd4 : w2.cell? ⟨w.heap.size + 1, 0, none⟩ = some (.string a1) := (blk_cell F4.out 0).trans rfl; have u60 := (blk_cell F6.out 0).trans rfl; have u61 := (blk_cell F6.out 1).trans rfl; have u62 := (blk_cell F6.out 2).trans rfl; have u63 := (blk_cell F6.out 3).trans rfl; have e60 := blk_frozen F6.out 0; have e61 := blk_frozen F6.out 1; have e62 := blk_frozen F6.out 2; have e63 := blk_frozen F6.out 3; obtain ⟨ad', ea, hx0, hx1, hx2, hx3⟩ := at_T36 (Kd.C_below HR.out HB2.out) r C4.out C5.out; cases ea; rw [HX.out] at hx0 hx1 hx2 hx3; clear hb2))
              go_quiet (fail)
              go_wp2
              refine bodyPost_ret (results_ct rfl _ _ (w.heap.size + 3) 36 #[.string (⟨#[]⟩ : ByteArray), .string (⟨#[]⟩ : ByteArray), .bool false, .int .i64 0] (0, 0) _ rfl (block_Find.put4 (blk_drewN F6.out _)) Try.underlying36 rfl (by kernel_rfl)) rfl ?_
              exact ⟨rfl, by repeat (first | (with_reducible first | exact HB2.out | apply pw_below_drewN | apply below_drew1 | refine below_set ?_ (by omega)) | exact HB2.out)⟩
          · rw [if_neg c5] at h
            exact absurd h (by simp)
        · rw [if_neg c4] at h
          exact absurd h (by simp)
    · rw [if_neg c2] at h
      exact absurd h (by simp)
  · rw [if_neg c1] at h
    have p1 : (t == 0) = false := beq_eq_false_iff_ne.mpr c1
    have p1b : (t != 0) = true := bne_iff_ne.mpr c1
    clear c1
    simp only [Option.some.injEq, Prod.mk.injEq] at h
    obtain ⟨rfl, rfl, rfl, rfl, rfl⟩ := h
    go_enter Try.func19, Try.ntmps19
    go_wp2_with (go_at_call 13; (refine (block_Check.calls k _ c0 l0 _ _ (by (with_reducible repeat (first | refine Kd.C_alloc ?_ _)); exact HR.out) HC0.out A1.out).mono ?_); rintro e w1 ⟨rfl, hb1⟩; have HB1 := Aside0.mk (below_step (by repeat (first | (with_reducible first | exact HB.out | apply below_alloc) | exact HB.out)) hb1); obtain ⟨g3, g4, g5, g6⟩ := block_Find.boxes w (.cells #[.slice A0 l0.length c0] 22) (.cells #[.string a1] 9) (.cells #[.int .i64 a2] 3) (.cells #[.string (⟨#[]⟩ : ByteArray), .string (⟨#[]⟩ : ByteArray), .bool false, .int .i64 0] 36); have G3 := Aside0.mk (blk_below g3 hb1); have G4 := Aside0.mk (blk_below g4 hb1); have G5 := Aside0.mk (blk_below g5 hb1); have G6 := Aside0.mk (blk_below g6 hb1); have hc3 : w1.cell? ⟨w.heap.size, 0, none⟩ = some (.slice A0 l0.length c0) := (blk_cell G3.out 0).trans rfl; have v60 := (blk_cell G6.out 0).trans rfl; have v61 := (blk_cell G6.out 1).trans rfl; have v62 := (blk_cell G6.out 2).trans rfl; have v63 := (blk_cell G6.out 3).trans rfl; have f60 := blk_frozen G6.out 0; have f61 := blk_frozen G6.out 1; have f62 := blk_frozen G6.out 2; have f63 := blk_frozen G6.out 3; clear g3 g4 g5 g6 hb1)
    refine bodyPost_ret (results_ct rfl _ _ (w.heap.size + 3) 36 #[.string (⟨#[]⟩ : ByteArray), .string (⟨#[]⟩ : ByteArray), .bool false, .int .i64 0] (0, 0) _ rfl (block_Find.put4 G6.out) Try.underlying36 rfl (by kernel_rfl)) rfl ?_
    exact ⟨rfl, by repeat (first | (with_reducible first | exact HB1.out | apply pw_below_drewN | apply below_drew1 | refine below_set ?_ (by omega)) | exact HB1.out)⟩
end Go.Proofs.Ytcfkmcbmambchaa.XA
