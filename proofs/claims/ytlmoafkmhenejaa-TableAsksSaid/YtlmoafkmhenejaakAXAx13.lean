import Derived.Test.YtlmoafkmhenejaakABld
import Derived.Test.YtlmoafkmhenejaakAXAx12
import Derived.Test.YtlmoafkmhenejaakAMTab9
import Derived.Test.YtlmoafkmhenejaakAMTab4
section
namespace Go.Proofs.YtlmoafkmhenejaaW.PrintWords
end Go.Proofs.YtlmoafkmhenejaaW.PrintWords
namespace Go.Proofs.YtlmoafkmhenejaaW.PrintLast
end Go.Proofs.YtlmoafkmhenejaaW.PrintLast
namespace Go.Proofs.YtlmoafkmhenejaaW.PrintMore
end Go.Proofs.YtlmoafkmhenejaaW.PrintMore
namespace Go.Proofs.Ytlmoafkmhenejaa.XW
end Go.Proofs.Ytlmoafkmhenejaa.XW
namespace Go.Proofs.Ytlmoafkmhenejaa.XA
open Go.RowKit Go.Proofs.YtlmoafkmhenejaaW.PrintWords Go.Proofs.YtlmoafkmhenejaaW.PrintLast Go.Proofs.YtlmoafkmhenejaaW.PrintMore Go.Proofs.Ytlmoafkmhenejaa.XW
attribute [local go_sem high] max2_str unary_xor_u32 leq_str geq_str gtr_str
attribute [local go_sem] max2_int min2_int max_two min_two max_three min_three max_four min_four   -- for this text's walks alone
set_option linter.unusedVariables false
set_option linter.unusedSimpArgs false
def sorrellaw10_made.l0 : Nat → List (S43) → List (S43) → Int → Option ((List (S43)))
  | 0, _, _, _ => none
  | k + 1, x0, x3, x4 => if x4 < (x0.length : Int) then (if 0 ≤ x4 then ((sorrelref09_Put1.f k x3 ((rd_T43 x0 x4).f0) ((rd_T43 x0 x4).f1) ((rd_T43 x0 x4).f2) ((rd_T43 x0 x4).f3)).bind fun t351 => (sorrellaw10_made.l0 k x0 t351 (wrap64 (x4 + 1)))) else (none)) else (some x3)
def sorrellaw10_made.f (k : Nat) (l0 : List (S43)) : Option ((List (S43))) := sorrellaw10_made.l0 k l0 ([] : List (S43)) 0
set_option maxHeartbeats 8000000 in
set_option maxRecDepth 100000 in
theorem sorrellaw10_made.calls (k : Nat) (A0 : Option Addr) (c0 : Nat) (l0 : List (S43)) (r : List (S43)) (w : World) (hr0 : Kd.C k43 w A0 l0.length l0) (hc0 : l0.length ≤ c0) (h : sorrellaw10_made.f k l0 = some r) :
    Calls Try.prog 15 #[.slice A0 l0.length c0] w fun e w' => ∃ v0_ : Value, e = .returned (v0_) ∧ Kd.R k43 43 w' w.heap.size (fun _ => True) v0_ r ∧ Below w.heap.size w w' := by
  have hu43 := Try.underlying43
  have HR0 := Aside0.mk hr0
  have HC0 := Aside0.mk hc0
  clear hr0 hc0
  have HB := Aside0.mk (Below.refl w.heap.size w)
  have H : (sorrellaw10_made.l0 k l0 ([] : List (S43)) 0) = some r := h
  clear h
  have H' := Aside0.mk H
  clear H
  go_enter Try.func15, Try.ntmps15
  go_wp2
  go_loopg [3, 4] k (fun kq v3 v4 w' => ∃ (x3_1 : List (S43)) (x4_1 : Int), v4 = .int .i64 x4_1 ∧ Aside0 (sorrellaw10_made.l0 kq l0 x3_1 x4_1 = some r) ∧ Aside0 (kq ≤ k) ∧ Aside0 (Kd.R k43 43 w' w.heap.size (fun _ => True) v3 x3_1) ∧ Aside0 (Below w.heap.size w w'))
  case atStart => exact ⟨(([] : List (S43))), (0), (by first | rfl | (simp; done) | (simp [*]; done) | exact isE1 _ | exact isE2 _ | exact isE3 _ | exact isE4 _ | exact congrArg Value.bool (isE1 _) | exact congrArg Value.bool (isE2 _) | exact congrArg Value.bool (isE3 _) | exact congrArg Value.bool (isE4 _)), H', ⟨Nat.le_refl _⟩, ⟨by first | exact Kd.R_nil _ _ _ _ _ | exact Kd.N_nil _ _ _ _ _ | exact Kd.V_nil _ _ _ _ _ | exact Kd.Q_nil _ _ _ _ _ | exact Kd.S_nil _ _ _ _ _⟩, ⟨by repeat (first | (with_reducible first | exact HB.out | apply below_alloc | apply pw_below_drewN | apply below_drew1) | exact HB.out)⟩⟩
  case round =>
    clear H'
    try clear c1
    obtain ⟨x3_1, x4_1, rfl, HA, HK1, HO_3, HB⟩ := hrel
    cases gk with
    | zero => exact absurd HA.out (by simp [sorrellaw10_made.l0])
    | succ k1 =>
      have H := HA.out; clear HA; simp only [sorrellaw10_made.l0] at H
      by_cases c2 : x4_1 < (l0.length : Int)
      · rw [if_pos c2] at H; have c2b0 : decide (x4_1 < (l0.length : Int)) = true := decide_eq_true c2; clear c2
        by_cases c3 : 0 ≤ x4_1
        · rw [if_pos c3] at H; have c3b0 : decide (0 ≤ x4_1) = true := decide_eq_true c3; clear c3; replace H := Option.bind_eq_some_iff.mp H; obtain ⟨t351, A40, H⟩ := H; replace H : (sorrellaw10_made.l0 k1 l0 t351 (wrap64 (x4_1 + 1))) = some r := H; have A4 := Aside0.mk A40; clear A40; have H' := Aside0.mk H; clear H; have p350 : 0 ≤ (x4_1 : Int) := of_decide_eq_true (by first | (with_reducible assumption) | assumption); have q350 : x4_1 < (l0.length : Int) := of_decide_eq_true (by first | (with_reducible assumption) | assumption); obtain ⟨ad350, e350, hx350_0, hx350_1, hx350_2, hx350_3⟩ := at_T43 HR0.out x4_1 p350 q350; cases e350; replace hx350_0 := (HB.out.cell (World.block_lt_of_cell? w _ hx350_0)).trans hx350_0; replace hx350_1 := (HB.out.cell (World.block_lt_of_cell? w _ hx350_1)).trans hx350_1; replace hx350_2 := (HB.out.cell (World.block_lt_of_cell? w _ hx350_2)).trans hx350_2; replace hx350_3 := (HB.out.cell (World.block_lt_of_cell? w _ hx350_3)).trans hx350_3; replace p350 := eq_true p350; replace q350 := eq_true q350; obtain ⟨Ao5, co5, eo5⟩ := Kd.R_slice HO_3.out; subst eo5
          go_wp2_with (first | ((with_reducible refine gate_callee (f := 52) rfl ?_); refine goesL_ (some 16) rfl rfl Try.func52 (by kernel_rfl) rfl #[.slice Ao5 x3_1.length co5, .agg #[.string ((rd_T43 l0 x4_1).f0), .string ((rd_T43 l0 x4_1).f1), .bool ((rd_T43 l0 x4_1).f2), .int .i64 ((rd_T43 l0 x4_1).f3)]] rfl (by (try simp only [List.map_toArray, List.map_cons, List.map_nil]); first | done | rfl | (simp only [List.length_drop, List.length_take]; rfl)) ?_; (with_reducible refine (sorrelref09_Put1.calls k1 (fun k_ => some k_ = (.slice Ao5 x3_1.length co5 : Value).ownBlock) (.slice Ao5 x3_1.length co5) x3_1 ((rd_T43 l0 x4_1).f0) ((rd_T43 l0 x4_1).f1) ((rd_T43 l0 x4_1).f2) ((rd_T43 l0 x4_1).f3) t351 w _ ?side1 ?side2 A4.out).mono ?_); (case side1 => repeat (first | (with_reducible first | exact HB.out | apply below_alloc | apply pw_below_drewN | apply below_drew1) | exact HB.out)); (case side2 => exact Kd.R_tight rfl HO_3.out); rintro e w6 ⟨v352, rfl, ho0, hb, hkp⟩; refine ⟨_, rfl, ?_⟩; have n0_ := Aside0.mk (Kd.R_mono (ok' := fun k_ => True) ho0 (fun k_ hk_ => trivial)); have n1_ := Aside0.mk (hb); clear HB; clear HO_3; have HO353 := n0_; have HB := n1_; clear n0_ n1_; (try clear hb); (try clear hkp); (try clear ho0)))
          go_roundg k1
          case measure => have := HK1.out; omega
          case rel => exact ⟨(t351), (wrap64 (x4_1 + 1)), (by first | rfl | (simp; done) | (simp [*]; done) | exact isE1 _ | exact isE2 _ | exact isE3 _ | exact isE4 _ | exact congrArg Value.bool (isE1 _) | exact congrArg Value.bool (isE2 _) | exact congrArg Value.bool (isE3 _) | exact congrArg Value.bool (isE4 _)), H', ⟨by have := HK1.out; omega⟩, ⟨by (with_reducible repeat (first | apply Kd.R_alloc | apply Kd.R_drewN | apply Kd.R_drew)); exact HO353.out⟩, ⟨by repeat (first | (with_reducible first | exact HB.out | apply below_alloc | apply pw_below_drewN | apply below_drew1) | exact HB.out)⟩⟩
        · rw [if_neg c3] at H; exact absurd H (by simp)
      · rw [if_neg c2] at H; have c2b0 : decide (x4_1 < (l0.length : Int)) = false := decide_eq_false c2; clear c2; obtain rfl := Option.some.inj H; go_wp2; go_ret; exact ⟨_, by first | rfl | (simp [errW_none, errW_some] <;> rfl) | (simp [*, errW_none, errW_some] <;> rfl), by (with_reducible repeat (first | apply Kd.R_alloc | apply Kd.R_drewN | apply Kd.R_drew)); exact HO_3.out, by repeat (first | (with_reducible first | exact HB.out | apply below_alloc | apply pw_below_drewN | apply below_drew1) | exact HB.out)⟩
end Go.Proofs.Ytlmoafkmhenejaa.XA
end
section
namespace Go.Proofs.Ytlmoafkmhenejaa.VLib
end Go.Proofs.Ytlmoafkmhenejaa.VLib
namespace Go.Proofs.Ytlmoafkmhenejaa.Bld
end Go.Proofs.Ytlmoafkmhenejaa.Bld
namespace Go.Proofs.YtlmoafkmhenejaaW.PrintWords
end Go.Proofs.YtlmoafkmhenejaaW.PrintWords
namespace Go.Proofs.YtlmoafkmhenejaaW.PrintLast
end Go.Proofs.YtlmoafkmhenejaaW.PrintLast
namespace Go.Proofs.YtlmoafkmhenejaaW.PrintMore
end Go.Proofs.YtlmoafkmhenejaaW.PrintMore
namespace Go.Proofs.Ytlmoafkmhenejaa.XW
end Go.Proofs.Ytlmoafkmhenejaa.XW
namespace Go.Proofs.Ytlmoafkmhenejaa.XA
open Go.Proofs.Ytlmoafkmhenejaa.VLib Go.Proofs.Ytlmoafkmhenejaa.Bld Go.RowKit Go.Proofs.YtlmoafkmhenejaaW.PrintWords Go.Proofs.YtlmoafkmhenejaaW.PrintLast Go.Proofs.YtlmoafkmhenejaaW.PrintMore Go.Proofs.Ytlmoafkmhenejaa.XW
attribute [local go_sem high] max2_str unary_xor_u32 leq_str geq_str gtr_str
attribute [local go_sem] max2_int min2_int max_two min_two max_three min_three max_four min_four
set_option linter.unusedVariables false
set_option linter.unusedSimpArgs false
theorem build_nil (kk K : Nat) (A : Option Addr) (c : Nat) (w : World) (hC : Kd.C k43 w A 0 []) (h : buildF kk K [] = some (⟨#[]⟩, 1)) :
    Calls Try.prog 13 #[.slice A 0 c] w fun e w' => e = .returned (.tuple #[.string ⟨#[]⟩, .int .i64 1]) ∧ Below w.heap.size w w' := build_calls kk K A c [] ⟨#[]⟩ 1 w hC (Nat.zero_le _) h
set_option maxHeartbeats 2000000 in
set_option maxRecDepth 100000 in
theorem opened_none (k kk K : Nat) (A : Option Addr) (c : Nat) (l : List S43) (w : World) (hC : Kd.C k43 w A l.length l) (hc : l.length ≤ c) (hm : sorrellaw10_made.f k l = some []) (hb : buildF kk K [] = some (⟨#[]⟩, 1)) :
    Calls Try.prog 21 #[.slice A l.length c] w fun e w' => e = .returned (.tuple #[.pointer none, .slice none 0 0, .bool true]) ∧ Below w.heap.size w w' := by
  have HC := Aside0.mk hC
  have HCC := Aside0.mk hc
  have HM := Aside0.mk hm
  have HB := Aside0.mk hb
  clear hC hc hm hb
  go_enter Try.func21, Try.ntmps21
  go_wp2_with (first
    | (go_at_call 13; go_loud ((with_reducible refine (build_nil kk K A1 c1 _ (Kd.R_reads' HR1.out).2.2 HB.out).mono ?_); rintro e w2 ⟨rfl, hb2⟩; have HB2 := Aside0.mk (below_step HB1.out hb2); clear hb2))
    | (go_at_call 15; go_loud ((with_reducible refine (sorrellaw10_made.calls k A c l [] _ HC.out HCC.out HM.out).mono ?_); rintro e w1 ⟨v1, rfl, hR1, hb1⟩; obtain ⟨A1, c1, e1⟩ := Kd.R_slice hR1; subst e1; have HR1 := Aside0.mk hR1; have HB1 := Aside0.mk hb1; clear hR1 hb1)))
  go_ret3
  exact ⟨rfl, HB2.out⟩
set_option maxHeartbeats 2000000 in
set_option maxRecDepth 100000 in
theorem opened_some (k kk K : Nat) (A : Option Addr) (c : Nat) (l m : List S43) (s bits : ByteArray) (w : World) (hC : Kd.C k43 w A l.length l) (hc : l.length ≤ c) (hm : sorrellaw10_made.f k l = some m) (hl : 0 < m.length) (hb : buildF kk K m = some (s, 0)) (hz : s.size ≤ 140737488355328) (ho : openF kk K s = some (some (m, bits))) :
    Calls Try.prog 21 #[.slice A l.length c] w fun e w' => ∃ p A2 c2, e = .returned (.tuple #[.pointer (some p), .slice A2 m.length c2, .bool true]) ∧ TabAt w' (.pointer (some p)) m bits ∧ Kd.C k43 w' A2 m.length m ∧ m.length ≤ c2 ∧ Below w.heap.size w w' := by
  have HC := Aside0.mk hC
  have HCC := Aside0.mk hc
  have HM := Aside0.mk hm
  have HB := Aside0.mk hb
  have HZ := Aside0.mk hz
  have HO := Aside0.mk ho
  have c1 : ((m.length : Int) == 0) = false := beq_eq_false_iff_ne.mpr (by omega)
  clear hC hc hm hb hz ho hl
  go_enter Try.func21, Try.ntmps21
  go_wp2_with (first
    | (go_at_call 16; go_loud ((with_reducible refine (open_calls kk K s (some (m, bits)) _ HZ.out HO.out).mono ?_); rintro e w3 ⟨hb3, g3, A3, c3, rfl, hg3, hC3, hc3⟩; have HB3 := Aside0.mk (below_step HB2.out hb3); have HC1 := Aside0.mk (Kd.C_below (Kd.C_below (Kd.R_reads' HR1.out).2.2 HB12.out) hb3); have HT3 : Aside0 (TabAt w3 (.pointer (some ⟨g3, 0, none⟩)) m bits) := ⟨.inr ⟨g3, A3, c3, rfl, hg3, hC3, hc3⟩⟩; clear hb3 hg3 hC3 hc3))
    | (go_at_call 13; go_loud ((with_reducible refine (build_calls kk K A1 c1 m s 0 _ (Kd.R_reads' HR1.out).2.2 (Kd.R_reads' HR1.out).2.1 HB.out).mono ?_); rintro e w2 ⟨rfl, hb2⟩; have HB12 := Aside0.mk hb2; have HB2 := Aside0.mk (below_step HB1.out hb2); clear hb2))
    | (go_at_call 15; go_loud ((with_reducible refine (sorrellaw10_made.calls k A c l m _ HC.out HCC.out HM.out).mono ?_); rintro e w1 ⟨v1, rfl, hR1, hb1⟩; obtain ⟨A1, c1, e1⟩ := Kd.R_slice hR1; subst e1; have HR1 := Aside0.mk hR1; have HB1 := Aside0.mk hb1; clear hR1 hb1)))
  go_ret3
  exact ⟨_, A1, _, rfl, HT3.out, HC1.out, (Kd.R_reads' HR1.out).2.1, HB3.out⟩
end Go.Proofs.Ytlmoafkmhenejaa.XA
end
section
namespace Go.Proofs.Ytlmoafkmhenejaa.VLib
end Go.Proofs.Ytlmoafkmhenejaa.VLib
namespace Go.Proofs.Ytlmoafkmhenejaa.Bld
end Go.Proofs.Ytlmoafkmhenejaa.Bld
namespace Go.Proofs.YtlmoafkmhenejaaW.PrintWords
end Go.Proofs.YtlmoafkmhenejaaW.PrintWords
namespace Go.Proofs.YtlmoafkmhenejaaW.PrintLast
end Go.Proofs.YtlmoafkmhenejaaW.PrintLast
namespace Go.Proofs.YtlmoafkmhenejaaW.PrintMore
end Go.Proofs.YtlmoafkmhenejaaW.PrintMore
namespace Go.Proofs.Ytlmoafkmhenejaa.XW
end Go.Proofs.Ytlmoafkmhenejaa.XW
namespace Go.Proofs.Ytlmoafkmhenejaa.XA
open Go.Proofs.Ytlmoafkmhenejaa.VLib Go.Proofs.Ytlmoafkmhenejaa.Bld Go.RowKit Go.Proofs.YtlmoafkmhenejaaW.PrintWords Go.Proofs.YtlmoafkmhenejaaW.PrintLast Go.Proofs.YtlmoafkmhenejaaW.PrintMore Go.Proofs.Ytlmoafkmhenejaa.XW
attribute [local go_sem high] max2_str unary_xor_u32 leq_str geq_str gtr_str
attribute [local go_sem] max2_int min2_int max_two min_two max_three min_three max_four min_four
set_option linter.unusedVariables false
set_option linter.unusedSimpArgs false
structure S38 where
  f0 : ByteArray
  f1 : ByteArray
def k38 : Kd S38 := Kd.iso (Kd.pair Kd.string Kd.string) (fun x : S38 => (x.f0, x.f1))
theorem k38_open {w : World} {x : S38} {cs : List Value} (h : k38.K w x cs) : cs = [.string x.f0, .string x.f1] := by
  obtain ⟨_, _, rfl, rfl, rfl⟩ := h
  rfl
end Go.Proofs.Ytlmoafkmhenejaa.XA
end
section
namespace Go.Proofs.Ytlmoafkmhenejaa.VLib
end Go.Proofs.Ytlmoafkmhenejaa.VLib
namespace Go.Proofs.Ytlmoafkmhenejaa.Bld
end Go.Proofs.Ytlmoafkmhenejaa.Bld
namespace Go.Proofs.YtlmoafkmhenejaaW.PrintWords
end Go.Proofs.YtlmoafkmhenejaaW.PrintWords
namespace Go.Proofs.YtlmoafkmhenejaaW.PrintLast
end Go.Proofs.YtlmoafkmhenejaaW.PrintLast
namespace Go.Proofs.YtlmoafkmhenejaaW.PrintMore
end Go.Proofs.YtlmoafkmhenejaaW.PrintMore
namespace Go.Proofs.Ytlmoafkmhenejaa.XW
end Go.Proofs.Ytlmoafkmhenejaa.XW
namespace Go.Proofs.Ytlmoafkmhenejaa.XA
open Go.Proofs.Ytlmoafkmhenejaa.VLib Go.Proofs.Ytlmoafkmhenejaa.Bld Go.RowKit Go.Proofs.YtlmoafkmhenejaaW.PrintWords Go.Proofs.YtlmoafkmhenejaaW.PrintLast Go.Proofs.YtlmoafkmhenejaaW.PrintMore Go.Proofs.Ytlmoafkmhenejaa.XW
attribute [local go_sem high] max2_str unary_xor_u32 leq_str geq_str gtr_str
attribute [local go_sem] max2_int min2_int max_two min_two max_three min_three max_four min_four
set_option linter.unusedVariables false
set_option linter.unusedSimpArgs false
def ext (l : List S43) (r : Nat) : Nat → Nat → Nat
  | 0, n => n
  | d + 1, n => if r < n ∧ n < l.length ∧ (rd_T43 l (n : Int)).f0 = (rd_T43 l ((n : Int) - 1)).f0 then ext l r d (n + 1) else n
def chunkTo (l : List S43) (r : Nat) (m : Int) : Nat := ext l r l.length (r + (min (max m 1) ((l.length : Int) - (r : Int))).toNat)
def chunkNext (l : List S43) (r : Nat) (m : Int) : ByteArray := if chunkTo l r m = l.length then ⟨#[]⟩ else (rd_T43 l (chunkTo l r m : Int)).f0
set_option maxHeartbeats 2000000 in
set_option maxRecDepth 100000 in
theorem chunk_some (K : Nat) (p : Value) (l : List S43) (bits key : ByteArray) (m : Int) (r : Nat) (w : World) (h : TabAt w p l bits) (hl : 0 < l.length) (hn : l.length ≤ 4096) (hm : -9223372036854775808 ≤ m ∧ m ≤ 9223372036854775807) (hs : seek K l key 0 (l.length : Int) = some (r : Int)) (hr : r ≤ l.length) :
    Calls Try.prog 25 #[p, .string key, .int .i64 m] w fun e w' => ∃ v, e = .returned (.tuple #[v, .string (chunkNext l r m)]) ∧ Kd.R k43 43 w' w.heap.size (fun _ => True) v ((l.take (chunkTo l r m)).drop r) ∧ Below w.heap.size w w' := by
  have HT := Aside0.mk h
  have HL := Aside0.mk hl
  have HN := Aside0.mk hn
  have HS := Aside0.mk hs
  have HR := Aside0.mk hr
  have c1 : ((l.length : Int) == 0) = false := beq_eq_false_iff_ne.mpr (by omega)
  obtain ⟨mm, hmm, hmm2⟩ : ∃ mm : Int, (if m < 1 then (1 : Int) else m) = mm ∧ mm = max m 1 := ⟨_, rfl, by by_cases c : m < 1 <;> simp [c] <;> omega⟩
  have hmm3 : (if 1 < m then m else (1 : Int)) = mm := by rw [hmm2]; by_cases c : 1 < m <;> simp [c] <;> omega
  obtain ⟨d, hd⟩ : ∃ d : Nat, l.length - r = d := ⟨_, rfl⟩
  obtain ⟨q, hq, hq2⟩ : ∃ q : Nat, (if (d : Int) < mm then (d : Int) else mm) = (q : Int) ∧ (q : Int) = min mm (d : Int) := by
    by_cases c : (d : Int) < mm
    · exact ⟨d, by rw [if_pos c], by omega⟩
    · exact ⟨mm.toNat, by rw [if_neg c]; omega, by omega⟩
  have HD : Aside0 (wrap64 ((l.length : Int) - (r : Int)) = (d : Int)) := ⟨by unfold wrap64; omega⟩
  have HQ : Aside0 (wrap64 ((r : Int) + (q : Int)) = ((r + q : Nat) : Int)) := ⟨by unfold wrap64; omega⟩
  have HTO : Aside0 (chunkTo l r m = ext l r l.length (r + q)) := ⟨by unfold chunkTo; rw [← hmm2, show ((l.length : Int) - (r : Int)) = (d : Int) from by omega, ← hq2, Int.toNat_natCast]⟩
  have HQL : Aside0 (r + q ≤ l.length ∧ r ≤ r + q) := ⟨by omega⟩
  obtain ⟨g, A, c, rfl, hg, hC, hc⟩ := h.some hl
  have HG := Aside0.mk hg
  have HC := Aside0.mk hC
  have HCC := Aside0.mk hc
  have hdd := HD.out
  obtain ⟨n0, hn0⟩ : ∃ n0, r + q = n0 := ⟨_, rfl⟩
  rw [hn0] at HQ HTO HQL
  have hqq := HQ.out
  clear h hl hn hs hr hg hC hc hmm2 hq2 hd hm hn0
  go_enter Try.func25, Try.ntmps25
  go_wp2_with (first
    | (go_at_call 60; go_loud ((with_reducible refine (from_some K _ l bits key r _ HT.out HL.out HN.out HS.out).mono ?_); rintro e w2 ⟨rfl, hb2⟩; have HB2 := Aside0.mk hb2; have HT2 := Aside0.mk (HT.out.below hb2); have hg2 := blk_below HG.out hb2; have HG2 := Aside0.mk hg2; have x0 : w2.cell? ⟨g, 0, none⟩ = some (.slice A l.length c) := (blk_cell hg2 0).trans rfl; clear hb2 hg2))
    | (go_at_call 18; go_loud ((with_reducible refine (len_calls _ l bits _ HT.out).mono ?_); rintro e w_ ⟨rfl, hw_⟩; have hw_ := hw_.symm; subst hw_)))
  have HB2' := Aside0.mk HB2.out
  go_loopg [9] l.length (fun kq v9 w' => ∃ (n : Nat), v9 = .int .i64 (n : Int) ∧ Aside0 (n ≤ l.length) ∧ Aside0 (r ≤ n) ∧ Aside0 (l.length ≤ n + kq) ∧ Aside0 (chunkTo l r m = ext l r kq n) ∧ Aside0 (w'.heap[g]? = some (.cells #[.slice A l.length c, .string bits] 65 (0, 0))) ∧ Aside0 (Below w.heap.size w w'))
  case atStart => exact ⟨n0, by rw [hqq], ⟨HQL.out.1⟩, ⟨by have := HQL.out; omega⟩, ⟨by omega⟩, HTO, HG2, HB2⟩
  case round =>
    clear HB2 HT2 HG2 x0 HG HT hqq hdd; obtain ⟨n, rfl, HNL, HRN, HKQ, HTO2, HG, HB⟩ := hrel; have hnl0 := HNL.out; have hkq := HKQ.out
    by_cases q1 : r < n
    · have d1 : decide ((r : Int) < (n : Int)) = true := decide_eq_true (by omega); have d2 : decide (r < n) = true := decide_eq_true q1
      by_cases q2 : n < l.length
      · have d3 : decide ((n : Int) < (l.length : Int)) = true := decide_eq_true (by omega); have d4 : decide (n < l.length) = true := decide_eq_true q2
        cases gk with
        | zero => exact absurd hkq (by omega)
        | succ k1 =>
          obtain ⟨ad, ea, k0, -, -, -⟩ := at_T43 (Kd.C_below HC.out HB.out) (n : Int) (by omega) (by omega); obtain ⟨ad', ea', k1_, -, -, -⟩ := at_T43 (Kd.C_below HC.out HB.out) ((n : Int) - 1) (by omega) (by omega); rw [ea] at ea'; injection ea' with ea'
          subst ea'; rw [Int.toNat_natCast] at k0; have hrd0 : Aside0 (wr.cell? (ad.add (n * 4)) = some (.string (rd_T43 l (n : Int)).f0)) := ⟨k0⟩; obtain ⟨n1, hn1⟩ : ∃ n1, n = n1 + 1 := ⟨n - 1, by omega⟩; have h1e : (n : Int) - 1 = (n1 : Int) := by omega
          rw [h1e, Int.toNat_natCast] at k1_; have HW1 : Aside0 (wrap64 ((n : Int) - 1) = (n1 : Int)) := ⟨by unfold wrap64; have := HN.out; omega⟩; have HWN : Aside0 (wrap64 ((n : Int) + 1) = ((n + 1 : Nat) : Int)) := ⟨by have := HN.out; unfold wrap64; omega⟩; have s1 : (0 ≤ (n : Int)) = True := eq_true (by omega); have s2 : ((n : Int) < (l.length : Int)) = True := eq_true (by omega); have s3 : (n < l.length) = True := eq_true (by omega); have s4 : (0 ≤ (n1 : Int)) = True := eq_true (by omega); have s5 : ((n1 : Int) < (l.length : Int)) = True := eq_true (by omega); have s6 : (n1 < l.length) = True := eq_true (by omega); obtain ⟨a0, ha0⟩ : ∃ a0, (rd_T43 l (n : Int)).f0 = a0 := ⟨_, rfl⟩; obtain ⟨a1, ha1⟩ : ∃ a1, (rd_T43 l (n1 : Int)).f0 = a1 := ⟨_, rfl⟩; rw [ha0] at k0; rw [ha1] at k1_; have hrd1 := Aside0.mk k1_; have HKK : Aside0 ((rd_T43 l (n : Int)).f0 = (rd_T43 l ((n : Int) - 1)).f0 ↔ a0 = a1) := ⟨by rw [h1e, ha0, ha1]⟩; have HK00 := Aside0.mk ha0; have x0 : wr.cell? ⟨g, 0, none⟩ = some (.slice A l.length c) := (blk_cell HG.out 0).trans rfl; cases ea; clear h1e hn1 ha0 ha1
          by_cases q3 : a0 = a1
          · have e3 : (a0.toList == a1.toList) = true := beq_iff_eq.mpr (toList_inj.2 q3); have HT3 : Aside0 (chunkTo l r m = ext l r k1 (n + 1)) := ⟨by rw [HTO2.out, ext, if_pos ⟨q1, q2, HKK.out.2 q3⟩]⟩; have HK3 : Aside0 (l.length ≤ n + 1 + k1) := ⟨by omega⟩; have HN3 : Aside0 (n + 1 ≤ l.length ∧ r ≤ n + 1) := ⟨by omega⟩; have hw1 := HW1.out; clear q1 q2 q3 hkq hnl0; go_wp2
            go_quiet (fail)
            go_wp2
            go_roundg k1
            case measure => omega
            case rel => exact ⟨n + 1, by rw [HWN.out], ⟨HN3.out.1⟩, ⟨HN3.out.2⟩, HK3, HT3, ⟨blk_drewN HG.out nq⟩, ⟨pw_below_drewN HB.out nq⟩⟩
          · have e3 : (a0.toList == a1.toList) = false := beq_eq_false_iff_ne.mpr (fun h => q3 (toList_inj.1 h)); have HTN : Aside0 (chunkTo l r m = n) := ⟨by rw [HTO2.out, ext, if_neg (fun h => q3 (HKK.out.1 h.2.2))]⟩; have hrn := HRN.out; have hnl := HNL.out; have hcc := HCC.out; have hln := HN.out; obtain ⟨i0, hi0, _, hsz0, _⟩ := info_parts info43; have hcut := cut_mid (P := Try.prog) 22 43 .i64 .i64 Try.underlying22 hi0 4 hsz0 (some ad) l.length c (r : Int) (n : Int) (by omega) (by omega) (by omega) hcc; rw [Int.toNat_natCast, Int.toNat_natCast] at hcut; have hCt := Kd.C_take (Kd.C_below HC.out HB.out) (m := n) hnl; have htl : (l.take n).length = n := by rw [List.length_take]; omega
            have hCd := Kd.C_drop hCt (m := r) (c := c) (by omega) (by omega); have hdl : ((l.take n).drop r).length = n - r := by rw [List.length_drop, htl]
            obtain ⟨A2, hA2⟩ : ∃ A2, (if c = r then (some ad) else (some ad : Option Addr).map (·.add (r * 4))) = A2 := ⟨_, rfl⟩; obtain ⟨c2, hc2⟩ : ∃ c2, c - r = c2 := ⟨_, rfl⟩; have hCd' : Kd.C k43 wr A2 ((l.take n).drop r).length ((l.take n).drop r) := by rw [← hA2]; exact hCd
            obtain ⟨pt, hpt⟩ : ∃ pt, (l.take n).drop r = pt := ⟨_, rfl⟩; rw [hA2, hc2, ← hdl, hpt] at hcut; rw [hpt] at hCd'; have HPT := Aside0.mk hpt; have HCP := Aside0.mk hCd'; have HPL : Aside0 (pt.length < 2932031007402) := ⟨by rw [← hpt, hdl]; omega⟩; have x0 : wr.cell? ⟨g, 0, none⟩ = some (.slice (some ad) l.length c) := (blk_cell HG.out 0).trans rfl; have e9 : ((n : Int) == (l.length : Int)) = false := beq_eq_false_iff_ne.mpr (by omega); have HNE : Aside0 (n < l.length) := ⟨by omega⟩; have HK0 := hrd0; have hw1 := HW1.out; have r1x : (0 ≤ (n : Int)) = True := eq_true (by omega); have r2x : ((n : Int) < (l.length : Int)) = True := eq_true (by omega); have r3x : (n < l.length) = True := eq_true (by omega); clear hrn hnl hcc hln hi0 hsz0 hCt htl hCd hdl hA2 hc2 hCd' hpt hkq hnl0 q1 q2 q3 k0 k1_; have k0 := hrd0.out; rw [HK00.out] at k0; have k1_ := hrd1.out; go_wp2
            go_quiet (fail)
            go_wp2_with (go_at_call 62; go_loud ((with_reducible refine (span_Clip.clone A2 c2 pt _ (Kd.C_drewN HCP.out _) HPL.out).mono ?_); rintro e w9 ⟨v9, rfl, hR9, hb9⟩; obtain ⟨A9, c9, e9_⟩ := Kd.R_slice hR9; subst e9_; have HR9 := Aside0.mk hR9; have HB9 := Aside0.mk (below_step (pw_below_drewN HB.out nq) hb9); have y0 : w9.cell? ⟨g, 0, none⟩ = some (.slice _ l.length c) := (blk_cell (blk_below (blk_drewN HG.out nq) hb9) 0).trans rfl; have z0 : w9.cell? (ad.add (n * 4)) = some (.string (rd_T43 l (n : Int)).f0) := (hb9.cell (show (ad.add (n * 4)).block < (wr.drewN nq).heap.size from World.block_lt_of_cell? wr _ HK0.out)).trans HK0.out; clear hR9 hb9))
            go_quiet (fail)
            go_wp2; go_ret2
            refine ⟨_, ?_, Kd.R_lower (by rw [HTN.out, HPT.out]; exact Kd.R_drewN HR9.out nq) HB.out.size, pw_below_drewN HB9.out nq⟩
            unfold chunkNext; rw [HTN.out, if_neg (Nat.ne_of_lt HNE.out)]; rfl
      · have d3 : decide ((n : Int) < (l.length : Int)) = false := decide_eq_false (by omega); have d4 : decide (n < l.length) = false := decide_eq_false (by omega); have HTN : Aside0 (chunkTo l r m = n) := ⟨by rw [HTO2.out]; cases gk with | zero => rfl | succ k1 => rw [ext, if_neg (fun h => q2 h.2.1)]⟩; have hrn := HRN.out; have hnl := HNL.out; have hcc := HCC.out; have hln := HN.out; obtain ⟨i0, hi0, _, hsz0, _⟩ := info_parts info43; have hcut := cut_mid (P := Try.prog) 22 43 .i64 .i64 Try.underlying22 hi0 4 hsz0 A l.length c (r : Int) (n : Int) (by omega) (by omega) (by omega) hcc; rw [Int.toNat_natCast, Int.toNat_natCast] at hcut; have hCt := Kd.C_take (Kd.C_below HC.out HB.out) (m := n) hnl; have htl : (l.take n).length = n := by rw [List.length_take]; omega
        have hCd := Kd.C_drop hCt (m := r) (c := c) (by omega) (by omega); have hdl : ((l.take n).drop r).length = n - r := by rw [List.length_drop, htl]
        obtain ⟨A2, hA2⟩ : ∃ A2, (if c = r then A else A.map (·.add (r * 4))) = A2 := ⟨_, rfl⟩; obtain ⟨c2, hc2⟩ : ∃ c2, c - r = c2 := ⟨_, rfl⟩; have hCd' : Kd.C k43 wr A2 ((l.take n).drop r).length ((l.take n).drop r) := by rw [← hA2]; exact hCd
        obtain ⟨pt, hpt⟩ : ∃ pt, (l.take n).drop r = pt := ⟨_, rfl⟩; rw [hA2, hc2, ← hdl, hpt] at hcut; rw [hpt] at hCd'; have HPT := Aside0.mk hpt; have HCP := Aside0.mk hCd'; have HPL : Aside0 (pt.length < 2932031007402) := ⟨by rw [← hpt, hdl]; omega⟩; have x0 : wr.cell? ⟨g, 0, none⟩ = some (.slice A l.length c) := (blk_cell HG.out 0).trans rfl; have e9 : ((n : Int) == (l.length : Int)) = true := beq_iff_eq.mpr (by omega); have HNE : Aside0 (n = l.length) := ⟨by omega⟩; clear hrn hnl hcc hln hi0 hsz0 hCt htl hCd hdl hA2 hc2 hCd' hpt hkq hnl0 q1 q2; go_wp2
        go_quiet (fail)
        go_wp2_with (go_at_call 62; go_loud ((with_reducible refine (span_Clip.clone A2 c2 pt _ (Kd.C_drewN HCP.out _) HPL.out).mono ?_); rintro e w9 ⟨v9, rfl, hR9, hb9⟩; obtain ⟨A9, c9, e9_⟩ := Kd.R_slice hR9; subst e9_; have HR9 := Aside0.mk hR9; have HB9 := Aside0.mk (below_step (pw_below_drewN HB.out nq) hb9); have y0 : w9.cell? ⟨g, 0, none⟩ = some (.slice _ l.length c) := (blk_cell (blk_below (blk_drewN HG.out nq) hb9) 0).trans rfl; clear hR9 hb9))
        go_ret2; refine ⟨_, ?_, Kd.R_lower (by rw [HTN.out, HPT.out]; exact HR9.out) HB.out.size, HB9.out⟩
        unfold chunkNext; rw [HTN.out, if_pos HNE.out]; rfl
    · have d1 : decide ((r : Int) < (n : Int)) = false := decide_eq_false (by omega); have d2 : decide (r < n) = false := decide_eq_false q1
      by_cases qn : n = l.length
      · have HTN : Aside0 (chunkTo l r m = n) := ⟨by rw [HTO2.out]; cases gk with | zero => rfl | succ k1 => rw [ext, if_neg (fun h => q1 h.1)]⟩; have hrn := HRN.out; have hnl := HNL.out; have hcc := HCC.out; have hln := HN.out; obtain ⟨i0, hi0, _, hsz0, _⟩ := info_parts info43; have hcut := cut_mid (P := Try.prog) 22 43 .i64 .i64 Try.underlying22 hi0 4 hsz0 A l.length c (r : Int) (n : Int) (by omega) (by omega) (by omega) hcc; rw [Int.toNat_natCast, Int.toNat_natCast] at hcut; have hCt := Kd.C_take (Kd.C_below HC.out HB.out) (m := n) hnl; have htl : (l.take n).length = n := by rw [List.length_take]; omega
        have hCd := Kd.C_drop hCt (m := r) (c := c) (by omega) (by omega); have hdl : ((l.take n).drop r).length = n - r := by rw [List.length_drop, htl]
        obtain ⟨A2, hA2⟩ : ∃ A2, (if c = r then A else A.map (·.add (r * 4))) = A2 := ⟨_, rfl⟩; obtain ⟨c2, hc2⟩ : ∃ c2, c - r = c2 := ⟨_, rfl⟩; have hCd' : Kd.C k43 wr A2 ((l.take n).drop r).length ((l.take n).drop r) := by rw [← hA2]; exact hCd
        obtain ⟨pt, hpt⟩ : ∃ pt, (l.take n).drop r = pt := ⟨_, rfl⟩; rw [hA2, hc2, ← hdl, hpt] at hcut; rw [hpt] at hCd'; have HPT := Aside0.mk hpt; have HCP := Aside0.mk hCd'; have HPL : Aside0 (pt.length < 2932031007402) := ⟨by rw [← hpt, hdl]; omega⟩; have x0 : wr.cell? ⟨g, 0, none⟩ = some (.slice A l.length c) := (blk_cell HG.out 0).trans rfl; have e9 : ((n : Int) == (l.length : Int)) = true := beq_iff_eq.mpr (by omega); have HNE : Aside0 (n = l.length) := ⟨by omega⟩; clear hrn hnl hcc hln hi0 hsz0 hCt htl hCd hdl hA2 hc2 hCd' hpt hkq hnl0 q1 qn; go_wp2
        go_quiet (fail)
        go_wp2_with (go_at_call 62; go_loud ((with_reducible refine (span_Clip.clone A2 c2 pt _ (Kd.C_drewN HCP.out _) HPL.out).mono ?_); rintro e w9 ⟨v9, rfl, hR9, hb9⟩; obtain ⟨A9, c9, e9_⟩ := Kd.R_slice hR9; subst e9_; have HR9 := Aside0.mk hR9; have HB9 := Aside0.mk (below_step (pw_below_drewN HB.out nq) hb9); have y0 : w9.cell? ⟨g, 0, none⟩ = some (.slice _ l.length c) := (blk_cell (blk_below (blk_drewN HG.out nq) hb9) 0).trans rfl; clear hR9 hb9))
        go_ret2; refine ⟨_, ?_, Kd.R_lower (by rw [HTN.out, HPT.out]; exact HR9.out) HB.out.size, HB9.out⟩
        unfold chunkNext; rw [HTN.out, if_pos HNE.out]; rfl
      · have HTN : Aside0 (chunkTo l r m = n) := ⟨by rw [HTO2.out]; cases gk with | zero => rfl | succ k1 => rw [ext, if_neg (fun h => q1 h.1)]⟩; have hrn := HRN.out; have hnl := HNL.out; have hcc := HCC.out; have hln := HN.out; obtain ⟨i0, hi0, _, hsz0, _⟩ := info_parts info43; have hcut := cut_mid (P := Try.prog) 22 43 .i64 .i64 Try.underlying22 hi0 4 hsz0 A l.length c (r : Int) (n : Int) (by omega) (by omega) (by omega) hcc; rw [Int.toNat_natCast, Int.toNat_natCast] at hcut; have hCt := Kd.C_take (Kd.C_below HC.out HB.out) (m := n) hnl; have htl : (l.take n).length = n := by rw [List.length_take]; omega
        have hCd := Kd.C_drop hCt (m := r) (c := c) (by omega) (by omega); have hdl : ((l.take n).drop r).length = n - r := by rw [List.length_drop, htl]
        obtain ⟨A2, hA2⟩ : ∃ A2, (if c = r then A else A.map (·.add (r * 4))) = A2 := ⟨_, rfl⟩; obtain ⟨c2, hc2⟩ : ∃ c2, c - r = c2 := ⟨_, rfl⟩; have hCd' : Kd.C k43 wr A2 ((l.take n).drop r).length ((l.take n).drop r) := by rw [← hA2]; exact hCd
        obtain ⟨pt, hpt⟩ : ∃ pt, (l.take n).drop r = pt := ⟨_, rfl⟩; rw [hA2, hc2, ← hdl, hpt] at hcut; rw [hpt] at hCd'; have HPT := Aside0.mk hpt; have HCP := Aside0.mk hCd'; have HPL : Aside0 (pt.length < 2932031007402) := ⟨by rw [← hpt, hdl]; omega⟩; have x0 : wr.cell? ⟨g, 0, none⟩ = some (.slice A l.length c) := (blk_cell HG.out 0).trans rfl; have e9 : ((n : Int) == (l.length : Int)) = false := beq_eq_false_iff_ne.mpr (by omega); have HNE : Aside0 (n < l.length) := ⟨by omega⟩; obtain ⟨ad, ea, k0, -, -, -⟩ := at_T43 (Kd.C_below HC.out HB.out) (n : Int) (by omega) (by omega); rw [Int.toNat_natCast] at k0; have HK0 := Aside0.mk k0; cases ea; have r1 : (0 ≤ (n : Int)) = True := eq_true (by omega); have r2 : ((n : Int) < (l.length : Int)) = True := eq_true (by omega); have r3 : (n < l.length) = True := eq_true (by omega); clear hrn hnl hcc hln hi0 hsz0 hCt htl hCd hdl hA2 hc2 hCd' hpt hkq hnl0 q1 qn; go_wp2
        go_quiet (fail)
        go_wp2_with (go_at_call 62; go_loud ((with_reducible refine (span_Clip.clone A2 c2 pt _ (Kd.C_drewN HCP.out _) HPL.out).mono ?_); rintro e w9 ⟨v9, rfl, hR9, hb9⟩; obtain ⟨A9, c9, e9_⟩ := Kd.R_slice hR9; subst e9_; have HR9 := Aside0.mk hR9; have HB9 := Aside0.mk (below_step (pw_below_drewN HB.out nq) hb9); have y0 : w9.cell? ⟨g, 0, none⟩ = some (.slice _ l.length c) := (blk_cell (blk_below (blk_drewN HG.out nq) hb9) 0).trans rfl; have z0 : w9.cell? (ad.add (n * 4)) = some (.string (rd_T43 l (n : Int)).f0) := (hb9.cell (show (ad.add (n * 4)).block < (wr.drewN nq).heap.size from World.block_lt_of_cell? wr _ HK0.out)).trans HK0.out; clear hR9 hb9))
        go_quiet (fail)
        go_wp2; go_ret2
        refine ⟨_, ?_, Kd.R_lower (by rw [HTN.out, HPT.out]; exact Kd.R_drewN HR9.out nq) HB.out.size, pw_below_drewN HB9.out nq⟩
        unfold chunkNext; rw [HTN.out, if_neg (Nat.ne_of_lt HNE.out)]; rfl
end Go.Proofs.Ytlmoafkmhenejaa.XA
end
section
namespace Go.Proofs.Ytlmoafkmhenejaa.VLib
end Go.Proofs.Ytlmoafkmhenejaa.VLib
namespace Go.Proofs.YtlmoafkmhenejaaW.PrintWords
end Go.Proofs.YtlmoafkmhenejaaW.PrintWords
namespace Go.Proofs.YtlmoafkmhenejaaW.PrintLast
end Go.Proofs.YtlmoafkmhenejaaW.PrintLast
namespace Go.Proofs.YtlmoafkmhenejaaW.PrintMore
end Go.Proofs.YtlmoafkmhenejaaW.PrintMore
namespace Go.Proofs.Ytlmoafkmhenejaa.XW
end Go.Proofs.Ytlmoafkmhenejaa.XW
namespace Go.Proofs.Ytlmoafkmhenejaa.XA
open Go.Proofs.Ytlmoafkmhenejaa.VLib Go.RowKit Go.Proofs.YtlmoafkmhenejaaW.PrintWords Go.Proofs.YtlmoafkmhenejaaW.PrintLast Go.Proofs.YtlmoafkmhenejaaW.PrintMore Go.Proofs.Ytlmoafkmhenejaa.XW
attribute [local go_sem high] max2_str unary_xor_u32 leq_str geq_str gtr_str
attribute [local go_sem] max2_int min2_int max_two min_two max_three min_three max_four min_four
set_option linter.unusedVariables false
set_option linter.unusedSimpArgs false
def Cut (l : List S43) (key : ByteArray) (r : Nat) : Prop := r ≤ l.length ∧ (∀ m : Nat, m < r → keyLt l key (m : Int) = true) ∧ ∀ m : Nat, r ≤ m → m < l.length → keyLt l key (m : Int) = false
theorem seek_cut (l : List S43) (key : ByteArray) (r : Nat) (hc : Cut l key r) : ∀ (k : Nat) (i j : Int), 0 ≤ i → i ≤ (r : Int) → (r : Int) ≤ j → j ≤ (l.length : Int) → j - i < (k : Int) → seek k l key i j = some (r : Int)
  | 0, i, j, h0, h1, h2, h3, h4 => by omega
  | k + 1, i, j, h0, h1, h2, h3, h4 => by
    rw [seek]
    by_cases c : i < j
    · rw [if_pos c]; obtain ⟨m, hm⟩ : ∃ m : Nat, (i + j) / 2 = (m : Int) := ⟨((i + j) / 2).toNat, by omega⟩; rw [hm]
      by_cases q : m < r
      · rw [if_pos (hc.2.1 m q)]; exact seek_cut l key r hc k _ _ (by omega) (by omega) h2 h3 (by omega)
      · have hf := hc.2.2 m (by omega) (by omega); rw [if_neg (by rw [hf]; decide)]; exact seek_cut l key r hc k _ _ h0 h1 (by omega) (by omega) (by omega)
    · rw [if_neg c]
      congr 1
      omega
theorem seek_is (l : List S43) (key : ByteArray) (r K : Nat) (hc : Cut l key r) (hK : l.length < K) : seek K l key 0 (l.length : Int) = some (r : Int) :=
  seek_cut l key r hc K 0 _ (by omega) (by omega) (by have := hc.1; omega) (by omega) (by omega)
theorem cut_exists (l : List S43) (key : ByteArray) (hs : ∀ i j : Nat, i ≤ j → j < l.length → keyLt l key (j : Int) = true → keyLt l key (i : Int) = true) : ∃ r, Cut l key r := by
  have : ∀ n, n ≤ l.length → ∃ r, r ≤ n ∧ (∀ m : Nat, m < r → keyLt l key (m : Int) = true) ∧ ∀ m : Nat, r ≤ m → m < n → keyLt l key (m : Int) = false := by
    intro n
    induction n with
    | zero => exact fun _ => ⟨0, Nat.le_refl _, fun m h => absurd h (by omega), fun m _ h => absurd h (by omega)⟩
    | succ n ih =>
      intro hn; obtain ⟨r, h1, h2, h3⟩ := ih (by omega)
      cases hb : keyLt l key (n : Int) with
      | true => exact ⟨n + 1, Nat.le_refl _, fun m hm => hs m n (by omega) (by omega) hb, fun m h h' => absurd h' (by omega)⟩
      | false => exact ⟨r, by omega, h2, fun m h h' => by
          rcases (show m < n ∨ m = n by omega) with h | rfl
          · exact h3 m ‹_› h
          · exact hb⟩
  obtain ⟨r, h1, h2, h3⟩ := this l.length (Nat.le_refl _)
  exact ⟨r, h1, h2, h3⟩
end Go.Proofs.Ytlmoafkmhenejaa.XA
end
