import Derived.Test.YtlmoafkmhenejaakMXAx0
import Derived.Test.YtlmoafkmhenejaakMXAx12
import Derived.Test.YtlmoafkmhenejaakMMTab9
import Derived.Test.YtlmoafkmhenejaakMMTab4
import Derived.Test.YtlmoafkmhenejaakMVLib
import Derived.Test.YtlmoafkmhenejaakMXAx8
import Derived.Test.YtlmoafkmhenejaakMXAx9
import Derived.Test.YtlmoafkmhenejaakMXAx2
import Derived.Test.YtlmoafkmhenejaakMXAx3
import Derived.Test.YtlmoafkmhenejaakMXAx4
import Derived.Test.YtlmoafkmhenejaakMXAx5
import Derived.Test.YtlmoafkmhenejaakMXAx6
import Derived.Test.YtlmoafkmhenejaakMXAx7
section
namespace Go.Proofs.YtlmoafkmhenejaaW.PrintWords
end Go.Proofs.YtlmoafkmhenejaaW.PrintWords
namespace Go.Proofs.YtlmoafkmhenejaaW.PrintLast
end Go.Proofs.YtlmoafkmhenejaaW.PrintLast
namespace Go.Proofs.YtlmoafkmhenejaaW.PrintMore
end Go.Proofs.YtlmoafkmhenejaaW.PrintMore
namespace Go.Proofs.Ytlmoafkmhenejaa.XW
end Go.Proofs.Ytlmoafkmhenejaa.XW
namespace Go.Proofs.Ytlmoafkmhenejaa.XA
open Go.RowKit Go.Proofs.YtlmoafkmhenejaaW.PrintWords Go.Proofs.YtlmoafkmhenejaaW.PrintLast Go.Proofs.YtlmoafkmhenejaaW.PrintMore Go.Proofs.Ytlmoafkmhenejaa.XW
attribute [local go_sem high] max2_str unary_xor_u32 leq_str geq_str gtr_str
attribute [local go_sem] max2_int min2_int max_two min_two max_three min_three max_four min_four   -- for this text's walks alone
set_option linter.unusedVariables false
set_option linter.unusedSimpArgs false
def sorrellaw10_made.l0 : Nat → List (S43) → List (S43) → Int → Option ((List (S43)))
  | 0, _, _, _ => none
  | k + 1, x0, x3, x4 => if x4 < (x0.length : Int) then (if 0 ≤ x4 then ((sorrelref09_Put1.f k x3 ((rd_T43 x0 x4).f0) ((rd_T43 x0 x4).f1) ((rd_T43 x0 x4).f2) ((rd_T43 x0 x4).f3)).bind fun t351 => (sorrellaw10_made.l0 k x0 t351 (wrap64 (x4 + 1)))) else (none)) else (some x3)
def sorrellaw10_made.f (k : Nat) (l0 : List (S43)) : Option ((List (S43))) := sorrellaw10_made.l0 k l0 ([] : List (S43)) 0
set_option maxHeartbeats 8000000 in
set_option maxRecDepth 100000 in
theorem sorrellaw10_made.calls (k : Nat) (A0 : Option Addr) (c0 : Nat) (l0 : List (S43)) (r : List (S43)) (w : World) (hr0 : Kd.C k43 w A0 l0.length l0) (hc0 : l0.length ≤ c0) (h : sorrellaw10_made.f k l0 = some r) :
    Calls Try.prog 15 #[.slice A0 l0.length c0] w fun e w' => ∃ v0_ : Value, e = .returned (v0_) ∧ Kd.R k43 43 w' w.heap.size (fun _ => True) v0_ r ∧ Below w.heap.size w w' := by
  have hu43 := Try.underlying43
  have HR0 := Aside0.mk hr0
  have HC0 := Aside0.mk hc0
  clear hr0 hc0
  have HB := Aside0.mk (Below.refl w.heap.size w)
  have H : (sorrellaw10_made.l0 k l0 ([] : List (S43)) 0) = some r := h
  clear h
  have H' := Aside0.mk H
  clear H
  go_enter Try.func15, Try.ntmps15
  go_wp2
  go_loopg [3, 4] k (fun kq v3 v4 w' => ∃ (x3_1 : List (S43)) (x4_1 : Int), v4 = .int .i64 x4_1 ∧ Aside0 (sorrellaw10_made.l0 kq l0 x3_1 x4_1 = some r) ∧ Aside0 (kq ≤ k) ∧ Aside0 (Kd.R k43 43 w' w.heap.size (fun _ => True) v3 x3_1) ∧ Aside0 (Below w.heap.size w w'))
  case atStart => exact ⟨(([] : List (S43))), (0), (by first | rfl | (simp; done) | (simp [*]; done) | exact isE1 _ | exact isE2 _ | exact isE3 _ | exact isE4 _ | exact congrArg Value.bool (isE1 _) | exact congrArg Value.bool (isE2 _) | exact congrArg Value.bool (isE3 _) | exact congrArg Value.bool (isE4 _)), H', ⟨Nat.le_refl _⟩, ⟨by first | exact Kd.R_nil _ _ _ _ _ | exact Kd.N_nil _ _ _ _ _ | exact Kd.V_nil _ _ _ _ _ | exact Kd.Q_nil _ _ _ _ _ | exact Kd.S_nil _ _ _ _ _⟩, ⟨by repeat (first | (with_reducible first | exact HB.out | apply below_alloc | apply pw_below_drewN | apply below_drew1) | exact HB.out)⟩⟩
  case round =>
    clear H'
    try clear c1
    obtain ⟨x3_1, x4_1, rfl, HA, HK1, HO_3, HB⟩ := hrel
    cases gk with
    | zero => exact absurd HA.out (by simp [sorrellaw10_made.l0])
    | succ k1 =>
      have H := HA.out
      clear HA
      simp only [sorrellaw10_made.l0] at H
      by_cases c2 : x4_1 < (l0.length : Int)
      · rw [if_pos c2] at H
        have c2b0 : decide (x4_1 < (l0.length : Int)) = true := decide_eq_true c2
        clear c2
        by_cases c3 : 0 ≤ x4_1
        · rw [if_pos c3] at H
          have c3b0 : decide (0 ≤ x4_1) = true := decide_eq_true c3
          clear c3
          replace H := Option.bind_eq_some_iff.mp H
          obtain ⟨t351, A40, H⟩ := H
          replace H : (sorrellaw10_made.l0 k1 l0 t351 (wrap64 (x4_1 + 1))) = some r := H
          have A4 := Aside0.mk A40
          clear A40
          have H' := Aside0.mk H
          clear H
          have p350 : 0 ≤ (x4_1 : Int) := of_decide_eq_true (by first | (with_reducible assumption) | assumption)
          have q350 : x4_1 < (l0.length : Int) := of_decide_eq_true (by first | (with_reducible assumption) | assumption)
          obtain ⟨ad350, e350, hx350_0, hx350_1, hx350_2, hx350_3⟩ := at_T43 HR0.out x4_1 p350 q350
          cases e350
          replace hx350_0 := (HB.out.cell (World.block_lt_of_cell? w _ hx350_0)).trans hx350_0
          replace hx350_1 := (HB.out.cell (World.block_lt_of_cell? w _ hx350_1)).trans hx350_1
          replace hx350_2 := (HB.out.cell (World.block_lt_of_cell? w _ hx350_2)).trans hx350_2
          replace hx350_3 := (HB.out.cell (World.block_lt_of_cell? w _ hx350_3)).trans hx350_3
          replace p350 := eq_true p350
          replace q350 := eq_true q350
          obtain ⟨Ao5, co5, eo5⟩ := Kd.R_slice HO_3.out
          subst eo5
          go_wp2_with (first | ((with_reducible refine gate_callee (f := 52) rfl ?_); refine goesL_ (some 16) rfl rfl Try.func52 (by kernel_rfl) rfl #[.slice Ao5 x3_1.length co5, .agg #[.string ((rd_T43 l0 x4_1).f0), .string ((rd_T43 l0 x4_1).f1), .bool ((rd_T43 l0 x4_1).f2), .int .i64 ((rd_T43 l0 x4_1).f3)]] rfl (by (try simp only [List.map_toArray, List.map_cons, List.map_nil]); first | done | rfl | (simp only [List.length_drop, List.length_take]; rfl)) ?_; (with_reducible refine (sorrelref09_Put1.calls k1 (fun k_ => some k_ = (.slice Ao5 x3_1.length co5 : Value).ownBlock) (.slice Ao5 x3_1.length co5) x3_1 ((rd_T43 l0 x4_1).f0) ((rd_T43 l0 x4_1).f1) ((rd_T43 l0 x4_1).f2) ((rd_T43 l0 x4_1).f3) t351 w _ ?side1 ?side2 A4.out).mono ?_); (case side1 => repeat (first | (with_reducible first | exact HB.out | apply below_alloc | apply pw_below_drewN | apply below_drew1) | exact HB.out)); (case side2 => exact Kd.R_tight rfl HO_3.out); rintro e w6 ⟨v352, rfl, ho0, hb, hkp⟩; refine ⟨_, rfl, ?_⟩; have n0_ := Aside0.mk (Kd.R_mono (ok' := fun k_ => True) ho0 (fun k_ hk_ => trivial)); have n1_ := Aside0.mk (hb); clear HB; clear HO_3; have HO353 := n0_; have HB := n1_; clear n0_ n1_; (try clear hb); (try clear hkp); (try clear ho0)))
          go_roundg k1
          case measure => have := HK1.out; omega
          case rel => exact ⟨(t351), (wrap64 (x4_1 + 1)), (by first | rfl | (simp; done) | (simp [*]; done) | exact isE1 _ | exact isE2 _ | exact isE3 _ | exact isE4 _ | exact congrArg Value.bool (isE1 _) | exact congrArg Value.bool (isE2 _) | exact congrArg Value.bool (isE3 _) | exact congrArg Value.bool (isE4 _)), H', ⟨by have := HK1.out; omega⟩, ⟨by (with_reducible repeat (first | apply Kd.R_alloc | apply Kd.R_drewN | apply Kd.R_drew)); exact HO353.out⟩, ⟨by repeat (first | (with_reducible first | exact HB.out | apply below_alloc | apply pw_below_drewN | apply below_drew1) | exact HB.out)⟩⟩
        · rw [if_neg c3] at H
          exact absurd H (by simp)
      · rw [if_neg c2] at H
        have c2b0 : decide (x4_1 < (l0.length : Int)) = false := decide_eq_false c2
        clear c2
        obtain rfl := Option.some.inj H
        go_wp2
        go_ret
        exact ⟨_, by first | rfl | (simp [errW_none, errW_some] <;> rfl) | (simp [*, errW_none, errW_some] <;> rfl), by (with_reducible repeat (first | apply Kd.R_alloc | apply Kd.R_drewN | apply Kd.R_drew)); exact HO_3.out, by repeat (first | (with_reducible first | exact HB.out | apply below_alloc | apply pw_below_drewN | apply below_drew1) | exact HB.out)⟩
end Go.Proofs.Ytlmoafkmhenejaa.XA
end
section
namespace Go.Proofs.Ytlmoafkmhenejaa.VLib
end Go.Proofs.Ytlmoafkmhenejaa.VLib
namespace Go.Proofs.Ytlmoafkmhenejaa.Bld
end Go.Proofs.Ytlmoafkmhenejaa.Bld
namespace Go.Proofs.YtlmoafkmhenejaaW.PrintWords
end Go.Proofs.YtlmoafkmhenejaaW.PrintWords
namespace Go.Proofs.YtlmoafkmhenejaaW.PrintLast
end Go.Proofs.YtlmoafkmhenejaaW.PrintLast
namespace Go.Proofs.YtlmoafkmhenejaaW.PrintMore
end Go.Proofs.YtlmoafkmhenejaaW.PrintMore
namespace Go.Proofs.Ytlmoafkmhenejaa.XW
end Go.Proofs.Ytlmoafkmhenejaa.XW
namespace Go.Proofs.Ytlmoafkmhenejaa.XA
open Go.Proofs.Ytlmoafkmhenejaa.VLib Go.Proofs.Ytlmoafkmhenejaa.Bld Go.RowKit Go.Proofs.YtlmoafkmhenejaaW.PrintWords Go.Proofs.YtlmoafkmhenejaaW.PrintLast Go.Proofs.YtlmoafkmhenejaaW.PrintMore Go.Proofs.Ytlmoafkmhenejaa.XW
attribute [local go_sem high] max2_str unary_xor_u32 leq_str geq_str gtr_str
attribute [local go_sem] max2_int min2_int max_two min_two max_three min_three max_four min_four
set_option linter.unusedVariables false
set_option linter.unusedSimpArgs false
theorem build_nil (kk K : Nat) (A : Option Addr) (c : Nat) (w : World) (hC : Kd.C k43 w A 0 []) (h : buildF kk K [] = some (⟨#[]⟩, 1)) :
    Calls Try.prog 13 #[.slice A 0 c] w fun e w' => e = .returned (.tuple #[.string ⟨#[]⟩, .int .i64 1]) ∧ Below w.heap.size w w' := build_calls kk K A c [] ⟨#[]⟩ 1 w hC (Nat.zero_le _) h
set_option maxHeartbeats 2000000 in
set_option maxRecDepth 100000 in
theorem opened_none (k kk K : Nat) (A : Option Addr) (c : Nat) (l : List S43) (w : World) (hC : Kd.C k43 w A l.length l) (hc : l.length ≤ c) (hm : sorrellaw10_made.f k l = some []) (hb : buildF kk K [] = some (⟨#[]⟩, 1)) :
    Calls Try.prog 21 #[.slice A l.length c] w fun e w' => e = .returned (.tuple #[.pointer none, .slice none 0 0, .bool true]) ∧ Below w.heap.size w w' := by
  have HC := Aside0.mk hC
  have HCC := Aside0.mk hc
  have HM := Aside0.mk hm
  have HB := Aside0.mk hb
  clear hC hc hm hb
  go_enter Try.func21, Try.ntmps21
  go_wp2_with (first
    | (go_at_call 13; go_loud ((with_reducible refine (build_nil kk K A1 c1 _ (Kd.R_reads' HR1.out).2.2 HB.out).mono ?_); rintro e w2 ⟨rfl, hb2⟩; have HB2 := Aside0.mk (below_step HB1.out hb2); clear hb2))
    | (go_at_call 15; go_loud ((with_reducible refine (sorrellaw10_made.calls k A c l [] _ HC.out HCC.out HM.out).mono ?_); rintro e w1 ⟨v1, rfl, hR1, hb1⟩; obtain ⟨A1, c1, e1⟩ := Kd.R_slice hR1; subst e1; have HR1 := Aside0.mk hR1; have HB1 := Aside0.mk hb1; clear hR1 hb1)))
  go_ret3
  exact ⟨rfl, HB2.out⟩
set_option maxHeartbeats 2000000 in
set_option maxRecDepth 100000 in
theorem opened_some (k kk K : Nat) (A : Option Addr) (c : Nat) (l m : List S43) (s bits : ByteArray) (w : World) (hC : Kd.C k43 w A l.length l) (hc : l.length ≤ c) (hm : sorrellaw10_made.f k l = some m) (hl : 0 < m.length) (hb : buildF kk K m = some (s, 0)) (hz : s.size ≤ 140737488355328) (ho : openF kk K s = some (some (m, bits))) :
    Calls Try.prog 21 #[.slice A l.length c] w fun e w' => ∃ p A2 c2, e = .returned (.tuple #[.pointer (some p), .slice A2 m.length c2, .bool true]) ∧ TabAt w' (.pointer (some p)) m bits ∧ Kd.C k43 w' A2 m.length m ∧ m.length ≤ c2 ∧ Below w.heap.size w w' := by
  have HC := Aside0.mk hC
  have HCC := Aside0.mk hc
  have HM := Aside0.mk hm
  have HB := Aside0.mk hb
  have HZ := Aside0.mk hz
  have HO := Aside0.mk ho
  have c1 : ((m.length : Int) == 0) = false := beq_eq_false_iff_ne.mpr (by omega)
  clear hC hc hm hb hz ho hl
  go_enter Try.func21, Try.ntmps21
  go_wp2_with (first
    | (go_at_call 16; go_loud ((with_reducible refine (open_calls kk K s (some (m, bits)) _ HZ.out HO.out).mono ?_); rintro e w3 ⟨hb3, g3, A3, c3, rfl, hg3, hC3, hc3⟩; have HB3 := Aside0.mk (below_step HB2.out hb3); have HC1 := Aside0.mk (Kd.C_below (Kd.C_below (Kd.R_reads' HR1.out).2.2 HB12.out) hb3); have HT3 : Aside0 (TabAt w3 (.pointer (some ⟨g3, 0, none⟩)) m bits) := ⟨.inr ⟨g3, A3, c3, rfl, hg3, hC3, hc3⟩⟩; clear hb3 hg3 hC3 hc3))
    | (go_at_call 13; go_loud ((with_reducible refine (build_calls kk K A1 c1 m s 0 _ (Kd.R_reads' HR1.out).2.2 (Kd.R_reads' HR1.out).2.1 HB.out).mono ?_); rintro e w2 ⟨rfl, hb2⟩; have HB12 := Aside0.mk hb2; have HB2 := Aside0.mk (below_step HB1.out hb2); clear hb2))
    | (go_at_call 15; go_loud ((with_reducible refine (sorrellaw10_made.calls k A c l m _ HC.out HCC.out HM.out).mono ?_); rintro e w1 ⟨v1, rfl, hR1, hb1⟩; obtain ⟨A1, c1, e1⟩ := Kd.R_slice hR1; subst e1; have HR1 := Aside0.mk hR1; have HB1 := Aside0.mk hb1; clear hR1 hb1)))
  go_ret3
  exact ⟨_, A1, _, rfl, HT3.out, HC1.out, (Kd.R_reads' HR1.out).2.1, HB3.out⟩
end Go.Proofs.Ytlmoafkmhenejaa.XA
end
section
namespace Go.Proofs.Ytlmoafkmhenejaa.VLib
end Go.Proofs.Ytlmoafkmhenejaa.VLib
namespace Go.Proofs.Ytlmoafkmhenejaa.Bld
end Go.Proofs.Ytlmoafkmhenejaa.Bld
namespace Go.Proofs.YtlmoafkmhenejaaW.PrintWords
end Go.Proofs.YtlmoafkmhenejaaW.PrintWords
namespace Go.Proofs.YtlmoafkmhenejaaW.PrintLast
end Go.Proofs.YtlmoafkmhenejaaW.PrintLast
namespace Go.Proofs.YtlmoafkmhenejaaW.PrintMore
end Go.Proofs.YtlmoafkmhenejaaW.PrintMore
namespace Go.Proofs.Ytlmoafkmhenejaa.XW
end Go.Proofs.Ytlmoafkmhenejaa.XW
namespace Go.Proofs.Ytlmoafkmhenejaa.XA
open Go.Proofs.Ytlmoafkmhenejaa.VLib Go.Proofs.Ytlmoafkmhenejaa.Bld Go.RowKit Go.Proofs.YtlmoafkmhenejaaW.PrintWords Go.Proofs.YtlmoafkmhenejaaW.PrintLast Go.Proofs.YtlmoafkmhenejaaW.PrintMore Go.Proofs.Ytlmoafkmhenejaa.XW
attribute [local go_sem high] max2_str unary_xor_u32 leq_str geq_str gtr_str
attribute [local go_sem] max2_int min2_int max_two min_two max_three min_three max_four min_four
set_option linter.unusedVariables false
set_option linter.unusedSimpArgs false
structure S38 where
  f0 : ByteArray
  f1 : ByteArray
def k38 : Kd S38 := Kd.iso (Kd.pair Kd.string Kd.string) (fun x : S38 => (x.f0, x.f1))
end Go.Proofs.Ytlmoafkmhenejaa.XA
end
section
namespace Go.Proofs.Ytlmoafkmhenejaa.VLib
end Go.Proofs.Ytlmoafkmhenejaa.VLib
namespace Go.Proofs.YtlmoafkmhenejaaW.PrintWords
end Go.Proofs.YtlmoafkmhenejaaW.PrintWords
namespace Go.Proofs.YtlmoafkmhenejaaW.PrintLast
end Go.Proofs.YtlmoafkmhenejaaW.PrintLast
namespace Go.Proofs.YtlmoafkmhenejaaW.PrintMore
end Go.Proofs.YtlmoafkmhenejaaW.PrintMore
namespace Go.Proofs.Ytlmoafkmhenejaa.XW
end Go.Proofs.Ytlmoafkmhenejaa.XW
namespace Go.Proofs.Ytlmoafkmhenejaa.XA
open Go.Proofs.Ytlmoafkmhenejaa.VLib Go.RowKit Go.Proofs.YtlmoafkmhenejaaW.PrintWords Go.Proofs.YtlmoafkmhenejaaW.PrintLast Go.Proofs.YtlmoafkmhenejaaW.PrintMore Go.Proofs.Ytlmoafkmhenejaa.XW
attribute [local go_sem high] max2_str unary_xor_u32 leq_str geq_str gtr_str
attribute [local go_sem] max2_int min2_int max_two min_two max_three min_three max_four min_four
set_option linter.unusedVariables false
set_option linter.unusedSimpArgs false
def Cut (l : List S43) (key : ByteArray) (r : Nat) : Prop := r ≤ l.length ∧ (∀ m : Nat, m < r → keyLt l key (m : Int) = true) ∧ ∀ m : Nat, r ≤ m → m < l.length → keyLt l key (m : Int) = false
theorem seek_cut (l : List S43) (key : ByteArray) (r : Nat) (hc : Cut l key r) : ∀ (k : Nat) (i j : Int), 0 ≤ i → i ≤ (r : Int) → (r : Int) ≤ j → j ≤ (l.length : Int) → j - i < (k : Int) → seek k l key i j = some (r : Int)
  | 0, i, j, h0, h1, h2, h3, h4 => by omega
  | k + 1, i, j, h0, h1, h2, h3, h4 => by
    rw [seek]
    by_cases c : i < j
    · rw [if_pos c]
      obtain ⟨m, hm⟩ : ∃ m : Nat, (i + j) / 2 = (m : Int) := ⟨((i + j) / 2).toNat, by omega⟩
      rw [hm]
      by_cases q : m < r
      · rw [if_pos (hc.2.1 m q)]
        exact seek_cut l key r hc k _ _ (by omega) (by omega) h2 h3 (by omega)
      · have hf := hc.2.2 m (by omega) (by omega)
        rw [if_neg (by rw [hf]; decide)]
        exact seek_cut l key r hc k _ _ h0 h1 (by omega) (by omega) (by omega)
    · rw [if_neg c]
      congr 1
      omega
theorem seek_is (l : List S43) (key : ByteArray) (r K : Nat) (hc : Cut l key r) (hK : l.length < K) : seek K l key 0 (l.length : Int) = some (r : Int) :=
  seek_cut l key r hc K 0 _ (by omega) (by omega) (by have := hc.1; omega) (by omega) (by omega)
theorem cut_exists (l : List S43) (key : ByteArray) (hs : ∀ i j : Nat, i ≤ j → j < l.length → keyLt l key (j : Int) = true → keyLt l key (i : Int) = true) : ∃ r, Cut l key r := by
  have : ∀ n, n ≤ l.length → ∃ r, r ≤ n ∧ (∀ m : Nat, m < r → keyLt l key (m : Int) = true) ∧ ∀ m : Nat, r ≤ m → m < n → keyLt l key (m : Int) = false := by
    intro n
    induction n with
    | zero => exact fun _ => ⟨0, Nat.le_refl _, fun m h => absurd h (by omega), fun m _ h => absurd h (by omega)⟩
    | succ n ih =>
      intro hn
      obtain ⟨r, h1, h2, h3⟩ := ih (by omega)
      cases hb : keyLt l key (n : Int) with
      | true => exact ⟨n + 1, Nat.le_refl _, fun m hm => hs m n (by omega) (by omega) hb, fun m h h' => absurd h' (by omega)⟩
      | false => exact ⟨r, by omega, h2, fun m h h' => by
          rcases (show m < n ∨ m = n by omega) with h | rfl
          · exact h3 m ‹_› h
          · exact hb⟩
  obtain ⟨r, h1, h2, h3⟩ := this l.length (Nat.le_refl _)
  exact ⟨r, h1, h2, h3⟩
end Go.Proofs.Ytlmoafkmhenejaa.XA
end
section
namespace Go.Proofs.Ytlmoafkmhenejaa.VLib
end Go.Proofs.Ytlmoafkmhenejaa.VLib
namespace Go.Proofs.YtlmoafkmhenejaaW.PrintWords
end Go.Proofs.YtlmoafkmhenejaaW.PrintWords
namespace Go.Proofs.YtlmoafkmhenejaaW.PrintLast
end Go.Proofs.YtlmoafkmhenejaaW.PrintLast
namespace Go.Proofs.YtlmoafkmhenejaaW.PrintMore
end Go.Proofs.YtlmoafkmhenejaaW.PrintMore
namespace Go.Proofs.Ytlmoafkmhenejaa.CLib
open Go.RowKit Go.Proofs.Ytlmoafkmhenejaa.VLib Go.Proofs.YtlmoafkmhenejaaW.PrintWords Go.Proofs.YtlmoafkmhenejaaW.PrintLast Go.Proofs.YtlmoafkmhenejaaW.PrintMore
def poly : BitVec 32 := 2197175160#32
def bstep (c : BitVec 32) : BitVec 32 := (c >>> 1) ^^^ (if c.getLsbD 0 then poly else 0#32)
def bsteps : Nat → BitVec 32 → BitVec 32
  | 0, c => c
  | n + 1, c => bsteps n (bstep c)
def wide (b : UInt8) : BitVec 32 := BitVec.ofNat 32 b.toNat
def cbyte (c : BitVec 32) (b : UInt8) : BitVec 32 := bsteps 8 (c ^^^ wide b)
def crcL (c : BitVec 32) (l : List UInt8) : BitVec 32 := l.foldl cbyte c
def crcM (s : BitVec 32) (l : List UInt8) : BitVec 32 := ~~~ crcL (~~~ s) l
theorem wraps_u32 (n : Int) (h₀ : 0 ≤ n) (h₁ : n < 2 ^ 32) : IntKind.u32.wrap n = n := by rw [IntKind.wrap_u32]; omega
theorem ofInt_toNat (c : BitVec 32) : BitVec.ofInt 32 (c.toNat : Int) = c := by
  rw [BitVec.ofInt_natCast, BitVec.ofNat_toNat]; simp
theorem xor_u32 (c d : BitVec 32) : Go.bits .xor .u32 (c.toNat : Int) (d.toNat : Int) = ((c ^^^ d).toNat : Int) := by
  have h : Go.bits .xor .u32 (c.toNat : Int) (d.toNat : Int) = IntKind.u32.wrap (((BitVec.ofInt 32 (c.toNat : Int)) ^^^ (BitVec.ofInt 32 (d.toNat : Int))).toNat : Int) := rfl
  rw [h, ofInt_toNat, ofInt_toNat]
  have := (c ^^^ d).isLt
  exact wraps_u32 _ (by omega) (by omega)
theorem and1_u32 (c : BitVec 32) : Go.bits .and .u32 (c.toNat : Int) 1 = ((c.toNat % 2 : Nat) : Int) := by
  have := c.isLt
  have h := (bits_nat .u32 32 (by decide) wraps_u32 c.toNat 1 (by omega) (by decide)).1
  rw [show ((1 : Nat) : Int) = 1 from rfl] at h
  rw [h, Nat.and_one_is_mod]
theorem and1_i64 (a : Nat) (ha : a < 9223372036854775808) : Go.bits .and .i64 (a : Int) 1 = ((a % 2 : Nat) : Int) := by
  have h := (bits_nat .i64 63 (by decide) wraps_i64 a 1 (by omega) (by decide)).1
  rw [show ((1 : Nat) : Int) = 1 from rfl] at h
  rw [h, Nat.and_one_is_mod]
theorem bit0 (c : BitVec 32) : c.getLsbD 0 = decide (c.toNat % 2 = 1) := by
  rw [BitVec.getLsbD, Nat.testBit_zero]
theorem half (c : BitVec 32) : ((c >>> 1).toNat : Int) = (c.toNat : Int) / 2 := by
  rw [BitVec.toNat_ushiftRight, Nat.shiftRight_eq_div_pow]; omega
theorem bstep_one (c : BitVec 32) (h : c.toNat % 2 = 1) : bstep c = (c >>> 1) ^^^ poly := by
  unfold bstep; rw [bit0, if_pos (by simpa using h)]
theorem bstep_zero (c : BitVec 32) (h : ¬ c.toNat % 2 = 1) : bstep c = c >>> 1 := by
  unfold bstep; rw [bit0, if_neg (by simpa using h)]; simp
theorem poly_toNat : ((2197175160 : Int)) = (poly.toNat : Int) := rfl
theorem ones_xor (c : BitVec 32) : Go.bits .xor .u32 4294967295 (c.toNat : Int) = ((~~~ c).toNat : Int) := by
  have h := xor_u32 (BitVec.allOnes 32) c
  rw [BitVec.allOnes_xor] at h
  exact h
theorem low32 (x : Int) : Go.bits .and .i64 x 4294967295 = ((BitVec.ofInt 32 x).toNat : Int) := by
  have h : Go.bits .and .i64 x 4294967295 = IntKind.i64.wrap (((BitVec.ofInt 64 x) &&& (BitVec.ofInt 64 ((4294967295 : Nat) : Int))).toNat : Int) := rfl
  have e : ((BitVec.ofInt 64 x) &&& (BitVec.ofInt 64 ((4294967295 : Nat) : Int))).toNat = (BitVec.ofInt 32 x).toNat := by
    rw [BitVec.toNat_and, BitVec.ofInt_natCast, BitVec.toNat_ofNat, show 4294967295 % 2 ^ 64 = 2 ^ 32 - 1 from rfl, Nat.and_two_pow_sub_one_eq_mod, BitVec.toNat_ofInt, BitVec.toNat_ofInt]
    omega
  have := (BitVec.ofInt 32 x).isLt
  rw [h, e]
  exact wraps_i64 _ (by omega) (by omega)
theorem wide_bt (s : ByteArray) (i : Nat) (h : i < s.data.toList.length) : bt s (i : Int) = ((wide (s.data.toList[i]'h)).toNat : Int) := by
  have hb := (s.data.toList[i]'h).toNat_lt
  rw [bt_list s i h]
  unfold wide
  rw [BitVec.toNat_ofNat, Nat.mod_eq_of_lt (by omega)]
def low (l : List UInt8) : BitVec 32 := match l with
  | [] => 0#32
  | b :: r => wide b ^^^ (low r <<< 8)
end Go.Proofs.Ytlmoafkmhenejaa.CLib
end
section
namespace Go.Proofs.YtlmoafkmhenejaaW.PrintWords
end Go.Proofs.YtlmoafkmhenejaaW.PrintWords
namespace Go.Proofs.YtlmoafkmhenejaaW.PrintLast
end Go.Proofs.YtlmoafkmhenejaaW.PrintLast
namespace Go.Proofs.YtlmoafkmhenejaaW.PrintMore
end Go.Proofs.YtlmoafkmhenejaaW.PrintMore
namespace Go.Proofs.Ytlmoafkmhenejaa.XW
end Go.Proofs.Ytlmoafkmhenejaa.XW
namespace Go.Proofs.Ytlmoafkmhenejaa.XA
open Go.RowKit Go.Proofs.YtlmoafkmhenejaaW.PrintWords Go.Proofs.YtlmoafkmhenejaaW.PrintLast Go.Proofs.YtlmoafkmhenejaaW.PrintMore Go.Proofs.Ytlmoafkmhenejaa.XW
attribute [local go_sem high] max2_str unary_xor_u32 leq_str geq_str gtr_str
attribute [local go_sem] max2_int min2_int max_two min_two max_three min_three max_four min_four   -- for this text's walks alone
set_option linter.unusedVariables false
set_option linter.unusedSimpArgs false
def sorrelref04_May.f (a0_0 : ByteArray) (a0_1 : ByteArray) : Option (Bool) := if (a0_0.size : Int) ≤ 64 then (if (a0_1.size : Int) ≤ 64 then (if a0_1.toList = ([] : List UInt8) then (some true) else (some (Op.bytesLess a0_0.toList a0_1.toList))) else (some false)) else (some false)
end Go.Proofs.Ytlmoafkmhenejaa.XA
end
section
namespace Go.Proofs.Ytlmoafkmhenejaa.XA
end Go.Proofs.Ytlmoafkmhenejaa.XA
namespace Go.Proofs.Ytlmoafkmhenejaa.VLib
end Go.Proofs.Ytlmoafkmhenejaa.VLib
namespace Go.Proofs.Ytlmoafkmhenejaa.CLib
end Go.Proofs.Ytlmoafkmhenejaa.CLib
namespace Go.Proofs.YtlmoafkmhenejaaW.PrintWords
end Go.Proofs.YtlmoafkmhenejaaW.PrintWords
namespace Go.Proofs.YtlmoafkmhenejaaW.PrintLast
end Go.Proofs.YtlmoafkmhenejaaW.PrintLast
namespace Go.Proofs.YtlmoafkmhenejaaW.PrintMore
end Go.Proofs.YtlmoafkmhenejaaW.PrintMore
namespace Go.Proofs.Ytlmoafkmhenejaa.VaB1
open Go.RowKit Go.Proofs.Ytlmoafkmhenejaa.XA Go.Proofs.Ytlmoafkmhenejaa.VLib Go.Proofs.Ytlmoafkmhenejaa.CLib Go.Proofs.YtlmoafkmhenejaaW.PrintWords Go.Proofs.YtlmoafkmhenejaaW.PrintLast Go.Proofs.YtlmoafkmhenejaaW.PrintMore
theorem put_digit (n : Nat) (hb : n < 9223372036854775808) : UInt8.ofNat (Go.bits .or .u8 ((n : Int) % 256) 128).toNat = UInt8.ofNat (n % 128 + 128) := by
  have e : (Go.bits .or .u8 ((n : Int) % 256) 128) = ((n % 128 + 128 : Nat) : Int) := by
    have := hb; rw [or128 _ (by omega) (by omega)]; omega
  rw [e, Int.toNat_natCast]
theorem put_loop : ∀ (f k n : Nat) (xs : List Int), n < 9223372036854775808 → n < 128 ^ (f + 1) → xs.length + f < 1000 → f < k →
    varint_Put.l0 k (n : Int) xs = some (bs ((xs.map fun n => UInt8.ofNat n.toNat) ++ enc n), 0) := by
  have last : ∀ (k n : Nat) (xs : List Int), n < 128 → xs.length < 1000 → 0 < k → varint_Put.l0 k (n : Int) xs = some (bs ((xs.map fun n => UInt8.ofNat n.toNat) ++ enc n), 0) := by
    intro k n xs hn hl hk
    obtain ⟨k, rfl⟩ : ∃ m, k = m + 1 := ⟨k - 1, by omega⟩
    simp only [varint_Put.l0]
    rw [if_neg (by omega), if_pos (by omega), nums_bs, List.map_append, enc_lt hn]
    simp only [List.map_cons, List.map_nil]
    rw [show ((n : Int) % 256).toNat = n from by omega]
  intro f
  induction f with
  | zero => intro k n xs _ h hl hk; exact last k n xs (by simpa using h) (by omega) (by omega)
  | succ f ih =>
    intro k n xs hb h hl hk
    by_cases c : n < 128
    · exact last k n xs c (by omega) (by omega)
    · obtain ⟨k, rfl⟩ : ∃ m, k = m + 1 := ⟨k - 1, by omega⟩
      simp only [varint_Put.l0]
      rw [if_pos (by omega), if_pos (by omega), show (n : Int) / 128 = ((n / 128 : Nat) : Int) from by omega]
      have hn : n / 128 < 128 ^ (f + 1) := by
        rw [Nat.div_lt_iff_lt_mul (by decide)]
        rwa [Nat.pow_succ] at h
      rw [ih k (n / 128) _ (by omega) hn (by simp only [List.length_append, List.length_cons, List.length_nil]; omega) (by omega)]
      simp only [List.map_append, List.map_cons, List.map_nil, List.append_assoc, List.cons_append, List.nil_append]
      rw [put_digit n hb, ← enc_ge c]
theorem put_ok (n k : Nat) (h : n ≤ 4611686018427387904) (hk : 11 ≤ k) : varint_Put.f k (n : Int) = some (bs (enc n), 0) := by
  obtain ⟨k, rfl⟩ : ∃ m, k = m + 1 := ⟨k - 1, by omega⟩
  unfold varint_Put.f
  rw [if_neg (by omega), show decide ((n : Int) > 4611686018427387904) = false from decide_eq_false (by omega)]
  simp only [varint_Put.j0]
  rw [if_neg (by simp), put_loop 8 k n [] (by omega) (by omega) (by simp) (by omega)]
  rfl
theorem text_ok (s : ByteArray) (k : Nat) (h : s.size ≤ 262144) (hk : 11 ≤ k) : varint_Text.f k s = some (bs (enc s.data.toList.length ++ s.data.toList), 0) := by
  unfold varint_Text.f
  have h9 := enc9 (n := s.size) (by omega)
  rw [if_neg (by omega), put_ok s.size k (by omega) hk]
  simp only [Option.bind_some]
  rw [if_pos (by rw [bs_size]; omega), len_list]
  rw [show bs (enc s.size) ++ s = bs (enc s.size ++ s.data.toList) from ext_list (by rw [list_append, bs_list, bs_list])]
theorem take_loop : ∀ (f k i : Nat) (s : ByteArray) (x : Int), f + i = 9 → i ≤ s.data.toList.length → 0 ≤ x → x < 2 ^ (7 * i) → f < k →
    varint_Take.l0 k s x (i : Int) = some (fromI x i (dcd f (decide (i = 0)) (s.data.toList.drop i))) := by
  intro f
  induction f with
  | zero =>
    intro k i s x hf hi h0 h1 hk
    obtain ⟨k, rfl⟩ : ∃ m, k = m + 1 := ⟨k - 1, by omega⟩
    simp only [varint_Take.l0]
    rw [if_neg (by omega)]
    rfl
  | succ f ih =>
    intro k i s x hf hi h0 h1 hk
    obtain ⟨k, rfl⟩ : ∃ m, k = m + 1 := ⟨k - 1, by omega⟩
    have hsz := len_list s
    simp only [varint_Take.l0]
    rw [if_pos (by omega)]
    by_cases he : i = s.data.toList.length
    · rw [if_pos (by omega), List.drop_eq_nil_of_le (by omega)]
      rfl
    · have hlt : i < s.data.toList.length := by omega
      have hb := s.data.toList[i].toNat_lt
      have hs := step_lt x (s.data.toList[i].toNat : Int) i h0 h1
      rw [if_neg (by omega), if_pos (by omega), if_pos (by omega), w64 (by omega) (by omega), if_pos (by omega)]
      rw [← w64 (n := 7 * (i : Int)) (by omega) (by omega), bt_list s i hlt, step_or x _ i (by omega) h0 h1 (by omega) (by omega), drop_cons s i hlt, w64 (n := (i : Int) + 1) (by omega) (by omega)]
      by_cases c : 128 ≤ s.data.toList[i].toNat
      · rw [if_pos (by omega), fromI_more x _ i f _ _ c]
        exact ih k (i + 1) s _ (by omega) (by omega) hs.1 hs.2 (by omega)
      · rw [if_neg (by omega), fromI_last x _ i f _ _ c]
        by_cases p : i = 0
        · rw [if_neg (by omega), if_neg (show ¬ (decide (i = 0) = false ∧ s.data.toList[i].toNat = 0) by simp [p])]
          split <;> rfl
        · rw [if_pos (by omega)]
          by_cases z : s.data.toList[i].toNat = 0
          · rw [if_pos (by omega), if_pos ⟨by simp [p], z⟩]
          · rw [if_neg (by omega), if_neg (show ¬ (decide (i = 0) = false ∧ s.data.toList[i].toNat = 0) by rintro ⟨_, h⟩; exact z h)]
            split <;> rfl
theorem take_is (s : ByteArray) (k : Nat) (hk : 10 ≤ k) : varint_Take.f k s = some (outI (takeN s.data.toList)) := by
  unfold varint_Take.f
  have := take_loop 9 k 0 s 0 rfl (by omega) (by decide) (by decide) (by omega)
  rw [← fromI_zero]
  exact this
theorem ttext_is (s : ByteArray) (k : Nat) (h : s.size ≤ 4611686018427387904) (hk : 10 ≤ k) : varint_TakeText.f k s = some (outT (takeX s.data.toList)) := by
  unfold varint_TakeText.f
  rw [take_is s k hk]
  simp only [Option.bind_some]
  unfold takeX
  have hl := len_list s
  by_cases e : (takeN s.data.toList).2.2 = 0
  · obtain ⟨h1, h2, h3, h4, h5⟩ := takeN_back s.data.toList (takeN s.data.toList).1 (takeN s.data.toList).2.1 (by rw [← e])
    rw [if_pos e, if_pos (by omega)]
    by_cases g : 262144 < (takeN s.data.toList).1
    · rw [if_pos (by omega), if_pos g]; rfl
    · rw [if_neg (by omega), if_neg g, w64 (by omega) (by omega)]
      by_cases g2 : s.data.toList.length - (takeN s.data.toList).2.1 < (takeN s.data.toList).1
      · rw [if_pos (by omega), if_pos g2]; rfl
      · rw [if_neg (by omega), if_neg g2, w64 (by omega) (by omega), if_pos (by omega), if_pos (by omega), if_pos (by omega)]
        congr 2
        apply ext_list
        rw [extract_list, bs_list, Int.toNat_natCast, show (((takeN s.data.toList).2.1 : Int) + ((takeN s.data.toList).1 : Int)).toNat = (takeN s.data.toList).2.1 + (takeN s.data.toList).1 from by omega, List.drop_take, Nat.add_sub_cancel_left]
  · rw [if_neg e, if_neg (by omega)]; rfl
theorem more_l1 : ∀ (d K j : Nat) (s : ByteArray) (c : BitVec 32) (n i : Int), j + d = 8 → crc_More.l1 (K + d + 1) s (c.toNat : Int) n i (j : Int) = crc_More.l0 K s ((bsteps d c).toNat : Int) n (wrap64 (i + 1)) := by
  intro d
  induction d with
  | zero =>
    intro K j s c n i h
    simp only [crc_More.l1]
    rw [if_neg (by omega)]; rfl
  | succ d ih =>
    intro K j s c n i h
    rw [show K + (d + 1) + 1 = (K + d + 1) + 1 from by omega]
    simp only [crc_More.l1]
    rw [if_pos (by omega), and1_u32, w64 (n := (j : Int) + 1) (by omega) (by omega), ← half, poly_toNat, xor_u32]
    by_cases b : c.toNat % 2 = 1
    · rw [if_pos (by omega), ← bstep_one c b]
      exact ih K (j + 1) s (bstep c) n i (by omega)
    · rw [if_neg (by omega), ← bstep_zero c b]
      exact ih K (j + 1) s (bstep c) n i (by omega)
theorem more_l0 : ∀ (n K i : Nat) (s : ByteArray) (c : BitVec 32), i + n = s.data.toList.length → s.size ≤ 4611686018427387904 →
    crc_More.l0 (10 * n + (K + 1)) s (c.toNat : Int) (s.size : Int) (i : Int) = some ((~~~ crcL c (s.data.toList.drop i)).toNat : Int) := by
  intro n
  induction n with
  | zero =>
    intro K i s c h hs
    have hl := len_list s
    rw [Nat.mul_zero, Nat.zero_add]
    simp only [crc_More.l0]
    have hlt := (~~~ c).isLt
    rw [if_neg (by omega), List.drop_eq_nil_of_le (by omega), ones_xor, w64 (by omega) (by omega)]
    rfl
  | succ n ih =>
    intro K i s c h hs
    have hl := len_list s
    have hlt : i < s.data.toList.length := by omega
    rw [show 10 * (n + 1) + (K + 1) = (10 * n + (K + 1) + 9) + 1 from by omega]
    simp only [crc_More.l0]
    rw [if_pos (by omega), if_pos (by omega), if_pos (by omega), wide_bt s i hlt]
    have hw := (wide (s.data.toList[i]'hlt)).isLt
    rw [Int.emod_eq_of_lt (by omega) (by omega), xor_u32]
    have h1 := more_l1 8 (10 * n + (K + 1)) 0 s (c ^^^ wide (s.data.toList[i]'hlt)) (s.size : Int) (i : Int) rfl
    rw [show 10 * n + (K + 1) + 9 = 10 * n + (K + 1) + 8 + 1 from rfl]
    refine h1.trans ?_
    rw [w64 (by omega) (by omega), drop_cons s i hlt]
    exact ih K (i + 1) s (cbyte c (s.data.toList[i]'hlt)) (by omega) hs
theorem more_is (x : Int) (s : ByteArray) (k : Nat) (hk : 10 * s.size + 1 ≤ k) (hs : s.size ≤ 4611686018427387904) :
    crc_More.f k x s = some ((crcM (BitVec.ofInt 32 x) s.data.toList).toNat : Int) := by
  obtain ⟨K, rfl⟩ : ∃ K, k = 10 * s.size + (K + 1) := ⟨k - 10 * s.size - 1, by omega⟩
  unfold crc_More.f
  have hlt := (BitVec.ofInt 32 x).isLt
  rw [low32, Int.emod_eq_of_lt (by omega) (by omega), ones_xor]
  have h := more_l0 s.size K 0 s (~~~ BitVec.ofInt 32 x) (by rw [len_list]; omega) hs
  exact h
theorem sum_is (s : ByteArray) (k : Nat) (hk : 10 * s.size + 1 ≤ k) (hs : s.size ≤ 4611686018427387904) :
    crc_Sum.f k s = some ((crcM 0#32 s.data.toList).toNat : Int) := by
  unfold crc_Sum.f
  rw [more_is _ s k hk hs]
  rfl
def fix4 (n : Nat) : List UInt8 := [UInt8.ofNat n, UInt8.ofNat (n / 256), UInt8.ofNat (n / 65536), UInt8.ofNat (n / 16777216)]
theorem fix4_len (n : Nat) : (fix4 n).length = 4 := rfl
theorem dig_u8 (n : Nat) (d : Int) (m : Nat) (h : d = ((n / m : Nat) : Int) % 256) : UInt8.ofNat d.toNat = UInt8.ofNat (n / m) := by
  subst h
  rw [show (((n / m : Nat) : Int) % 256).toNat = (n / m) % 256 from by omega]
  apply UInt8.toNat_inj.1
  simp
theorem nums4 (n : Nat) (a b c d : Int) (ha : a = ((n / 1 : Nat) : Int) % 256) (hb : b = ((n / 256 : Nat) : Int) % 256) (hc : c = ((n / 65536 : Nat) : Int) % 256) (hd : d = ((n / 16777216 : Nat) : Int) % 256) : strOfNums [a, b, c, d] = bs (fix4 n) := by
  rw [nums_bs]
  simp only [List.map_cons, List.map_nil]
  rw [dig_u8 n a 1 ha, dig_u8 n b 256 hb, dig_u8 n c 65536 hc, dig_u8 n d 16777216 hd, Nat.div_one]
  rfl
theorem fix4_val (n : Nat) (h : n < 4294967296) : (UInt8.ofNat n).toNat + (UInt8.ofNat (n / 256)).toNat * 256 + (UInt8.ofNat (n / 65536)).toNat * 65536 + (UInt8.ofNat (n / 16777216)).toNat * 16777216 = n := by
  simp; omega
theorem bytes_is (n : Nat) : crc_bytes.f (n : Int) = some (bs (fix4 n)) := by
  unfold crc_bytes.f crc_bytes.dig
  rw [nums4 n _ _ _ _ (by simp) (by simp) (by simp) (by simp)]
def chk (l : List UInt8) : Bool := decide (4 ≤ l.length) && (l.drop (l.length - 4) == fix4 (crcM 0#32 (l.take (l.length - 4))).toNat)
def sealL (l : List UInt8) : List UInt8 := l ++ fix4 (crcM 0#32 l).toNat
theorem chk_seal (l : List UInt8) : chk (sealL l) = true := by
  unfold chk sealL
  have h : (l ++ fix4 (crcM 0#32 l).toNat).length = l.length + 4 := by rw [List.length_append, fix4_len]
  rw [h, show l.length + 4 - 4 = l.length from by omega, List.drop_left, List.take_left]
  simp
theorem seal_is (s : ByteArray) (k : Nat) (hk : 10 * s.size + 1 ≤ k) (hs : s.size ≤ 4611686018427387904) : crc_Seal.f k s = some (bs (sealL s.data.toList)) := by
  unfold crc_Seal.f
  rw [sum_is s k hk hs]
  simp only [Option.bind_some]
  rw [bytes_is]
  simp only [Option.bind_some]
  rw [if_pos (by rw [bs_size, fix4_len]; omega), show s ++ bs (fix4 (crcM 0#32 s.data.toList).toNat) = bs (sealL s.data.toList) from ext_list (by rw [list_append, bs_list, bs_list]; rfl)]
theorem check_cut (s : ByteArray) (h : 4 ≤ s.size) : (s.extract 0 ((s.size : Int) - 4).toNat).data.toList = s.data.toList.take (s.data.toList.length - 4) ∧ (s.extract ((s.size : Int) - 4).toNat s.size).data.toList = s.data.toList.drop (s.data.toList.length - 4) := by
  have hl := len_list s
  rw [extract_list, extract_list, show ((s.size : Int) - 4).toNat = s.data.toList.length - 4 from by omega]
  exact ⟨rfl, by rw [List.take_of_length_le (by omega)]⟩
theorem cut_size (s : ByteArray) : (s.extract 0 ((s.size : Int) - 4).toNat).size ≤ s.size := by
  rw [← len_list, extract_list, List.drop_zero, List.length_take, len_list]; omega
theorem check_is (s : ByteArray) (k : Nat) (hk : 10 * s.size + 1 ≤ k) (hs : s.size ≤ 4611686018427387904) : crc_Check.f k s = some (chk s.data.toList) := by
  unfold crc_Check.f chk
  have hl := len_list s
  rw [w64 (by omega) (by omega)]
  by_cases c : 4 ≤ s.size
  · obtain ⟨e1, e2⟩ := check_cut s c
    have e3 := cut_size s
    rw [if_pos (by omega), if_pos (by omega), if_pos (by omega), sum_is _ k (by omega) (by omega)]
    simp only [Option.bind_some]
    rw [bytes_is]
    simp only [Option.bind_some]
    rw [toList_data, toList_data, e1, e2, bs_list, decide_eq_true (by omega)]
    rfl
  · rw [if_neg (by omega), decide_eq_false (by omega)]; rfl
end Go.Proofs.Ytlmoafkmhenejaa.VaB1
end
