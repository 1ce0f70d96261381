import Derived.Test.YtlmoafkmhenejaakNMTab1
namespace Go.Proofs.Ytlmoafkmhenejaa.VLib
end Go.Proofs.Ytlmoafkmhenejaa.VLib
namespace Go.Proofs.YtlmoafkmhenejaaW.PrintWords
end Go.Proofs.YtlmoafkmhenejaaW.PrintWords
namespace Go.Proofs.YtlmoafkmhenejaaW.PrintLast
end Go.Proofs.YtlmoafkmhenejaaW.PrintLast
namespace Go.Proofs.YtlmoafkmhenejaaW.PrintMore
end Go.Proofs.YtlmoafkmhenejaaW.PrintMore
namespace Go.Proofs.Ytlmoafkmhenejaa.XW
end Go.Proofs.Ytlmoafkmhenejaa.XW
namespace Go.Proofs.Ytlmoafkmhenejaa.XA
open Go.Proofs.Ytlmoafkmhenejaa.VLib Go.RowKit Go.Proofs.YtlmoafkmhenejaaW.PrintWords Go.Proofs.YtlmoafkmhenejaaW.PrintLast Go.Proofs.YtlmoafkmhenejaaW.PrintMore Go.Proofs.Ytlmoafkmhenejaa.XW
attribute [local go_sem high] max2_str unary_xor_u32 leq_str geq_str gtr_str
attribute [local go_sem] max2_int min2_int max_two min_two max_three min_three max_four min_four
set_option linter.unusedVariables false
set_option linter.unusedSimpArgs false
def TabAt (w : World) (p : Value) (l : List S43) (bits : ByteArray) : Prop :=
  (p = .pointer none ∧ l = [] ∧ bits = ⟨#[]⟩) ∨ ∃ g A c, p = .pointer (some ⟨g, 0, none⟩) ∧ w.heap[g]? = some (.cells #[.slice A l.length c, .string bits] 65 (0, 0)) ∧ Kd.C k43 w A l.length l ∧ l.length ≤ c
theorem TabAt.below {w w' : World} {p : Value} {l : List S43} {bits : ByteArray} (h : TabAt w p l bits) (hb : Below w.heap.size w w') : TabAt w' p l bits := by
  rcases h with h | ⟨g, A, c, h1, h2, h3, h4⟩
  · exact .inl h
  · exact .inr ⟨g, A, c, h1, blk_below h2 hb, Kd.C_below h3 hb, h4⟩
theorem TabAt.some {w : World} {p : Value} {l : List S43} {bits : ByteArray} (h : TabAt w p l bits) (hl : 0 < l.length) : ∃ g A c, p = .pointer (some ⟨g, 0, none⟩) ∧ w.heap[g]? = some (.cells #[.slice A l.length c, .string bits] 65 (0, 0)) ∧ Kd.C k43 w A l.length l ∧ l.length ≤ c := by
  rcases h with ⟨-, rfl, -⟩ | h
  · exact absurd hl (by simp)
  · exact h
set_option maxHeartbeats 1600000 in
set_option maxRecDepth 100000 in
theorem len_calls (p : Value) (l : List S43) (bits : ByteArray) (w : World) (h : TabAt w p l bits) :
    Calls Try.prog 18 #[p] w fun e w' => e = .returned (.int .i64 (l.length : Int)) ∧ w' = w := by
  rcases h with ⟨rfl, rfl, -⟩ | ⟨g, A, c, rfl, hg, hC, hc⟩
  · go_enter Try.func18, Try.ntmps18
    go_wp2
    go_ret
    exact ⟨rfl, rfl⟩
  · have x0 : w.cell? ⟨g, 0, none⟩ = some (.slice A l.length c) := (blk_cell hg 0).trans rfl
    clear hg hC hc
    go_enter Try.func18, Try.ntmps18
    go_wp2
    go_ret
    exact ⟨rfl, rfl⟩
set_option maxHeartbeats 1600000 in
set_option maxRecDepth 100000 in
theorem may_none (p : Value) (bits key : ByteArray) (w : World) (h : TabAt w p [] bits) :
    Calls Try.prog 23 #[p, .string key] w fun e w' => e = .returned (.bool false) ∧ w' = w := by
  have HT := Aside0.mk h
  clear h
  go_enter Try.func23, Try.ntmps23
  go_wp2_with (go_at_call 18; go_loud ((refine (len_calls p [] bits _ HT.out).mono ?_); rintro e _ ⟨rfl, rfl⟩))
  go_ret
  exact ⟨rfl, rfl⟩
set_option maxHeartbeats 1600000 in
set_option maxRecDepth 100000 in
theorem may_some (k : Nat) (p : Value) (l : List S43) (bits key : ByteArray) (b : Bool) (w : World) (h : TabAt w p l bits) (hl : 0 < l.length) (hb : bloom_Has.f k bits key = some b) :
    Calls Try.prog 23 #[p, .string key] w fun e w' => e = .returned (.bool b) ∧ Below w.heap.size w w' := by
  have HT := Aside0.mk h
  have HH := Aside0.mk hb
  obtain ⟨g, A, c, rfl, hg, -, -⟩ := h.some hl
  have x1 : w.cell? ⟨g, 1, none⟩ = some (.string bits) := (blk_cell hg 1).trans rfl
  have c1 : decide (0 < (l.length : Int)) = true := decide_eq_true (by omega)
  have c2 : decide (0 < l.length) = true := decide_eq_true hl
  clear h hb hg hl
  go_enter Try.func23, Try.ntmps23
  go_wp2_with (first | (go_at_call 61; go_loud ((refine (bloom_Has.calls k bits key b _ HH.out).mono ?_); rintro e w2 ⟨rfl, hb2⟩; have HB2 := Aside0.mk hb2; clear hb2)) | (go_at_call 18; go_loud ((refine (len_calls _ l bits _ HT.out).mono ?_); rintro e _ ⟨rfl, rfl⟩)))
  go_ret
  exact ⟨rfl, HB2.out⟩
set_option maxHeartbeats 1600000 in
set_option maxRecDepth 100000 in
theorem ends_none (p : Value) (bits : ByteArray) (w : World) (h : TabAt w p [] bits) :
    Calls Try.prog 29 #[p] w fun e w' => e = .returned (.tuple #[.string ⟨#[]⟩, .string ⟨#[]⟩]) ∧ w' = w := by
  have HT := Aside0.mk h
  clear h
  go_enter Try.func29, Try.ntmps29
  go_wp2_with (go_at_call 18; go_loud ((refine (len_calls p [] bits _ HT.out).mono ?_); rintro e _ ⟨rfl, rfl⟩))
  go_ret2
  exact ⟨rfl, rfl⟩
set_option maxHeartbeats 1600000 in
set_option maxRecDepth 100000 in
theorem ends_some (p : Value) (l : List S43) (bits : ByteArray) (w : World) (h : TabAt w p l bits) (hl : 0 < l.length) (hn : l.length < 1000000) :
    Calls Try.prog 29 #[p] w fun e w' => e = .returned (.tuple #[.string (rd_T43 l 0).f0, .string (rd_T43 l ((l.length : Int) - 1)).f0]) ∧ Below w.heap.size w w' := by
  have HT := Aside0.mk h
  obtain ⟨g, A, c, rfl, hg, hC, -⟩ := h.some hl
  have x0 : w.cell? ⟨g, 0, none⟩ = some (.slice A l.length c) := (blk_cell hg 0).trans rfl
  obtain ⟨ad, ea, a0, -, -, -⟩ := at_T43 hC 0 (by omega) (by omega)
  obtain ⟨ad', ea', b0, -, -, -⟩ := at_T43 hC ((l.length : Int) - 1) (by omega) (by omega)
  rw [ea] at ea'
  injection ea' with ea'
  subst ea'
  rw [show (0 : Int).toNat * 4 = 0 from rfl] at a0
  have a00 : w.cell? ad = some (.string (rd_T43 l 0).f0) := a0
  have c1 : ((l.length : Int) == 0) = false := beq_eq_false_iff_ne.mpr (by omega)
  have c3 : (l.length == 0) = false := beq_eq_false_iff_ne.mpr (by omega)
  have p1 : (0 < (l.length : Int)) = True := eq_true (by omega)
  have p2 : (0 < l.length) = True := eq_true hl
  have p3 : (0 ≤ (l.length : Int) - 1) = True := eq_true (by omega)
  have p4 : ((l.length : Int) - 1 < (l.length : Int)) = True := eq_true (by omega)
  have p5 : (1 ≤ (l.length : Int)) = True := eq_true (by omega)
  cases ea
  obtain ⟨K0, hK0⟩ : ∃ K, (rd_T43 l 0).f0 = K := ⟨_, rfl⟩
  obtain ⟨K1, hK1⟩ : ∃ K, (rd_T43 l ((l.length : Int) - 1)).f0 = K := ⟨_, rfl⟩
  rw [hK0] at a0 a00 ⊢
  rw [hK1] at b0 ⊢
  obtain ⟨m, hm⟩ : ∃ m : Int, (l.length : Int) - 1 = m := ⟨_, rfl⟩
  rw [hm] at p3 p4 b0
  have hw : wrap64 ((l.length : Int) - 1) = m := by unfold wrap64; omega
  clear h hg hC hl hK0 hK1 hn p5 hm
  go_enter Try.func29, Try.ntmps29
  go_wp2_with (go_at_call 18; go_loud ((refine (len_calls _ l bits _ HT.out).mono ?_); rintro e _ ⟨rfl, rfl⟩))
  go_quiet (fail)
  go_wp2
  go_ret2
  exact ⟨rfl, pw_below_drewN (Below.refl _ _) nq⟩
set_option maxHeartbeats 1600000 in
set_option maxRecDepth 100000 in
theorem range_calls (p : Value) (l r : List S43) (bits lo hi : ByteArray) (w : World) (h : TabAt w p l bits) (hr : span_Clip.f l lo hi = some r) :
    Calls Try.prog 20 #[p, .agg #[.string lo, .string hi]] w fun e w' => ∃ v, e = .returned v ∧ Kd.R k43 43 w' w.heap.size (fun _ => True) v r ∧ Below w.heap.size w w' := by
  have HB1 := Aside0.mk (below_alloc (Below.refl w.heap.size w) (.cells #[.string lo, .string hi] 38))
  rcases h with ⟨rfl, rfl, -⟩ | ⟨g, A, c, rfl, hg, hC, hc⟩
  · have er : r = [] := by
      unfold span_Clip.f at hr
      rw [if_pos (by simp)] at hr
      unfold span_Clip.l0 at hr
      exact (Option.some.inj hr).symm
    subst er
    clear hr
    go_enter Try.func20, Try.ntmps20
    go_wp2
    go_ret
    exact ⟨_, rfl, Kd.R_nil _ _ _ _ _, HB1.out⟩
  · have hk := heap_alloc_new w (.cells #[.string lo, .string hi] 38)
    have HC1 := Aside0.mk (Kd.C_alloc hC (.cells #[.string lo, .string hi] 38))
    have HC2 := Aside0.mk hc
    have HR := Aside0.mk hr
    have x0 : (w.alloc (.cells #[.string lo, .string hi] 38)).cell? ⟨g, 0, none⟩ = some (.slice A l.length c) := (blk_cell (blk_alloc hg (.cells #[.string lo, .string hi] 38)) 0).trans rfl
    have y0 : (w.alloc (.cells #[.string lo, .string hi] 38)).cell? ⟨w.heap.size, 0, none⟩ = some (.string lo) := (blk_cell hk 0).trans rfl
    have y1 : (w.alloc (.cells #[.string lo, .string hi] 38)).cell? ⟨w.heap.size, 1, none⟩ = some (.string hi) := (blk_cell hk 1).trans rfl
    have HS1 : Aside0 ((w.alloc (.cells #[.string lo, .string hi] 38)).heap.size = w.heap.size + 1) := ⟨by simp⟩
    obtain ⟨w1, hw1⟩ : ∃ w1, w.alloc (.cells #[.string lo, .string hi] 38) = w1 := ⟨_, rfl⟩
    rw [hw1] at x0 y0 y1 HC1 HB1 HS1
    have HWE := Aside0.mk hw1
    clear hg hC hc hr hk hw1
    go_enter Try.func20, Try.ntmps20
    go_wp2
    rw [HWE.out]
    go_still_tail 5, (by kernel_rfl)
    change wpList _ _ _ _ _ w1.drew
    have HCd := Aside0.mk (Kd.C_drew HC1.out)
    have HBd := Aside0.mk (below_drew HB1.out)
    go_wp2_with (go_at_call 59; go_loud ((refine (span_Clip.calls A c l lo hi r _ HCd.out HC2.out HR.out).mono ?_); rintro e w2 ⟨v2, rfl, hR2, hb2⟩; obtain ⟨A2, c2, e2⟩ := Kd.R_slice hR2; subst e2; have HR2 := Aside0.mk hR2; have HB2 := Aside0.mk (below_step HBd.out hb2); clear hR2 hb2))
    go_ret
    exact ⟨_, rfl, Kd.R_lower HR2.out (by rw [show w1.drew.heap.size = w.heap.size + 1 from HS1.out]; omega), HB2.out⟩
end Go.Proofs.Ytlmoafkmhenejaa.XA
