import Derived.Test.YtlmoafkmhenejaakOMTab0
section
namespace Go.Proofs.Ytlmoafkmhenejaa.VLib
end Go.Proofs.Ytlmoafkmhenejaa.VLib
namespace Go.Proofs.YtlmoafkmhenejaaW.PrintWords
end Go.Proofs.YtlmoafkmhenejaaW.PrintWords
namespace Go.Proofs.YtlmoafkmhenejaaW.PrintLast
end Go.Proofs.YtlmoafkmhenejaaW.PrintLast
namespace Go.Proofs.YtlmoafkmhenejaaW.PrintMore
end Go.Proofs.YtlmoafkmhenejaaW.PrintMore
namespace Go.Proofs.Ytlmoafkmhenejaa.XW
end Go.Proofs.Ytlmoafkmhenejaa.XW
namespace Go.Proofs.Ytlmoafkmhenejaa.XA
open Go.Proofs.Ytlmoafkmhenejaa.VLib Go.RowKit Go.Proofs.YtlmoafkmhenejaaW.PrintWords Go.Proofs.YtlmoafkmhenejaaW.PrintLast Go.Proofs.YtlmoafkmhenejaaW.PrintMore Go.Proofs.Ytlmoafkmhenejaa.XW
attribute [local go_sem high] max2_str unary_xor_u32 leq_str geq_str gtr_str
attribute [local go_sem] max2_int min2_int max_two min_two max_three min_three max_four min_four
set_option linter.unusedVariables false
set_option linter.unusedSimpArgs false
def TabAt (w : World) (p : Value) (l : List S43) (bits : ByteArray) : Prop :=
  (p = .pointer none ∧ l = [] ∧ bits = ⟨#[]⟩) ∨ ∃ g A c, p = .pointer (some ⟨g, 0, none⟩) ∧ w.heap[g]? = some (.cells #[.slice A l.length c, .string bits] 65 (0, 0)) ∧ Kd.C k43 w A l.length l ∧ l.length ≤ c
theorem TabAt.below {w w' : World} {p : Value} {l : List S43} {bits : ByteArray} (h : TabAt w p l bits) (hb : Below w.heap.size w w') : TabAt w' p l bits := by
  rcases h with h | ⟨g, A, c, h1, h2, h3, h4⟩
  · exact .inl h
  · exact .inr ⟨g, A, c, h1, blk_below h2 hb, Kd.C_below h3 hb, h4⟩
theorem TabAt.some {w : World} {p : Value} {l : List S43} {bits : ByteArray} (h : TabAt w p l bits) (hl : 0 < l.length) : ∃ g A c, p = .pointer (some ⟨g, 0, none⟩) ∧ w.heap[g]? = some (.cells #[.slice A l.length c, .string bits] 65 (0, 0)) ∧ Kd.C k43 w A l.length l ∧ l.length ≤ c := by
  rcases h with ⟨-, rfl, -⟩ | h
  · exact absurd hl (by simp)
  · exact h
set_option maxHeartbeats 1600000 in
set_option maxRecDepth 100000 in
theorem len_calls (p : Value) (l : List S43) (bits : ByteArray) (w : World) (h : TabAt w p l bits) :
    Calls Try.prog 18 #[p] w fun e w' => e = .returned (.int .i64 (l.length : Int)) ∧ w' = w := by
  rcases h with ⟨rfl, rfl, -⟩ | ⟨g, A, c, rfl, hg, hC, hc⟩
  · go_enter Try.func18, Try.ntmps18; go_wp2; go_ret; exact ⟨rfl, rfl⟩
  · have x0 : w.cell? ⟨g, 0, none⟩ = some (.slice A l.length c) := (blk_cell hg 0).trans rfl; clear hg hC hc; go_enter Try.func18, Try.ntmps18; go_wp2; go_ret; exact ⟨rfl, rfl⟩
set_option maxHeartbeats 1600000 in
set_option maxRecDepth 100000 in
theorem may_none (p : Value) (bits key : ByteArray) (w : World) (h : TabAt w p [] bits) :
    Calls Try.prog 23 #[p, .string key] w fun e w' => e = .returned (.bool false) ∧ w' = w := by
  have HT := Aside0.mk h
  clear h
  go_enter Try.func23, Try.ntmps23
  go_wp2_with (go_at_call 18; go_loud ((refine (len_calls p [] bits _ HT.out).mono ?_); rintro e _ ⟨rfl, rfl⟩))
  go_ret
  exact ⟨rfl, rfl⟩
set_option maxHeartbeats 1600000 in
set_option maxRecDepth 100000 in
theorem may_some (k : Nat) (p : Value) (l : List S43) (bits key : ByteArray) (b : Bool) (w : World) (h : TabAt w p l bits) (hl : 0 < l.length) (hb : bloom_Has.f k bits key = some b) :
    Calls Try.prog 23 #[p, .string key] w fun e w' => e = .returned (.bool b) ∧ Below w.heap.size w w' := by
  have HT := Aside0.mk h
  have HH := Aside0.mk hb
  obtain ⟨g, A, c, rfl, hg, -, -⟩ := h.some hl
  have x1 : w.cell? ⟨g, 1, none⟩ = some (.string bits) := (blk_cell hg 1).trans rfl
  have c1 : decide (0 < (l.length : Int)) = true := decide_eq_true (by omega)
  have c2 : decide (0 < l.length) = true := decide_eq_true hl
  clear h hb hg hl
  go_enter Try.func23, Try.ntmps23
  go_wp2_with (first | (go_at_call 61; go_loud ((refine (bloom_Has.calls k bits key b _ HH.out).mono ?_); rintro e w2 ⟨rfl, hb2⟩; have HB2 := Aside0.mk hb2; clear hb2)) | (go_at_call 18; go_loud ((refine (len_calls _ l bits _ HT.out).mono ?_); rintro e _ ⟨rfl, rfl⟩)))
  go_ret
  exact ⟨rfl, HB2.out⟩
set_option maxHeartbeats 1600000 in
set_option maxRecDepth 100000 in
theorem ends_some (p : Value) (l : List S43) (bits : ByteArray) (w : World) (h : TabAt w p l bits) (hl : 0 < l.length) (hn : l.length < 1000000) :
    Calls Try.prog 29 #[p] w fun e w' => e = .returned (.tuple #[.string (rd_T43 l 0).f0, .string (rd_T43 l ((l.length : Int) - 1)).f0]) ∧ Below w.heap.size w w' := by
  have HT := Aside0.mk h
  obtain ⟨g, A, c, rfl, hg, hC, -⟩ := h.some hl
  have x0 : w.cell? ⟨g, 0, none⟩ = some (.slice A l.length c) := (blk_cell hg 0).trans rfl
  obtain ⟨ad, ea, a0, -, -, -⟩ := at_T43 hC 0 (by omega) (by omega)
  obtain ⟨ad', ea', b0, -, -, -⟩ := at_T43 hC ((l.length : Int) - 1) (by omega) (by omega)
  rw [ea] at ea'
  injection ea' with ea'
  subst ea'
  rw [show (0 : Int).toNat * 4 = 0 from rfl] at a0
  have a00 : w.cell? ad = some (.string (rd_T43 l 0).f0) := a0
  have c1 : ((l.length : Int) == 0) = false := beq_eq_false_iff_ne.mpr (by omega)
  have c3 : (l.length == 0) = false := beq_eq_false_iff_ne.mpr (by omega)
  have p1 : (0 < (l.length : Int)) = True := eq_true (by omega)
  have p2 : (0 < l.length) = True := eq_true hl
  have p3 : (0 ≤ (l.length : Int) - 1) = True := eq_true (by omega)
  have p4 : ((l.length : Int) - 1 < (l.length : Int)) = True := eq_true (by omega)
  have p5 : (1 ≤ (l.length : Int)) = True := eq_true (by omega)
  cases ea
  obtain ⟨K0, hK0⟩ : ∃ K, (rd_T43 l 0).f0 = K := ⟨_, rfl⟩
  obtain ⟨K1, hK1⟩ : ∃ K, (rd_T43 l ((l.length : Int) - 1)).f0 = K := ⟨_, rfl⟩
  rw [hK0] at a0 a00 ⊢
  rw [hK1] at b0 ⊢
  obtain ⟨m, hm⟩ : ∃ m : Int, (l.length : Int) - 1 = m := ⟨_, rfl⟩
  rw [hm] at p3 p4 b0
  have hw : wrap64 ((l.length : Int) - 1) = m := by unfold wrap64; omega
  clear h hg hC hl hK0 hK1 hn p5 hm
  go_enter Try.func29, Try.ntmps29
  go_wp2_with (go_at_call 18; go_loud ((refine (len_calls _ l bits _ HT.out).mono ?_); rintro e _ ⟨rfl, rfl⟩))
  go_quiet (fail)
  go_wp2
  go_ret2
  exact ⟨rfl, pw_below_drewN (Below.refl _ _) nq⟩
set_option maxHeartbeats 1600000 in
set_option maxRecDepth 100000 in
theorem range_calls (p : Value) (l r : List S43) (bits lo hi : ByteArray) (w : World) (h : TabAt w p l bits) (hr : span_Clip.f l lo hi = some r) :
    Calls Try.prog 20 #[p, .agg #[.string lo, .string hi]] w fun e w' => ∃ v, e = .returned v ∧ Kd.R k43 43 w' w.heap.size (fun _ => True) v r ∧ Below w.heap.size w w' := by
  have HB1 := Aside0.mk (below_alloc (Below.refl w.heap.size w) (.cells #[.string lo, .string hi] 38))
  rcases h with ⟨rfl, rfl, -⟩ | ⟨g, A, c, rfl, hg, hC, hc⟩
  · have er : r = [] := by
      unfold span_Clip.f at hr
      rw [if_pos (by simp)] at hr
      unfold span_Clip.l0 at hr
      exact (Option.some.inj hr).symm
    subst er; clear hr; go_enter Try.func20, Try.ntmps20; go_wp2; go_ret; exact ⟨_, rfl, Kd.R_nil _ _ _ _ _, HB1.out⟩
  · have hk := heap_alloc_new w (.cells #[.string lo, .string hi] 38); have HC1 := Aside0.mk (Kd.C_alloc hC (.cells #[.string lo, .string hi] 38)); have HC2 := Aside0.mk hc; have HR := Aside0.mk hr; have x0 : (w.alloc (.cells #[.string lo, .string hi] 38)).cell? ⟨g, 0, none⟩ = some (.slice A l.length c) := (blk_cell (blk_alloc hg (.cells #[.string lo, .string hi] 38)) 0).trans rfl; have y0 : (w.alloc (.cells #[.string lo, .string hi] 38)).cell? ⟨w.heap.size, 0, none⟩ = some (.string lo) := (blk_cell hk 0).trans rfl; have y1 : (w.alloc (.cells #[.string lo, .string hi] 38)).cell? ⟨w.heap.size, 1, none⟩ = some (.string hi) := (blk_cell hk 1).trans rfl; have HS1 : Aside0 ((w.alloc (.cells #[.string lo, .string hi] 38)).heap.size = w.heap.size + 1) := ⟨by simp⟩; obtain ⟨w1, hw1⟩ : ∃ w1, w.alloc (.cells #[.string lo, .string hi] 38) = w1 := ⟨_, rfl⟩; rw [hw1] at x0 y0 y1 HC1 HB1 HS1; have HWE := Aside0.mk hw1; clear hg hC hc hr hk hw1; go_enter Try.func20, Try.ntmps20; go_wp2; rw [HWE.out]
    go_still_tail 5, (by kernel_rfl)
    change wpList _ _ _ _ _ w1.drew
    have HCd := Aside0.mk (Kd.C_drew HC1.out); have HBd := Aside0.mk (below_drew HB1.out)
    go_wp2_with (go_at_call 59; go_loud ((refine (span_Clip.calls A c l lo hi r _ HCd.out HC2.out HR.out).mono ?_); rintro e w2 ⟨v2, rfl, hR2, hb2⟩; obtain ⟨A2, c2, e2⟩ := Kd.R_slice hR2; subst e2; have HR2 := Aside0.mk hR2; have HB2 := Aside0.mk (below_step HBd.out hb2); clear hR2 hb2))
    go_ret; exact ⟨_, rfl, Kd.R_lower HR2.out (by rw [show w1.drew.heap.size = w.heap.size + 1 from HS1.out]; omega), HB2.out⟩
end Go.Proofs.Ytlmoafkmhenejaa.XA
end
section
namespace Go.Proofs.Ytlmoafkmhenejaa.VLib
end Go.Proofs.Ytlmoafkmhenejaa.VLib
namespace Go.Proofs.Ytlmoafkmhenejaa.Bld
end Go.Proofs.Ytlmoafkmhenejaa.Bld
namespace Go.Proofs.YtlmoafkmhenejaaW.PrintWords
end Go.Proofs.YtlmoafkmhenejaaW.PrintWords
namespace Go.Proofs.YtlmoafkmhenejaaW.PrintLast
end Go.Proofs.YtlmoafkmhenejaaW.PrintLast
namespace Go.Proofs.YtlmoafkmhenejaaW.PrintMore
end Go.Proofs.YtlmoafkmhenejaaW.PrintMore
namespace Go.Proofs.Ytlmoafkmhenejaa.XW
end Go.Proofs.Ytlmoafkmhenejaa.XW
namespace Go.Proofs.Ytlmoafkmhenejaa.XA
open Go.Proofs.Ytlmoafkmhenejaa.VLib Go.Proofs.Ytlmoafkmhenejaa.Bld Go.RowKit Go.Proofs.YtlmoafkmhenejaaW.PrintWords Go.Proofs.YtlmoafkmhenejaaW.PrintLast Go.Proofs.YtlmoafkmhenejaaW.PrintMore Go.Proofs.Ytlmoafkmhenejaa.XW
attribute [local go_sem high] max2_str unary_xor_u32 leq_str geq_str gtr_str
attribute [local go_sem] max2_int min2_int max_two min_two max_three min_three max_four min_four
set_option linter.unusedVariables false
set_option linter.unusedSimpArgs false
def openL (kk : Nat) (s : ByteArray) : List Int → Nat → List S43 → Option (Option (List S43))
  | [], _, acc => some (some acc)
  | z :: t, p, acc => if z > (s.size : Int) - (p : Int) then some none else if 0 ≤ z then
      (block_Take.f kk (s.extract p (p + z.toNat))).bind fun b => if b.2 = 0 then (if acc.length + b.1.length ≤ 500000 then openL kk s t (p + z.toNat) (acc ++ b.1) else none) else some none
    else none
def openF (kk K : Nat) (s : ByteArray) : Option (Option (List S43 × ByteArray)) :=
  if s.size < 4 then some none else
  (varint_TakeFix.f kk (s.extract (s.size - 4) s.size)).bind fun p => if p.1 > ((s.size - 4 : Nat) : Int) then some none else if 0 ≤ p.1 then
    (table_sizes.f kk (s.extract (s.size - 4 - p.1.toNat) (s.size - 4))).bind fun q => if q.2 = true then
      (openL kk s q.1 0 []).bind fun r => match r with
        | none => some none
        | some l => (buildF kk K l).bind fun b => if b.2 = 0 then (if b.1 = s then (bloom_Make.f kk (keysL l)).bind fun bt => (if l.length < 500000 then some (some (l, bt.1)) else none) else some none) else some none
      else some none
    else none
def OpenIs (w : World) (r : Option (List S43 × ByteArray)) (e : Ending) (w' : World) : Prop :=
  Below w.heap.size w w' ∧ match r with
    | none => e = .returned (.tuple #[.pointer none, .int .i64 100])
    | some (l, bits) => ∃ g A c, e = .returned (.tuple #[.pointer (some ⟨g, 0, none⟩), .int .i64 0]) ∧ w'.heap[g]? = some (.cells #[.slice A l.length c, .string bits] 65 (0, 0)) ∧ Kd.C k43 w' A l.length l ∧ l.length ≤ c
theorem openF_long {kk K : Nat} {s : ByteArray} {r : Option (List S43 × ByteArray)} (h : openF kk K s = some r) (h4 : ¬ s.size < 4) : ∃ n e, varint_TakeFix.f kk (s.extract (s.size - 4) s.size) = some (n, e) ∧ ((n > ((s.size - 4 : Nat) : Int) ∧ r = none) ∨ (n ≤ ((s.size - 4 : Nat) : Int) ∧ 0 ≤ n ∧ ∃ szs ok, table_sizes.f kk (s.extract (s.size - 4 - n.toNat) (s.size - 4)) = some (szs, ok) ∧ ((ok = false ∧ r = none) ∨ (ok = true ∧ ∃ R, openL kk s szs 0 [] = some R ∧ (R = none ∧ r = none ∨ ∃ l, R = some l ∧ ∃ bb be, buildF kk K l = some (bb, be) ∧ ((¬ (be = 0 ∧ bb = s) ∧ r = none) ∨ (be = 0 ∧ bb = s ∧ ∃ bt z, bloom_Make.f kk (keysL l) = some (bt, z) ∧ l.length < 500000 ∧ r = some (l, bt)))))))) := by
  unfold openF at h
  rw [if_neg h4] at h
  obtain ⟨⟨n, e⟩, h1, h⟩ := Option.bind_eq_some_iff.mp h
  refine ⟨n, e, h1, ?_⟩
  dsimp only at h
  by_cases c1 : n > ((s.size - 4 : Nat) : Int)
  · rw [if_pos c1] at h; exact .inl ⟨c1, (Option.some.inj h).symm⟩
  · rw [if_neg c1] at h
    by_cases c2 : 0 ≤ n
    · rw [if_pos c2] at h; obtain ⟨⟨szs, ok⟩, h2, h⟩ := Option.bind_eq_some_iff.mp h; refine .inr ⟨by omega, c2, szs, ok, h2, ?_⟩; dsimp only at h
      cases ok with
      | false => rw [if_neg (by decide)] at h; exact .inl ⟨rfl, (Option.some.inj h).symm⟩
      | true =>
        rw [if_pos rfl] at h; obtain ⟨R, h3, h⟩ := Option.bind_eq_some_iff.mp h; refine .inr ⟨rfl, R, h3, ?_⟩
        cases R with
        | none => exact .inl ⟨rfl, (Option.some.inj h).symm⟩
        | some l =>
          refine .inr ⟨l, rfl, ?_⟩; dsimp only at h; obtain ⟨⟨bb, be⟩, h4, h⟩ := Option.bind_eq_some_iff.mp h; refine ⟨bb, be, h4, ?_⟩; dsimp only at h
          by_cases c3 : be = 0
          · rw [if_pos c3] at h
            by_cases c4 : bb = s
            · rw [if_pos c4] at h; obtain ⟨⟨bt, z⟩, h5, h⟩ := Option.bind_eq_some_iff.mp h; dsimp only at h
              by_cases c5 : l.length < 500000
              · rw [if_pos c5] at h; exact .inr ⟨c3, c4, bt, z, h5, c5, (Option.some.inj h).symm⟩
              · rw [if_neg c5] at h; cases h
            · rw [if_neg c4] at h; exact .inl ⟨fun g => c4 g.2, (Option.some.inj h).symm⟩
          · rw [if_neg c3] at h; exact .inl ⟨fun g => c3 g.1, (Option.some.inj h).symm⟩
    · rw [if_neg c2] at h; cases h
set_option maxHeartbeats 2000000 in
set_option maxRecDepth 100000 in
theorem open_calls (kk K : Nat) (s : ByteArray) (r : Option (List S43 × ByteArray)) (w : World) (hz : s.size ≤ 140737488355328) (h : openF kk K s = some r) :
    Calls Try.prog 16 #[.string s] w fun e w' => OpenIs w r e w' := by
  by_cases h4 : s.size < 4
  · have er : r = none := by unfold openF at h; rw [if_pos h4] at h; exact (Option.some.inj h).symm
    subst er; have a1 : decide (wrap64 ((s.size : Int) - 4) < 0) = true := decide_eq_true (by unfold wrap64; omega); clear h h4 hz; go_enter Try.func16, Try.ntmps16; go_wp2; go_ret2; exact ⟨Below.refl _ _, rfl⟩
  · obtain ⟨n, e0, hfx, h⟩ := openF_long h h4; obtain ⟨en, hen⟩ : ∃ en, s.size - 4 = en := ⟨_, rfl⟩; rw [hen] at hfx h; have HFX := Aside0.mk hfx; have HZ := Aside0.mk hz; have HEN : Aside0 (en + 4 = s.size) := ⟨by omega⟩; have HW4 : Aside0 (wrap64 ((s.size : Int) - 4) = (en : Int)) := ⟨by unfold wrap64; omega⟩; have a2 : decide ((en : Int) < 0) = false := decide_eq_false (by omega); have p1 : (0 ≤ (en : Int)) = True := eq_true (by omega); have p2 : ((en : Int) ≤ (s.size : Int)) = True := eq_true (by omega); have p3 : (en ≤ s.size) = True := eq_true (by omega)
    rcases h with ⟨h1, rfl⟩ | ⟨h1, h2, szs, ok, hsz, h⟩
    · have a3 : decide ((en : Int) < n) = true := decide_eq_true h1; clear hfx hz hen h1 h4; have hw4 := HW4.out; go_enter Try.func16, Try.ntmps16
      go_wp2_with (go_at_call 53; go_loud ((with_reducible refine (varint_TakeFix.calls kk _ n e0 _ HFX.out).mono ?_); rintro e _ ⟨rfl, ⟨m1, rfl⟩⟩))
      go_ret2; exact ⟨pw_below_drewN (Below.refl _ _) _, rfl⟩
    · have a3 : decide ((en : Int) < n) = false := decide_eq_false (by omega); obtain ⟨x0, hx0⟩ : ∃ x0, en - n.toNat = x0 := ⟨_, rfl⟩; rw [hx0] at hsz; have HSZ := Aside0.mk hsz; have HWX : Aside0 (wrap64 ((en : Int) - n) = (x0 : Int)) := ⟨by unfold wrap64; omega⟩; have p4 : (0 ≤ (x0 : Int)) = True := eq_true (by omega); have p5 : ((x0 : Int) ≤ (en : Int)) = True := eq_true (by omega); have p6 : (x0 ≤ en) = True := eq_true (by omega); clear hsz hx0 h1 h2 h4 hfx hz hen; have hw4 := HW4.out; have hwx := HWX.out
      rcases h with ⟨rfl, rfl⟩ | ⟨rfl, R, hL, h⟩
      · go_enter Try.func16, Try.ntmps16
        go_wp2_with (first
          | (go_at_call 54; go_loud ((with_reducible refine (table_sizes.calls kk _ szs false _ HSZ.out).mono ?_); rintro e w3 ⟨v3, rfl, hR3, hb3⟩; obtain ⟨A3, c3, e3⟩ := Kd.R_slice hR3; subst e3; have HB3 := Aside0.mk (below_step (pw_below_drewN (Below.refl w.heap.size w) m1) hb3); clear hb3))
          | (go_at_call 53; go_loud ((with_reducible refine (varint_TakeFix.calls kk _ n e0 _ HFX.out).mono ?_); rintro e _ ⟨rfl, ⟨m1, rfl⟩⟩)))
        go_ret2; exact ⟨HB3.out, rfl⟩
      · have HL := Aside0.mk hL; have HH := Aside0.mk h; clear hL h; go_enter Try.func16, Try.ntmps16
        go_wp2_with (first
          | (go_at_call 54; go_loud ((with_reducible refine (table_sizes.calls kk _ szs true _ HSZ.out).mono ?_); rintro e w3 ⟨v3, rfl, hR3, hb3⟩; obtain ⟨A3, c3, e3⟩ := Kd.R_slice hR3; subst e3; have HB3 := Aside0.mk (below_step (pw_below_drewN (Below.refl w.heap.size w) m1) hb3); have HC3 := Aside0.mk (Kd.R_reads' hR3).2.2; clear hb3 hR3))
          | (go_at_call 53; go_loud ((with_reducible refine (varint_TakeFix.calls kk _ n e0 _ HFX.out).mono ?_); rintro e _ ⟨rfl, ⟨m1, rfl⟩⟩)))
        have HLS : Aside0 (szs.length ≤ 9223372036854775807) := ⟨HC3.out.2.1⟩
        go_loopg [10, 12, 13, 14, 48] szs.length (fun kq v10 v12 v13 v14 v48 w' => ∃ (i p : Nat) (acc : List S43) (sv : Value), v10 = .int .i64 (p : Int) ∧ v48 = .int .i64 (i : Int) ∧ Aside0 (i + kq = szs.length) ∧ Aside0 (p ≤ s.size) ∧ Aside0 (openL kk s (szs.drop i) p acc = some R) ∧ Aside0 (Kd.R k43 43 w' w3.heap.size (fun _ => True) sv acc) ∧ Aside0 (acc.length ≤ 500000) ∧ Aside0 (w'.heap[w3.heap.size]? = some (.cells #[sv, .string ⟨#[]⟩] 65 (0, 0))) ∧ Aside0 (Below w3.heap.size w3 w'))
        case atStart => exact ⟨0, 0, [], .slice none 0 0, rfl, rfl, ⟨Nat.zero_add _⟩, ⟨Nat.zero_le _⟩, HL, ⟨Kd.R_nil _ _ _ _ _⟩, ⟨Nat.zero_le _⟩, ⟨heap_alloc_new w3 (.cells #[.slice none 0 0, .string ⟨#[]⟩] 65)⟩, ⟨below_alloc (Below.refl _ _) (.cells #[.slice none 0 0, .string ⟨#[]⟩] 65)⟩⟩
        case round =>
          clear HL; obtain ⟨i, p, acc, sv, rfl, rfl, HI, HPS, HL, HO, HAL, HG, HB⟩ := hrel; have hi := HI.out; have hls := HLS.out; obtain ⟨Aa, ca, esv, -, -⟩ := Kd.R_reads HO.out; subst esv; have HBW : Aside0 (Below w.heap.size w wr) := ⟨below_then HB3.out HB3.out.size HB.out⟩
          cases gk with
          | zero =>
            have c1 : decide ((i : Int) < (szs.length : Int)) = false := decide_eq_false (by omega); have c2 : decide (i < szs.length) = false := decide_eq_false (by omega); have hL := HL.out; rw [List.drop_eq_nil_of_le (by omega), openL] at hL; obtain rfl := Option.some.inj hL
            obtain ⟨l, hl, bb, be, hbd, hr⟩ : ∃ l, some acc = some l ∧ ∃ bb be, buildF kk K l = some (bb, be) ∧ ((¬ (be = 0 ∧ bb = s) ∧ r = none) ∨ (be = 0 ∧ bb = s ∧ ∃ bt z, bloom_Make.f kk (keysL l) = some (bt, z) ∧ l.length < 500000 ∧ r = some (l, bt))) := by
              rcases HH.out with ⟨h1, -⟩ | h1
              · cases h1
              · exact h1
            obtain rfl := Option.some.inj hl; have HBD := Aside0.mk hbd; have x0_ : wr.cell? ⟨w3.heap.size, 0, none⟩ = some (.slice Aa acc.length ca) := (blk_cell HG.out 0).trans rfl; clear hi hls hL hl hbd
            rcases hr with ⟨hne, rfl⟩ | ⟨rfl, rfl, bt, z, hbt, hlt, rfl⟩
            · by_cases q1 : be = 0
              · subst q1; have q2 : (bb.toList == s.toList) = false := beq_eq_false_iff_ne.mpr (fun h => hne ⟨rfl, toList_inj.1 h⟩); clear hne
                go_wp2_with (go_at_call 13; go_loud ((with_reducible refine (build_calls kk K Aa ca acc bb 0 _ (Kd.R_reads' HO.out).2.2 (Kd.R_reads' HO.out).2.1 HBD.out).mono ?_); rintro e w9 ⟨rfl, hb9⟩; have HB9 := Aside0.mk (below_step HBW.out hb9); clear hb9))
                go_ret2; exact ⟨HB9.out, rfl⟩
              · have q2 : (be == 0) = false := beq_eq_false_iff_ne.mpr q1; have q3 : (be != 0) = true := bne_iff_ne.mpr q1; clear hne q1
                go_wp2_with (go_at_call 13; go_loud ((with_reducible refine (build_calls kk K Aa ca acc bb be _ (Kd.R_reads' HO.out).2.2 (Kd.R_reads' HO.out).2.1 HBD.out).mono ?_); rintro e w9 ⟨rfl, hb9⟩; have HB9 := Aside0.mk (below_step HBW.out hb9); clear hb9))
                go_ret2; exact ⟨HB9.out, rfl⟩
            · have HBT := Aside0.mk hbt; have HLT : Aside0 (acc.length < 1000000) := ⟨by omega⟩; have q2 : (bb.toList == bb.toList) = true := beq_self_eq_true _; clear hbt hlt
              go_wp2_with (first
                | (go_at_call 41; go_loud ((with_reducible refine (bloom_Make.calls kk A11 c11 (keysL acc) bt z _ (Kd.R_reads' HR11.out).2.2 (Kd.R_reads' HR11.out).2.1 HBT.out).mono ?_); rintro e w12 ⟨rfl, hb12⟩; have HB12 := Aside0.mk (below_step HB11.out hb12); have hg12 := blk_below HG11.out hb12; have HG12 := Aside0.mk hg12; have HO12 := Aside0.mk (Kd.R_below HO11.out hb12); have x1_ : w12.cell? ⟨w3.heap.size, 1, none⟩ = some (.string ⟨#[]⟩) := (blk_cell hg12 1).trans rfl; have f1_ := blk_frozen hg12 1; clear hb12 hg12))
                | (go_at_call 42; go_loud ((with_reducible refine (keys_calls Aa ca acc _ HC9.out HLT.out).mono ?_); rintro e w11 ⟨v11, rfl, hR11, hb11⟩; obtain ⟨A11, c11, e11⟩ := Kd.R_slice hR11; subst e11; have HR11 := Aside0.mk hR11; have HB11 := Aside0.mk (below_step HB9.out hb11); have HG11 := Aside0.mk (blk_below HG9.out hb11); have HO11 := Aside0.mk (Kd.R_below HO9.out hb11); clear hR11 hb11))
                | (go_at_call 13; go_loud ((with_reducible refine (build_calls kk K Aa ca acc _ 0 _ (Kd.R_reads' HO.out).2.2 (Kd.R_reads' HO.out).2.1 HBD.out).mono ?_); rintro e w9 ⟨rfl, hb9⟩; have HB9 := Aside0.mk (below_step HBW.out hb9); have hg9 := blk_below HG.out hb9; have HG9 := Aside0.mk hg9; have HO9 := Aside0.mk (Kd.R_below HO.out hb9); have HC9 := Aside0.mk (Kd.C_below (Kd.R_reads' HO.out).2.2 hb9); have y0_ : w9.cell? ⟨w3.heap.size, 0, none⟩ = some (.slice Aa acc.length ca) := (blk_cell hg9 0).trans rfl; clear hb9 hg9)))
              go_ret2; refine ⟨HB12.out.setCell (p := ⟨w3.heap.size, 1, none⟩) HB3.out.size _, w3.heap.size, Aa, ca, rfl, blk_put HG12.out 1 _ rfl, ?_, (Kd.R_reads' HO.out).2.1⟩
              exact (Kd.R_reads' (Kd.R_set HO12.out HG12.out (fun q hq => by rcases List.mem_cons.1 hq with rfl | hq; decide; cases hq) 1 (.string bt))).2.2
          | succ k1 =>
            have hlt : i < szs.length := by omega
            have c1 : decide ((i : Int) < (szs.length : Int)) = true := decide_eq_true (by omega); have c2 : decide (i < szs.length) = true := decide_eq_true hlt; have q1 : (0 ≤ (i : Int)) = True := eq_true (by omega); have q2 : ((i : Int) < (szs.length : Int)) = True := eq_true (by omega); have q3 : (i < szs.length) = True := eq_true hlt; obtain ⟨ad, ea, x0_⟩ := Kd.at_int (Kd.C_below HC3.out HB.out) (i : Int) (by omega) (by omega); rw [Int.toNat_natCast] at x0_; have hrd : rd szs (i : Int) = szs[i] := by unfold rd; rw [Int.toNat_natCast, List.getD_eq_getElem?_getD, List.getElem?_eq_getElem hlt]; rfl
            rw [hrd] at x0_; have hL := HL.out; rw [(List.getElem_cons_drop hlt).symm, openL] at hL; obtain ⟨z, hz'⟩ : ∃ z, szs[i] = z := ⟨_, rfl⟩; rw [hz'] at x0_ hL; have hps := HPS.out; have hsz' := HZ.out; have HW : Aside0 (wrap64 ((i : Int) + 1) = ((i + 1 : Nat) : Int)) := ⟨by unfold wrap64; omega⟩; have HI2 : Aside0 (i + 1 + k1 = szs.length) := ⟨by omega⟩; obtain ⟨d, hd⟩ : ∃ d : Int, (s.size : Int) - (p : Int) = d := ⟨_, rfl⟩; have HWD : Aside0 (wrap64 ((s.size : Int) - (p : Int)) = d) := ⟨by unfold wrap64; omega⟩; rw [hd] at hL; cases ea
            by_cases t1 : z > d
            · rw [if_pos t1] at hL; have e1 : decide (d < z) = true := decide_eq_true t1; obtain rfl := Option.some.inj hL
              have er : r = none := by
                rcases HH.out with ⟨-, h1⟩ | ⟨l, h1, -⟩
                · exact h1
                · cases h1
              subst er; clear hi hls hlt hrd hL hz' hps hsz' hd t1; have hwd := HWD.out; go_wp2; go_ret2; exact ⟨HBW.out, rfl⟩
            · rw [if_neg t1] at hL; have e1 : decide (d < z) = false := decide_eq_false t1
              by_cases t2 : 0 ≤ z
              · rw [if_pos t2] at hL; obtain ⟨⟨bl, be⟩, hT, hL⟩ := Option.bind_eq_some_iff.mp hL; dsimp only at hL; obtain ⟨p2_, hp2⟩ : ∃ p2_, p + z.toNat = p2_ := ⟨_, rfl⟩; rw [hp2] at hT hL; have HT := Aside0.mk hT; have HWP : Aside0 (wrap64 ((p : Int) + z) = (p2_ : Int)) := ⟨by unfold wrap64; omega⟩; have g1 : (0 ≤ (p : Int)) = True := eq_true (by omega); have g2 : ((p : Int) ≤ (p2_ : Int)) = True := eq_true (by omega); have g3 : (p ≤ p2_) = True := eq_true (by omega); have g4 : ((p2_ : Int) ≤ (s.size : Int)) = True := eq_true (by omega); have g5 : (p2_ ≤ s.size) = True := eq_true (by omega); have HP2 : Aside0 (p2_ ≤ s.size) := ⟨by omega⟩; have y0_ : wr.cell? ⟨w3.heap.size, 0, none⟩ = some (.slice Aa acc.length ca) := (blk_cell HG.out 0).trans rfl
                by_cases t3 : be = 0
                · rw [if_pos t3] at hL; subst t3
                  by_cases t4 : acc.length + bl.length ≤ 500000
                  · rw [if_pos t4] at hL; have HL2 := Aside0.mk hL; have HT4 := Aside0.mk t4; clear hi hls hlt hrd hL hz' hps hsz' hd t1 t2 hT hp2 t4; have hwd := HWD.out; have hwp := HWP.out
                    go_wp2_with (first
                      | ((with_reducible refine gate_builtin (b := .append) (xs := #[.tmp 74, .tmp 75]) rfl ?_); at_builtin; go_loud (refine Kd.R_append_rows k43 (w0 := w3) w3.heap.size rfl (.tmp 74) (.tmp 75) 22 43 (.agg #[(.string ⟨#[]⟩), (.string ⟨#[]⟩), (.bool false), (.int .i64 0)]) 48 rfl Try.underlying22 info43 rfl (by decide) (by omega) (.slice Aa acc.length ca) acc bl _ _ _ (fun _ => True) (fun _ => False) rfl rfl HO9.out HC9.out (fun _ _ h => h) (fun _ h => h.elim) (fun _ _ => trivial) HB9.out HB9.out.size (by have := HT4.out; omega) ?_); intro v10 w10 ho hb hg hat; obtain ⟨A10, c10, e10⟩ := Kd.R_slice ho; subst e10; have hg10 := blk_grown HG9.out hg (fun e => by obtain ⟨cells, hc⟩ := Kd.R_typed HO9.out _ e.symm; rw [HG9.out] at hc; injection hc with hc; injection hc with _ hc _; cases hc); have HG10 := Aside0.mk hg10; rw [List.length_append] at ho; have HO10 := Aside0.mk ho; have HB10 := Aside0.mk hb; have u0_ : w10.cell? ⟨w3.heap.size, 0, none⟩ = some (.slice Aa acc.length ca) := (blk_cell hg10 0).trans rfl; have u1_ := blk_frozen hg10 0; clear ho hb hg hat hg10)
                      | (go_at_call 55; go_loud ((with_reducible refine (block_Take.calls kk _ bl 0 _ HT.out).mono ?_); rintro e w9 ⟨v9, rfl, hR9, hb9⟩; obtain ⟨A9, c9, e9⟩ := Kd.R_slice hR9; subst e9; have HC9 := Aside0.mk (Kd.R_reads' hR9).2.2; have HB9 := Aside0.mk (HB.out.trans (below_at_ hb9 HB.out.size)); have HO9 := Aside0.mk (Kd.R_below HO.out hb9); have hg9 := blk_below HG.out hb9; have HG9 := Aside0.mk hg9; have z0_ : w9.cell? ⟨w3.heap.size, 0, none⟩ = some (.slice Aa acc.length ca) := (blk_cell hg9 0).trans rfl; clear hR9 hb9 hg9)))
                    go_roundg k1
                    case measure => omega
                    case rel =>
                      exact ⟨i + 1, p2_, acc ++ bl, _, by rw [HWP.out], by rw [HW.out], HI2, HP2, HL2, ⟨Kd.R_set HO10.out HG10.out (fun q hq => by rcases List.mem_cons.1 hq with rfl | hq; decide; cases hq) 0 _⟩, ⟨by rw [List.length_append]; exact HT4.out⟩, ⟨blk_put HG10.out 0 _ rfl⟩, ⟨HB10.out.setCell (p := ⟨w3.heap.size, 0, none⟩) (Nat.le_refl _) _⟩⟩
                  · rw [if_neg t4] at hL; cases hL
                · rw [if_neg t3] at hL; have e2 : (be == 0) = false := beq_eq_false_iff_ne.mpr t3; have e3 : (be != 0) = true := bne_iff_ne.mpr t3; obtain rfl := Option.some.inj hL
                  have er : r = none := by
                    rcases HH.out with ⟨-, h1⟩ | ⟨l, h1, -⟩
                    · exact h1
                    · cases h1
                  subst er; clear hi hls hlt hrd hL hz' hps hsz' hd t1 t2 hT hp2 t3; have hwd := HWD.out; have hwp := HWP.out
                  go_wp2_with (go_at_call 55; go_loud ((with_reducible refine (block_Take.calls kk _ bl be _ HT.out).mono ?_); rintro e w9 ⟨v9, rfl, hR9, hb9⟩; obtain ⟨A9, c9, e9⟩ := Kd.R_slice hR9; subst e9; have HB9 := Aside0.mk (below_step HBW.out hb9); clear hR9 hb9))
                  go_ret2; exact ⟨HB9.out, rfl⟩
              · rw [if_neg t2] at hL; cases hL
end Go.Proofs.Ytlmoafkmhenejaa.XA
end
section
namespace Go.Proofs.Ytlmoafkmhenejaa.VLib
end Go.Proofs.Ytlmoafkmhenejaa.VLib
namespace Go.Proofs.YtlmoafkmhenejaaW.PrintWords
end Go.Proofs.YtlmoafkmhenejaaW.PrintWords
namespace Go.Proofs.YtlmoafkmhenejaaW.PrintLast
end Go.Proofs.YtlmoafkmhenejaaW.PrintLast
namespace Go.Proofs.YtlmoafkmhenejaaW.PrintMore
end Go.Proofs.YtlmoafkmhenejaaW.PrintMore
namespace Go.Proofs.Ytlmoafkmhenejaa.XW
end Go.Proofs.Ytlmoafkmhenejaa.XW
namespace Go.Proofs.Ytlmoafkmhenejaa.XA
open Go.Proofs.Ytlmoafkmhenejaa.VLib Go.RowKit Go.Proofs.YtlmoafkmhenejaaW.PrintWords Go.Proofs.YtlmoafkmhenejaaW.PrintLast Go.Proofs.YtlmoafkmhenejaaW.PrintMore Go.Proofs.Ytlmoafkmhenejaa.XW
attribute [local go_sem high] max2_str unary_xor_u32 leq_str geq_str gtr_str
attribute [local go_sem] max2_int min2_int max_two min_two max_three min_three max_four min_four
set_option linter.unusedVariables false
set_option linter.unusedSimpArgs false
def keyLt (l : List S43) (key : ByteArray) (m : Int) : Bool := Op.bytesLess (rd_T43 l m).f0.toList key.toList
def seek : Nat → List S43 → ByteArray → Int → Int → Option Int
  | 0, _, _, _, _ => none
  | k + 1, l, key, i, j => if i < j then (if keyLt l key ((i + j) / 2) = true then seek k l key ((i + j) / 2 + 1) j else seek k l key i ((i + j) / 2)) else some i
set_option maxHeartbeats 1600000 in
set_option maxRecDepth 100000 in
theorem from_one (g1 g2 g : Nat) (A0 : Option Addr) (c0 : Nat) (l0 : List S43) (bits key : ByteArray) (j : Int) (W : World) (h1 : W.heap[g1]? = some (.cells #[.pointer (some ⟨g, 0, none⟩)] 29 (0, 0))) (h2 : W.heap[g2]? = some (.cells #[.string key] 9 (0, 0)))
    (hg : W.heap[g]? = some (.cells #[.slice A0 l0.length c0, .string bits] 65 (0, 0))) (hr : Kd.C k43 W A0 l0.length l0) (j0 : 0 ≤ j) (j1 : j < (l0.length : Int)) :
    Calls Try.prog 100 #[.int .i64 j, .pointer (some ⟨g1, 0, none⟩), .pointer (some ⟨g2, 0, none⟩)] W fun e w' => e = .returned (.bool (!keyLt l0 key j)) ∧ Below W.heap.size W w' := by
  have x1 : W.cell? ⟨g1, 0, none⟩ = some (.pointer (some ⟨g, 0, none⟩)) := (blk_cell h1 0).trans rfl
  have x2 : W.cell? ⟨g2, 0, none⟩ = some (.string key) := (blk_cell h2 0).trans rfl
  have x3 : W.cell? ⟨g, 0, none⟩ = some (.slice A0 l0.length c0) := (blk_cell hg 0).trans rfl
  obtain ⟨ad, ea, hx0, -, -, -⟩ := at_T43 hr j j0 j1
  subst ea
  have e : keyLt l0 key j = Op.bytesLess (rd_T43 l0 j).f0.toList key.toList := rfl
  rw [e]
  obtain ⟨K, hK⟩ : ∃ K, (rd_T43 l0 j).f0 = K := ⟨_, rfl⟩
  rw [hK] at hx0 ⊢
  have p0 := eq_true j0
  have p1 := eq_true j1
  have p0b : decide (0 ≤ j) = true := decide_eq_true j0
  have p1b : decide (j < (l0.length : Int)) = true := decide_eq_true j1
  clear h1 h2 hg hr j0 j1 hK e
  go_enter Try.func100, Try.ntmps100
  go_wp2
  go_quiet (fail)
  go_wp2
  go_ret
  exact ⟨rfl, pw_below_drewN (Below.refl _ _) nq⟩
set_option maxHeartbeats 1600000 in
set_option maxRecDepth 100000 in
theorem from_search (k : Nat) (g1 g2 g : Nat) (A0 : Option Addr) (c0 : Nat) (l0 : List S43) (bits key : ByteArray) (r : Int) (W : World) (h1 : W.heap[g1]? = some (.cells #[.pointer (some ⟨g, 0, none⟩)] 29 (0, 0))) (h2 : W.heap[g2]? = some (.cells #[.string key] 9 (0, 0)))
    (hg : W.heap[g]? = some (.cells #[.slice A0 l0.length c0, .string bits] 65 (0, 0))) (hr : Kd.C k43 W A0 l0.length l0) (hn : l0.length ≤ 4096) (h : seek k l0 key 0 (l0.length : Int) = some r) :
    Calls Try.prog 99 #[.int .i64 (l0.length : Int), .func (Fn.func 100) #[] #[.pointer (some ⟨g1, 0, none⟩), .pointer (some ⟨g2, 0, none⟩)]] W fun e w' => e = .returned (.int .i64 r) ∧ Below W.heap.size W w' := by
  have H1 := Aside0.mk h1
  have H2 := Aside0.mk h2
  have HG := Aside0.mk hg
  have HR := Aside0.mk hr
  have HN := Aside0.mk hn
  have H' := Aside0.mk h
  have HB := Aside0.mk (Below.refl W.heap.size W)
  clear h1 h2 hg hr hn h
  go_enter Try.func99, Try.ntmps99
  go_wp2
  go_loopg [5, 6] k (fun kq v5 v6 w' => ∃ (i j : Int), v5 = .int .i64 i ∧ v6 = .int .i64 j ∧ Aside0 (seek kq l0 key i j = some r) ∧ Aside0 (0 ≤ i ∧ i ≤ (l0.length : Int) ∧ 0 ≤ j ∧ j ≤ (l0.length : Int)) ∧ Aside0 (kq ≤ k) ∧ Aside0 (Below W.heap.size W w'))
  case atStart => exact ⟨0, (l0.length : Int), rfl, rfl, H', ⟨by omega⟩, ⟨Nat.le_refl _⟩, HB⟩
  case round =>
    clear H' HB; obtain ⟨i, j, rfl, rfl, HA, HIJ, HKQ, HB⟩ := hrel
    cases gk with
    | zero => exact absurd HA.out (by simp [seek])
    | succ k1 =>
      have H := HA.out; clear HA; simp only [seek] at H
      by_cases c1 : i < j
      · rw [if_pos c1] at H; have hij := HIJ.out; have hn := HN.out; have p1 : decide (i < j) = true := decide_eq_true c1; obtain ⟨m, hm⟩ : ∃ m : Int, (i + j) / 2 = m := ⟨_, rfl⟩; have M0 : Aside0 (0 ≤ m) := ⟨by omega⟩; have M1 : Aside0 (m < (l0.length : Int)) := ⟨by omega⟩; have M2 : Aside0 (m ≤ 4096 ∧ i ≤ m ∧ m < j) := ⟨by omega⟩; have b0 : 0 ≤ i := hij.1; have b1 : i ≤ 4096 := by omega
        have b2 : 0 ≤ j := by omega
        have b3 : j ≤ 4096 := by omega
        have b4 : 0 ≤ m := M0.out; have b5 : m ≤ 4096 := M2.out.1; rw [hm] at H; clear c1 hn hij; obtain ⟨b, hb⟩ : ∃ b, keyLt l0 key m = b := ⟨_, rfl⟩; have HBB := Aside0.mk hb; rw [hb] at H; clear hb
        cases b with
        | true =>
          rw [if_pos rfl] at H; have H' := Aside0.mk H; clear H
          go_wp2_with (go_at_call 100; go_loud ((refine (from_one g1 g2 g A0 c0 l0 bits key m wr (blk_below H1.out HB.out) (blk_below H2.out HB.out) (blk_below HG.out HB.out) (Kd.C_below HR.out HB.out) M0.out M1.out).mono ?_); rintro e w2 ⟨rfl, hb⟩; rw [HBB.out]; have HB2 := Aside0.mk (below_step HB.out hb); clear hb))
          go_roundg k1
          case measure => have := HKQ.out; omega
          case rel => exact ⟨_, _, rfl, rfl, H', ⟨by have h1 := HIJ.out; have h2 := M2.out; have h3 := M1.out; omega⟩, ⟨by have := HKQ.out; omega⟩, HB2⟩
        | false =>
          rw [if_neg (by decide)] at H; have H' := Aside0.mk H; clear H
          go_wp2_with (go_at_call 100; go_loud ((refine (from_one g1 g2 g A0 c0 l0 bits key m wr (blk_below H1.out HB.out) (blk_below H2.out HB.out) (blk_below HG.out HB.out) (Kd.C_below HR.out HB.out) M0.out M1.out).mono ?_); rintro e w2 ⟨rfl, hb⟩; rw [HBB.out]; have HB2 := Aside0.mk (below_step HB.out hb); clear hb))
          go_roundg k1
          case measure => have := HKQ.out; omega
          case rel => exact ⟨_, _, rfl, rfl, H', ⟨by have h1 := HIJ.out; have h2 := M2.out; have h3 := M1.out; have h4 := M0.out; omega⟩, ⟨by have := HKQ.out; omega⟩, HB2⟩
      · rw [if_neg c1] at H; have p1 : decide (i < j) = false := decide_eq_false c1; clear c1; obtain rfl := Option.some.inj H; go_wp2; go_ret; exact ⟨rfl, HB.out⟩
set_option maxHeartbeats 1600000 in
set_option maxRecDepth 100000 in
theorem from_some (k : Nat) (p : Value) (l : List S43) (bits key : ByteArray) (r : Int) (w : World) (h : TabAt w p l bits) (hl : 0 < l.length) (hn : l.length ≤ 4096) (hs : seek k l key 0 (l.length : Int) = some r) :
    Calls Try.prog 60 #[p, .string key] w fun e w' => e = .returned (.int .i64 r) ∧ Below w.heap.size w w' := by
  obtain ⟨g, A, c, rfl, hg, hC, -⟩ := h.some hl
  have hlw := below_alloc (below_alloc (Below.refl w.heap.size w) (.cells #[.pointer (some ⟨g, 0, none⟩)] 29)) (.cells #[.string key] 9)
  have HT := Aside0.mk (h.below hlw)
  have HG := Aside0.mk (blk_below hg hlw)
  have HC := Aside0.mk (Kd.C_below hC hlw)
  have HL := Aside0.mk hlw
  have h1 := blk_alloc (heap_alloc_new w (.cells #[.pointer (some ⟨g, 0, none⟩)] 29)) (.cells #[.string key] 9)
  have x0 : ((w.alloc (.cells #[.pointer (some ⟨g, 0, none⟩)] 29)).alloc (.cells #[.string key] 9)).cell? ⟨w.heap.size, 0, none⟩ = some (.pointer (some ⟨g, 0, none⟩)) := (blk_cell h1 0).trans rfl
  have h2 := heap_alloc_new (w.alloc (.cells #[.pointer (some ⟨g, 0, none⟩)] 29)) (.cells #[.string key] 9)
  rw [show (w.alloc (.cells #[.pointer (some ⟨g, 0, none⟩)] 29)).heap.size = w.heap.size + 1 from by simp] at h2
  have H1 := Aside0.mk h1
  have H2 := Aside0.mk h2
  have HN := Aside0.mk hn
  have HS := Aside0.mk hs
  clear hlw h1 h2 hn hs h hg hC hl
  go_enter Try.func60, Try.ntmps60
  go_wp2_with (first | (go_at_call 99; go_loud ((refine (from_search k w.heap.size (w.heap.size + 1) g A c l bits key r _ H1.out H2.out HG.out HC.out HN.out HS.out).mono ?_); rintro e w2 ⟨rfl, hb⟩; have HB2 := Aside0.mk (below_step HL.out hb); clear hb)) | (go_at_call 18; go_loud ((refine (len_calls _ l bits _ HT.out).mono ?_); rintro e _ ⟨rfl, rfl⟩)))
  go_ret
  exact ⟨rfl, HB2.out⟩
end Go.Proofs.Ytlmoafkmhenejaa.XA
end
