import Derived.Test.YtlmoafkmhenejaakOXAx8
import Derived.Test.YtlmoafkmhenejaakOVLib
import Derived.Laws.EntriesVeiled
import Derived.Test.YtlmoafkmhenejaakOMTab6
section
namespace Go.Proofs.Ytlmoafkmhenejaa.VLib
end Go.Proofs.Ytlmoafkmhenejaa.VLib
namespace Go.Proofs.YtlmoafkmhenejaaW.PrintWords
end Go.Proofs.YtlmoafkmhenejaaW.PrintWords
namespace Go.Proofs.YtlmoafkmhenejaaW.PrintLast
end Go.Proofs.YtlmoafkmhenejaaW.PrintLast
namespace Go.Proofs.YtlmoafkmhenejaaW.PrintMore
end Go.Proofs.YtlmoafkmhenejaaW.PrintMore
namespace Go.Proofs.Ytlmoafkmhenejaa.XW
end Go.Proofs.Ytlmoafkmhenejaa.XW
namespace Go.Proofs.Ytlmoafkmhenejaa.XA
open Go.Proofs.Ytlmoafkmhenejaa.VLib Go.RowKit Go.Proofs.YtlmoafkmhenejaaW.PrintWords Go.Proofs.YtlmoafkmhenejaaW.PrintLast Go.Proofs.YtlmoafkmhenejaaW.PrintMore Go.Proofs.Ytlmoafkmhenejaa.XW
attribute [local go_sem high] max2_str unary_xor_u32 leq_str geq_str gtr_str
attribute [local go_sem] max2_int min2_int max_two min_two max_three min_three max_four min_four
set_option linter.unusedVariables false
set_option linter.unusedSimpArgs false
def cmpL : List ByteArray → List ByteArray
  | [] => []
  | [x] => [x]
  | x :: y :: t => if x = y then cmpL (y :: t) else x :: cmpL (y :: t)
abbrev eT : ByteArray := ByteArray.empty
theorem drop_at (xs : List ByteArray) (j : Nat) (h : j < xs.length) : xs.drop j = xs.getD j eT :: xs.drop (j + 1) := by
  rw [List.getD_eq_getElem?_getD, List.getElem?_eq_getElem h]
  exact (List.getElem_cons_drop h).symm
theorem cmp_step (xs : List ByteArray) (j : Nat) (h : j + 1 < xs.length) : cmpL (xs.drop j) = if xs.getD j eT = xs.getD (j + 1) eT then cmpL (xs.drop (j + 1)) else xs.getD j eT :: cmpL (xs.drop (j + 1)) := by
  rw [drop_at xs j (by omega), drop_at xs (j + 1) h]
  rfl
theorem cmp_last (xs : List ByteArray) (j : Nat) (h : j + 1 = xs.length) : cmpL (xs.drop j) = [xs.getD j eT] := by
  rw [drop_at xs j (by omega), List.drop_eq_nil_of_le (by omega)]
  rfl
theorem cmp_head (xs : List ByteArray) : ∀ d j, j + d + 1 = xs.length → ∃ t, cmpL (xs.drop j) = xs.getD j eT :: t
  | 0, j, h => ⟨[], cmp_last xs j h⟩
  | d + 1, j, h => by
    rw [cmp_step xs j (by omega)]
    split
    · next e => rw [e]; exact cmp_head xs d (j + 1) (by omega)
    · exact ⟨_, rfl⟩
theorem strs_cell {W : World} {base g n c : Nat} {ok : Nat → Prop} {xs : List ByteArray} (h : Kd.R Kd.string 9 W base ok (.slice (some ⟨g, 0, none⟩) n c) xs) (i : Nat) (hi : i < n) : W.cell? ⟨g, i, none⟩ = some (.string (xs.getD i eT)) ∧ W.frozen? ⟨g, i, none⟩ = false := by
  have := Kd.R_celln (enc := Value.string) (h1 := fun _ => rfl) eT h (i : Int) (by omega) (by omega)
  rw [Int.toNat_natCast] at this
  refine ⟨this.1.trans ?_, this.2⟩
  unfold rdOf
  rw [Int.toNat_natCast]
theorem strs_put {W : World} {base g n c : Nat} {ok : Nat → Prop} {xs : List ByteArray} (h : Kd.R Kd.string 9 W base ok (.slice (some ⟨g, 0, none⟩) n c) xs) (i : Nat) (x : ByteArray) : Kd.R Kd.string 9 (W.setCell ⟨g, i, none⟩ (.string x)) base ok (.slice (some ⟨g, 0, none⟩) n c) (xs.set i x) := by
  have := Kd.R_putn (enc := Value.string) (h1 := fun _ => rfl) h (i : Int) x
  rw [Int.toNat_natCast] at this
  exact this
set_option maxHeartbeats 3200000 in
set_option maxRecDepth 100000 in
theorem compact_calls (g c base : Nat) (ok : Nat → Prop) (xs : List ByteArray) (W : World) (hr : Kd.R Kd.string 9 W base ok (.slice (some ⟨g, 0, none⟩) xs.length c) xs) (hb : base ≤ W.heap.size) (hn : xs.length < 2932031007402) (h2 : 2 ≤ xs.length) :
    Calls Try.prog 75 #[.slice (some ⟨g, 0, none⟩) xs.length c] W fun e w' => e = .returned (.slice (some ⟨g, 0, none⟩) (cmpL xs).length c) ∧ Kd.R Kd.string 9 w' base ok (.slice (some ⟨g, 0, none⟩) (cmpL xs).length c) (cmpL xs) ∧ Below base W w' := by
  have HR := Aside0.mk hr
  have HBA := Aside0.mk hb
  have HN := Aside0.mk hn
  have H2 := Aside0.mk h2
  have HBG : Aside0 (base ≤ g) := ⟨Kd.R_base hr g rfl⟩
  have HC : Aside0 (xs.length ≤ c) := ⟨(Kd.R_reads' hr).2.1⟩
  obtain ⟨n, hn'⟩ : ∃ n, xs.length = n := ⟨_, rfl⟩
  have HL := Aside0.mk hn'
  rw [hn'] at h2 ⊢
  have a1 : decide ((n : Int) < 2) = false := decide_eq_false (by omega)
  have a2 : decide (n < 2) = false := decide_eq_false (by omega)
  clear hr hb hn hn' h2
  go_enter Try.func75, Try.ntmps75
  go_wp2
  go_loopg [3] (n - 1) (fun kq v3 w' => ∃ (k : Nat), v3 = .int .i64 (k : Int) ∧ Aside0 (1 ≤ k ∧ k + kq = n) ∧ Aside0 (cmpL xs = xs.take (k - 1) ++ cmpL (xs.drop (k - 1))) ∧ Aside0 (Kd.R Kd.string 9 w' base ok (.slice (some ⟨g, 0, none⟩) n c) xs) ∧ Aside0 (Below base W w'))
  case atStart => exact ⟨1, rfl, ⟨by have := H2.out; have := HL.out; omega⟩, ⟨rfl⟩, ⟨by have h := HR.out; rw [HL.out] at h; exact h⟩, ⟨Below.refl _ _⟩⟩
  case round =>
    obtain ⟨k, rfl, HK, HE, HO, HB⟩ := hrel; have hk := HK.out; have hN := HN.out; have hL := HL.out
    cases gk with
    | zero =>
      have c1 : decide ((k : Int) < (n : Int)) = false := decide_eq_false (by omega); have c2 : decide (k < n) = false := decide_eq_false (by omega); have he := HE.out; have hkn : k = n := by omega
      have hall : cmpL xs = xs := by
        rw [he, cmp_last xs (k - 1) (by omega)]; have h1 := drop_at xs (k - 1) (by omega); rw [List.drop_eq_nil_of_le (show xs.length ≤ k - 1 + 1 by omega)] at h1; rw [← h1, List.take_append_drop]
      have HALL := Aside0.mk hall; clear hk hN hL he hkn hall; go_wp2; go_ret; rw [HALL.out, HL.out]; exact ⟨rfl, HO.out, HB.out⟩
    | succ k1 =>
      have hlt : k < n := by omega
      have c1 : decide ((k : Int) < (n : Int)) = true := decide_eq_true (by omega); have c2 : decide (k < n) = true := decide_eq_true hlt; have p1 : (0 ≤ (k : Int)) = True := eq_true (by omega); have p2 : ((k : Int) < (n : Int)) = True := eq_true (by omega); have p3 : (k < n) = True := eq_true hlt; have p4 : (k - 1 < n) = True := eq_true (by omega); obtain ⟨k0, hk0⟩ : ∃ k0, k = k0 + 1 := ⟨k - 1, by omega⟩; have HK0 := Aside0.mk hk0; have p5 : (0 ≤ (k0 : Int)) = True := eq_true (by omega); have p6 : ((k0 : Int) < (n : Int)) = True := eq_true (by omega); have p7 : (k0 < n) = True := eq_true (by omega); obtain ⟨x0, y0⟩ := strs_cell HO.out k hlt; obtain ⟨x1, y1⟩ := strs_cell HO.out k0 (by omega); have hst := cmp_step xs k0 (by omega); rw [← hk0] at hst; obtain ⟨a, ha⟩ : ∃ a, xs.getD k eT = a := ⟨_, rfl⟩; obtain ⟨b, hb⟩ : ∃ b, xs.getD k0 eT = b := ⟨_, rfl⟩; rw [ha] at x0 hst; rw [hb] at x1 hst; have HA := Aside0.mk ha; have HBB := Aside0.mk hb; have he := HE.out; rw [show k - 1 = k0 from by omega] at he; have HW1 : Aside0 (wrap64 ((k : Int) - 1) = (k0 : Int)) := ⟨by unfold wrap64; omega⟩; have HW2 : Aside0 (wrap64 ((k : Int) + 1) = ((k + 1 : Nat) : Int)) := ⟨by unfold wrap64; omega⟩; have HK2 : Aside0 (1 ≤ k + 1 ∧ k + 1 + k1 = n) := ⟨by omega⟩
      by_cases q : a = b
      · have e1 : (a.toList == b.toList) = true := beq_iff_eq.mpr (toList_inj.2 q); rw [if_pos q.symm] at hst; rw [hst] at he; obtain ⟨t0, ht0⟩ := cmp_head xs (n - k - 1) k (by omega)
        have HS : Aside0 (xs.take k ++ (cmpL (xs.drop k)).tail = cmpL xs) := ⟨by
          rw [he, ht0, ha, List.tail_cons]
          have h1 : xs.take k = xs.take k0 ++ [b] := by
            rw [hk0, List.take_succ_eq_append_getElem (by omega), ← hb, List.getD_eq_getElem?_getD, List.getElem?_eq_getElem (by omega)]
            rfl
          rw [h1, q]
          simp⟩
        have g1 : (k ≤ n) = True := eq_true (by omega); have g2 : (k ≤ c) = True := eq_true (by have := HC.out; omega); have g3 : ((k : Int) ≤ (n : Int)) = True := eq_true (by omega); have g4 : (c = k) = False := eq_false (by have := HC.out; omega); have g5 : (k = c) = False := eq_false (by have := HC.out; omega); have g6 : ((k : Int) ≤ (c : Int)) = True := eq_true (by have := HC.out; omega); clear hk hN hL he hst ha hb q ht0 hk0; have hw1 := HW1.out; go_wp2
        go_quiet (fail)
        go_wp2; have HO1 := Aside0.mk (Kd.R_drewN HO.out nq)
        have HB1 := Aside0.mk (pw_below_drewN HB.out nq); have hlt' := hlt; have HKN := Aside0.mk hlt'; have HK1 : Aside0 (1 ≤ k) := ⟨HK.out.1⟩; clear x0 x1 y0 y1 e1 c1 c2 p1 p2 p3 p4 p5 p6 p7 HE HO HB hlt hlt' hw1
        go_loopg [3, 5] (n - k - 1) (fun kq v3 v5 w' => ∃ (p j : Nat) (cur : List ByteArray), v3 = .int .i64 (p : Int) ∧ v5 = .int .i64 (j : Int) ∧ Aside0 (1 ≤ j ∧ k + j + kq = n ∧ p + 1 ≤ k + j ∧ 1 ≤ p) ∧ Aside0 (cur.length = n) ∧ Aside0 (cur.drop (k + j - 1) = xs.drop (k + j - 1)) ∧ Aside0 (cur.take p ++ (cmpL (xs.drop (k + j - 1))).tail = cmpL xs) ∧ Aside0 (Kd.R Kd.string 9 w' base ok (.slice (some ⟨g, 0, none⟩) n c) cur) ∧ Aside0 (Below base W w'))
        case atStart => exact ⟨k, 1, xs, rfl, rfl, ⟨by have := HKN.out; have := HK1.out; omega⟩, HL, ⟨rfl⟩, ⟨by rw [Nat.add_sub_cancel]; exact HS.out⟩, HO1, HB1⟩
        case round =>
          clear HS HO1 HB1; obtain ⟨p, j, cur, rfl, rfl, HJ, HCL, HDR, HTK, HO, HB⟩ := hrel; have hj := HJ.out; have hkn := HKN.out; have hN := HN.out; have hL := HL.out; have hcl := HCL.out; have hC := HC.out; have q1 : (p ≤ n) = True := eq_true (by omega); have q2 : (p ≤ c) = True := eq_true (by omega); have q3 : ((p : Int) ≤ (n : Int)) = True := eq_true (by omega); have q4 : (c = p) = False := eq_false (by omega); have q5 : (p = c) = False := eq_false (by omega); have q6 : ((p : Int) ≤ (c : Int)) = True := eq_true (by omega); have q7 : (0 ≤ (p : Int)) = True := eq_true (by omega); have HSZ : Aside0 (base ≤ wr.heap.size) := ⟨Nat.le_trans HBA.out HB.out.size⟩
          cases gk with
          | zero =>
            have c1 : decide ((j : Int) < ((n - k : Nat) : Int)) = false := decide_eq_false (by omega); have c2 : decide (j < n - k) = false := decide_eq_false (by omega)
            have hfin : cur.take p = cmpL xs := by
              have h1 := HTK.out; rw [cmp_last xs (k + j - 1) (by omega), List.tail_cons, List.append_nil] at h1; exact h1
            have hpl : (cmpL xs).length = p := by rw [← hfin, List.length_take]; omega
            have HF := Aside0.mk hfin; have HPL := Aside0.mk hpl; have HP : Aside0 (p + (n - p) = n ∧ 0 < n - p) := ⟨by omega⟩; clear hj hkn hN hL hcl hC hfin hpl
            go_wp2_with ((with_reducible refine gate_builtin (b := .clear) (xs := #[.tmp 56]) rfl ?_); go_loud (refine wpList_clear_row Kd.string (w0 := W) base rfl rfl (.tmp 56) 56 9 (.string ⟨#[]⟩) rfl Try.underlying56 (fun _ => by kernel_rfl) rfl (by decide) (g := g) (n := n) (cap := c) (m := n - p) (c' := c - p) (i := p) (o' := p) cur ok (by rfl) (Nat.mul_one p).symm HP.out.1 HP.out.2 HO.out HB.out HSZ.out ?_); intro w9 hR hB hg; have HR9 := Aside0.mk hR; have HB9 := Aside0.mk hB; clear hR hB hg)
            go_ret; have h9 := HR9.out
            rw [HF.out] at h9; rw [HPL.out]; exact ⟨rfl, h9, HB9.out⟩
          | succ k2 =>
            obtain ⟨j0, hj0⟩ : ∃ j0, j = j0 + 1 := ⟨j - 1, by omega⟩; have c1 : decide ((j : Int) < ((n - k : Nat) : Int)) = true := decide_eq_true (by omega); have c2 : decide (j < n - k) = true := decide_eq_true (by omega); have r1 : (0 ≤ (j : Int)) = True := eq_true (by omega); have r2 : ((j : Int) < ((n - k : Nat) : Int)) = True := eq_true (by omega); have r3 : (j < n - k) = True := eq_true (by omega); have r4 : (0 ≤ (j0 : Int)) = True := eq_true (by omega); have r5 : ((j0 : Int) < ((n - k : Nat) : Int)) = True := eq_true (by omega); have r6 : (j0 < n - k) = True := eq_true (by omega); have r7 : ((p : Int) < (n : Int)) = True := eq_true (by omega); have r8 : (p < n) = True := eq_true (by omega); obtain ⟨x0, y0⟩ := strs_cell HO.out (k + j) (by omega); obtain ⟨x1, y1⟩ := strs_cell HO.out (k + j0) (by omega); obtain ⟨x2, y2⟩ := strs_cell HO.out p (by omega); have hdr := HDR.out; rw [show k + j - 1 = k + j0 from by omega] at hdr; have d1 := drop_at cur (k + j0) (by omega); have d2 := drop_at xs (k + j0) (by omega); rw [hdr, d2] at d1; have g0 : cur.getD (k + j0) eT = xs.getD (k + j0) eT := (List.cons.inj d1).1.symm; have hdr2 : cur.drop (k + j) = xs.drop (k + j) := by rw [show k + j = k + j0 + 1 from by omega]; exact (List.cons.inj d1).2.symm
            have d3 := drop_at cur (k + j) (by omega); have d4 := drop_at xs (k + j) (by omega); rw [hdr2, d4] at d3; have g1_ : cur.getD (k + j) eT = xs.getD (k + j) eT := (List.cons.inj d3).1.symm; have hdr3 : cur.drop (k + j + 1) = xs.drop (k + j + 1) := (List.cons.inj d3).2.symm; rw [g0] at x1; rw [g1_] at x0; have hst := cmp_step xs (k + j0) (by omega); rw [show k + j0 + 1 = k + j from by omega] at hst; obtain ⟨t0, ht0⟩ := cmp_head xs (n - (k + j) - 1) (k + j) (by omega); obtain ⟨a, ha⟩ : ∃ a, xs.getD (k + j) eT = a := ⟨_, rfl⟩; obtain ⟨b, hb⟩ : ∃ b, xs.getD (k + j0) eT = b := ⟨_, rfl⟩; rw [ha] at x0 hst ht0; rw [hb] at x1 hst; have htk := HTK.out; rw [show k + j - 1 = k + j0 from by omega] at htk; have HW1 : Aside0 (wrap64 ((j : Int) - 1) = (j0 : Int)) := ⟨by unfold wrap64; omega⟩; have HW2 : Aside0 (wrap64 ((j : Int) + 1) = ((j + 1 : Nat) : Int)) := ⟨by unfold wrap64; omega⟩; have HW3 : Aside0 (wrap64 ((p : Int) + 1) = ((p + 1 : Nat) : Int)) := ⟨by unfold wrap64; omega⟩; have HJ2 : Aside0 (k + (j + 1) + k2 = n) := ⟨by omega⟩; have HDR2 : Aside0 (cur.drop (k + (j + 1) - 1) = xs.drop (k + (j + 1) - 1)) := ⟨by rw [show k + (j + 1) - 1 = k + j from by omega]; exact hdr2⟩
            by_cases q : b = a
            · have e1 : (a.toList == b.toList) = true := beq_iff_eq.mpr (toList_inj.2 q.symm); rw [if_pos q] at hst; have HT2 : Aside0 (cur.take p ++ (cmpL (xs.drop (k + (j + 1) - 1))).tail = cmpL xs) := ⟨by rw [show k + (j + 1) - 1 = k + j from by omega, ← hst]; exact htk⟩; clear hj hkn hN hL hcl hC hdr d1 d2 g0 hdr2 d3 d4 g1_ hdr3 hst ht0 ha hb htk q hj0; have hw1 := HW1.out; go_wp2
              go_quiet (fail)
              go_wp2
              go_roundg k2
              case measure => omega
              case rel => exact ⟨p, j + 1, cur, rfl, by rw [HW2.out], ⟨by have := HJ.out; have := HJ2.out; omega⟩, HCL, HDR2, HT2, ⟨Kd.R_drewN HO.out nq⟩, ⟨pw_below_drewN HB.out nq⟩⟩
            · have e1 : (a.toList == b.toList) = false := beq_eq_false_iff_ne.mpr (fun h => q (toList_inj.1 h.symm)); rw [if_neg q] at hst
              have HT2 : Aside0 ((cur.set p a).take (p + 1) ++ (cmpL (xs.drop (k + (j + 1) - 1))).tail = cmpL xs) := ⟨by
                rw [show k + (j + 1) - 1 = k + j from by omega]; rw [hst, List.tail_cons, ht0] at htk; rw [ht0, List.tail_cons, List.take_succ_eq_append_getElem (by rw [List.length_set]; omega), List.take_set, List.set_eq_of_length_le (by rw [List.length_take]; omega), List.getElem_set_self, ← htk]
                simp⟩
              have HD3 : Aside0 ((cur.set p a).drop (k + (j + 1) - 1) = xs.drop (k + (j + 1) - 1)) := ⟨by rw [List.drop_set_of_lt (by omega)]; exact HDR2.out⟩; clear hj hkn hN hL hcl hC hdr d1 d2 g0 hdr2 d3 d4 g1_ hdr3 hst ht0 ha hb htk q hj0; have hw1 := HW1.out; go_wp2
              go_quiet (fail)
              go_wp2
              go_roundg k2
              case measure => omega
              case rel => exact ⟨p + 1, j + 1, cur.set p a, by rw [HW3.out], by rw [HW2.out], ⟨by have := HJ.out; have := HJ2.out; omega⟩, ⟨by rw [List.length_set]; exact HCL.out⟩, HD3, HT2, ⟨strs_put (Kd.R_drewN HO.out nq) p a⟩, ⟨(pw_below_drewN HB.out nq).setCell (p := ⟨g, p, none⟩) HBG.out _⟩⟩
      · have e1 : (a.toList == b.toList) = false := beq_eq_false_iff_ne.mpr (fun h => q (toList_inj.1 h)); rw [if_neg (fun h => q h.symm)] at hst
        have HE2 : Aside0 (cmpL xs = xs.take (k + 1 - 1) ++ cmpL (xs.drop (k + 1 - 1))) := ⟨by
          rw [Nat.add_sub_cancel, he, hst]
          have h1 : xs.take k = xs.take k0 ++ [b] := by
            rw [hk0, List.take_succ_eq_append_getElem (by omega), ← hb, List.getD_eq_getElem?_getD, List.getElem?_eq_getElem (by omega)]
            rfl
          rw [h1]
          simp⟩
        clear hk hN hL he hst ha hb q hk0; have hw1 := HW1.out; go_wp2
        go_quiet (fail)
        go_wp2
        go_roundg k1
        case measure => omega
        case rel => exact ⟨k + 1, by rw [HW2.out], HK2, HE2, ⟨Kd.R_drewN HO.out nq⟩, ⟨pw_below_drewN HB.out nq⟩⟩
end Go.Proofs.Ytlmoafkmhenejaa.XA
end
section
namespace Go.Proofs.Ytlmoafkmhenejaa.VLib
end Go.Proofs.Ytlmoafkmhenejaa.VLib
namespace Go.Proofs.YtlmoafkmhenejaaW.PrintWords
end Go.Proofs.YtlmoafkmhenejaaW.PrintWords
namespace Go.Proofs.YtlmoafkmhenejaaW.PrintLast
end Go.Proofs.YtlmoafkmhenejaaW.PrintLast
namespace Go.Proofs.YtlmoafkmhenejaaW.PrintMore
end Go.Proofs.YtlmoafkmhenejaaW.PrintMore
namespace Go.Proofs.Ytlmoafkmhenejaa.XW
end Go.Proofs.Ytlmoafkmhenejaa.XW
namespace Go.Proofs.Ytlmoafkmhenejaa.XA
open Go.Proofs.Ytlmoafkmhenejaa.VLib Go.RowKit Go.Proofs.YtlmoafkmhenejaaW.PrintWords Go.Proofs.YtlmoafkmhenejaaW.PrintLast Go.Proofs.YtlmoafkmhenejaaW.PrintMore Go.Proofs.Ytlmoafkmhenejaa.XW
attribute [local go_sem high] max2_str unary_xor_u32 leq_str geq_str gtr_str
attribute [local go_sem] max2_int min2_int max_two min_two max_three min_three max_four min_four
set_option linter.unusedVariables false
set_option linter.unusedSimpArgs false
set_option maxHeartbeats 1600000 in
set_option maxRecDepth 100000 in
theorem compact_small (A : Option Addr) (n c : Nat) (W : World) (h : n < 2) : Calls Try.prog 75 #[.slice A n c] W fun e w' => e = .returned (.slice A n c) ∧ w' = W := by
  have a1 : decide ((n : Int) < 2) = true := decide_eq_true (by omega)
  have a2 : decide (n < 2) = true := decide_eq_true h
  clear h
  go_enter Try.func75, Try.ntmps75
  go_wp2
  go_ret
  exact ⟨rfl, rfl⟩
theorem compact_any (v : Value) (base : Nat) (ok : Nat → Prop) (xs : List ByteArray) (W : World) (hr : Kd.R Kd.string 9 W base ok v xs) (hb : base ≤ W.heap.size) (hn : xs.length < 2932031007402) :
    Calls Try.prog 75 #[v] W fun e w' => ∃ v', e = .returned v' ∧ Kd.R Kd.string 9 w' base ok v' (cmpL xs) ∧ Below base W w' := by
  by_cases h : xs.length < 2
  · obtain ⟨A, c, rfl, -, -⟩ := Kd.R_reads hr
    have e : cmpL xs = xs := by
      match xs, h with
      | [], _ => rfl
      | [x], _ => rfl
      | x :: y :: t, h => exact absurd h (by simp)
    rw [e]; refine (compact_small A xs.length c W h).mono ?_; rintro e' w' ⟨rfl, rfl⟩; exact ⟨_, rfl, hr, Below.refl _ _⟩
  · obtain ⟨g, cap, rfl, -, -, -⟩ := Kd.R_form hr (by omega); refine (compact_calls g cap base ok xs W hr hb hn (by omega)).mono ?_; rintro e' w' ⟨rfl, h1, h2⟩; exact ⟨_, rfl, h1, h2⟩
def keysL (l : List S43) : List ByteArray := cmpL (l.map (·.f0))
set_option maxHeartbeats 1600000 in
set_option maxRecDepth 100000 in
theorem keys_calls (A0 : Option Addr) (c0 : Nat) (l0 : List S43) (w : World) (hr : Kd.C k43 w A0 l0.length l0) (hn : l0.length < 1000000) :
    Calls Try.prog 42 #[.slice A0 l0.length c0] w fun e w' => ∃ v, e = .returned v ∧ Kd.R Kd.string 9 w' w.heap.size (fun _ => True) v (keysL l0) ∧ Below w.heap.size w w' := by
  have HR := Aside0.mk hr
  have HN := Aside0.mk hn
  clear hr hn
  go_enter Try.func42, Try.ntmps42
  go_wp2
  go_loopg [3, 8] l0.length (fun kq v3 v8 w' => ∃ (i : Nat), v8 = .int .i64 (i : Int) ∧ Aside0 (i + kq = l0.length) ∧ Aside0 (Kd.R Kd.string 9 w' w.heap.size (fun _ => True) v3 ((l0.take i).map (·.f0))) ∧ Aside0 (Below w.heap.size w w'))
  case atStart => exact ⟨0, rfl, ⟨Nat.zero_add _⟩, ⟨Kd.R_nil _ _ _ _ _⟩, ⟨Below.refl _ _⟩⟩
  case round =>
    obtain ⟨i, rfl, HI, HO, HB⟩ := hrel; have hi := HI.out; have hn := HN.out
    cases gk with
    | zero =>
      have c1 : decide ((i : Int) < (l0.length : Int)) = false := decide_eq_false (by omega); have c2 : decide (i < l0.length) = false := decide_eq_false (by omega); have ho := HO.out; rw [List.take_of_length_le (by omega)] at ho; have HO1 := Aside0.mk ho; clear hi ho hn
      go_wp2_with (go_at_call 75; go_loud ((refine (compact_any _ w.heap.size (fun _ => True) (l0.map (·.f0)) _ HO1.out HB.out.size (by rw [List.length_map]; have := HN.out; omega)).mono ?_); rintro e w3 ⟨v3, rfl, hR3, hb3⟩; obtain ⟨A3, c3, e3⟩ := Kd.R_slice hR3; subst e3; have HR3 := Aside0.mk hR3; have HB3 := Aside0.mk (HB.out.trans hb3); clear hR3 hb3))
      go_ret; exact ⟨_, rfl, HR3.out, HB3.out⟩
    | succ k1 =>
      have hlt : i < l0.length := by omega
      have c1 : decide ((i : Int) < (l0.length : Int)) = true := decide_eq_true (by omega); have c2 : decide (i < l0.length) = true := decide_eq_true hlt; have p1 : (0 ≤ (i : Int)) = True := eq_true (by omega); have p2 : ((i : Int) < (l0.length : Int)) = True := eq_true (by omega); have p3 : (i < l0.length) = True := eq_true hlt; obtain ⟨ad, ea, x0, x1, x2, x3⟩ := at_T43 (Kd.C_below HR.out HB.out) (i : Int) (by omega) (by omega); have hrd : rd_T43 l0 (i : Int) = l0[i] := by unfold rd_T43; rw [Int.toNat_natCast, List.getD_eq_getElem?_getD, List.getElem?_eq_getElem hlt]; rfl
      rw [hrd, Int.toNat_natCast] at x0 x1 x2 x3; cases ea; have HT : Aside0 ((l0.take i).map (·.f0) ++ [l0[i].f0] = (l0.take (i + 1)).map (·.f0)) := ⟨by rw [List.take_succ_eq_append_getElem hlt, List.map_append]; rfl⟩; obtain ⟨x, hx⟩ : ∃ x, l0[i] = x := ⟨_, rfl⟩; rw [hx] at x0 x1 x2 x3 HT; obtain ⟨K, V, G, Q⟩ := x; dsimp only at x0 x1 x2 x3 HT; have HW : Aside0 (wrap64 ((i : Int) + 1) = ((i + 1 : Nat) : Int)) := ⟨by unfold wrap64; omega⟩; have HI2 : Aside0 (i + 1 + k1 = l0.length) := ⟨by omega⟩; have HLn : Aside0 ((((l0.take i).map (·.f0)).length + 1) * 16 ≤ 140737488355328) := ⟨by rw [List.length_map, List.length_take]; omega⟩; have y0 : (wr.alloc (.cells #[.string K, .string V, .bool G, .int .i64 Q] 43)).cell? ⟨wr.heap.size, 0, none⟩ = some (.string K) := (blk_cell (heap_alloc_new wr (.cells #[.string K, .string V, .bool G, .int .i64 Q] 43)) 0).trans rfl; have HSZ : Aside0 ((wr.alloc (.cells #[.string K, .string V, .bool G, .int .i64 Q] 43)).heap.size = wr.heap.size + 1) := ⟨by simp⟩; obtain ⟨xs, hxs⟩ : ∃ xs, (l0.take i).map (·.f0) = xs := ⟨_, rfl⟩; rw [hxs] at HO HT HLn; have HB2 := Aside0.mk (below_alloc HB.out (.cells #[.string K, .string V, .bool G, .int .i64 Q] 43)); have HO2 := Aside0.mk (Kd.R_alloc HO.out (.cells #[.string K, .string V, .bool G, .int .i64 Q] 43)); clear hi hn hlt hrd hx hxs
      go_wp2_with ((with_reducible refine gate_builtin (b := .append) (xs := #[.tmp 12, .tmp 15]) rfl ?_); at_builtin; go_loud (refine Kd.R_append Kd.string (w0 := w) w.heap.size rfl (.tmp 12) (.tmp 15) 56 9 (.string ⟨#[]⟩) 16 rfl Try.underlying56 info9 rfl (by decide) (by omega) u3 xs K [.string K] (fun _ => True) (fun _ => False) rfl (by rw [HSZ.out]; rfl) rfl (fun _ hk => hk.elim) (fun _ _ => trivial) HO2.out HB2.out HB2.out.size (by have := HLn.out; omega) ?_); intro v9 w9 ho hb hg hat; have HO9 := Aside0.mk ho; have HB9 := Aside0.mk hb; clear ho hb hg hat)
      go_roundg k1
      case measure => omega
      case rel => exact ⟨i + 1, by rw [HW.out], HI2, ⟨by have h := HO9.out; rw [HT.out] at h; exact h⟩, HB9⟩
end Go.Proofs.Ytlmoafkmhenejaa.XA
end
section
namespace Go.Proofs.Ytlmoafkmhenejaa.VLib
end Go.Proofs.Ytlmoafkmhenejaa.VLib
namespace Go.Proofs.Ytlmoafkmhenejaa.Bld
end Go.Proofs.Ytlmoafkmhenejaa.Bld
namespace Go.Proofs.YtlmoafkmhenejaaW.PrintWords
end Go.Proofs.YtlmoafkmhenejaaW.PrintWords
namespace Go.Proofs.YtlmoafkmhenejaaW.PrintLast
end Go.Proofs.YtlmoafkmhenejaaW.PrintLast
namespace Go.Proofs.YtlmoafkmhenejaaW.PrintMore
end Go.Proofs.YtlmoafkmhenejaaW.PrintMore
namespace Go.Proofs.Ytlmoafkmhenejaa.XW
end Go.Proofs.Ytlmoafkmhenejaa.XW
namespace Go.Proofs.Ytlmoafkmhenejaa.XA
open Go.Proofs.Ytlmoafkmhenejaa.VLib Go.Proofs.Ytlmoafkmhenejaa.Bld Go.RowKit Go.Proofs.YtlmoafkmhenejaaW.PrintWords Go.Proofs.YtlmoafkmhenejaaW.PrintLast Go.Proofs.YtlmoafkmhenejaaW.PrintMore Go.Proofs.Ytlmoafkmhenejaa.XW
attribute [local go_sem high] max2_str unary_xor_u32 leq_str geq_str gtr_str
attribute [local go_sem] max2_int min2_int max_two min_two max_three min_three max_four min_four
set_option linter.unusedVariables false
set_option linter.unusedSimpArgs false
theorem freeze_far {w : World} {p : Addr} {n k : Nat} (hk : k ≠ p.block) : (w.freeze p n).heap[k]? = w.heap[k]? := by
  unfold World.freeze
  split
  · rfl
  · simp only [Array.getElem?_modify]; rw [if_neg (fun e => hk e.symm)]
set_option maxHeartbeats 2000000 in
set_option maxRecDepth 100000 in
theorem String_at (B b : Nat) (v : Value) (u : Bool) (l : List UInt8) (w : World) (h : Bd w B b v u l) (h0 : l ≠ []) :
    Calls Try.prog 44 #[.pointer (some ⟨b, 0, none⟩)] w fun e w' => e = .returned (.string ⟨l.toArray⟩) ∧ Below B w w' ∧ w.heap.size ≤ w'.heap.size ∧ ∀ k, some k ≠ v.ownBlock → w'.heap[k]? = w.heap[k]? := by
  obtain ⟨hB, hbk, hown⟩ := h
  have cellsB : Try.prog.cellsOf 5 = 1 := by kernel_rfl
  have hl0 : l.length ≠ 0 := by simpa using h0
  obtain ⟨g, cap, cur, rfl, hbg, hg, hnc, hcm, hcs, htake⟩ : ∃ g cap cur, v = .slice (some ⟨g, 0, none⟩) l.length cap ∧ B ≤ g ∧ w.heap[g]? = some (.cells cur 5 (0, 0)) ∧ l.length ≤ cap ∧ cap ≤ maxLen ∧ cur.size = cap * 1 ∧ cur.toList.take (l.length * 1) = Lib.byteCells l := by
    rcases hown.2 with ⟨_, hz⟩ | ⟨g, cap, cur, hv, r⟩
    · exact absurd hz hl0
    · exact ⟨g, cap, cur, hv, r⟩
  have c1 : w.drew.cell? ⟨b, 1, none⟩ = some (.slice (some ⟨g, 0, none⟩) l.length cap) := (blk_cell (blk_drew hbk) 1).trans rfl
  have hSD : (Builtin.unsafeSliceData_ #[47] 101 #[.slice (some ⟨g, 0, none⟩) l.length cap]).run Try.prog w.drew = .ok (.pointer (some ⟨g, 0, none⟩)) w.drew :=
    Lib.run_unsafeSliceData_row _ _ _ _ _ _ (by omega)
  have hUS : (Builtin.unsafeString_ #[101, 3] 9 #[.pointer (some ⟨g, 0, none⟩), .int .i64 l.length]).run Try.prog w.drew = .ok (.string ⟨l.toArray⟩) (w.drew.freeze ⟨g, 0, none⟩ l.length) := by
    refine Lib.run_unsafeString_row w.drew 101 3 9 5 Try.underlying101 cellsB g cur.size (by have hg' : w.drew.heap[g]? = some (.cells cur 5 (0, 0)) := hg; simp [World.shape?, hg']) l h0 (by omega) (by unfold maxLen at hcm; omega) ?_; intro j x hx; exact hown.cells (g := g) rfl j (.int .u8 x.toNat) (by simp [Lib.byteCells, hx])
  go_enter Try.func44, Try.ntmps44
  go_wp2
  go_region
  all_goals (go_wp2; go_ret; exact ⟨rfl, Lib.below_freeze (Below.drew (Below.refl B w)) (p := ⟨g, 0, none⟩) hbg _, (Lib.below_freeze (Below.drew (Below.refl B w)) (p := ⟨g, 0, none⟩) hbg _).size, fun k hk => freeze_far (p := ⟨g, 0, none⟩) (fun e => hk (by rw [e]; rfl))⟩)
theorem build_boxes (w w1 : World) (hb : Below w.heap.size w w1) : Below w.heap.size w ((((w1.alloc (.cells #[.pointer none, .slice none 0 0] 71)).alloc (.cells #[.pointer none, .slice none 0 0] 71)).alloc (.cells #[.func (Fn.func 33) #[] #[.pointer (some ⟨w1.heap.size + 1, 0, none⟩)]] 77)).alloc (.cells #[.func (Fn.func 36) #[] #[.pointer (some ⟨w1.heap.size + 1, 0, none⟩)]] 79)) ∧ Two ((((w1.alloc (.cells #[.pointer none, .slice none 0 0] 71)).alloc (.cells #[.pointer none, .slice none 0 0] 71)).alloc (.cells #[.func (Fn.func 33) #[] #[.pointer (some ⟨w1.heap.size + 1, 0, none⟩)]] 77)).alloc (.cells #[.func (Fn.func 36) #[] #[.pointer (some ⟨w1.heap.size + 1, 0, none⟩)]] 79)) w.heap.size (w1.heap.size + 1) w1.heap.size (.slice none 0 0) (.slice none 0 0) false false [] [] ∧
    ((((w1.alloc (.cells #[.pointer none, .slice none 0 0] 71)).alloc (.cells #[.pointer none, .slice none 0 0] 71)).alloc (.cells #[.func (Fn.func 33) #[] #[.pointer (some ⟨w1.heap.size + 1, 0, none⟩)]] 77)).alloc (.cells #[.func (Fn.func 36) #[] #[.pointer (some ⟨w1.heap.size + 1, 0, none⟩)]] 79)).heap[w1.heap.size + 1 + 1]? = some (.cells #[.func (Fn.func 33) #[] #[.pointer (some ⟨w1.heap.size + 1, 0, none⟩)]] 77 (0, 0)) ∧ ((((w1.alloc (.cells #[.pointer none, .slice none 0 0] 71)).alloc (.cells #[.pointer none, .slice none 0 0] 71)).alloc (.cells #[.func (Fn.func 33) #[] #[.pointer (some ⟨w1.heap.size + 1, 0, none⟩)]] 77)).alloc (.cells #[.func (Fn.func 36) #[] #[.pointer (some ⟨w1.heap.size + 1, 0, none⟩)]] 79)).heap[w1.heap.size + 1 + 1 + 1]? = some (.cells #[.func (Fn.func 36) #[] #[.pointer (some ⟨w1.heap.size + 1, 0, none⟩)]] 79 (0, 0)) := by
  have s1 : (w1.alloc (.cells #[.pointer none, .slice none 0 0] 71)).heap.size = w1.heap.size + 1 := by simp
  have s2 : ((w1.alloc (.cells #[.pointer none, .slice none 0 0] 71)).alloc (.cells #[.pointer none, .slice none 0 0] 71)).heap.size = w1.heap.size + 1 + 1 := by simp
  have hB := hb.size
  have d1 := Bd.new w1 w.heap.size hB
  have d2 := Bd.new (w1.alloc (.cells #[.pointer none, .slice none 0 0] 71)) w.heap.size (by rw [s1]; omega)
  rw [s1] at d2
  have t1 := below_alloc (Below.refl (w1.alloc (.cells #[.pointer none, .slice none 0 0] 71)).heap.size (w1.alloc (.cells #[.pointer none, .slice none 0 0] 71))) (.cells #[.pointer none, .slice none 0 0] 71)
  obtain ⟨V2, hV2⟩ : ∃ V2, (w1.alloc (.cells #[.pointer none, .slice none 0 0] 71)).alloc (.cells #[.pointer none, .slice none 0 0] 71) = V2 := ⟨_, rfl⟩
  have two2 : Two V2 w.heap.size (w1.heap.size + 1) w1.heap.size (.slice none 0 0) (.slice none 0 0) false false [] [] := by
    rw [← hV2]; exact ⟨d2, d1.below t1, by omega, fun k hk => by simp [Value.ownBlock] at hk⟩
  have b2 : Below w.heap.size w V2 := by rw [← hV2]; exact below_alloc (below_alloc hb _) _
  rw [hV2] at s2 ⊢
  have g3 := heap_alloc_new V2 (.cells #[.func (Fn.func 33) #[] #[.pointer (some ⟨w1.heap.size + 1, 0, none⟩)]] 77)
  rw [s2] at g3
  have e3 := two2.below (below_alloc (Below.refl _ _) (.cells #[.func (Fn.func 33) #[] #[.pointer (some ⟨w1.heap.size + 1, 0, none⟩)]] 77))
  have b3 := below_alloc b2 (.cells #[.func (Fn.func 33) #[] #[.pointer (some ⟨w1.heap.size + 1, 0, none⟩)]] 77)
  have s3 : (V2.alloc (.cells #[.func (Fn.func 33) #[] #[.pointer (some ⟨w1.heap.size + 1, 0, none⟩)]] 77)).heap.size = w1.heap.size + 1 + 1 + 1 := by simp [s2]
  obtain ⟨V3, hV3⟩ : ∃ V3, V2.alloc (.cells #[.func (Fn.func 33) #[] #[.pointer (some ⟨w1.heap.size + 1, 0, none⟩)]] 77) = V3 := ⟨_, rfl⟩
  rw [hV3] at g3 e3 b3 s3 ⊢
  have g4 := heap_alloc_new V3 (.cells #[.func (Fn.func 36) #[] #[.pointer (some ⟨w1.heap.size + 1, 0, none⟩)]] 79)
  rw [s3] at g4
  exact ⟨below_alloc b3 _, e3.below (below_alloc (Below.refl _ _) _), blk_alloc g3 _, g4⟩
theorem Two.read {w w1 : World} {B f b : Nat} {vf vb : Value} {uf ub : Bool} {fs bs : List UInt8} (h : Two w B f b vf vb uf ub fs bs) (hk : ∀ k, some k ≠ vf.ownBlock → w1.heap[k]? = w.heap[k]?) : Bd w1 B b vb ub bs :=
  h.body.step (hk b (fun e => Lib.ownBlock_ne h.foot.2.2 h.body.2.1 (by decide) e.symm)) (fun k hk' => hk k (fun e => h.apart k e.symm hk'))
def buildF (kk K : Nat) (l : List S43) : Option (ByteArray × Int) :=
  if l.length = 0 then some (⟨#[]⟩, 1) else
    (block_Check.f kk l).bind fun e0 => if e0 = 0 then
      ((varint_Put.f kk (((l.length + 15) / 16 : Nat) : Int)).bind fun p0 => (chunkF kk K l p0.1.data.toList []).bind fun r => (bloom_Make.f kk (keysL l)).bind fun bt => (varint_Text.f kk bt.1).bind fun tx =>
        (crc_Seal.f kk ⟨(r.1 ++ tx.1.data.toList).toArray⟩).bind fun sl => (varint_Fix.f (sl.size : Int)).bind fun fx =>
          if p0.1.size ≤ 140737488355328 ∧ r.1.length + tx.1.size ≤ 140737488355328 ∧ r.1 ++ tx.1.data.toList ≠ [] ∧ r.2 ≠ [] ∧ l.length ≤ 500000 ∧ r.2.length + sl.size + fx.1.size ≤ 140737488355328 then some ((⟨r.2.toArray⟩ : ByteArray) ++ sl ++ fx.1, 0) else none)
      else some (⟨#[]⟩, 1)
set_option maxHeartbeats 2000000 in
set_option maxRecDepth 100000 in
theorem build_calls (kk K : Nat) (A : Option Addr) (c : Nat) (l : List S43) (r1 : ByteArray) (r2 : Int) (w : World) (hC : Kd.C k43 w A l.length l) (hc : l.length ≤ c) (h : buildF kk K l = some (r1, r2)) :
    Calls Try.prog 13 #[.slice A l.length c] w fun e w' => e = .returned (.tuple #[.string r1, .int .i64 r2]) ∧ Below w.heap.size w w' := by
  have HC := Aside0.mk hC
  have HCC := Aside0.mk hc
  unfold buildF at h
  by_cases q0 : l.length = 0
  · rw [if_pos q0] at h; simp only [Option.some.injEq, Prod.mk.injEq] at h; obtain ⟨rfl, rfl⟩ := h; have c1 : ((l.length : Int) == 0) = true := beq_iff_eq.mpr (by omega); clear q0 hC hc; go_enter Try.func13, Try.ntmps13; go_wp2; go_ret2; exact ⟨rfl, Below.refl _ _⟩
  · rw [if_neg q0] at h; obtain ⟨e0, hk, h⟩ := Option.bind_eq_some_iff.mp h; have HK := Aside0.mk hk; have c1 : ((l.length : Int) == 0) = false := beq_eq_false_iff_ne.mpr (by omega); clear hk hC hc
    by_cases q1 : e0 = 0
    · rw [if_pos q1] at h; subst q1; obtain ⟨⟨n0, z0⟩, hp0, h⟩ := Option.bind_eq_some_iff.mp h; obtain ⟨⟨fs, bs⟩, hch, h⟩ := Option.bind_eq_some_iff.mp h; obtain ⟨⟨bt, z1⟩, hbt, h⟩ := Option.bind_eq_some_iff.mp h; obtain ⟨⟨tx, z2⟩, htx, h⟩ := Option.bind_eq_some_iff.mp h; obtain ⟨sl, hsl, h⟩ := Option.bind_eq_some_iff.mp h; obtain ⟨⟨fx, z3⟩, hfx, h⟩ := Option.bind_eq_some_iff.mp h; dsimp only at h hch htx hsl hfx
      by_cases qs : n0.size ≤ 140737488355328 ∧ fs.length + tx.size ≤ 140737488355328 ∧ fs ++ tx.data.toList ≠ [] ∧ bs ≠ [] ∧ l.length ≤ 500000 ∧ bs.length + sl.size + fx.size ≤ 140737488355328
      · rw [if_pos qs] at h; simp only [Option.some.injEq, Prod.mk.injEq] at h; obtain ⟨rfl, rfl⟩ := h; have HP0 := Aside0.mk hp0; have HCH := Aside0.mk hch; have HBT := Aside0.mk hbt; have HTX := Aside0.mk htx; have HSL := Aside0.mk hsl; have HFX := Aside0.mk hfx; have HQS := Aside0.mk qs; have hlq := qs.2.2.2.2.1; have hlz := qs.2.2.2.2.2; have g1 : (9223372036854775807 < bs.length + sl.size) = False := eq_false (by omega); have g2 : (9223372036854775807 < bs.length + sl.size + fx.size) = False := eq_false (by omega); have g3 : decide (9223372036854775807 < bs.length + sl.size) = false := decide_eq_false (by omega); have g4 : decide (9223372036854775807 < bs.length + sl.size + fx.size) = false := decide_eq_false (by omega); have HL6 : Aside0 (l.length ≤ 1000000) := ⟨by omega⟩; have HL7 : Aside0 (l.length < 1000000) := ⟨by omega⟩; have w3_ : Aside0 (wrap64 (Int.tdiv ((l.length : Int) + 15) 16) = (((l.length + 15) / 16 : Nat) : Int)) := ⟨by rw [Int.tdiv_eq_ediv_of_nonneg (by omega)]; unfold wrap64; omega⟩; have w1_ : Aside0 (wrap64 ((l.length : Int) + 16) = (l.length : Int) + 16) := ⟨by unfold wrap64; omega⟩; have w2_ : Aside0 (wrap64 ((l.length : Int) + 15) = (l.length : Int) + 15) := ⟨by unfold wrap64; omega⟩; have w4_ : Aside0 (wrap64 ((l.length : Int) + 16 - 1) = (l.length : Int) + 15) := ⟨by unfold wrap64; omega⟩; obtain ⟨nb, hnb⟩ : ∃ nb, (l.length + 15) / 16 = nb := ⟨_, rfl⟩; rw [hnb] at w3_ HP0; clear hnb; clear hp0 hch hbt htx hsl hfx qs q0 hlq hlz; have v1_ := w1_.out; have v2_ := w2_.out; have v3_ := w3_.out; have v4_ := w4_.out; go_enter Try.func13, Try.ntmps13
        go_wp2_with (first
          | (go_at_call 44; go_loud ((with_reducible refine (String_at w.heap.size w1.heap.size vb6 ub6 bs _ HBD12.out HQS.out.2.2.2.1).mono ?_); rintro e w13 ⟨rfl, hb13, -, -⟩; have HB13 := Aside0.mk (HB12.out.trans hb13); clear hb13))
          | (go_at_call 45; go_loud ((with_reducible refine (varint_Fix.calls sl.size fx z3 _ HFX.out).mono ?_); rintro e w12 ⟨rfl, hb12⟩; have HB12 := Aside0.mk (HB11.out.trans (below_at_ hb12 HB11.out.size)); have HBD12 := Aside0.mk (HBD11.out.below hb12); clear hb12))
          | (go_at_call 43; go_loud ((with_reducible refine (crc_Seal.calls kk ⟨(fs ++ tx.data.toList).toArray⟩ sl _ HSL.out).mono ?_); rintro e w11 ⟨rfl, hb11⟩; have HB11 := Aside0.mk (HB10.out.trans (below_at_ hb11 HB10.out.size)); have HBD11 := Aside0.mk (HBD10.out.below hb11); clear hb11))
          | (go_at_call 44; go_loud ((with_reducible refine (String_at w.heap.size (w1.heap.size + 1) vf9 true (fs ++ tx.data.toList) _ HT9.out.foot HQS.out.2.2.1).mono ?_); rintro e w10 ⟨rfl, hb10, hs10, hk10⟩; have HB10 := Aside0.mk (HB9.out.trans hb10); have HBD10 := Aside0.mk (HT9.out.read hk10); clear hb10 hs10 hk10))
          | (go_at_call 36; go_loud ((with_reducible refine (text_calls kk w.heap.size (w1.heap.size + 1) vf6 uf6 fs bt tx z2 _ HT8.out.foot HTX.out HQS.out.2.1 HB8.out.size).mono ?_); rintro e w9 ⟨vf9, rfl, h9, hb9, hk9, hat9⟩; have HT9 := Aside0.mk (HT8.out.wrote h9 hk9 hat9); have HB9 := Aside0.mk (HB8.out.trans hb9); clear h9 hb9 hk9 hat9))
          | (go_at_call 41; go_loud ((with_reducible refine (bloom_Make.calls kk A7 c7 (keysL l) bt z1 _ (Kd.R_reads' HR7.out).2.2 (Kd.R_reads' HR7.out).2.1 HBT.out).mono ?_); rintro e w8 ⟨rfl, hb8⟩; have HB8 := Aside0.mk (HB7.out.trans (below_at_ hb8 HB7.out.size)); have HT8 := Aside0.mk (HT7.out.below hb8); have g79 := blk_below G79d.out hb8; have x79 : w8.cell? ⟨w1.heap.size + 1 + 1 + 1, 0, none⟩ = some (.func (Fn.func 36) #[] #[.pointer (some ⟨w1.heap.size + 1, 0, none⟩)]) := (blk_cell g79 0).trans rfl; clear hb8 g79))
          | (go_at_call 42; go_loud ((with_reducible refine (keys_calls A c l _ (Kd.C_below HC.out HB6.out) HL7.out).mono ?_); rintro e w7 ⟨v7, rfl, hR7, hb7⟩; obtain ⟨A7, c7, e7⟩ := Kd.R_slice hR7; subst e7; have HR7 := Aside0.mk hR7; have HB7 := Aside0.mk (HB6.out.trans (below_at_ hb7 HB6.out.size)); have HT7 := Aside0.mk (HT6.out.below hb7); have G79d := Aside0.mk (blk_below G79c.out hb7); clear hR7 hb7))
          | (go_at_call 38; go_loud ((with_reducible refine (chunks_calls kk (w1.heap.size + 1) w1.heap.size (w1.heap.size + 1 + 1 + 1) (w1.heap.size + 1 + 1) vf5 (.slice none 0 0) true false n0.data.toList [] fs bs A c K l w _ HT5.out G79b.out G77b.out HB5.out HC.out HCC.out HL6.out HCH.out).mono ?_); rintro e w6 ⟨vf6, vb6, uf6, ub6, rfl, hT6, hb6, hk6⟩; have HT6 := Aside0.mk hT6; have HB6 := Aside0.mk hb6; have G79c := Aside0.mk (hk6 _ _ 79 _ (by decide) (by decide) G79b.out); clear hT6 hb6 hk6))
          | (go_at_call 33; go_loud ((with_reducible refine (num_calls kk w.heap.size (w1.heap.size + 1) (.slice none 0 0) false [] (nb : Int) n0 z0 _ HT4.out.foot HP0.out (by simpa using HQS.out.1) HB4.out.size).mono ?_); rintro e w5 ⟨vf5, rfl, h5, hb5, hk5, hat5⟩; have hT5 := HT4.out.wrote h5 hk5 hat5; rw [List.nil_append] at hT5; have HT5 := Aside0.mk hT5; have HB5 := Aside0.mk (HB4.out.trans hb5); have hK5 := Bd.keepT HT4.out.foot hk5; have g77 := hK5 _ _ 77 _ (by decide) (by decide) G77.out; have g79 := hK5 _ _ 79 _ (by decide) (by decide) G79.out; have G77b := Aside0.mk g77; have G79b := Aside0.mk g79; clear h5 hb5 hk5 hat5 hT5 hK5 g77 g79))
          | (go_at_call 32; go_loud ((with_reducible refine (block_Check.calls kk A c l _ _ HC.out HCC.out HK.out).mono ?_); rintro e w1 ⟨rfl, hb1⟩; have HB1 := Aside0.mk hb1; obtain ⟨hb4, hT, g77, g79⟩ := build_boxes w w1 hb1; have HB4 := Aside0.mk hb4; have HT4 := Aside0.mk hT; have G77 := Aside0.mk g77; have G79 := Aside0.mk g79; have x77 : ((((w1.alloc (.cells #[.pointer none, .slice none 0 0] 71)).alloc (.cells #[.pointer none, .slice none 0 0] 71)).alloc (.cells #[.func (Fn.func 33) #[] #[.pointer (some ⟨w1.heap.size + 1, 0, none⟩)]] 77)).alloc (.cells #[.func (Fn.func 36) #[] #[.pointer (some ⟨w1.heap.size + 1, 0, none⟩)]] 79)).cell? ⟨w1.heap.size + 1 + 1, 0, none⟩ = some (.func (Fn.func 33) #[] #[.pointer (some ⟨w1.heap.size + 1, 0, none⟩)]) := (blk_cell g77 0).trans rfl; clear hb4 hT g77 g79; clear hb1)))
        go_ret2; exact ⟨rfl, HB13.out⟩
      · rw [if_neg qs] at h; exact absurd h (by simp)
    · rw [if_neg q1] at h; simp only [Option.some.injEq, Prod.mk.injEq] at h; obtain ⟨rfl, rfl⟩ := h; have c2 : (e0 == 0) = false := beq_eq_false_iff_ne.mpr q1; have c3 : (e0 != 0) = true := bne_iff_ne.mpr q1; clear q0 q1; go_enter Try.func13, Try.ntmps13
      go_wp2_with (go_at_call 32; go_loud ((with_reducible refine (block_Check.calls kk A c l _ _ HC.out HCC.out HK.out).mono ?_); rintro e w1 ⟨rfl, hb1⟩; have HB1 := Aside0.mk hb1; clear hb1))
      go_ret2; exact ⟨rfl, HB1.out⟩
end Go.Proofs.Ytlmoafkmhenejaa.XA
end
