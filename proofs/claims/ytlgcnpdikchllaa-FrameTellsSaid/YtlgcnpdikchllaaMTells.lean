import Derived.Test.YtlgcnpdikchllaaXAx2
import Derived.Test.YtlgcnpdikchllaaXAx5
import Derived.Test.YtlgcnpdikchllaaBytesRow
import Derived.StillTailTactics
import Derived.Deep.QuietTactic
import Derived.BigQuiet
import Derived.Outline
namespace Go.Proofs.Ytlgcnpdikchllaa.XA
open Go.RowKit Go.Proofs.YtlgcnpdikchllaaW.PrintWords Go.Proofs.YtlgcnpdikchllaaW.PrintLast Go.Proofs.YtlgcnpdikchllaaW.PrintMore Go.Proofs.Ytlgcnpdikchllaa.XW Go.Proofs.Ytlgcnpdikchllaa.BytesRow
attribute [local go_sem high] max2_str unary_xor_u32 leq_str geq_str gtr_str
attribute [local go_sem] max2_int min2_int max_two min_two max_three min_three max_four min_four
set_option linter.unusedVariables false
set_option linter.unusedSimpArgs false
/-- The bytes behind i rounds; and whether any was turned. -/
def curT (by4 : List Int) (K : Nat) : Nat → List Int → List Int
  | 0, xs => xs
  | i + 1, xs => (curT by4 K i xs).set (K + i) (Go.bits .xor .u8 (rd (curT by4 K i xs) ((K + i : Nat) : Int)) (by4.getD i 0))
def turT (by4 : List Int) : Nat → Bool
  | 0 => false
  | i + 1 => turT by4 i || (by4.getD i 0 != 0)
theorem curT_len (by4 : List Int) (K : Nat) (xs : List Int) : ∀ i, (curT by4 K i xs).length = xs.length
  | 0 => rfl
  | i + 1 => by rw [curT, List.length_set, curT_len by4 K xs i]
theorem at4t (a b c d : Int) (i : Nat) (h : i < 4) : (#[Value.int .u8 a, .int .u8 b, .int .u8 c, .int .u8 d])[i]? = some (.int .u8 ([a, b, c, d].getD i 0)) := by
  match i, h with
  | 0, _ => rfl
  | 1, _ => rfl
  | 2, _ => rfl
  | 3, _ => rfl
theorem same_take (k : Nat) (A0 A1 : Option Addr) (c0 c1 Kn : Nat) (l0 l1 : List ByteArray) (r : Bool) (w : World) (hr0 : Kd.C Kd.string w A0 l0.length l0) (hc0 : l0.length ≤ c0) (hr1 : Kd.C Kd.string w A1 l1.length l1) (hc1 : l1.length ≤ c1) (hK : Kn ≤ l1.length) (h : sorrelref01_Same.f k l0 (l1.take Kn) = some r) :
    Calls Try.prog 16 #[.slice A0 l0.length c0, .slice A1 Kn c1] w fun e w' => e = .returned (.bool r) ∧ Drawn0 w w' := by
  have hl : (l1.take Kn).length = Kn := by rw [List.length_take]; omega
  have h := sorrelref01_Same.calls k A0 c0 l0 A1 c1 (l1.take Kn) r w hr0 hc0 (Kd.C_take hr1 hK) (by rw [hl]; omega) h
  rw [hl] at h
  exact h
set_option maxHeartbeats 6400000 in
set_option maxRecDepth 100000 in
theorem ftells_calls (k : Nat) (A0 : Option Addr) (c0 : Nat) (l0 : List ByteArray) (x a0 a1 a2 a3 : Int) (S : ByteArray) (ends : List Int) (Kn : Nat) (e4 e0 f0 q : Int) (t : ByteArray) (J Ee D m : Nat) (out : List ByteArray) (at2 : Int) (w : World)
    (hr0 : Kd.C Kd.string w A0 l0.length l0) (hc0 : l0.length ≤ c0) (hall : sorrellaw03_all.f k l0 = some (S, ends, true)) (hl0 : (l0.length : Int) ≠ 0)
    (hK : Int.tmod (Go.bits .and .i64 x 255) (l0.length : Int) = (Kn : Int)) (hK1 : Kn < l0.length) (hK2 : Kn < ends.length)
    (ht : rdOf ByteArray.empty l0 (Kn : Int) = t) (hE : rd ends (Kn : Int) = e4) (he0 : e4 - 4 = e0) (hf0 : e0 - (t.size : Int) = f0) (hf1 : 0 ≤ f0) (hS : e4 ≤ (S.size : Int)) (hS2 : S.size ≤ 100000)
    (hq : t.size ≠ 0 → Int.tmod (Go.bits .and .i64 (x / 256) 65535) (t.size : Int) = q) (hJ : f0 + q = (J : Int)) (hEe : e0 = (Ee : Int)) (hD : J + D = Ee) (hm : m = min 4 t.size)
    (hfin : frame_All.f k (strOfNums (curT [a0, a1, a2, a3] J (min m D) (bytesOf S))) = some (out, at2))
    (hyes : turT [a0, a1, a2, a3] (min m D) = true → sorrelref01_Same.f k out (l0.take Kn) = some true)
    (hno : turT [a0, a1, a2, a3] (min m D) = false → sorrelref01_Same.f k out l0 = some true) (haw : sorrellaw03_awake.f k = some true) :
    Calls Try.prog 6 #[.slice A0 l0.length c0, .int .i64 x, .agg #[.int .u8 a0, .int .u8 a1, .int .u8 a2, .int .u8 a3]] w fun e w' => e = .returned (.bool true) ∧ Below w.heap.size w w' := by
  have HR0 := Aside0.mk hr0
  have HC0 := Aside0.mk hc0
  have A3 := Aside0.mk hall
  have HFIN := Aside0.mk hfin
  have HYES := Aside0.mk hyes
  have HNO := Aside0.mk hno
  have HAW := Aside0.mk haw
  have HM := Aside0.mk hm
  have HQ := Aside0.mk hq
  have HJ := Aside0.mk hJ
  have HEE := Aside0.mk hEe
  have HS := Aside0.mk hS
  have HS2 := Aside0.mk hS2
  have HD := Aside0.mk hD
  have HF1 := Aside0.mk hf1
  have HF0 := Aside0.mk hf0
  have HE0 := Aside0.mk he0
  have HT := Aside0.mk ht
  have HE := Aside0.mk hE
  have HK1L := Aside0.mk hK1
  have l1 : ((l0.length : Int) == 0) = false := beq_eq_false_iff_ne.mpr hl0
  have l2 : decide (f0 < 0) = false := decide_eq_false (by omega)
  have l3 : decide ((S.size : Int) < e4) = false := decide_eq_false (by omega)
  have hwa : wrap64 (e4 - 4) = e0 := by unfold wrap64; omega
  have hwb : wrap64 (e0 - (t.size : Int)) = f0 := by unfold wrap64; omega
  have hwa2 : IntKind.i64.wrap (e4 - 4) = e0 := (i64_w _).trans hwa
  have hwb2 : IntKind.i64.wrap (e0 - (t.size : Int)) = f0 := (i64_w _).trans hwb
  have hwc : wrap64 (f0 + q) = (J : Int) := by unfold wrap64; omega
  have hwc2 : IntKind.i64.wrap (f0 + q) = (J : Int) := (i64_w _).trans hwc
  have k0 : decide (0 ≤ (Kn : Int)) = true := decide_eq_true (by omega)
  have k1 : decide ((Kn : Int) < (l0.length : Int)) = true := decide_eq_true (by omega)
  have k1n : decide (Kn < l0.length) = true := decide_eq_true (by omega)
  have k2 : decide ((Kn : Int) < (ends.length : Int)) = true := decide_eq_true (by omega)
  have k3 : (0 ≤ (Kn : Int)) = True := eq_true (by omega)
  have k4 : ((Kn : Int) < (l0.length : Int)) = True := eq_true (by omega)
  have k5 : ((Kn : Int) < (ends.length : Int)) = True := eq_true (by omega)
  have k6 : (Kn < l0.length) = True := eq_true hK1
  have k7 : (Kn < ends.length) = True := eq_true hK2
  have k8 : ((Kn : Int) ≤ (l0.length : Int)) = True := eq_true (by omega)
  have k9 : (Kn ≤ l0.length) = True := eq_true (by omega)
  have kc1 : (Kn ≤ c0) = True := eq_true (by omega)
  have kc2 : ((Kn : Int) ≤ (c0 : Int)) = True := eq_true (by omega)
  have kc3 : (c0 < Kn) = False := eq_false (by omega)
  have kc4 : ((c0 : Int) < (Kn : Int)) = False := eq_false (by omega)
  obtain ⟨ad, e117, hxs⟩ := Kd.at_string HR0.out (Kn : Int) (by omega) (by omega)
  cases e117
  rw [ht] at hxs
  have HXS := Aside0.mk hxs
  have kb := fun W => print_bytes (P := Try.prog) 9 39 5 Try.underlying9 Try.underlying39 Try.underlying5 S W
  obtain ⟨by4, hby⟩ : ∃ l : List Int, l = [a0, a1, a2, a3] := ⟨_, rfl⟩
  have HBY := Aside0.mk hby
  rw [← hby] at HFIN HYES HNO
  have hk0 := heap_alloc_new w (.cells #[.int .u8 a0, .int .u8 a1, .int .u8 a2, .int .u8 a3] 38)
  have HK0 := Aside0.mk hk0
  have HB0 := Aside0.mk (below_alloc (Below.refl w.heap.size w) (.cells #[.int .u8 a0, .int .u8 a1, .int .u8 a2, .int .u8 a3] 38))
  have HRa := Aside0.mk (Kd.C_alloc HR0.out (.cells #[.int .u8 a0, .int .u8 a1, .int .u8 a2, .int .u8 a3] 38))
  have hpos : 0 < ends.length := by omega
  have HM4 : Aside0 (m ≤ 4 ∧ m ≤ t.size ∧ (m = 4 ∨ m = t.size) ∧ t.size ≤ 100000) := ⟨by omega⟩
  clear hr0 hc0 hall hfin hyes hno haw hm hq hJ hEe hS hS2 hD hf1 hf0 he0 ht hE hby hk0 hxs
  go_enter Try.func6, Try.ntmps6
  go_wp2_with (go_at_call 17; go_loud ((refine (sorrellaw03_all.calls k _ _ l0 S ends true _ HRa.out HC0.out A3.out).mono ?_); rintro e w1 ⟨v1, rfl, ho1, hb1⟩; obtain ⟨go, co, eo, gb, gl, cl, HG⟩ := Kd.R_form ho1 hpos; subst eo; have hce : w1.cell? ⟨go, Kn, none⟩ = some (.int .i64 e4) := (Kd.R_celln 0 ho1 (Kn : Int) (by omega) (by omega)).1.trans (congrArg some (congrArg (Value.int .i64) HE.out)); have hxt : w1.cell? (ad.add Kn) = some (.string t) := ((below_step HB0.out hb1).cell (World.block_lt_of_cell? w _ HXS.out)).trans HXS.out; have hgo : w.heap.size ≤ go := Nat.le_trans (below_size HB0.out) gb; have HGO := Aside0.mk hgo; have HB1 := Aside0.mk (below_step HB0.out hb1); have HK1 := Aside0.mk (blk_below HK0.out hb1); have HGL := Aside0.mk gl; clear hb1 ho1 HG gb hgo gl))
  go_quiet (fail)
  go_wp2
  have HBl := Aside0.mk (Bl.new (w1.drewN nq) 5 S)
  have HKb := Aside0.mk (blk_below (blk_drewN HK1.out nq) (bytes_below (Below.refl (w1.drewN nq).heap.size (w1.drewN nq)) (Nat.le_refl _) 5 S))
  have HBb := Aside0.mk (bytes_below (pw_below_drewN HB1.out nq) (below_size (pw_below_drewN HB1.out nq)) 5 S)
  have HCe : Aside0 ((Lib.bytesWorld (w1.drewN nq) 5 S).cell? ⟨go, Kn, none⟩ = some (.int .i64 e4)) := ⟨pw_cell_below (bytes_below (Below.refl (w1.drewN nq).heap.size (w1.drewN nq)) (Nat.le_refl _) 5 S) hce⟩
  clear hwa hwb hwa2 hwb2 l2 l3
  go_loopg [13, 14, 15] m (fun kq v13 v14 v15 w' => ∃ i : Nat, v13 = .bool (turT by4 (min i D)) ∧ v14 = .int .i64 (i : Int) ∧ Aside0 (i + kq = m) ∧ Aside0 (Bl w' 5 w1.heap.size (curT by4 J (min i D) (bytesOf S))) ∧ Aside0 (w'.heap[w.heap.size]? = some (.cells #[.int .u8 a0, .int .u8 a1, .int .u8 a2, .int .u8 a3] 38 (0, 0))) ∧ Aside0 (w'.cell? ⟨go, Kn, none⟩ = some (.int .i64 e4)) ∧ Aside0 (Below w.heap.size w w'))
  case atStart => exact ⟨0, by rw [Nat.zero_min]; rfl, rfl, ⟨Nat.zero_add _⟩, ⟨by rw [Nat.zero_min]; exact HBl.out⟩, HKb, HCe, HBb⟩
  case round =>
    clear HBl HKb HBb HCe hce hxt
    obtain ⟨i, rfl, rfl, HI, HBl, HKb, HCe, HBb⟩ := hrel
    have hce := HCe.out
    have hxt : wr.cell? (ad.add Kn) = some (.string t) := (HBb.out.cell (World.block_lt_of_cell? w _ HXS.out)).trans HXS.out
    cases gk with
    | zero =>
      have hI := HI.out
      obtain ⟨f1, f2, f3, f4⟩ := HM4.out
      obtain rfl : i = m := by omega
      have ht := HBl.out.text (P := Try.prog) 39 Try.underlying39 Try.underlying5 9 Try.underlying9 S.size (grownCap (w1.drewN nq) S.size 0 5) (by rw [curT_len, bytesOf_length])
      have HRl := Aside0.mk (Kd.C_below HR0.out HBb.out)
      generalize hT : turT by4 (min i D) = tu at *
      by_cases c4 : (i : Int) < 4
      · have c4b : decide ((i : Int) < 4) = true := decide_eq_true c4
        have c4n : decide (i < 4) = true := decide_eq_true (by omega)
        have c5b : decide ((i : Int) < (t.size : Int)) = false := decide_eq_false (by omega)
        have c5n : decide (i < t.size) = false := decide_eq_false (by omega)
        clear f1 f2 f3 f4 hI
        cases tu with
        | true =>
          clear hT
          go_wp2_with (first | (go_at_call 14; go_loud ((refine (frame_All.calls k _ out at2 _ HFIN.out).mono ?_); rintro e w5 ⟨v5, rfl, ho5, hb5⟩; obtain ⟨A5, c5, hv5, hl5, hC5⟩ := Kd.R_reads ho5; subst hv5; have HL5 := Aside0.mk hl5; have HC5 := Aside0.mk hC5; have HR5 := Aside0.mk (Kd.C_below HRl.out hb5); have HB5 := Aside0.mk (below_step HBb.out hb5); clear hb5 hl5 hC5 ho5)) | (go_at_call 16; go_loud ((refine (same_take k _ _ _ _ Kn out l0 true _ HC5.out HL5.out HR5.out HC0.out (Nat.le_of_lt HK1L.out) (HYES.out (by first | rfl | trivial))).mono ?_); rintro e w6 ⟨rfl, ⟨nd, rfl⟩⟩)) | (go_at_call 9; (refine (sorrellaw03_awake.calls k true _ HAW.out).mono ?_); rintro e w7 ⟨rfl, hb7⟩; have HB7 := Aside0.mk (below_step (pw_below_drewN HB5.out nd) hb7); clear hb7))
          go_ret
          exact ⟨by first | rfl | simp, HB7.out⟩
        | false =>
          clear hT
          go_wp2_with (first | (go_at_call 14; (refine (frame_All.calls k _ out at2 _ HFIN.out).mono ?_); rintro e w5 ⟨v5, rfl, ho5, hb5⟩; obtain ⟨A5, c5, hv5, hl5, hC5⟩ := Kd.R_reads ho5; subst hv5; have HL5 := Aside0.mk hl5; have HC5 := Aside0.mk hC5; have HR5 := Aside0.mk (Kd.C_below HRl.out hb5); have HB5 := Aside0.mk (below_step HBb.out hb5); clear hb5 hl5 hC5 ho5) | (go_at_call 16; (refine (sorrelref01_Same.calls k _ _ out _ _ l0 true _ HC5.out HL5.out HR5.out HC0.out (HNO.out (by first | rfl | trivial))).mono ?_); rintro e w6 ⟨rfl, ⟨nd, rfl⟩⟩) | (go_at_call 9; (refine (sorrellaw03_awake.calls k true _ HAW.out).mono ?_); rintro e w7 ⟨rfl, hb7⟩; have HB7 := Aside0.mk (below_step (pw_below_drewN HB5.out nd) hb7); clear hb7))
          go_ret
          exact ⟨by first | rfl | simp, HB7.out⟩
      · have c4b : decide ((i : Int) < 4) = false := decide_eq_false c4
        have c4n : decide (i < 4) = false := decide_eq_false (by omega)
        clear f1 f2 f3 f4 hI
        cases tu with
        | true =>
          clear hT
          go_wp2_with (first | (go_at_call 14; (refine (frame_All.calls k _ out at2 _ HFIN.out).mono ?_); rintro e w5 ⟨v5, rfl, ho5, hb5⟩; obtain ⟨A5, c5, hv5, hl5, hC5⟩ := Kd.R_reads ho5; subst hv5; have HL5 := Aside0.mk hl5; have HC5 := Aside0.mk hC5; have HR5 := Aside0.mk (Kd.C_below HRl.out hb5); have HB5 := Aside0.mk (below_step HBb.out hb5); clear hb5 hl5 hC5 ho5) | (go_at_call 16; (refine (same_take k _ _ _ _ Kn out l0 true _ HC5.out HL5.out HR5.out HC0.out (Nat.le_of_lt HK1L.out) (HYES.out (by first | rfl | trivial))).mono ?_); rintro e w6 ⟨rfl, ⟨nd, rfl⟩⟩) | (go_at_call 9; (refine (sorrellaw03_awake.calls k true _ HAW.out).mono ?_); rintro e w7 ⟨rfl, hb7⟩; have HB7 := Aside0.mk (below_step (pw_below_drewN HB5.out nd) hb7); clear hb7))
          go_ret
          exact ⟨by first | rfl | simp, HB7.out⟩
        | false =>
          clear hT
          go_wp2_with (first | (go_at_call 14; (refine (frame_All.calls k _ out at2 _ HFIN.out).mono ?_); rintro e w5 ⟨v5, rfl, ho5, hb5⟩; obtain ⟨A5, c5, hv5, hl5, hC5⟩ := Kd.R_reads ho5; subst hv5; have HL5 := Aside0.mk hl5; have HC5 := Aside0.mk hC5; have HR5 := Aside0.mk (Kd.C_below HRl.out hb5); have HB5 := Aside0.mk (below_step HBb.out hb5); clear hb5 hl5 hC5 ho5) | (go_at_call 16; (refine (sorrelref01_Same.calls k _ _ out _ _ l0 true _ HC5.out HL5.out HR5.out HC0.out (HNO.out (by first | rfl | trivial))).mono ?_); rintro e w6 ⟨rfl, ⟨nd, rfl⟩⟩) | (go_at_call 9; (refine (sorrellaw03_awake.calls k true _ HAW.out).mono ?_); rintro e w7 ⟨rfl, hb7⟩; have HB7 := Aside0.mk (below_step (pw_below_drewN HB5.out nd) hb7); clear hb7))
          go_ret
          exact ⟨by first | rfl | simp, HB7.out⟩
    | succ k1 =>
      have hI := HI.out
      obtain ⟨f1, f2, f3, f4⟩ := HM4.out
      have e1 := HD.out
      have e2 := HEE.out
      have e3 := HS2.out
      have e4' := HS.out
      have e5 := HE0.out
      have hts : t.size ≠ 0 := by omega
      have HTS := Aside0.mk hts
      have q0 : ((t.size : Int) == 0) = false := beq_eq_false_iff_ne.mpr (by omega)
      have qn : ¬ (t.size : Int) = 0 := by omega
      have c4b : decide ((i : Int) < 4) = true := decide_eq_true (by omega)
      have c4n : decide (i < 4) = true := decide_eq_true (by omega)
      have c4p : ((i : Int) < 4) = True := eq_true (by omega)
      have c4q : (i < 4) = True := eq_true (by omega)
      have c4r : i < 4 := by omega
      have c4s : (i : Int) < 4 := by omega
      have c4t : 0 ≤ (i : Int) := by omega
      have c5b : decide ((i : Int) < (t.size : Int)) = true := decide_eq_true (by omega)
      have c5n : decide (i < t.size) = true := decide_eq_true (by omega)
      have HW0 : Aside0 (wrap64 ((J : Int) + (i : Int)) = (J : Int) + (i : Int)) := ⟨by unfold wrap64; omega⟩
      have HWE0 : Aside0 (wrap64 (e4 - 4) = e0) := ⟨by unfold wrap64; omega⟩
      have HI2 : Aside0 (i + 1 + k1 = m) := ⟨by omega⟩
      clear hK
      by_cases cD : i < D
      · have d1 : decide ((J : Int) + (i : Int) < e0) = true := decide_eq_true (by omega)
        have hmi : min i D = i := by omega
        have hmi2 : min (i + 1) D = i + 1 := by omega
        have HMI2 := Aside0.mk hmi2
        rw [hmi] at HBl
        have hlen : (curT by4 J i (bytesOf S)).length = S.size := by rw [curT_len, bytesOf_length]
        have hpN : ((J : Int) + (i : Int)).toNat = J + i := by omega
        have hpc : ((J + i : Nat) : Int) = (J : Int) + (i : Int) := Int.natCast_add _ _
        have p1 : (0 ≤ (J : Int) + (i : Int)) = True := eq_true (by omega)
        have p2 : ((J : Int) + (i : Int) < (S.size : Int)) = True := eq_true (by omega)
        have p1b : decide (0 ≤ (J : Int) + (i : Int)) = true := decide_eq_true (by omega)
        have p2b : decide ((J : Int) + (i : Int) < (S.size : Int)) = true := decide_eq_true (by omega)
        have hbi : by4.getD i 0 = [a0, a1, a2, a3].getD i 0 := by rw [HBY.out]
        have hca : wr.cell? ⟨w.heap.size, i, none⟩ = some (.int .u8 (by4.getD i 0)) := by rw [hbi]; exact (blk_cell HKb.out i).trans (at4t _ _ _ _ i (by omega))
        have hci := (HBl.out.cell (J + i) (by omega)).1
        have hfi := (HBl.out.cell (J + i) (by omega)).2
        have HBl2 : Bl wr.drew 5 w1.heap.size (curT by4 J i (bytesOf S)) := HBl.out.keep rfl
        have HX := HBl2.put (J + i) (Go.bits .xor .u8 (rd (curT by4 J i (bytesOf S)) ((J + i : Nat) : Int)) (by4.getD i 0)) (by omega)
        have hgn : w.heap.size ≠ w1.heap.size := by have := HB1.out.size; have := HK1.out; intro e; have h_ := blk_lt this; omega
        have HY := blk_far (blk_drew HKb.out) (p := ⟨w1.heap.size, J + i, none⟩) hgn (.int .u8 (Go.bits .xor .u8 (rd (curT by4 J i (bytesOf S)) ((J + i : Nat) : Int)) (by4.getD i 0)))
        have HZ : (wr.drew.setCell ⟨w1.heap.size, J + i, none⟩ (.int .u8 (Go.bits .xor .u8 (rd (curT by4 J i (bytesOf S)) ((J + i : Nat) : Int)) (by4.getD i 0)))).cell? ⟨go, Kn, none⟩ = some (.int .i64 e4) := (cell_far (a := ⟨go, Kn, none⟩) (p := ⟨w1.heap.size, J + i, none⟩) (Nat.ne_of_lt HGL.out) _).trans hce
        have hca2 := (blk_cell HY i).trans (at4t _ _ _ _ i (by omega))
        have HBS := below_set (j := J + i) (v := .int .u8 (Go.bits .xor .u8 (rd (curT by4 J i (bytesOf S)) ((J + i : Nat) : Int)) (by4.getD i 0))) (below_drew1 HBb.out) (below_size HB1.out)
        have hfi2 : wr.drew.frozen? ⟨w1.heap.size, J + i, none⟩ = false := (HBl2.cell (J + i) (by omega)).2
        have hci2 : wr.drew.cell? ⟨w1.heap.size, J + i, none⟩ = some (.int .u8 (rd (curT by4 J i (bytesOf S)) ((J + i : Nat) : Int))) := (HBl2.cell (J + i) (by omega)).1
        rw [← hbi] at hca2
        have hX : Bl (wr.drew.setCell ⟨w1.heap.size, J + i, none⟩ (.int .u8 (Go.bits .xor .u8 (rd (curT by4 J i (bytesOf S)) ((J + i : Nat) : Int)) (by4.getD i 0)))) 5 w1.heap.size (curT by4 J (i + 1) (bytesOf S)) := HX
        clear HX HBl2
        rw [hpc, ← hpN] at hX HY hca2 HBS hci2 HZ
        rw [← hpN] at hfi2
        rw [hpc, ← hpN] at hci
        rw [← hpN] at hfi
        have HX := Aside0.mk hX
        have HYA := Aside0.mk HY
        have HBSA := Aside0.mk HBS
        have HZA := Aside0.mk HZ
        clear hX HY HBS HZ
        have HPN := Aside0.mk hpN
        clear hI e1 e2 e3 e4' e5 f1 f2 f3 f4 hlen hbi hgn hpN hpc hmi2 hts
        have hw := HW0.out
        have hwe := HWE0.out
        have hw2 : IntKind.i64.wrap ((J : Int) + (i : Int)) = (J : Int) + (i : Int) := (i64_w _).trans hw
        have hwe2 : IntKind.i64.wrap (e4 - 4) = e0 := (i64_w _).trans hwe
        have hqq := HQ.out HTS.out
        cases ht : turT by4 i with
        | true =>
          rw [hmi, ht]
          clear hmi
          go_wp2
          go_still_tail 11, (by kernel_rfl)
          change wpList _ _ _ _ _ wr.drew
          generalize wr.drew = w2 at HX HYA HBSA HZA hca2 hfi2 hci2 ⊢
          go_wp2
          go_roundg k1
          case measure => omega
          case rel => exact ⟨i + 1, by rw [HMI2.out, turT, ht]; rfl, rfl, HI2, ⟨by rw [HMI2.out]; exact HX.out⟩, HYA, HZA, HBSA⟩
        | false =>
          rw [hmi, ht]
          clear hmi
          go_wp2
          go_still_tail 11, (by kernel_rfl)
          change wpList _ _ _ _ _ wr.drew
          generalize wr.drew = w2 at HX HYA HBSA HZA hca2 hfi2 hci2 ⊢
          have hca3 := hca2
          rw [HPN.out, List.getD_eq_getElem?_getD] at hca3
          go_wp2
          go_roundg k1
          case measure => omega
          case rel => exact ⟨i + 1, by rw [HMI2.out, turT, ht, List.getD_eq_getElem?_getD]; rfl, rfl, HI2, ⟨by rw [HMI2.out]; exact HX.out⟩, HYA, HZA, HBSA⟩
      · have d1 : decide ((J : Int) + (i : Int) < e0) = false := decide_eq_false (by omega)
        have hmin : min (i + 1) D = min i D := by omega
        have HMIN := Aside0.mk hmin
        clear hI e1 e2 e3 e4' e5 f1 f2 f3 f4 hmin hts
        have hw := HW0.out
        have hwe := HWE0.out
        have hw2 : IntKind.i64.wrap ((J : Int) + (i : Int)) = (J : Int) + (i : Int) := (i64_w _).trans hw
        have hwe2 : IntKind.i64.wrap (e4 - 4) = e0 := (i64_w _).trans hwe
        have hqq := HQ.out HTS.out
        generalize hT : turT by4 (min i D) = tu at *
        go_wp2
        go_roundg k1
        case measure => omega
        case rel => exact ⟨i + 1, by rw [HMIN.out, hT], rfl, HI2, ⟨by rw [HMIN.out]; exact HBl.out⟩, HKb, HCe, HBb⟩
end Go.Proofs.Ytlgcnpdikchllaa.XA
