import Derived.Test.YtcfkmcbmambchaakSXAx14
import Derived.Test.YtcfkmcbmambchaakSBytesRow
import Derived.StillTailTactics
import Derived.Deep.QuietTactic
import Derived.BigQuiet
import Derived.Outline
namespace Go.Proofs.YtcfkmcbmambchaaW.PrintWords
end Go.Proofs.YtcfkmcbmambchaaW.PrintWords
namespace Go.Proofs.YtcfkmcbmambchaaW.PrintLast
end Go.Proofs.YtcfkmcbmambchaaW.PrintLast
namespace Go.Proofs.YtcfkmcbmambchaaW.PrintMore
end Go.Proofs.YtcfkmcbmambchaaW.PrintMore
namespace Go.Proofs.Ytcfkmcbmambchaa.XW
end Go.Proofs.Ytcfkmcbmambchaa.XW
namespace Go.Proofs.Ytcfkmcbmambchaa.BytesRow
end Go.Proofs.Ytcfkmcbmambchaa.BytesRow
namespace Go.Proofs.Ytcfkmcbmambchaa.XA
open Go.RowKit Go.Proofs.YtcfkmcbmambchaaW.PrintWords Go.Proofs.YtcfkmcbmambchaaW.PrintLast Go.Proofs.YtcfkmcbmambchaaW.PrintMore Go.Proofs.Ytcfkmcbmambchaa.XW Go.Proofs.Ytcfkmcbmambchaa.BytesRow
attribute [local go_sem high] max2_str unary_xor_u32 leq_str geq_str gtr_str
attribute [local go_sem] max2_int min2_int max_two min_two max_three min_three max_four min_four
set_option linter.unusedVariables false
set_option linter.unusedSimpArgs false
def curT (by4 : List Int) (K : Nat) : Nat → List Int → List Int
  | 0, xs => xs
  | i + 1, xs => (curT by4 K i xs).set (K + i) (Go.bits .xor .u8 (rd (curT by4 K i xs) ((K + i : Nat) : Int)) (by4.getD i 0))
def turT (by4 : List Int) : Nat → Bool
  | 0 => false
  | i + 1 => turT by4 i || (by4.getD i 0 != 0)
theorem curT_len (by4 : List Int) (K : Nat) (xs : List Int) : ∀ i, (curT by4 K i xs).length = xs.length
  | 0 => rfl
  | i + 1 => by rw [curT, List.length_set, curT_len by4 K xs i]
theorem at4t (a b c d : Int) (i : Nat) (h : i < 4) : (#[Value.int .u8 a, .int .u8 b, .int .u8 c, .int .u8 d])[i]? = some (.int .u8 ([a, b, c, d].getD i 0)) := by
  match i, h with
  | 0, _ => rfl
  | 1, _ => rfl
  | 2, _ => rfl
  | 3, _ => rfl
set_option maxHeartbeats 6400000 in
set_option maxRecDepth 100000 in
theorem spoilt_calls (k : Nat) (A0 : Option Addr) (c0 : Nat) (l0 : List S36) (x a0 a1 a2 a3 : Int) (m1 : List S36) (S : ByteArray) (M Kn D m : Nat) (out : List S36) (er : Int) (w : World)
    (hr0 : Kd.C k36 w A0 l0.length l0) (hc0 : l0.length ≤ c0) (hli : sorrellaw09_light.f k l0 = some true) (hma : sorrellaw09_made.f k l0 = some m1) (hpu : block_Put.f k m1 = some (S, 0))
    (hM : (S.size : Int) - 4 = (M : Int)) (h5 : 1 ≤ M) (hS2 : S.size ≤ 100000) (hK : Int.tmod (Go.bits .and .i64 x 65535) (M : Int) = (Kn : Int)) (hD : Kn + D = M) (hm : m = min 4 D)
    (hfin : block_Take.f k (strOfNums (curT [a0, a1, a2, a3] Kn m (bytesOf S))) = some (out, er))
    (hyes : turT [a0, a1, a2, a3] m = true → er = 90 ∧ out = [])
    (hno : turT [a0, a1, a2, a3] m = false → er = 0 ∧ sorrelref04_Same.f k out m1 = some true) (haw : sorrellaw09_awake.f k = some true) :
    Calls Try.prog 7 #[.slice A0 l0.length c0, .int .i64 x, .agg #[.int .u8 a0, .int .u8 a1, .int .u8 a2, .int .u8 a3]] w fun e w' => e = .returned (.bool true) ∧ Below w.heap.size w w' := by
  have HR0 := Aside0.mk hr0
  have HC0 := Aside0.mk hc0
  have HLI := Aside0.mk hli
  have HMA := Aside0.mk hma
  have HPU := Aside0.mk hpu
  have HFIN := Aside0.mk hfin
  have HYES := Aside0.mk hyes
  have HNO := Aside0.mk hno
  have HAW := Aside0.mk haw
  have HMM := Aside0.mk hM
  have HS2 := Aside0.mk hS2
  have HD := Aside0.mk hD
  have l1 : ((M : Int) == 0) = false := beq_eq_false_iff_ne.mpr (by omega)
  have l1n : ¬ (M : Int) = 0 := by omega
  have l2 : decide ((S.size : Int) < 5) = false := decide_eq_false (by omega)
  have hwa : wrap64 ((S.size : Int) - 4) = (M : Int) := by unfold wrap64; omega
  have hwa2 : IntKind.i64.wrap ((S.size : Int) - 4) = (M : Int) := (i64_w _).trans hwa
  have HWA := Aside0.mk hwa
  have HWA2 := Aside0.mk hwa2
  have kb := fun W => print_bytes (P := Try.prog) 9 41 5 Try.underlying9 Try.underlying41 Try.underlying5 S W
  obtain ⟨by4, hby⟩ : ∃ l : List Int, l = [a0, a1, a2, a3] := ⟨_, rfl⟩
  have HBY := Aside0.mk hby
  rw [← hby] at HFIN HYES HNO
  have hk0 := heap_alloc_new w (.cells #[.int .u8 a0, .int .u8 a1, .int .u8 a2, .int .u8 a3] 40)
  have HK0 := Aside0.mk hk0
  have HB0 := Aside0.mk (below_alloc (Below.refl w.heap.size w) (.cells #[.int .u8 a0, .int .u8 a1, .int .u8 a2, .int .u8 a3] 40))
  have HRa := Aside0.mk (Kd.C_below HR0.out HB0.out)
  have HM4 : Aside0 (m ≤ 4 ∧ m ≤ D ∧ (m = 4 ∨ m = D)) := ⟨by omega⟩
  clear hr0 hc0 hli hma hpu hfin hyes hno haw hM h5 hS2 hD hby hk0 hm
  go_enter Try.func7, Try.ntmps7
  go_wp2_with (first | (go_at_call 9; (refine (sorrellaw09_light.calls k _ _ l0 true _ HRa.out HC0.out HLI.out).mono ?_); rintro e wl ⟨rfl, ⟨nl, rfl⟩⟩; have HRb := Aside0.mk (Kd.C_below HR0.out (pw_below_drewN HB0.out nl))) | (go_at_call 18; (refine (sorrellaw09_made.calls k _ _ l0 m1 _ HRb.out HC0.out HMA.out).mono ?_); rintro e w1 ⟨v1, rfl, ho1, hb1⟩; obtain ⟨A1, c1, hv1, hl1, hC1⟩ := Kd.R_reads ho1; subst hv1; have HL1 := Aside0.mk hl1; have HC1 := Aside0.mk hC1; have HB1 := Aside0.mk (below_step (pw_below_drewN HB0.out nl) hb1); have HK1 := Aside0.mk (blk_below (blk_drewN HK0.out nl) hb1); clear hb1 ho1 hl1 hC1) | (go_at_call 11; (refine (block_Put.calls k _ _ m1 S 0 _ HC1.out HL1.out HPU.out).mono ?_); rintro e w2 ⟨rfl, hb2⟩; have HB2 := Aside0.mk hb2; have HK2 := Aside0.mk (blk_below HK1.out hb2); clear hb2))
  have HBl := Aside0.mk (Bl.new w2 5 S)
  have HKb := Aside0.mk (blk_below HK2.out (bytes_below (Below.refl w2.heap.size w2) (Nat.le_refl _) 5 S))
  have HBb := Aside0.mk (bytes_below HB2.out (below_size HB2.out) 5 S)
  clear hwa hwa2 l2
  go_loopg [12, 13] m (fun kq v12 v13 w' => ∃ i : Nat, v12 = .bool (turT by4 i) ∧ v13 = .int .i64 (i : Int) ∧ Aside0 (i + kq = m) ∧ Aside0 (Bl w' 5 w2.heap.size (curT by4 Kn i (bytesOf S))) ∧ Aside0 (w'.heap[w.heap.size]? = some (.cells #[.int .u8 a0, .int .u8 a1, .int .u8 a2, .int .u8 a3] 40 (0, 0))) ∧ Aside0 (Below w1.heap.size w1 w'))
  case atStart => exact ⟨0, rfl, rfl, ⟨Nat.zero_add _⟩, HBl, HKb, HBb⟩
  case round =>
    clear HBl HKb HBb
    obtain ⟨i, rfl, rfl, HI, HBl, HKb, HBb⟩ := hrel
    cases gk with
    | zero =>
      have hI := HI.out
      obtain ⟨f1, f2, f3⟩ := HM4.out
      have e1 := HD.out
      have e2 := HMM.out
      have e3 := HS2.out
      obtain rfl : i = m := by omega
      have ht := HBl.out.text (P := Try.prog) 41 Try.underlying41 Try.underlying5 9 Try.underlying9 S.size (grownCap w2 S.size 0 5) (by rw [curT_len, bytesOf_length])
      have HRl := Aside0.mk (Kd.C_below HC1.out HBb.out)
      have HBw := Aside0.mk (below_step HB1.out HBb.out)
      have HW0 : Aside0 (wrap64 ((Kn : Int) + (i : Int)) = (Kn : Int) + (i : Int)) := ⟨by unfold wrap64; omega⟩
      generalize hT : turT by4 i = tu at *
      by_cases c4 : (i : Int) < 4
      · have c4b : decide ((i : Int) < 4) = true := decide_eq_true c4
        have c4n : decide (i < 4) = true := decide_eq_true (by omega)
        have c5b : decide ((Kn : Int) + (i : Int) < (M : Int)) = false := decide_eq_false (by omega)
        have c5n : decide (Kn + i < M) = false := decide_eq_false (by omega)
        clear f1 f2 f3 hI e1 e2 e3
        have hw := HW0.out
        have hw2 : IntKind.i64.wrap ((Kn : Int) + (i : Int)) = (Kn : Int) + (i : Int) := (i64_w _).trans hw
        have hwa := HWA.out
        have hwa2 := HWA2.out
        cases tu with
        | true =>
          clear hT
          obtain ⟨rfl, rfl⟩ := HYES.out rfl
          go_wp2_with (first | (go_at_call 15; (refine (block_Take.calls k _ _ _ _ HFIN.out).mono ?_); rintro e w5 ⟨v5, rfl, ho5, hb5⟩; obtain ⟨A5, c5, hv5, hl5, hC5⟩ := Kd.R_reads ho5; subst hv5; have HB5 := Aside0.mk (below_step HBw.out hb5); clear hb5 hl5 hC5 ho5) | (go_at_call 10; (refine (sorrellaw09_awake.calls k true _ HAW.out).mono ?_); rintro e w7 ⟨rfl, hb7⟩; have HB7 := Aside0.mk (below_step HB5.out hb7); clear hb7))
          go_ret
          exact ⟨by first | rfl | simp, HB7.out⟩
        | false =>
          clear hT
          obtain ⟨rfl, hsame⟩ := HNO.out rfl
          have HSA := Aside0.mk hsame
          clear hsame
          go_wp2_with (first | (go_at_call 15; (refine (block_Take.calls k _ _ _ _ HFIN.out).mono ?_); rintro e w5 ⟨v5, rfl, ho5, hb5⟩; obtain ⟨A5, c5, hv5, hl5, hC5⟩ := Kd.R_reads ho5; subst hv5; have HL5 := Aside0.mk hl5; have HC5 := Aside0.mk hC5; have HR5 := Aside0.mk (Kd.C_below HRl.out hb5); have HB5 := Aside0.mk (below_step HBw.out hb5); clear hb5 hl5 hC5 ho5) | (go_at_call 17; (refine (sorrelref04_Same.calls k _ _ out _ _ m1 true _ HC5.out HL5.out HR5.out HL1.out HSA.out).mono ?_); rintro e w6 ⟨rfl, ⟨nd, rfl⟩⟩) | (go_at_call 10; (refine (sorrellaw09_awake.calls k true _ HAW.out).mono ?_); rintro e w7 ⟨rfl, hb7⟩; have HB7 := Aside0.mk (below_step (pw_below_drewN HB5.out nd) hb7); clear hb7))
          go_ret
          exact ⟨by first | rfl | simp, HB7.out⟩
      · have c4b : decide ((i : Int) < 4) = false := decide_eq_false c4
        have c4n : decide (i < 4) = false := decide_eq_false (by omega)
        clear f1 f2 f3 hI e1 e2 e3
        cases tu with
        | true =>
          clear hT
          obtain ⟨rfl, rfl⟩ := HYES.out rfl
          go_wp2_with (first | (go_at_call 15; (refine (block_Take.calls k _ _ _ _ HFIN.out).mono ?_); rintro e w5 ⟨v5, rfl, ho5, hb5⟩; obtain ⟨A5, c5, hv5, hl5, hC5⟩ := Kd.R_reads ho5; subst hv5; have HB5 := Aside0.mk (below_step HBw.out hb5); clear hb5 hl5 hC5 ho5) | (go_at_call 10; (refine (sorrellaw09_awake.calls k true _ HAW.out).mono ?_); rintro e w7 ⟨rfl, hb7⟩; have HB7 := Aside0.mk (below_step HB5.out hb7); clear hb7))
          go_ret
          exact ⟨by first | rfl | simp, HB7.out⟩
        | false =>
          clear hT
          obtain ⟨rfl, hsame⟩ := HNO.out rfl
          have HSA := Aside0.mk hsame
          clear hsame
          go_wp2_with (first | (go_at_call 15; (refine (block_Take.calls k _ _ _ _ HFIN.out).mono ?_); rintro e w5 ⟨v5, rfl, ho5, hb5⟩; obtain ⟨A5, c5, hv5, hl5, hC5⟩ := Kd.R_reads ho5; subst hv5; have HL5 := Aside0.mk hl5; have HC5 := Aside0.mk hC5; have HR5 := Aside0.mk (Kd.C_below HRl.out hb5); have HB5 := Aside0.mk (below_step HBw.out hb5); clear hb5 hl5 hC5 ho5) | (go_at_call 17; (refine (sorrelref04_Same.calls k _ _ out _ _ m1 true _ HC5.out HL5.out HR5.out HL1.out HSA.out).mono ?_); rintro e w6 ⟨rfl, ⟨nd, rfl⟩⟩) | (go_at_call 10; (refine (sorrellaw09_awake.calls k true _ HAW.out).mono ?_); rintro e w7 ⟨rfl, hb7⟩; have HB7 := Aside0.mk (below_step (pw_below_drewN HB5.out nd) hb7); clear hb7))
          go_ret
          exact ⟨by first | rfl | simp, HB7.out⟩
    | succ k1 =>
      have hI := HI.out
      obtain ⟨f1, f2, f3⟩ := HM4.out
      have e1 := HD.out
      have e2 := HMM.out
      have e3 := HS2.out
      have c4b : decide ((i : Int) < 4) = true := decide_eq_true (by omega)
      have c4n : decide (i < 4) = true := decide_eq_true (by omega)
      have c4p : ((i : Int) < 4) = True := eq_true (by omega)
      have c4q : (i < 4) = True := eq_true (by omega)
      have c4r : i < 4 := by omega
      have c4s : (i : Int) < 4 := by omega
      have c4t : 0 ≤ (i : Int) := by omega
      have c5b : decide ((Kn : Int) + (i : Int) < (M : Int)) = true := decide_eq_true (by omega)
      have HW0 : Aside0 (wrap64 ((Kn : Int) + (i : Int)) = (Kn : Int) + (i : Int)) := ⟨by unfold wrap64; omega⟩
      have HI2 : Aside0 (i + 1 + k1 = m) := ⟨by omega⟩
      clear hK
      have hlen : (curT by4 Kn i (bytesOf S)).length = S.size := by rw [curT_len, bytesOf_length]
      have hpN : ((Kn : Int) + (i : Int)).toNat = Kn + i := by omega
      have hpc : ((Kn + i : Nat) : Int) = (Kn : Int) + (i : Int) := Int.natCast_add _ _
      have p1 : (0 ≤ (Kn : Int) + (i : Int)) = True := eq_true (by omega)
      have p2 : ((Kn : Int) + (i : Int) < (S.size : Int)) = True := eq_true (by omega)
      have p1b : decide (0 ≤ (Kn : Int) + (i : Int)) = true := decide_eq_true (by omega)
      have p2b : decide ((Kn : Int) + (i : Int) < (S.size : Int)) = true := decide_eq_true (by omega)
      have hbi : by4.getD i 0 = [a0, a1, a2, a3].getD i 0 := by rw [HBY.out]
      have hca : wr.cell? ⟨w.heap.size, i, none⟩ = some (.int .u8 (by4.getD i 0)) := by rw [hbi]; exact (blk_cell HKb.out i).trans (at4t _ _ _ _ i (by omega))
      have hci := (HBl.out.cell (Kn + i) (by omega)).1
      have hfi := (HBl.out.cell (Kn + i) (by omega)).2
      have HBl2 : Bl wr.drew 5 w2.heap.size (curT by4 Kn i (bytesOf S)) := HBl.out.keep rfl
      have HX := HBl2.put (Kn + i) (Go.bits .xor .u8 (rd (curT by4 Kn i (bytesOf S)) ((Kn + i : Nat) : Int)) (by4.getD i 0)) (by omega)
      have hgn : w.heap.size ≠ w2.heap.size := by have := HB2.out.size; have := HK1.out; intro e; have h_ := blk_lt this; omega
      have HY := blk_far (blk_drew HKb.out) (p := ⟨w2.heap.size, Kn + i, none⟩) hgn (.int .u8 (Go.bits .xor .u8 (rd (curT by4 Kn i (bytesOf S)) ((Kn + i : Nat) : Int)) (by4.getD i 0)))
      have hca2 := (blk_cell HY i).trans (at4t _ _ _ _ i (by omega))
      have HBS := below_set (j := Kn + i) (v := .int .u8 (Go.bits .xor .u8 (rd (curT by4 Kn i (bytesOf S)) ((Kn + i : Nat) : Int)) (by4.getD i 0))) (below_drew1 HBb.out) (below_size HB2.out)
      have hfi2 : wr.drew.frozen? ⟨w2.heap.size, Kn + i, none⟩ = false := (HBl2.cell (Kn + i) (by omega)).2
      have hci2 : wr.drew.cell? ⟨w2.heap.size, Kn + i, none⟩ = some (.int .u8 (rd (curT by4 Kn i (bytesOf S)) ((Kn + i : Nat) : Int))) := (HBl2.cell (Kn + i) (by omega)).1
      rw [← hbi] at hca2
      have hX : Bl (wr.drew.setCell ⟨w2.heap.size, Kn + i, none⟩ (.int .u8 (Go.bits .xor .u8 (rd (curT by4 Kn i (bytesOf S)) ((Kn + i : Nat) : Int)) (by4.getD i 0)))) 5 w2.heap.size (curT by4 Kn (i + 1) (bytesOf S)) := HX
      clear HX HBl2
      rw [hpc, ← hpN] at hX HY hca2 HBS hci2
      rw [← hpN] at hfi2
      rw [hpc, ← hpN] at hci
      rw [← hpN] at hfi
      have HX := Aside0.mk hX
      have HYA := Aside0.mk HY
      have HBSA := Aside0.mk HBS
      clear hX HY HBS
      have HPN := Aside0.mk hpN
      clear hI e1 e2 e3 f1 f2 f3 hlen hbi hgn hpN hpc
      have hw := HW0.out
      have hwa := HWA.out
      have hwa2 := HWA2.out
      have hw2 : IntKind.i64.wrap ((Kn : Int) + (i : Int)) = (Kn : Int) + (i : Int) := (i64_w _).trans hw
      cases ht : turT by4 i with
      | true =>
        go_wp2
        go_still_tail 15, (by kernel_rfl)
        change wpList _ _ _ _ _ wr.drew
        generalize wr.drew = w3 at HX HYA HBSA hca2 hfi2 hci2 ⊢
        go_wp2
        go_roundg k1
        case measure => omega
        case rel => exact ⟨i + 1, by rw [turT, ht]; rfl, rfl, HI2, HX, HYA, HBSA⟩
      | false =>
        go_wp2
        go_still_tail 15, (by kernel_rfl)
        change wpList _ _ _ _ _ wr.drew
        generalize wr.drew = w3 at HX HYA HBSA hca2 hfi2 hci2 ⊢
        have hca3 := hca2
        rw [HPN.out, List.getD_eq_getElem?_getD] at hca3
        go_wp2
        go_roundg k1
        case measure => omega
        case rel => exact ⟨i + 1, by rw [turT, ht, List.getD_eq_getElem?_getD]; rfl, rfl, HI2, HX, HYA, HBSA⟩
set_option maxHeartbeats 1600000 in
set_option maxRecDepth 100000 in
theorem spoilt_awake (k : Nat) (A0 : Option Addr) (c0 : Nat) (l0 : List S36) (x a0 a1 a2 a3 : Int) (w : World) (hr0 : Kd.C k36 w A0 l0.length l0) (hc0 : l0.length ≤ c0)
    (hli : sorrellaw09_light.f k l0 = some false) (haw : sorrellaw09_awake.f k = some true) :
    Calls Try.prog 7 #[.slice A0 l0.length c0, .int .i64 x, .agg #[.int .u8 a0, .int .u8 a1, .int .u8 a2, .int .u8 a3]] w fun e w' => e = .returned (.bool true) ∧ Below w.heap.size w w' := by
  have HC0 := Aside0.mk hc0
  have HLI := Aside0.mk hli
  have HAW := Aside0.mk haw
  have HB0 := Aside0.mk (below_alloc (Below.refl w.heap.size w) (.cells #[.int .u8 a0, .int .u8 a1, .int .u8 a2, .int .u8 a3] 40))
  have HRa := Aside0.mk (Kd.C_below hr0 HB0.out)
  clear hr0 hc0 hli haw
  go_enter Try.func7, Try.ntmps7
  go_wp2_with (first | (go_at_call 9; (refine (sorrellaw09_light.calls k _ _ l0 false _ HRa.out HC0.out HLI.out).mono ?_); rintro e wl ⟨rfl, ⟨nl, rfl⟩⟩) | (go_at_call 10; (refine (sorrellaw09_awake.calls k true _ HAW.out).mono ?_); rintro e w7 ⟨rfl, hb7⟩; have HB7 := Aside0.mk (below_step (pw_below_drewN HB0.out nl) hb7); clear hb7))
  go_ret
  exact ⟨rfl, HB7.out⟩
end Go.Proofs.Ytcfkmcbmambchaa.XA
