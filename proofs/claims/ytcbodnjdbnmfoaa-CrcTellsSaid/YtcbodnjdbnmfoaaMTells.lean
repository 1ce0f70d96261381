import Derived.Test.YtcbodnjdbnmfoaaXAx2
import Derived.Test.YtcbodnjdbnmfoaaXAx3
import Derived.Test.YtcbodnjdbnmfoaaBytesRow
import Derived.StillTailTactics
namespace Go.Proofs.Ytcbodnjdbnmfoaa.XA
open Go.RowKit Go.Proofs.YtcbodnjdbnmfoaaW.PrintWords Go.Proofs.YtcbodnjdbnmfoaaW.PrintLast Go.Proofs.YtcbodnjdbnmfoaaW.PrintMore Go.Proofs.Ytcbodnjdbnmfoaa.XW Go.Proofs.Ytcbodnjdbnmfoaa.BytesRow
attribute [local go_sem high] max2_str unary_xor_u32 leq_str geq_str gtr_str
attribute [local go_sem] max2_int min2_int max_two min_two max_three min_three max_four min_four
set_option linter.unusedVariables false
set_option linter.unusedSimpArgs false
/-- The bytes behind i rounds; and whether any was turned. -/
def curT (by4 : List Int) (K : Nat) : Nat → List Int → List Int
  | 0, xs => xs
  | i + 1, xs => (curT by4 K i xs).set (K + i) (Go.bits .xor .u8 (rd (curT by4 K i xs) ((K + i : Nat) : Int)) (by4.getD i 0))
def turT (by4 : List Int) : Nat → Bool
  | 0 => false
  | i + 1 => turT by4 i || (by4.getD i 0 != 0)
theorem curT_len (by4 : List Int) (K : Nat) (xs : List Int) : ∀ i, (curT by4 K i xs).length = xs.length
  | 0 => rfl
  | i + 1 => by rw [curT, List.length_set, curT_len by4 K xs i]
theorem at4t (a b c d : Int) (i : Nat) (h : i < 4) : (#[Value.int .u8 a, .int .u8 b, .int .u8 c, .int .u8 d])[i]? = some (.int .u8 ([a, b, c, d].getD i 0)) := by
  match i, h with
  | 0, _ => rfl
  | 1, _ => rfl
  | 2, _ => rfl
  | 3, _ => rfl
set_option maxHeartbeats 3200000 in
set_option maxRecDepth 100000 in
theorem tells_calls (k : Nat) (s : ByteArray) (x a0 a1 a2 a3 : Int) (K n : Nat) (z : ByteArray) (c : Bool) (w : World)
    (h0 : s.size ≠ 0) (h1 : s.size ≤ 4096) (hK : Int.tmod (Go.bits .and .i64 x 65535) (s.size : Int) = (K : Int)) (hKl : K < s.size) (hn4 : n ≤ 4) (hKn : K + n ≤ s.size) (hne : n = 4 ∨ K + n = s.size)
    (hz : crc_Seal.f k s = some z) (hzs : z.size = s.size + 4)
    (hc : crc_Check.f k (strOfNums (curT [a0, a1, a2, a3] K n (bytesOf z))) = some c) (hlaw : (c != turT [a0, a1, a2, a3] n) = true) (hs : sorrellaw02_seals.f k = some true) :
    Calls Try.prog 8 #[.string s, .int .i64 x, .agg #[.int .u8 a0, .int .u8 a1, .int .u8 a2, .int .u8 a3]] w fun e w' => e = .returned (.bool true) ∧ Below w.heap.size w w' := by
  have HZ := Aside0.mk hz
  have HZS := Aside0.mk hzs
  have HC := Aside0.mk hc
  have HL := Aside0.mk hlaw
  have HS := Aside0.mk hs
  have HN4 := Aside0.mk hn4
  have HKN := Aside0.mk hKn
  have HNE := Aside0.mk hne
  have HKL := Aside0.mk hKl
  have H1 := Aside0.mk h1
  have q0 : ((s.size : Int) == 0) = false := beq_eq_false_iff_ne.mpr (by omega)
  have q1 : decide (4096 < (s.size : Int)) = false := decide_eq_false (by omega)
  have q1b : decide (4096 < s.size) = false := decide_eq_false (by omega)
  have q2 : ((z.size : Int) != (s.size : Int) + 4) = false := bne_eq_false_iff_eq.mpr (by omega)
  have q2b : ((z.size : Int) == (s.size : Int) + 4) = true := beq_iff_eq.mpr (by omega)
  have q3 : ¬ (s.size : Int) = 0 := by omega
  have kb := fun W => print_bytes (P := Try.prog) 9 28 5 Try.underlying9 Try.underlying28 Try.underlying5 z W
  obtain ⟨by4, hby⟩ : ∃ l : List Int, l = [a0, a1, a2, a3] := ⟨_, rfl⟩
  have HBY := Aside0.mk hby
  rw [← hby] at HC HL
  have hk0 := heap_alloc_new w (.cells #[.int .u8 a0, .int .u8 a1, .int .u8 a2, .int .u8 a3] 27)
  have HK0 := Aside0.mk hk0
  have HB0 := Aside0.mk (below_alloc (Below.refl w.heap.size w) (.cells #[.int .u8 a0, .int .u8 a1, .int .u8 a2, .int .u8 a3] 27))
  have q4 : wrap64 ((s.size : Int) + 4) = (s.size : Int) + 4 := by unfold wrap64; omega
  clear hz hzs hc hlaw hs hn4 hKn hne hKl h1 h0 hby hk0
  go_enter Try.func8, Try.ntmps8
  go_wp2_with (go_at_call 15; go_loud ((refine (crc_Seal.calls k s z _ HZ.out).mono ?_); rintro e w1 ⟨rfl, hb1⟩; have HB1 := Aside0.mk (below_step HB0.out hb1); have HK1 := Aside0.mk (blk_below HK0.out hb1); clear hb1))
  obtain ⟨g, hg⟩ : ∃ g : Nat, g = w1.heap.size := ⟨_, rfl⟩
  have HBl := Aside0.mk (Bl.new w1 5 z)
  have HKb := Aside0.mk (blk_below HK1.out (bytes_below (Below.refl w1.heap.size w1) (Nat.le_refl _) 5 z))
  have HBb := Aside0.mk (bytes_below HB1.out (below_size HB1.out) 5 z)
  clear q4 q2 q2b
  go_loopg [9, 10] n (fun kq v9 v10 w' => ∃ i : Nat, v9 = .bool (turT by4 i) ∧ v10 = .int .i64 (i : Int) ∧ Aside0 (i + kq = n) ∧ Aside0 (Bl w' 5 w1.heap.size (curT by4 K i (bytesOf z))) ∧ Aside0 (w'.heap[w.heap.size]? = some (.cells #[.int .u8 a0, .int .u8 a1, .int .u8 a2, .int .u8 a3] 27 (0, 0))) ∧ Aside0 (Below w.heap.size w w'))
  case atStart => exact ⟨0, rfl, rfl, ⟨Nat.zero_add _⟩, HBl, HKb, HBb⟩
  case round =>
    clear HBl HKb HBb
    obtain ⟨i, rfl, rfl, HI, HBl, HKb, HBb⟩ := hrel
    cases gk with
    | zero =>
      have hI := HI.out
      have e1 := HKN.out
      have e2 := HNE.out
      obtain rfl : i = n := by omega
      have hw : wrap64 ((K : Int) + (i : Int)) = (K : Int) + (i : Int) := by have := H1.out; have := HN4.out; unfold wrap64; omega
      have hw2 : IntKind.i64.wrap ((K : Int) + (i : Int)) = (K : Int) + (i : Int) := (i64_w _).trans hw
      have HT := Aside0.mk (HBl.out.text (P := Try.prog) 28 Try.underlying28 Try.underlying5 9 Try.underlying9 z.size (grownCap w1 z.size 0 5) (by rw [curT_len, bytesOf_length]))
      have ht := HT.out
      have hl := HL.out
      have hl2 : (!(c == turT by4 i)) = true := hl
      have hl3 : (c == turT by4 i) = false := by simpa using hl2
      have t1 : decide ((i : Int) < 4 ∧ (K : Int) + (i : Int) < (s.size : Int)) = false := decide_eq_false (by omega)
      by_cases c4 : (i : Int) < 4
      · have c4b : decide ((i : Int) < 4) = true := decide_eq_true c4
        have c5b : decide ((K : Int) + (i : Int) < (s.size : Int)) = false := decide_eq_false (by omega)
        clear e1 e2 hI t1
        go_wp2_with (first | (go_at_call 17; (refine (crc_Check.calls k _ c _ HC.out).mono ?_); rintro e w5 ⟨rfl, hb5⟩; have HB5 := Aside0.mk (below_step HBb.out hb5); clear hb5) | (go_at_call 14; (refine (sorrellaw02_seals.calls k true _ HS.out).mono ?_); rintro e w6 ⟨rfl, hb6⟩; have HB6 := Aside0.mk (below_step HB5.out hb6); clear hb6))
        go_ret
        exact ⟨by first | rfl | simp, HB6.out⟩
      · have c4b : decide ((i : Int) < 4) = false := decide_eq_false c4
        clear e1 e2 hI t1
        go_wp2_with (first | (go_at_call 17; (refine (crc_Check.calls k _ c _ HC.out).mono ?_); rintro e w5 ⟨rfl, hb5⟩; have HB5 := Aside0.mk (below_step HBb.out hb5); clear hb5) | (go_at_call 14; (refine (sorrellaw02_seals.calls k true _ HS.out).mono ?_); rintro e w6 ⟨rfl, hb6⟩; have HB6 := Aside0.mk (below_step HB5.out hb6); clear hb6))
        go_ret
        exact ⟨by first | rfl | simp, HB6.out⟩
    | succ k1 =>
      have hI := HI.out
      have e1 := HKN.out
      have e2 := HN4.out
      have e3 := H1.out
      have e4 := HZS.out
      have hlen : (curT by4 K i (bytesOf z)).length = z.size := by rw [curT_len, bytesOf_length]
      have hpN : ((K : Int) + (i : Int)).toNat = K + i := by omega
      have hpc : ((K + i : Nat) : Int) = (K : Int) + (i : Int) := Int.natCast_add _ _
      have c4b : decide ((i : Int) < 4) = true := decide_eq_true (by omega)
      have c4n : decide (i < 4) = true := decide_eq_true (by omega)
      have c4p : ((i : Int) < 4) = True := eq_true (by omega)
      have c4q : (i < 4) = True := eq_true (by omega)
      have c4r : i < 4 := by omega
      have c4s : (i : Int) < 4 := by omega
      have c4t : 0 ≤ (i : Int) := by omega
      have c5b : decide ((K : Int) + (i : Int) < (s.size : Int)) = true := decide_eq_true (by omega)
      have p1 : (0 ≤ (K : Int) + (i : Int)) = True := eq_true (by omega)
      have p2 : ((K : Int) + (i : Int) < (z.size : Int)) = True := eq_true (by omega)
      have p1b : decide (0 ≤ (K : Int) + (i : Int)) = true := decide_eq_true (by omega)
      have p2b : decide ((K : Int) + (i : Int) < (z.size : Int)) = true := decide_eq_true (by omega)
      have hbi : by4.getD i 0 = [a0, a1, a2, a3].getD i 0 := by rw [HBY.out]
      have hca : wr.cell? ⟨w.heap.size, i, none⟩ = some (.int .u8 (by4.getD i 0)) := by rw [hbi]; exact (blk_cell HKb.out i).trans (at4t _ _ _ _ i (by omega))
      have hci := (HBl.out.cell (K + i) (by omega)).1
      have hfi := (HBl.out.cell (K + i) (by omega)).2
      have HBl2 : Bl wr.drew 5 w1.heap.size (curT by4 K i (bytesOf z)) := HBl.out.keep rfl
      have HX := HBl2.put (K + i) (Go.bits .xor .u8 (rd (curT by4 K i (bytesOf z)) ((K + i : Nat) : Int)) (by4.getD i 0)) (by omega)
      have hgn : w.heap.size ≠ w1.heap.size := by have := HB1.out.size; have := HK1.out; intro e; have h_ := blk_lt this; omega
      have HY := blk_far (blk_drew HKb.out) (p := ⟨w1.heap.size, K + i, none⟩) hgn (.int .u8 (Go.bits .xor .u8 (rd (curT by4 K i (bytesOf z)) ((K + i : Nat) : Int)) (by4.getD i 0)))
      have hca2 := (blk_cell HY i).trans (at4t _ _ _ _ i (by omega))
      have HBS := below_set (j := K + i) (v := .int .u8 (Go.bits .xor .u8 (rd (curT by4 K i (bytesOf z)) ((K + i : Nat) : Int)) (by4.getD i 0))) (below_drew1 HBb.out) (below_size HB1.out)
      have hfi2 : wr.drew.frozen? ⟨w1.heap.size, K + i, none⟩ = false := (HBl2.cell (K + i) (by omega)).2
      have hci2 : wr.drew.cell? ⟨w1.heap.size, K + i, none⟩ = some (.int .u8 (rd (curT by4 K i (bytesOf z)) ((K + i : Nat) : Int))) := (HBl2.cell (K + i) (by omega)).1
      rw [← hbi] at hca2
      have hX : Bl (wr.drew.setCell ⟨w1.heap.size, K + i, none⟩ (.int .u8 (Go.bits .xor .u8 (rd (curT by4 K i (bytesOf z)) ((K + i : Nat) : Int)) (by4.getD i 0)))) 5 w1.heap.size (curT by4 K (i + 1) (bytesOf z)) := HX
      clear HX HBl2
      rw [hpc, ← hpN] at hX HY hca2 HBS hci2
      rw [← hpN] at hfi2
      rw [hpc, ← hpN] at hci
      rw [← hpN] at hfi
      have HX := Aside0.mk hX
      have HYA := Aside0.mk HY
      have HBSA := Aside0.mk HBS
      clear hX HY HBS
      have HPN := Aside0.mk hpN
      have HPC := Aside0.mk hpc
      have HI2 : Aside0 (i + 1 + k1 = n) := ⟨by omega⟩
      have hw : wrap64 ((K : Int) + (i : Int)) = (K : Int) + (i : Int) := by unfold wrap64; omega
      have hw2 : IntKind.i64.wrap ((K : Int) + (i : Int)) = (K : Int) + (i : Int) := (i64_w _).trans hw
      clear hI e1 e2 e3 e4 hlen hbi hgn hpN hpc
      cases ht : turT by4 i with
      | true =>
        go_wp2
        go_still_tail 15, (by kernel_rfl)
        change wpList _ _ _ _ _ wr.drew
        generalize wr.drew = w2 at HX HYA HBSA hca2 hfi2 hci2 ⊢
        go_wp2
        go_roundg k1
        case measure => omega
        case rel => exact ⟨i + 1, by rw [turT, ht]; rfl, rfl, HI2, HX, HYA, HBSA⟩
      | false =>
        go_wp2
        go_still_tail 15, (by kernel_rfl)
        change wpList _ _ _ _ _ wr.drew
        generalize wr.drew = w2 at HX HYA HBSA hca2 hfi2 hci2 ⊢
        have hca3 := hca2
        rw [HPN.out, List.getD_eq_getElem?_getD] at hca3
        go_wp2
        go_roundg k1
        case measure => omega
        case rel => exact ⟨i + 1, by rw [turT, ht, List.getD_eq_getElem?_getD]; rfl, rfl, HI2, HX, HYA, HBSA⟩
end Go.Proofs.Ytcbodnjdbnmfoaa.XA
