import Derived.WalkSpells
import Derived.Test.YtgcehbigcokpaaakPMBag1
namespace Go.Proofs.YtgcehbigcokpaaaW.PrintWords
end Go.Proofs.YtgcehbigcokpaaaW.PrintWords
namespace Go.Proofs.YtgcehbigcokpaaaW.PrintLast
end Go.Proofs.YtgcehbigcokpaaaW.PrintLast
namespace Go.Proofs.YtgcehbigcokpaaaW.PrintMore
end Go.Proofs.YtgcehbigcokpaaaW.PrintMore
namespace Go.Proofs.Ytgcehbigcokpaaa.XW
end Go.Proofs.Ytgcehbigcokpaaa.XW
namespace Go.Proofs.Ytgcehbigcokpaaa.XA
open Go.RowKit Go.Proofs.YtgcehbigcokpaaaW.PrintWords Go.Proofs.YtgcehbigcokpaaaW.PrintLast Go.Proofs.YtgcehbigcokpaaaW.PrintMore Go.Proofs.Ytgcehbigcokpaaa.XW
attribute [local go_sem high] max2_str unary_xor_u32 leq_str geq_str gtr_str
attribute [local go_sem] max2_int min2_int max_two min_two max_three min_three max_four min_four
set_option linter.unusedVariables false
set_option linter.unusedSimpArgs false
set_option maxHeartbeats 1600000 in
set_option maxRecDepth 100000 in
theorem has1_calls (gx g b0 : Nat) (ps : List Int) (m : Int → List S30) (n : Int) (W : World) (hx : W.heap[gx]? = some (.cells #[.pointer (some ⟨g, 0, none⟩)] 23 (0, 0))) (hB : Bag W b0 g ps m) :
    Calls Try.prog 31 #[.int .i64 n, .pointer (some ⟨gx, 0, none⟩)] W fun e w' => e = .returned (.bool (!decide (n ∈ ps))) ∧ w' = W := by
  obtain ⟨q, V, hg, -, -, hps, -⟩ := hB
  obtain ⟨A, c, rfl, hlc, hC⟩ := Kd.R_reads hps
  have HC := Aside0.mk hC
  have hc0 : W.cell? ⟨gx, 0, none⟩ = some (.pointer (some ⟨g, 0, none⟩)) := (blk_cell hx 0).trans rfl
  have hc1 : W.cell? ⟨g, 1, none⟩ = some (.slice A ps.length c) := (blk_cell hg 1).trans rfl
  clear hx hg hps hlc hC
  go_enter Try.func31, Try.ntmps31
  go_wp2_with (go_at_call 32; (refine (contains_calls _ _ ps n _ HC.out).mono ?_); rintro e w2 ⟨rfl, rfl⟩)
  go_ret
  exact ⟨rfl, rfl⟩
set_option maxHeartbeats 1600000 in
set_option maxRecDepth 100000 in
theorem bag_index_calls (gx g b0 : Nat) (ps : List Int) (m : Int → List S30) (A0 : Option Addr) (c0 : Nat) (l0 : List Int) (W : World) (hx : W.heap[gx]? = some (.cells #[.pointer (some ⟨g, 0, none⟩)] 23 (0, 0))) (hB : Bag W b0 g ps m) (hr : Kd.C (Kd.int .i64) W A0 l0.length l0) :
    Calls Try.prog 33 #[.slice A0 l0.length c0, .func (Fn.func 31) #[] #[.pointer (some ⟨gx, 0, none⟩)]] W fun e w' => (∃ r : Int, e = .returned (.int .i64 r) ∧ (0 ≤ r ↔ ∃ n ∈ l0, n ∉ ps)) ∧ w' = W := by
  have HR := Aside0.mk hr
  have HX := Aside0.mk hx
  have HB := Aside0.mk hB
  have HN := Aside0.mk (Kd.C_max hr)
  clear hr hx hB
  go_enter Try.func33, Try.ntmps33
  go_wp2
  go_loopg [8] l0.length (fun kq v8 w' => ∃ (i : Nat), v8 = .int .i64 (i : Int) ∧ Aside0 (i + kq = l0.length) ∧ Aside0 (∀ n ∈ l0.take i, n ∈ ps) ∧ Aside0 (w' = W))
  case atStart => exact ⟨0, rfl, ⟨Nat.zero_add _⟩, ⟨by simp⟩, ⟨rfl⟩⟩
  case round =>
    obtain ⟨i, rfl, HI, HA, HW⟩ := hrel
    have hw' := HW.out
    subst hw'
    have hI := HI.out
    have hn := HN.out
    cases gk with
    | zero =>
      have c1b : decide ((i : Int) < (l0.length : Int)) = false := decide_eq_false (by omega)
      have c1n : decide (i < l0.length) = false := decide_eq_false (by omega)
      have hA := HA.out
      rw [List.take_of_length_le (by omega)] at hA
      have HA2 := Aside0.mk hA
      clear hI hn hA
      go_wp2
      go_ret
      exact ⟨⟨_, rfl, ⟨fun h => absurd h (by decide), fun ⟨n, h1, h2⟩ => absurd (HA2.out n h1) h2⟩⟩, rfl⟩
    | succ k1 =>
      have hlt : i < l0.length := by omega
      have c1b : decide ((i : Int) < (l0.length : Int)) = true := decide_eq_true (by omega)
      have c1n : decide (i < l0.length) = true := decide_eq_true (by omega)
      have q1 : (i < l0.length) = True := eq_true (by omega)
      obtain ⟨ad, ea, hc⟩ := Kd.at_int HR.out (i : Int) (by omega) (by omega)
      subst ea
      rw [Int.toNat_natCast] at hc
      have hrd : rd l0 (i : Int) = l0[i] := by unfold rd; rw [Int.toNat_natCast, List.getD_eq_getElem?_getD, List.getElem?_eq_getElem hlt]; rfl
      have hw : wrap64 ((i : Int) + 1) = ((i + 1 : Nat) : Int) := by unfold wrap64; omega
      have HW1 := Aside0.mk hw
      have HI2 : Aside0 (i + 1 + k1 = l0.length) := ⟨by omega⟩
      rw [hrd] at hc
      obtain ⟨x, hxe⟩ : ∃ x, l0[i] = x := ⟨_, rfl⟩
      rw [hxe] at hc
      have HXE := Aside0.mk hxe
      by_cases c2 : x ∈ ps
      · have HA2 : Aside0 (∀ n ∈ l0.take (i + 1), n ∈ ps) := ⟨by
          intro n hn'
          rw [List.take_succ_eq_append_getElem hlt, List.mem_append, List.mem_singleton] at hn'
          rcases hn' with h | h
          · exact HA.out n h
          · rw [h, hxe]; exact c2⟩
        have p2 : decide (x ∈ ps) = true := decide_eq_true c2
        clear hI hn hrd hw hxe
        go_wp2_with (go_at_call 31; (refine (has1_calls gx g b0 ps m x _ HX.out HB.out).mono ?_); rintro e w2 ⟨rfl, rfl⟩; rw [p2])
        go_roundg k1
        case measure => omega
        case rel => exact ⟨i + 1, by first | (rw [HW1.out]; done) | exact congrArg (Value.int .i64) HW1.out, HI2, HA2, ⟨rfl⟩⟩
      · have HM : Aside0 (∃ n ∈ l0, n ∉ ps) := ⟨⟨x, by rw [← hxe]; exact List.getElem_mem hlt, c2⟩⟩
        have p2 : decide (x ∈ ps) = false := decide_eq_false c2
        clear hI hn hrd hw hxe
        go_wp2_with (go_at_call 31; (refine (has1_calls gx g b0 ps m x _ HX.out HB.out).mono ?_); rintro e w2 ⟨rfl, rfl⟩; rw [p2])
        go_ret
        exact ⟨⟨_, rfl, ⟨fun _ => HM.out, fun _ => Int.natCast_nonneg _⟩⟩, rfl⟩
set_option maxHeartbeats 1600000 in
set_option maxRecDepth 100000 in
theorem containsF_calls (gx g b0 : Nat) (ps : List Int) (m : Int → List S30) (A0 : Option Addr) (c0 : Nat) (l0 : List Int) (W : World) (hx : W.heap[gx]? = some (.cells #[.pointer (some ⟨g, 0, none⟩)] 23 (0, 0))) (hB : Bag W b0 g ps m) (hr : Kd.C (Kd.int .i64) W A0 l0.length l0) :
    Calls Try.prog 30 #[.slice A0 l0.length c0, .func (Fn.func 31) #[] #[.pointer (some ⟨gx, 0, none⟩)]] W fun e w' => (∃ b : Bool, e = .returned (.bool b) ∧ (b = true ↔ ∃ n ∈ l0, n ∉ ps)) ∧ w' = W := by
  have HR := Aside0.mk hr
  have HX := Aside0.mk hx
  have HB := Aside0.mk hB
  clear hr hx hB
  go_enter Try.func30, Try.ntmps30
  go_wp2_with (go_at_call 33; (refine (bag_index_calls gx g b0 ps m _ c0 l0 _ HX.out HB.out HR.out).mono ?_); rintro e w2 ⟨⟨r, rfl, hr⟩, rfl⟩; have HRR := Aside0.mk hr; clear hr)
  go_ret
  exact ⟨⟨_, rfl, by simp [HRR.out]⟩, rfl⟩
def hasL (ps l : List Int) : Bool := l.all (fun n => decide (n ∈ ps))
theorem hasL_not {ps l : List Int} {b : Bool} (h : b = true ↔ ∃ n ∈ l, n ∉ ps) : (!b) = hasL ps l := by
  unfold hasL
  cases b with
  | true =>
    obtain ⟨n, h1, h2⟩ := h.1 rfl
    refine (List.all_eq_false.2 ⟨n, h1, ?_⟩).symm
    simp [h2]
  | false =>
    refine (List.all_eq_true.2 (fun n hn => ?_)).symm
    by_cases c : n ∈ ps
    · exact decide_eq_true c
    · exact absurd (h.2 ⟨n, hn, c⟩) (by decide)
set_option maxHeartbeats 1600000 in
set_option maxRecDepth 100000 in
theorem has_calls (g b0 : Nat) (ps : List Int) (m : Int → List S30) (A0 : Option Addr) (c0 : Nat) (l0 : List Int) (W : World) (hB : Bag W b0 g ps m) (hr : Kd.C (Kd.int .i64) W A0 l0.length l0) :
    Calls Try.prog 23 #[.pointer (some ⟨g, 0, none⟩), .slice A0 l0.length c0] W fun e w' => e = .returned (.bool (hasL ps l0)) ∧ Below W.heap.size W w' := by
  have HBL := Aside0.mk (below_alloc (Below.refl W.heap.size W) (.cells #[.pointer (some ⟨g, 0, none⟩)] 23))
  have HK := Aside0.mk (heap_alloc_new W (.cells #[.pointer (some ⟨g, 0, none⟩)] 23))
  have HB := Aside0.mk (hB.below HBL.out)
  have HR := Aside0.mk (Kd.C_below hr HBL.out)
  obtain ⟨q, V, hg, -, -, -, -⟩ := hB
  have hg' := blk_alloc hg (.cells #[.pointer (some ⟨g, 0, none⟩)] 23)
  have hc0 : (W.alloc (.cells #[.pointer (some ⟨g, 0, none⟩)] 23)).cell? ⟨g, 0, none⟩ = some (.map (some q)) := (blk_cell hg' 0).trans rfl
  have hnil := fun (w : World) (r : Option Nat) => Go.run_eql_map_nil (P := Try.prog) w 58 3 39 r Try.underlying58
  clear hr hg hg'
  go_enter Try.func23, Try.ntmps23
  go_wp2_with (go_at_call 30; (refine (containsF_calls W.heap.size g b0 ps m _ c0 l0 _ HK.out HB.out HR.out).mono ?_); rintro e w2 ⟨⟨b, rfl, hb⟩, rfl⟩; have HRR := Aside0.mk (hasL_not hb); clear hb)
  go_ret
  exact ⟨congrArg (fun b => Ending.returned (.bool b)) HRR.out, HBL.out⟩
end Go.Proofs.Ytgcehbigcokpaaa.XA
