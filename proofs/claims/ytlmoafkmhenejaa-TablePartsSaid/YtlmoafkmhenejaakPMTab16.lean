import Derived.Test.YtlmoafkmhenejaakPVaMade
namespace Go.Proofs.Ytlmoafkmhenejaa.VLib
end Go.Proofs.Ytlmoafkmhenejaa.VLib
namespace Go.Proofs.Ytlmoafkmhenejaa.Bld
end Go.Proofs.Ytlmoafkmhenejaa.Bld
namespace Go.Proofs.YtlmoafkmhenejaaW.PrintWords
end Go.Proofs.YtlmoafkmhenejaaW.PrintWords
namespace Go.Proofs.YtlmoafkmhenejaaW.PrintLast
end Go.Proofs.YtlmoafkmhenejaaW.PrintLast
namespace Go.Proofs.YtlmoafkmhenejaaW.PrintMore
end Go.Proofs.YtlmoafkmhenejaaW.PrintMore
namespace Go.Proofs.Ytlmoafkmhenejaa.XW
end Go.Proofs.Ytlmoafkmhenejaa.XW
namespace Go.Proofs.Ytlmoafkmhenejaa.XA
open Go.Proofs.Ytlmoafkmhenejaa.VLib Go.Proofs.Ytlmoafkmhenejaa.Bld Go.RowKit Go.Proofs.YtlmoafkmhenejaaW.PrintWords Go.Proofs.YtlmoafkmhenejaaW.PrintLast Go.Proofs.YtlmoafkmhenejaaW.PrintMore Go.Proofs.Ytlmoafkmhenejaa.XW
attribute [local go_sem high] max2_str unary_xor_u32 leq_str geq_str gtr_str
attribute [local go_sem] max2_int min2_int max_two min_two max_three min_three max_four min_four
set_option linter.unusedVariables false
set_option linter.unusedSimpArgs false
set_option maxHeartbeats 4000000 in
set_option maxRecDepth 100000 in
theorem parts_calls (A : Option Addr) (c : Nat) (l : List S43) (lo hi key : ByteArray) (w : World) (hC : Kd.C k43 w A l.length l) (hc : l.length ≤ c) :
    Calls Try.prog 7 #[.slice A l.length c, .agg #[.string lo, .string hi], .string key] w fun e w' => e = .returned (.bool true) ∧ Below w.heap.size w w' := by
  have HB0 := Aside0.mk (below_alloc (Below.refl w.heap.size w) (.cells #[.string lo, .string hi] 38))
  have HK0 := Aside0.mk (heap_alloc_new w (.cells #[.string lo, .string hi] 38))
  have HC := Aside0.mk hC
  have HCC := Aside0.mk hc
  obtain ⟨b, hb80, hli⟩ := light_any l
  have HLI := Aside0.mk hli
  clear hC hc hli
  cases b with
  | false =>
    clear hb80
    go_enter Try.func7, Try.ntmps7
    go_wp2_with (first
      | (go_at_call 12; go_loud ((refine (awake_calls _).mono ?_); rintro e w99 ⟨rfl, hb99⟩; have HB99 := Aside0.mk (below_step HB1.out hb99); clear hb99))
      | (go_at_call 11; go_loud ((with_reducible refine (sorrellaw10_light.calls 82 A c l false _ (Kd.C_below HC.out HB0.out) HCC.out HLI.out).mono ?_); rintro e w1 ⟨rfl, m1, e1⟩; have HB1 : Aside0 (Below w.heap.size w w1) := ⟨by rw [e1]; exact pw_below_drewN HB0.out _⟩; have hk1 := (show w1.heap[w.heap.size]? = some (.cells #[.string lo, .string hi] 38 (0, 0)) from (by rw [e1]; exact blk_drewN HK0.out m1)); have HK1 := Aside0.mk hk1; have x10 : w1.cell? ⟨w.heap.size, 0, none⟩ = some (.string lo) := (blk_cell hk1 0).trans rfl; have x11 : w1.cell? ⟨w.heap.size, 1, none⟩ = some (.string hi) := (blk_cell hk1 1).trans rfl; clear hk1 e1)))
    go_ret
    exact ⟨rfl, HB99.out⟩
  | true =>
    by_cases q0 : 64 < lo.size
    · have c0a : decide ((64 : Int) < (lo.size : Int)) = true := decide_eq_true (by omega)
      have c0b : decide (64 < lo.size) = true := decide_eq_true (by omega)
      clear q0
      clear hb80
      go_enter Try.func7, Try.ntmps7
      go_wp2_with (first
        | (go_at_call 12; go_loud ((refine (awake_calls _).mono ?_); rintro e w99 ⟨rfl, hb99⟩; have HB99 := Aside0.mk (below_step HB1.out hb99); clear hb99))
        | (go_at_call 11; go_loud ((with_reducible refine (sorrellaw10_light.calls 82 A c l true _ (Kd.C_below HC.out HB0.out) HCC.out HLI.out).mono ?_); rintro e w1 ⟨rfl, m1, e1⟩; have HB1 : Aside0 (Below w.heap.size w w1) := ⟨by rw [e1]; exact pw_below_drewN HB0.out _⟩; have hk1 := (show w1.heap[w.heap.size]? = some (.cells #[.string lo, .string hi] 38 (0, 0)) from (by rw [e1]; exact blk_drewN HK0.out m1)); have HK1 := Aside0.mk hk1; have x10 : w1.cell? ⟨w.heap.size, 0, none⟩ = some (.string lo) := (blk_cell hk1 0).trans rfl; have x11 : w1.cell? ⟨w.heap.size, 1, none⟩ = some (.string hi) := (blk_cell hk1 1).trans rfl; clear hk1 e1)))
      go_ret
      exact ⟨rfl, HB99.out⟩
    by_cases q1 : 64 < hi.size
    · have c0a : decide ((64 : Int) < (lo.size : Int)) = false := decide_eq_false (by omega)
      have c0b : decide (64 < lo.size) = false := decide_eq_false (by omega)
      have c1a : decide ((64 : Int) < (hi.size : Int)) = true := decide_eq_true (by omega)
      have c1b : decide (64 < hi.size) = true := decide_eq_true (by omega)
      clear q0 q1
      clear hb80
      go_enter Try.func7, Try.ntmps7
      go_wp2_with (first
        | (go_at_call 12; go_loud ((refine (awake_calls _).mono ?_); rintro e w99 ⟨rfl, hb99⟩; have HB99 := Aside0.mk (below_step HB1.out hb99); clear hb99))
        | (go_at_call 11; go_loud ((with_reducible refine (sorrellaw10_light.calls 82 A c l true _ (Kd.C_below HC.out HB0.out) HCC.out HLI.out).mono ?_); rintro e w1 ⟨rfl, m1, e1⟩; have HB1 : Aside0 (Below w.heap.size w w1) := ⟨by rw [e1]; exact pw_below_drewN HB0.out _⟩; have hk1 := (show w1.heap[w.heap.size]? = some (.cells #[.string lo, .string hi] 38 (0, 0)) from (by rw [e1]; exact blk_drewN HK0.out m1)); have HK1 := Aside0.mk hk1; have x10 : w1.cell? ⟨w.heap.size, 0, none⟩ = some (.string lo) := (blk_cell hk1 0).trans rfl; have x11 : w1.cell? ⟨w.heap.size, 1, none⟩ = some (.string hi) := (blk_cell hk1 1).trans rfl; clear hk1 e1)))
      go_ret
      exact ⟨rfl, HB99.out⟩
    by_cases q2 : key.size < 1
    · have c0a : decide ((64 : Int) < (lo.size : Int)) = false := decide_eq_false (by omega)
      have c0b : decide (64 < lo.size) = false := decide_eq_false (by omega)
      have c1a : decide ((64 : Int) < (hi.size : Int)) = false := decide_eq_false (by omega)
      have c1b : decide (64 < hi.size) = false := decide_eq_false (by omega)
      have c2a : decide ((key.size : Int) < 1) = true := decide_eq_true (by omega)
      have c2b : decide (key.size < 1) = true := decide_eq_true (by omega)
      clear q0 q1 q2
      clear hb80
      go_enter Try.func7, Try.ntmps7
      go_wp2_with (first
        | (go_at_call 12; go_loud ((refine (awake_calls _).mono ?_); rintro e w99 ⟨rfl, hb99⟩; have HB99 := Aside0.mk (below_step HB1.out hb99); clear hb99))
        | (go_at_call 11; go_loud ((with_reducible refine (sorrellaw10_light.calls 82 A c l true _ (Kd.C_below HC.out HB0.out) HCC.out HLI.out).mono ?_); rintro e w1 ⟨rfl, m1, e1⟩; have HB1 : Aside0 (Below w.heap.size w w1) := ⟨by rw [e1]; exact pw_below_drewN HB0.out _⟩; have hk1 := (show w1.heap[w.heap.size]? = some (.cells #[.string lo, .string hi] 38 (0, 0)) from (by rw [e1]; exact blk_drewN HK0.out m1)); have HK1 := Aside0.mk hk1; have x10 : w1.cell? ⟨w.heap.size, 0, none⟩ = some (.string lo) := (blk_cell hk1 0).trans rfl; have x11 : w1.cell? ⟨w.heap.size, 1, none⟩ = some (.string hi) := (blk_cell hk1 1).trans rfl; clear hk1 e1)))
      go_ret
      exact ⟨rfl, HB99.out⟩
    by_cases q3 : 64 < key.size
    · have c0a : decide ((64 : Int) < (lo.size : Int)) = false := decide_eq_false (by omega)
      have c0b : decide (64 < lo.size) = false := decide_eq_false (by omega)
      have c1a : decide ((64 : Int) < (hi.size : Int)) = false := decide_eq_false (by omega)
      have c1b : decide (64 < hi.size) = false := decide_eq_false (by omega)
      have c2a : decide ((key.size : Int) < 1) = false := decide_eq_false (by omega)
      have c2b : decide (key.size < 1) = false := decide_eq_false (by omega)
      have c3a : decide ((64 : Int) < (key.size : Int)) = true := decide_eq_true (by omega)
      have c3b : decide (64 < key.size) = true := decide_eq_true (by omega)
      clear q0 q1 q2 q3
      clear hb80
      go_enter Try.func7, Try.ntmps7
      go_wp2_with (first
        | (go_at_call 12; go_loud ((refine (awake_calls _).mono ?_); rintro e w99 ⟨rfl, hb99⟩; have HB99 := Aside0.mk (below_step HB1.out hb99); clear hb99))
        | (go_at_call 11; go_loud ((with_reducible refine (sorrellaw10_light.calls 82 A c l true _ (Kd.C_below HC.out HB0.out) HCC.out HLI.out).mono ?_); rintro e w1 ⟨rfl, m1, e1⟩; have HB1 : Aside0 (Below w.heap.size w w1) := ⟨by rw [e1]; exact pw_below_drewN HB0.out _⟩; have hk1 := (show w1.heap[w.heap.size]? = some (.cells #[.string lo, .string hi] 38 (0, 0)) from (by rw [e1]; exact blk_drewN HK0.out m1)); have HK1 := Aside0.mk hk1; have x10 : w1.cell? ⟨w.heap.size, 0, none⟩ = some (.string lo) := (blk_cell hk1 0).trans rfl; have x11 : w1.cell? ⟨w.heap.size, 1, none⟩ = some (.string hi) := (blk_cell hk1 1).trans rfl; clear hk1 e1)))
      go_ret
      exact ⟨rfl, HB99.out⟩
    have c0a : decide ((64 : Int) < (lo.size : Int)) = false := decide_eq_false (by omega)
    have c0b : decide (64 < lo.size) = false := decide_eq_false (by omega)
    have c1a : decide ((64 : Int) < (hi.size : Int)) = false := decide_eq_false (by omega)
    have c1b : decide (64 < hi.size) = false := decide_eq_false (by omega)
    have c2a : decide ((key.size : Int) < 1) = false := decide_eq_false (by omega)
    have c2b : decide (key.size < 1) = false := decide_eq_false (by omega)
    have c3a : decide ((64 : Int) < (key.size : Int)) = false := decide_eq_false (by omega)
    have c3b : decide (64 < key.size) = false := decide_eq_false (by omega)
    obtain ⟨m, hOK, hml, hop⟩ := open_any l (hb80 rfl)
    have h80 := hb80 rfl
    have hm4 : m.length ≤ 4096 := hOK.len
    clear hb80
    rcases hop with ⟨hm0, hop⟩ | ⟨hm0, hop⟩
    · have HOP := Aside0.mk hop
      clear q0 q1 q2 q3 hml hm0 h80 hm4
      clear hop
      have hop := HOP.out
      go_enter Try.func7, Try.ntmps7
      go_wp2_with (first
        | (go_at_call 12; go_loud ((refine (awake_calls _).mono ?_); rintro e w99 ⟨rfl, hb99⟩; have HB99 := Aside0.mk (below_step HB2.out hb99); clear hb99))
        | (go_at_call 21; go_loud ((with_reducible refine (hop A c _ (Kd.C_below HC.out HB1.out) HCC.out).mono ?_); rintro e w2 ⟨rfl, hb2⟩; have HB2 := Aside0.mk (below_step HB1.out hb2); clear hb2))
        | (go_at_call 11; go_loud ((with_reducible refine (sorrellaw10_light.calls 82 A c l true _ (Kd.C_below HC.out HB0.out) HCC.out HLI.out).mono ?_); rintro e w1 ⟨rfl, m1, e1⟩; have HB1 : Aside0 (Below w.heap.size w w1) := ⟨by rw [e1]; exact pw_below_drewN HB0.out _⟩; have hk1 := (show w1.heap[w.heap.size]? = some (.cells #[.string lo, .string hi] 38 (0, 0)) from (by rw [e1]; exact blk_drewN HK0.out m1)); have HK1 := Aside0.mk hk1; have x10 : w1.cell? ⟨w.heap.size, 0, none⟩ = some (.string lo) := (blk_cell hk1 0).trans rfl; have x11 : w1.cell? ⟨w.heap.size, 1, none⟩ = some (.string hi) := (blk_cell hk1 1).trans rfl; clear hk1 e1)))
      go_ret
      exact ⟨rfl, HB99.out⟩
    · have HOP := Aside0.mk hop
      have HM4 := Aside0.mk hm4
      have HL0 := Aside0.mk hm0
      have HOK := Aside0.mk hOK
      clear hml h80 hm4 hm0 hop
      have hop := HOP.out
      by_cases r0 : hi.toList = []
      · have yr00 : (hi.toList == []) = true := (beq_iff_eq.mpr r0)
        have yr01 : hi.toList.isEmpty = true := by rw [isE3]; exact yr00
        have yr02 : (hi.toList != []) = false := by rw [bne, yr00]; rfl
        cases r1 : Op.bytesLess lo.toList key.toList with
        | false =>
          clear q0 q1 q2 q3 hOK
          go_enter Try.func7, Try.ntmps7
          go_wp2_with (first
            | (go_at_call 12; go_loud ((refine (awake_calls _).mono ?_); rintro e w99 ⟨rfl, hb99⟩; have HB99 := Aside0.mk (below_step HB4.out hb99); clear hb99))
            | (go_at_call 19; go_loud ((with_reducible refine (same_yes A3 c3 A2 c2 _ m _ HOK.out.all (by have := HM4.out; rw [HOK.out.all]; omega) (Kd.R_reads' HR3.out).2.2 (Kd.R_reads' HR3.out).2.1 (Kd.C_below HM2.out HBL3.out) HMC.out).mono ?_); rintro e w4 ⟨rfl, hb4⟩; have HB4 := Aside0.mk (below_step HB3.out hb4); clear hb4))
            | (go_at_call 20; go_loud ((with_reducible refine (range_ok _ m (VaTb.bitsT m) ⟨#[]⟩ ⟨#[]⟩ _ HT2.out HM4.out).mono ?_); rintro e w3 ⟨v3, rfl, hR3, hb3⟩; obtain ⟨A3, c3, e3⟩ := Kd.R_slice hR3; subst e3; have HR3 := Aside0.mk hR3; have HT3 := Aside0.mk (HT2.out.below hb3); have HB3 := Aside0.mk (below_step HB2.out hb3); have HBL3 := Aside0.mk hb3; have hk3 := blk_below HK2.out hb3; have HK3 := Aside0.mk hk3; have x30 : w3.cell? ⟨w.heap.size, 0, none⟩ = some (.string lo) := (blk_cell hk3 0).trans rfl; have x31 : w3.cell? ⟨w.heap.size, 1, none⟩ = some (.string hi) := (blk_cell hk3 1).trans rfl; clear hR3 hk3 hb3))
            | (go_at_call 21; go_loud ((with_reducible refine (hop A c _ (Kd.C_below HC.out HB1.out) HCC.out).mono ?_); rintro e w2 ⟨p, A2, c2, rfl, hT2, hC2, hc2, hb2⟩; have HT2 := Aside0.mk hT2; have HM2 := Aside0.mk hC2; have HMC := Aside0.mk hc2; have HB2 := Aside0.mk (below_step HB1.out hb2); have hk2 := blk_below HK1.out hb2; have HK2 := Aside0.mk hk2; have x20 : w2.cell? ⟨w.heap.size, 0, none⟩ = some (.string lo) := (blk_cell hk2 0).trans rfl; have x21 : w2.cell? ⟨w.heap.size, 1, none⟩ = some (.string hi) := (blk_cell hk2 1).trans rfl; clear hT2 hC2 hc2 hb2 hk2))
            | (go_at_call 11; go_loud ((with_reducible refine (sorrellaw10_light.calls 82 A c l true _ (Kd.C_below HC.out HB0.out) HCC.out HLI.out).mono ?_); rintro e w1 ⟨rfl, m1, e1⟩; have HB1 : Aside0 (Below w.heap.size w w1) := ⟨by rw [e1]; exact pw_below_drewN HB0.out _⟩; have hk1 := (show w1.heap[w.heap.size]? = some (.cells #[.string lo, .string hi] 38 (0, 0)) from (by rw [e1]; exact blk_drewN HK0.out m1)); have HK1 := Aside0.mk hk1; have x10 : w1.cell? ⟨w.heap.size, 0, none⟩ = some (.string lo) := (blk_cell hk1 0).trans rfl; have x11 : w1.cell? ⟨w.heap.size, 1, none⟩ = some (.string hi) := (blk_cell hk1 1).trans rfl; clear hk1 e1)))
          go_ret
          exact ⟨rfl, HB99.out⟩
        | true =>
          have hcut : VaSp.CutOk lo hi key := ⟨r1, (by rw [VaSp.emp_size]; exact decide_eq_false (by omega)), (by omega), (by omega), (by omega), VaSp.aheadB_iff.2 (.inl (VaSp.emp_iff.2 r0))⟩
          have heq := parts_eq hcut m hOK.rise
          have hl1 := VaSp.inR_len lo key m
          have hl2 := VaSp.inR_len key hi m
          obtain ⟨a1, ha1⟩ : ∃ a1, VaSp.inR lo key m = a1 := ⟨_, rfl⟩
          obtain ⟨a2, ha2⟩ : ∃ a2, VaSp.inR key hi m = a2 := ⟨_, rfl⟩
          obtain ⟨aa, haa⟩ : ∃ aa, a1 ++ a2 = aa := ⟨_, rfl⟩
          rw [ha1] at hl1
          rw [ha2] at hl2
          rw [ha1, ha2, haa] at heq
          have HEQ := Aside0.mk heq
          have HA1 := Aside0.mk ha1
          have HA2 := Aside0.mk ha2
          have HAA := Aside0.mk haa
          have HLEN : Aside0 (a1.length ≤ 4096 ∧ a2.length ≤ 4096 ∧ aa.length ≤ 9000) := ⟨by have := HM4.out; rw [← haa, List.length_append]; omega⟩
          clear q0 q1 q2 q3 hOK hcut heq hl1 hl2 ha1 ha2 haa
          go_enter Try.func7, Try.ntmps7
          go_wp2_with (first
            | (go_at_call 12; go_loud ((refine (awake_calls _).mono ?_); rintro e w99 ⟨rfl, hb99⟩; have HB99 := Aside0.mk (below_step HB8.out hb99); clear hb99))
            | (go_at_call 19; go_loud ((with_reducible refine (same_yes A6 c6 A7 c7 aa _ _ HEQ.out (by have := HLEN.out; omega) (Kd.C_below (Kd.R_reads' HR6.out).2.2 HBL7.out) (Kd.R_reads' HR6.out).2.1 (Kd.R_reads' HR7.out).2.2 (Kd.R_reads' HR7.out).2.1).mono ?_); rintro e w8 ⟨rfl, hb8⟩; have HB8 := Aside0.mk (below_step HB7.out hb8); clear hb8))
            | (go_at_call 20; go_loud ((with_reducible refine (range_ok _ m (VaTb.bitsT m) lo hi _ HT6.out HM4.out).mono ?_); rintro e w7 ⟨v7, rfl, hR7, hb7⟩; obtain ⟨A7, c7, e7⟩ := Kd.R_slice hR7; subst e7; have HR7 := Aside0.mk hR7; have HT7 := Aside0.mk (HT6.out.below hb7); have HB7 := Aside0.mk (below_step HB6.out hb7); have HBL7 := Aside0.mk hb7; have hk7 := blk_below HK6.out hb7; have HK7 := Aside0.mk hk7; have x70 : w7.cell? ⟨w.heap.size, 0, none⟩ = some (.string lo) := (blk_cell hk7 0).trans rfl; have x71 : w7.cell? ⟨w.heap.size, 1, none⟩ = some (.string hi) := (blk_cell hk7 1).trans rfl; clear hR7 hk7 hb7))
            | ((with_reducible refine gate_builtin (b := .append) (xs := #[.tmp 101, .tmp 102]) rfl ?_); at_builtin; go_loud (refine Kd.R_append_rows k43 (w0 := w4) w4.heap.size rfl (.tmp 101) (.tmp 102) 22 43 (.agg #[(.string ⟨#[]⟩), (.string ⟨#[]⟩), (.bool false), (.int .i64 0)]) 48 rfl Try.underlying22 info43 rfl (by decide) (by omega) (.slice A5 a1.length c5) a1 a2 _ _ _ (fun _ => True) (fun _ => False) rfl rfl HR5.out (Kd.C_below (Kd.R_reads' HR4.out).2.2 HB5.out) (fun _ _ h => h) (fun _ h => h.elim) (fun _ _ => trivial) HB5.out (HB5.out).size (by have := HLEN.out; omega) ?_); intro v6 w6 ho6 hb6 hg6 hat6; rw [HAA.out] at ho6; obtain ⟨A6, c6, e6⟩ := Kd.R_slice ho6; subst e6; have HR6 := Aside0.mk ho6; have HB6 := Aside0.mk (below_step HB4.out hb6); have HT6 := Aside0.mk (HT4.out.below hb6); have hk6 := blk_below HK4.out hb6; have HK6 := Aside0.mk hk6; have x60 : w6.cell? ⟨w.heap.size, 0, none⟩ = some (.string lo) := (blk_cell hk6 0).trans rfl; have x61 : w6.cell? ⟨w.heap.size, 1, none⟩ = some (.string hi) := (blk_cell hk6 1).trans rfl; clear hk6; clear ho6 hb6 hg6 hat6)
            | ((with_reducible refine gate_builtin (b := .append) (xs := #[.tmp 98, .tmp 99]) rfl ?_); at_builtin; go_loud (refine Kd.R_append_rows k43 (w0 := w4) w4.heap.size rfl (.tmp 98) (.tmp 99) 22 43 (.agg #[(.string ⟨#[]⟩), (.string ⟨#[]⟩), (.bool false), (.int .i64 0)]) 48 rfl Try.underlying22 info43 rfl (by decide) (by omega) (.slice none 0 0) ([] : List S43) a1 _ _ _ (fun _ => True) (fun _ => False) rfl rfl (Kd.R_nil _ _ _ _ _) (Kd.C_below (Kd.R_reads' HR3.out).2.2 HBL4.out) (fun _ _ h => h) (fun _ h => h.elim) (fun _ _ => trivial) HBZ4.out (HBZ4.out).size (by have := HLEN.out; have h0 : ([] : List S43).length = 0 := rfl; omega) ?_); intro v5 w5 ho5 hb5 hg5 hat5; rw [List.nil_append] at ho5; obtain ⟨A5, c5, e5⟩ := Kd.R_slice ho5; subst e5; have HR5 := Aside0.mk ho5; have HB5 := Aside0.mk hb5; clear ho5 hb5 hg5 hat5)
            | (go_at_call 20; go_loud ((with_reducible refine (range_ok _ m (VaTb.bitsT m) key hi _ HT3.out HM4.out).mono ?_); rintro e w4 ⟨v4, rfl, hR4, hb4⟩; rw [HA2.out] at hR4; have HBZ4 := Aside0.mk (Below.refl w4.heap.size w4); obtain ⟨A4, c4, e4⟩ := Kd.R_slice hR4; subst e4; have HR4 := Aside0.mk hR4; have HT4 := Aside0.mk (HT3.out.below hb4); have HB4 := Aside0.mk (below_step HB3.out hb4); have HBL4 := Aside0.mk hb4; have hk4 := blk_below HK3.out hb4; have HK4 := Aside0.mk hk4; have x40 : w4.cell? ⟨w.heap.size, 0, none⟩ = some (.string lo) := (blk_cell hk4 0).trans rfl; have x41 : w4.cell? ⟨w.heap.size, 1, none⟩ = some (.string hi) := (blk_cell hk4 1).trans rfl; clear hR4 hk4 hb4))
            | (go_at_call 20; go_loud ((with_reducible refine (range_ok _ m (VaTb.bitsT m) lo key _ HT2.out HM4.out).mono ?_); rintro e w3 ⟨v3, rfl, hR3, hb3⟩; rw [HA1.out] at hR3; obtain ⟨A3, c3, e3⟩ := Kd.R_slice hR3; subst e3; have HR3 := Aside0.mk hR3; have HT3 := Aside0.mk (HT2.out.below hb3); have HB3 := Aside0.mk (below_step HB2.out hb3); have HBL3 := Aside0.mk hb3; have hk3 := blk_below HK2.out hb3; have HK3 := Aside0.mk hk3; have x30 : w3.cell? ⟨w.heap.size, 0, none⟩ = some (.string lo) := (blk_cell hk3 0).trans rfl; have x31 : w3.cell? ⟨w.heap.size, 1, none⟩ = some (.string hi) := (blk_cell hk3 1).trans rfl; clear hR3 hk3 hb3))
            | (go_at_call 21; go_loud ((with_reducible refine (hop A c _ (Kd.C_below HC.out HB1.out) HCC.out).mono ?_); rintro e w2 ⟨p, A2, c2, rfl, hT2, hC2, hc2, hb2⟩; have HT2 := Aside0.mk hT2; have HM2 := Aside0.mk hC2; have HMC := Aside0.mk hc2; have HB2 := Aside0.mk (below_step HB1.out hb2); have hk2 := blk_below HK1.out hb2; have HK2 := Aside0.mk hk2; have x20 : w2.cell? ⟨w.heap.size, 0, none⟩ = some (.string lo) := (blk_cell hk2 0).trans rfl; have x21 : w2.cell? ⟨w.heap.size, 1, none⟩ = some (.string hi) := (blk_cell hk2 1).trans rfl; clear hT2 hC2 hc2 hb2 hk2))
            | (go_at_call 11; go_loud ((with_reducible refine (sorrellaw10_light.calls 82 A c l true _ (Kd.C_below HC.out HB0.out) HCC.out HLI.out).mono ?_); rintro e w1 ⟨rfl, m1, e1⟩; have HB1 : Aside0 (Below w.heap.size w w1) := ⟨by rw [e1]; exact pw_below_drewN HB0.out _⟩; have hk1 := (show w1.heap[w.heap.size]? = some (.cells #[.string lo, .string hi] 38 (0, 0)) from (by rw [e1]; exact blk_drewN HK0.out m1)); have HK1 := Aside0.mk hk1; have x10 : w1.cell? ⟨w.heap.size, 0, none⟩ = some (.string lo) := (blk_cell hk1 0).trans rfl; have x11 : w1.cell? ⟨w.heap.size, 1, none⟩ = some (.string hi) := (blk_cell hk1 1).trans rfl; clear hk1 e1)))
          go_ret
          exact ⟨rfl, HB99.out⟩
      · have yr00 : (hi.toList == []) = false := (by rw [beq_eq_false_iff_ne]; exact r0)
        have yr01 : hi.toList.isEmpty = false := by rw [isE3]; exact yr00
        have yr02 : (hi.toList != []) = true := by rw [bne, yr00]; rfl
        cases r2 : Op.bytesLess lo.toList hi.toList with
        | false =>
          clear q0 q1 q2 q3 hOK
          go_enter Try.func7, Try.ntmps7
          go_wp2_with (first
            | (go_at_call 12; go_loud ((refine (awake_calls _).mono ?_); rintro e w99 ⟨rfl, hb99⟩; have HB99 := Aside0.mk (below_step HB4.out hb99); clear hb99))
            | (go_at_call 19; go_loud ((with_reducible refine (same_yes A3 c3 A2 c2 _ m _ HOK.out.all (by have := HM4.out; rw [HOK.out.all]; omega) (Kd.R_reads' HR3.out).2.2 (Kd.R_reads' HR3.out).2.1 (Kd.C_below HM2.out HBL3.out) HMC.out).mono ?_); rintro e w4 ⟨rfl, hb4⟩; have HB4 := Aside0.mk (below_step HB3.out hb4); clear hb4))
            | (go_at_call 20; go_loud ((with_reducible refine (range_ok _ m (VaTb.bitsT m) ⟨#[]⟩ ⟨#[]⟩ _ HT2.out HM4.out).mono ?_); rintro e w3 ⟨v3, rfl, hR3, hb3⟩; obtain ⟨A3, c3, e3⟩ := Kd.R_slice hR3; subst e3; have HR3 := Aside0.mk hR3; have HT3 := Aside0.mk (HT2.out.below hb3); have HB3 := Aside0.mk (below_step HB2.out hb3); have HBL3 := Aside0.mk hb3; have hk3 := blk_below HK2.out hb3; have HK3 := Aside0.mk hk3; have x30 : w3.cell? ⟨w.heap.size, 0, none⟩ = some (.string lo) := (blk_cell hk3 0).trans rfl; have x31 : w3.cell? ⟨w.heap.size, 1, none⟩ = some (.string hi) := (blk_cell hk3 1).trans rfl; clear hR3 hk3 hb3))
            | (go_at_call 21; go_loud ((with_reducible refine (hop A c _ (Kd.C_below HC.out HB1.out) HCC.out).mono ?_); rintro e w2 ⟨p, A2, c2, rfl, hT2, hC2, hc2, hb2⟩; have HT2 := Aside0.mk hT2; have HM2 := Aside0.mk hC2; have HMC := Aside0.mk hc2; have HB2 := Aside0.mk (below_step HB1.out hb2); have hk2 := blk_below HK1.out hb2; have HK2 := Aside0.mk hk2; have x20 : w2.cell? ⟨w.heap.size, 0, none⟩ = some (.string lo) := (blk_cell hk2 0).trans rfl; have x21 : w2.cell? ⟨w.heap.size, 1, none⟩ = some (.string hi) := (blk_cell hk2 1).trans rfl; clear hT2 hC2 hc2 hb2 hk2))
            | (go_at_call 11; go_loud ((with_reducible refine (sorrellaw10_light.calls 82 A c l true _ (Kd.C_below HC.out HB0.out) HCC.out HLI.out).mono ?_); rintro e w1 ⟨rfl, m1, e1⟩; have HB1 : Aside0 (Below w.heap.size w w1) := ⟨by rw [e1]; exact pw_below_drewN HB0.out _⟩; have hk1 := (show w1.heap[w.heap.size]? = some (.cells #[.string lo, .string hi] 38 (0, 0)) from (by rw [e1]; exact blk_drewN HK0.out m1)); have HK1 := Aside0.mk hk1; have x10 : w1.cell? ⟨w.heap.size, 0, none⟩ = some (.string lo) := (blk_cell hk1 0).trans rfl; have x11 : w1.cell? ⟨w.heap.size, 1, none⟩ = some (.string hi) := (blk_cell hk1 1).trans rfl; clear hk1 e1)))
          go_ret
          exact ⟨rfl, HB99.out⟩
        | true =>
          cases r1 : Op.bytesLess lo.toList key.toList with
          | false =>
            clear q0 q1 q2 q3 hOK
            go_enter Try.func7, Try.ntmps7
            go_wp2_with (first
              | (go_at_call 12; go_loud ((refine (awake_calls _).mono ?_); rintro e w99 ⟨rfl, hb99⟩; have HB99 := Aside0.mk (below_step HB4.out hb99); clear hb99))
              | (go_at_call 19; go_loud ((with_reducible refine (same_yes A3 c3 A2 c2 _ m _ HOK.out.all (by have := HM4.out; rw [HOK.out.all]; omega) (Kd.R_reads' HR3.out).2.2 (Kd.R_reads' HR3.out).2.1 (Kd.C_below HM2.out HBL3.out) HMC.out).mono ?_); rintro e w4 ⟨rfl, hb4⟩; have HB4 := Aside0.mk (below_step HB3.out hb4); clear hb4))
              | (go_at_call 20; go_loud ((with_reducible refine (range_ok _ m (VaTb.bitsT m) ⟨#[]⟩ ⟨#[]⟩ _ HT2.out HM4.out).mono ?_); rintro e w3 ⟨v3, rfl, hR3, hb3⟩; obtain ⟨A3, c3, e3⟩ := Kd.R_slice hR3; subst e3; have HR3 := Aside0.mk hR3; have HT3 := Aside0.mk (HT2.out.below hb3); have HB3 := Aside0.mk (below_step HB2.out hb3); have HBL3 := Aside0.mk hb3; have hk3 := blk_below HK2.out hb3; have HK3 := Aside0.mk hk3; have x30 : w3.cell? ⟨w.heap.size, 0, none⟩ = some (.string lo) := (blk_cell hk3 0).trans rfl; have x31 : w3.cell? ⟨w.heap.size, 1, none⟩ = some (.string hi) := (blk_cell hk3 1).trans rfl; clear hR3 hk3 hb3))
              | (go_at_call 21; go_loud ((with_reducible refine (hop A c _ (Kd.C_below HC.out HB1.out) HCC.out).mono ?_); rintro e w2 ⟨p, A2, c2, rfl, hT2, hC2, hc2, hb2⟩; have HT2 := Aside0.mk hT2; have HM2 := Aside0.mk hC2; have HMC := Aside0.mk hc2; have HB2 := Aside0.mk (below_step HB1.out hb2); have hk2 := blk_below HK1.out hb2; have HK2 := Aside0.mk hk2; have x20 : w2.cell? ⟨w.heap.size, 0, none⟩ = some (.string lo) := (blk_cell hk2 0).trans rfl; have x21 : w2.cell? ⟨w.heap.size, 1, none⟩ = some (.string hi) := (blk_cell hk2 1).trans rfl; clear hT2 hC2 hc2 hb2 hk2))
              | (go_at_call 11; go_loud ((with_reducible refine (sorrellaw10_light.calls 82 A c l true _ (Kd.C_below HC.out HB0.out) HCC.out HLI.out).mono ?_); rintro e w1 ⟨rfl, m1, e1⟩; have HB1 : Aside0 (Below w.heap.size w w1) := ⟨by rw [e1]; exact pw_below_drewN HB0.out _⟩; have hk1 := (show w1.heap[w.heap.size]? = some (.cells #[.string lo, .string hi] 38 (0, 0)) from (by rw [e1]; exact blk_drewN HK0.out m1)); have HK1 := Aside0.mk hk1; have x10 : w1.cell? ⟨w.heap.size, 0, none⟩ = some (.string lo) := (blk_cell hk1 0).trans rfl; have x11 : w1.cell? ⟨w.heap.size, 1, none⟩ = some (.string hi) := (blk_cell hk1 1).trans rfl; clear hk1 e1)))
            go_ret
            exact ⟨rfl, HB99.out⟩
          | true =>
            cases r3 : Op.bytesLess key.toList hi.toList with
            | false =>
              clear q0 q1 q2 q3 hOK
              go_enter Try.func7, Try.ntmps7
              go_wp2_with (first
                | (go_at_call 12; go_loud ((refine (awake_calls _).mono ?_); rintro e w99 ⟨rfl, hb99⟩; have HB99 := Aside0.mk (below_step HB4.out hb99); clear hb99))
                | (go_at_call 19; go_loud ((with_reducible refine (same_yes A3 c3 A2 c2 _ m _ HOK.out.all (by have := HM4.out; rw [HOK.out.all]; omega) (Kd.R_reads' HR3.out).2.2 (Kd.R_reads' HR3.out).2.1 (Kd.C_below HM2.out HBL3.out) HMC.out).mono ?_); rintro e w4 ⟨rfl, hb4⟩; have HB4 := Aside0.mk (below_step HB3.out hb4); clear hb4))
                | (go_at_call 20; go_loud ((with_reducible refine (range_ok _ m (VaTb.bitsT m) ⟨#[]⟩ ⟨#[]⟩ _ HT2.out HM4.out).mono ?_); rintro e w3 ⟨v3, rfl, hR3, hb3⟩; obtain ⟨A3, c3, e3⟩ := Kd.R_slice hR3; subst e3; have HR3 := Aside0.mk hR3; have HT3 := Aside0.mk (HT2.out.below hb3); have HB3 := Aside0.mk (below_step HB2.out hb3); have HBL3 := Aside0.mk hb3; have hk3 := blk_below HK2.out hb3; have HK3 := Aside0.mk hk3; have x30 : w3.cell? ⟨w.heap.size, 0, none⟩ = some (.string lo) := (blk_cell hk3 0).trans rfl; have x31 : w3.cell? ⟨w.heap.size, 1, none⟩ = some (.string hi) := (blk_cell hk3 1).trans rfl; clear hR3 hk3 hb3))
                | (go_at_call 21; go_loud ((with_reducible refine (hop A c _ (Kd.C_below HC.out HB1.out) HCC.out).mono ?_); rintro e w2 ⟨p, A2, c2, rfl, hT2, hC2, hc2, hb2⟩; have HT2 := Aside0.mk hT2; have HM2 := Aside0.mk hC2; have HMC := Aside0.mk hc2; have HB2 := Aside0.mk (below_step HB1.out hb2); have hk2 := blk_below HK1.out hb2; have HK2 := Aside0.mk hk2; have x20 : w2.cell? ⟨w.heap.size, 0, none⟩ = some (.string lo) := (blk_cell hk2 0).trans rfl; have x21 : w2.cell? ⟨w.heap.size, 1, none⟩ = some (.string hi) := (blk_cell hk2 1).trans rfl; clear hT2 hC2 hc2 hb2 hk2))
                | (go_at_call 11; go_loud ((with_reducible refine (sorrellaw10_light.calls 82 A c l true _ (Kd.C_below HC.out HB0.out) HCC.out HLI.out).mono ?_); rintro e w1 ⟨rfl, m1, e1⟩; have HB1 : Aside0 (Below w.heap.size w w1) := ⟨by rw [e1]; exact pw_below_drewN HB0.out _⟩; have hk1 := (show w1.heap[w.heap.size]? = some (.cells #[.string lo, .string hi] 38 (0, 0)) from (by rw [e1]; exact blk_drewN HK0.out m1)); have HK1 := Aside0.mk hk1; have x10 : w1.cell? ⟨w.heap.size, 0, none⟩ = some (.string lo) := (blk_cell hk1 0).trans rfl; have x11 : w1.cell? ⟨w.heap.size, 1, none⟩ = some (.string hi) := (blk_cell hk1 1).trans rfl; clear hk1 e1)))
              go_ret
              exact ⟨rfl, HB99.out⟩
            | true =>
              have hcut : VaSp.CutOk lo hi key := ⟨r1, (by rw [VaSp.emp_size]; exact decide_eq_false (by omega)), (by omega), (by omega), (by omega), VaSp.aheadB_iff.2 (.inr r3)⟩
              have heq := parts_eq hcut m hOK.rise
              have hl1 := VaSp.inR_len lo key m
              have hl2 := VaSp.inR_len key hi m
              obtain ⟨a1, ha1⟩ : ∃ a1, VaSp.inR lo key m = a1 := ⟨_, rfl⟩
              obtain ⟨a2, ha2⟩ : ∃ a2, VaSp.inR key hi m = a2 := ⟨_, rfl⟩
              obtain ⟨aa, haa⟩ : ∃ aa, a1 ++ a2 = aa := ⟨_, rfl⟩
              rw [ha1] at hl1
              rw [ha2] at hl2
              rw [ha1, ha2, haa] at heq
              have HEQ := Aside0.mk heq
              have HA1 := Aside0.mk ha1
              have HA2 := Aside0.mk ha2
              have HAA := Aside0.mk haa
              have HLEN : Aside0 (a1.length ≤ 4096 ∧ a2.length ≤ 4096 ∧ aa.length ≤ 9000) := ⟨by have := HM4.out; rw [← haa, List.length_append]; omega⟩
              clear q0 q1 q2 q3 hOK hcut heq hl1 hl2 ha1 ha2 haa
              go_enter Try.func7, Try.ntmps7
              go_wp2_with (first
                | (go_at_call 12; go_loud ((refine (awake_calls _).mono ?_); rintro e w99 ⟨rfl, hb99⟩; have HB99 := Aside0.mk (below_step HB8.out hb99); clear hb99))
                | (go_at_call 19; go_loud ((with_reducible refine (same_yes A6 c6 A7 c7 aa _ _ HEQ.out (by have := HLEN.out; omega) (Kd.C_below (Kd.R_reads' HR6.out).2.2 HBL7.out) (Kd.R_reads' HR6.out).2.1 (Kd.R_reads' HR7.out).2.2 (Kd.R_reads' HR7.out).2.1).mono ?_); rintro e w8 ⟨rfl, hb8⟩; have HB8 := Aside0.mk (below_step HB7.out hb8); clear hb8))
                | (go_at_call 20; go_loud ((with_reducible refine (range_ok _ m (VaTb.bitsT m) lo hi _ HT6.out HM4.out).mono ?_); rintro e w7 ⟨v7, rfl, hR7, hb7⟩; obtain ⟨A7, c7, e7⟩ := Kd.R_slice hR7; subst e7; have HR7 := Aside0.mk hR7; have HT7 := Aside0.mk (HT6.out.below hb7); have HB7 := Aside0.mk (below_step HB6.out hb7); have HBL7 := Aside0.mk hb7; have hk7 := blk_below HK6.out hb7; have HK7 := Aside0.mk hk7; have x70 : w7.cell? ⟨w.heap.size, 0, none⟩ = some (.string lo) := (blk_cell hk7 0).trans rfl; have x71 : w7.cell? ⟨w.heap.size, 1, none⟩ = some (.string hi) := (blk_cell hk7 1).trans rfl; clear hR7 hk7 hb7))
                | ((with_reducible refine gate_builtin (b := .append) (xs := #[.tmp 101, .tmp 102]) rfl ?_); at_builtin; go_loud (refine Kd.R_append_rows k43 (w0 := w4) w4.heap.size rfl (.tmp 101) (.tmp 102) 22 43 (.agg #[(.string ⟨#[]⟩), (.string ⟨#[]⟩), (.bool false), (.int .i64 0)]) 48 rfl Try.underlying22 info43 rfl (by decide) (by omega) (.slice A5 a1.length c5) a1 a2 _ _ _ (fun _ => True) (fun _ => False) rfl rfl HR5.out (Kd.C_below (Kd.R_reads' HR4.out).2.2 HB5.out) (fun _ _ h => h) (fun _ h => h.elim) (fun _ _ => trivial) HB5.out (HB5.out).size (by have := HLEN.out; omega) ?_); intro v6 w6 ho6 hb6 hg6 hat6; rw [HAA.out] at ho6; obtain ⟨A6, c6, e6⟩ := Kd.R_slice ho6; subst e6; have HR6 := Aside0.mk ho6; have HB6 := Aside0.mk (below_step HB4.out hb6); have HT6 := Aside0.mk (HT4.out.below hb6); have hk6 := blk_below HK4.out hb6; have HK6 := Aside0.mk hk6; have x60 : w6.cell? ⟨w.heap.size, 0, none⟩ = some (.string lo) := (blk_cell hk6 0).trans rfl; have x61 : w6.cell? ⟨w.heap.size, 1, none⟩ = some (.string hi) := (blk_cell hk6 1).trans rfl; clear hk6; clear ho6 hb6 hg6 hat6)
                | ((with_reducible refine gate_builtin (b := .append) (xs := #[.tmp 98, .tmp 99]) rfl ?_); at_builtin; go_loud (refine Kd.R_append_rows k43 (w0 := w4) w4.heap.size rfl (.tmp 98) (.tmp 99) 22 43 (.agg #[(.string ⟨#[]⟩), (.string ⟨#[]⟩), (.bool false), (.int .i64 0)]) 48 rfl Try.underlying22 info43 rfl (by decide) (by omega) (.slice none 0 0) ([] : List S43) a1 _ _ _ (fun _ => True) (fun _ => False) rfl rfl (Kd.R_nil _ _ _ _ _) (Kd.C_below (Kd.R_reads' HR3.out).2.2 HBL4.out) (fun _ _ h => h) (fun _ h => h.elim) (fun _ _ => trivial) HBZ4.out (HBZ4.out).size (by have := HLEN.out; have h0 : ([] : List S43).length = 0 := rfl; omega) ?_); intro v5 w5 ho5 hb5 hg5 hat5; rw [List.nil_append] at ho5; obtain ⟨A5, c5, e5⟩ := Kd.R_slice ho5; subst e5; have HR5 := Aside0.mk ho5; have HB5 := Aside0.mk hb5; clear ho5 hb5 hg5 hat5)
                | (go_at_call 20; go_loud ((with_reducible refine (range_ok _ m (VaTb.bitsT m) key hi _ HT3.out HM4.out).mono ?_); rintro e w4 ⟨v4, rfl, hR4, hb4⟩; rw [HA2.out] at hR4; have HBZ4 := Aside0.mk (Below.refl w4.heap.size w4); obtain ⟨A4, c4, e4⟩ := Kd.R_slice hR4; subst e4; have HR4 := Aside0.mk hR4; have HT4 := Aside0.mk (HT3.out.below hb4); have HB4 := Aside0.mk (below_step HB3.out hb4); have HBL4 := Aside0.mk hb4; have hk4 := blk_below HK3.out hb4; have HK4 := Aside0.mk hk4; have x40 : w4.cell? ⟨w.heap.size, 0, none⟩ = some (.string lo) := (blk_cell hk4 0).trans rfl; have x41 : w4.cell? ⟨w.heap.size, 1, none⟩ = some (.string hi) := (blk_cell hk4 1).trans rfl; clear hR4 hk4 hb4))
                | (go_at_call 20; go_loud ((with_reducible refine (range_ok _ m (VaTb.bitsT m) lo key _ HT2.out HM4.out).mono ?_); rintro e w3 ⟨v3, rfl, hR3, hb3⟩; rw [HA1.out] at hR3; obtain ⟨A3, c3, e3⟩ := Kd.R_slice hR3; subst e3; have HR3 := Aside0.mk hR3; have HT3 := Aside0.mk (HT2.out.below hb3); have HB3 := Aside0.mk (below_step HB2.out hb3); have HBL3 := Aside0.mk hb3; have hk3 := blk_below HK2.out hb3; have HK3 := Aside0.mk hk3; have x30 : w3.cell? ⟨w.heap.size, 0, none⟩ = some (.string lo) := (blk_cell hk3 0).trans rfl; have x31 : w3.cell? ⟨w.heap.size, 1, none⟩ = some (.string hi) := (blk_cell hk3 1).trans rfl; clear hR3 hk3 hb3))
                | (go_at_call 21; go_loud ((with_reducible refine (hop A c _ (Kd.C_below HC.out HB1.out) HCC.out).mono ?_); rintro e w2 ⟨p, A2, c2, rfl, hT2, hC2, hc2, hb2⟩; have HT2 := Aside0.mk hT2; have HM2 := Aside0.mk hC2; have HMC := Aside0.mk hc2; have HB2 := Aside0.mk (below_step HB1.out hb2); have hk2 := blk_below HK1.out hb2; have HK2 := Aside0.mk hk2; have x20 : w2.cell? ⟨w.heap.size, 0, none⟩ = some (.string lo) := (blk_cell hk2 0).trans rfl; have x21 : w2.cell? ⟨w.heap.size, 1, none⟩ = some (.string hi) := (blk_cell hk2 1).trans rfl; clear hT2 hC2 hc2 hb2 hk2))
                | (go_at_call 11; go_loud ((with_reducible refine (sorrellaw10_light.calls 82 A c l true _ (Kd.C_below HC.out HB0.out) HCC.out HLI.out).mono ?_); rintro e w1 ⟨rfl, m1, e1⟩; have HB1 : Aside0 (Below w.heap.size w w1) := ⟨by rw [e1]; exact pw_below_drewN HB0.out _⟩; have hk1 := (show w1.heap[w.heap.size]? = some (.cells #[.string lo, .string hi] 38 (0, 0)) from (by rw [e1]; exact blk_drewN HK0.out m1)); have HK1 := Aside0.mk hk1; have x10 : w1.cell? ⟨w.heap.size, 0, none⟩ = some (.string lo) := (blk_cell hk1 0).trans rfl; have x11 : w1.cell? ⟨w.heap.size, 1, none⟩ = some (.string hi) := (blk_cell hk1 1).trans rfl; clear hk1 e1)))
              go_ret
              exact ⟨rfl, HB99.out⟩
theorem law_parts {R P1 P2 : Prop} (a0 : Option Addr) (c0 : Nat) (l0 : List S43) (x1 : S38) (x2 : ByteArray) {W : World} (hC : Kd.C k43 W a0 l0.length l0) (hl : l0.length ≤ c0) (_ : R) (_ : P1) (_ : P2) :
    Calls Try.prog 7 #[.slice a0 l0.length c0, .agg #[.string x1.f0, .string x1.f1], .string x2] W fun e w' => e = .returned (.bool true) ∧ Below W.heap.size W w' := parts_calls a0 c0 l0 x1.f0 x1.f1 x2 W hC hl
end Go.Proofs.Ytlmoafkmhenejaa.XA
