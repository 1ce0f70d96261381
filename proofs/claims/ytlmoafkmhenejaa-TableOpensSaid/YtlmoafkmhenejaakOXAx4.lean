import Derived.Test.YtlmoafkmhenejaakOXAx0
import Derived.Test.YtlmoafkmhenejaakOXAx3
namespace Go.Proofs.YtlmoafkmhenejaaW.PrintWords
end Go.Proofs.YtlmoafkmhenejaaW.PrintWords
namespace Go.Proofs.YtlmoafkmhenejaaW.PrintLast
end Go.Proofs.YtlmoafkmhenejaaW.PrintLast
namespace Go.Proofs.YtlmoafkmhenejaaW.PrintMore
end Go.Proofs.YtlmoafkmhenejaaW.PrintMore
namespace Go.Proofs.Ytlmoafkmhenejaa.XW
end Go.Proofs.Ytlmoafkmhenejaa.XW
namespace Go.Proofs.Ytlmoafkmhenejaa.XA
open Go.RowKit Go.Proofs.YtlmoafkmhenejaaW.PrintWords Go.Proofs.YtlmoafkmhenejaaW.PrintLast Go.Proofs.YtlmoafkmhenejaaW.PrintMore Go.Proofs.Ytlmoafkmhenejaa.XW
attribute [local go_sem high] max2_str unary_xor_u32 leq_str geq_str gtr_str
attribute [local go_sem] max2_int min2_int max_two min_two max_three min_three max_four min_four   -- for this text's walks alone
set_option linter.unusedVariables false
set_option linter.unusedSimpArgs false
mutual
def varint_Put.j0 : Nat → Int → Bool → Option (ByteArray × Int)
  | 0, _, _ => none
  | k + 1, x0, x10 => if x10 = true then (some ((⟨#[]⟩ : ByteArray), 1)) else (varint_Put.l0 k x0 ([] : List Int))
def varint_Put.l0 : Nat → Int → List Int → Option (ByteArray × Int)
  | 0, _, _ => none
  | k + 1, x0, x4 => if x0 ≥ 128 then (if x4.length < 140737488355328 then (varint_Put.l0 k (x0 / 128) (x4 ++ [Go.bits .or .u8 ((x0) % 256) 128])) else (none)) else (if x4.length < 140737488355328 then (some (strOfNums (x4 ++ [(x0) % 256]), 0)) else (none))
end
def varint_Put.f (k : Nat) (a0 : Int) : Option (ByteArray × Int) := if a0 < 0 then (varint_Put.j0 k a0 true) else (varint_Put.j0 k a0 (decide (a0 > 4611686018427387904)))
set_option maxHeartbeats 8000000 in
set_option maxRecDepth 100000 in
theorem varint_Put.calls (k : Nat) (a0 : Int) (r1 : ByteArray) (r2 : Int) (w : World) (h : varint_Put.f k a0 = some (r1, r2)) :
    Calls Try.prog 34 #[.int .i64 a0] w fun e w' => e = .returned (.tuple #[.string r1, .int .i64 r2]) ∧ Below w.heap.size w w' := by
  have HB := Aside0.mk (Below.refl w.heap.size w)
  have H : (if a0 < 0 then (varint_Put.j0 k a0 true) else (varint_Put.j0 k a0 (decide (a0 > 4611686018427387904)))) = some (r1, r2) := h
  clear h
  have HC2 := Aside0.mk H
  clear H
  go_enter Try.func34, Try.ntmps34
  go_upto_region 1 with (fail)
  go_cut [10] (fun v10 wc => ∃ (kq : Nat) (x10_1 : Bool), v10 = .bool x10_1 ∧ Aside0 (varint_Put.j0 kq a0 x10_1 = some (r1, r2)) ∧ Aside0 (kq ≤ k) ∧ Aside0 (Below w.heap.size w wc))
  case first =>
    have H := HC2.out; clear HC2
    by_cases c3 : a0 < 0
    · rw [if_pos c3] at H; have c3b0 : decide (a0 < 0) = true := decide_eq_true c3; clear c3
      (first | rw [c3b0] | (simp only [i64_w, i32_w]; rw [c3b0]) | skip)
      have H' := Aside0.mk H; clear H; go_wp2
      go_meet
      case rel => exact ⟨_, (true), (by first | rfl | (simp; done) | (simp [*]; done) | exact isE1 _ | exact isE2 _ | exact isE3 _ | exact isE4 _ | exact congrArg Value.bool (isE1 _) | exact congrArg Value.bool (isE2 _) | exact congrArg Value.bool (isE3 _) | exact congrArg Value.bool (isE4 _)), H', ⟨by first | omega | exact Nat.le_refl _⟩, ⟨by repeat (first | (with_reducible first | exact HB.out | apply below_alloc | apply pw_below_drewN | apply below_drew1) | exact HB.out)⟩⟩
    · rw [if_neg c3] at H; have c3b0 : decide (a0 < 0) = false := decide_eq_false c3; clear c3
      (first | rw [c3b0] | (simp only [i64_w, i32_w]; rw [c3b0]) | skip)
      have H' := Aside0.mk H; clear H; go_wp2
      go_meet
      case rel => exact ⟨_, (decide (a0 > 4611686018427387904)), (by first | rfl | (simp; done) | (simp [*]; done) | exact isE1 _ | exact isE2 _ | exact isE3 _ | exact isE4 _ | exact congrArg Value.bool (isE1 _) | exact congrArg Value.bool (isE2 _) | exact congrArg Value.bool (isE3 _) | exact congrArg Value.bool (isE4 _)), H', ⟨by first | omega | exact Nat.le_refl _⟩, ⟨by repeat (first | (with_reducible first | exact HB.out | apply below_alloc | apply pw_below_drewN | apply below_drew1) | exact HB.out)⟩⟩
  case rest =>
    clear HC2
    try clear p2
    try clear c3
    try clear c3b0
    obtain ⟨kq, x10_1, rfl, HA, HJ1, HB⟩ := hcut
    cases kq with
    | zero => exact absurd HA.out (by simp [varint_Put.j0])
    | succ kj1 =>
      have H := HA.out; clear HA; simp only [varint_Put.j0] at H
      by_cases c4 : x10_1 = true
      · subst c4; have H1 : (some ((⟨#[]⟩ : ByteArray), 1)) = some (r1, r2) := by rw [if_pos rfl] at H; exact H
        clear H; have H := H1; clear H1; simp only [Option.some.injEq, Prod.mk.injEq] at H; obtain ⟨rfl, rfl⟩ := H; go_wp2; go_ret2; exact ⟨by first | rfl | (simp [errW_none, errW_some] <;> rfl) | (simp [*, errW_none, errW_some] <;> rfl), by repeat (first | (with_reducible first | exact HB.out | apply below_alloc | apply pw_below_drewN | apply below_drew1) | exact HB.out)⟩
      · replace c4 := Bool.eq_false_iff.mpr c4; subst c4; have H1 : (varint_Put.l0 kj1 a0 ([] : List Int)) = some (r1, r2) := by rw [if_neg (show ¬ (false = true) by decide)] at H; exact H
        clear H; have H := H1; clear H1; have H' := Aside0.mk H; clear H; go_wp2
        go_loopg [0, 4] kj1 (fun kq v0 v4 w' => ∃ (x0_2 : Int) (x4_2 : List Int), v0 = .int .i64 x0_2 ∧ Aside0 (varint_Put.l0 kq x0_2 x4_2 = some (r1, r2)) ∧ Aside0 (kq ≤ kj1) ∧ Aside0 (Kd.R (Kd.int .u8) 5 w' w.heap.size (fun _ => True) v4 x4_2) ∧ Aside0 (Below w.heap.size w w'))
        case atStart => exact ⟨(a0), (([] : List Int)), (by first | rfl | (simp; done) | (simp [*]; done) | exact isE1 _ | exact isE2 _ | exact isE3 _ | exact isE4 _ | exact congrArg Value.bool (isE1 _) | exact congrArg Value.bool (isE2 _) | exact congrArg Value.bool (isE3 _) | exact congrArg Value.bool (isE4 _)), H', ⟨Nat.le_refl _⟩, ⟨by first | exact Kd.R_nil _ _ _ _ _ | exact Kd.N_nil _ _ _ _ _ | exact Kd.V_nil _ _ _ _ _ | exact Kd.Q_nil _ _ _ _ _ | exact Kd.S_nil _ _ _ _ _⟩, ⟨by repeat (first | (with_reducible first | exact HB.out | apply below_alloc | apply pw_below_drewN | apply below_drew1) | exact HB.out)⟩⟩
        case round =>
          clear H'
          try clear p2
          try clear c3
          try clear c3b0
          try clear c4
          try clear p2
          obtain ⟨x0_2, x4_2, rfl, HA, HK2, HO_4, HB⟩ := hrel
          cases gk with
          | zero => exact absurd HA.out (by simp [varint_Put.l0])
          | succ k2 =>
            have H := HA.out; clear HA; simp only [varint_Put.l0] at H
            by_cases c5 : x0_2 ≥ 128
            · rw [if_pos c5] at H; have c5b0 : decide (128 ≤ x0_2) = true := decide_eq_true c5; clear c5
              by_cases c6 : x4_2.length < 140737488355328
              · rw [if_pos c6] at H; have LMc6 := Aside0.mk c6; clear c6; obtain ⟨y112, hy112⟩ : ∃ y_ : List Int, y_ = (x4_2 ++ [Go.bits .or .u8 ((x0_2) % 256) 128]) := ⟨_, rfl⟩; replace H : (varint_Put.l0 k2 (x0_2 / 128) y112) = some (r1, r2) := by first | (rw [hy112]; with_reducible exact H) | (have H2_ := (Option.bind_some _ _).symm.trans H; rw [hy112]; with_reducible exact H2_) | (have H2_ := (Option.bind_some _ _).symm.trans H; with_reducible exact H2_) | with_reducible exact H | (rw [hy112]; exact H) | exact H
                have Ny112 := Aside0.mk hy112; clear hy112; have H' := Aside0.mk H; clear H
                go_wp2_with (first | ((with_reducible refine gate_builtin (b := .append) (xs := #[.tmp 15, .tmp 19]) rfl ?_); at_builtin; refine Kd.R_append (Kd.int .u8) (w0 := w) w.heap.size rfl (.tmp 15) (.tmp 19) 47 5 (.int .u8 0) 1 rfl Try.underlying47 info5 rfl (by decide) (by omega) u4 x4_2 (Go.bits .or .u8 ((x0_2) % 256) 128) [.int .u8 (Go.bits .or .u8 ((x0_2) % 256) 128)] (fun _ => True) (fun _ => False) rfl rfl ?aP (fun _ hk => hk.elim) ?aF ?aO ?aB ?aS ?aL ?_; (case aP => exact rfl); (case aB => exact (by repeat (first | (with_reducible first | exact HB.out | apply below_alloc | apply pw_below_drewN | apply below_drew1) | exact HB.out))); (case aF => exact (fun _ _ => trivial)); (case aO => exact (by (with_reducible repeat (first | apply Kd.R_alloc | apply Kd.R_drewN | apply Kd.R_drew)); exact HO_4.out)); (case aS => exact (below_size (by repeat (first | (with_reducible first | exact HB.out | apply below_alloc | apply pw_below_drewN | apply below_drew1) | exact HB.out)))); (case aL => have := LMc6.out; omega); intro v113 w7 ho hb hg hat; rw [← Ny112.out] at ho; have n0_ := Aside0.mk (hb); have n1_ := Aside0.mk (ho); clear HB; clear HO_4; have HB := n0_; have HO114 := n1_; clear n0_ n1_; clear ho hb hg hat))
                go_roundg k2
                case measure => have := HJ1.out; have := HK2.out; omega
                case rel => exact ⟨(x0_2 / 128), (y112), (by first | rfl | (simp; done) | (simp [*]; done) | exact isE1 _ | exact isE2 _ | exact isE3 _ | exact isE4 _ | exact congrArg Value.bool (isE1 _) | exact congrArg Value.bool (isE2 _) | exact congrArg Value.bool (isE3 _) | exact congrArg Value.bool (isE4 _)), H', ⟨by have := HJ1.out; have := HK2.out; omega⟩, ⟨by (with_reducible repeat (first | apply Kd.R_alloc | apply Kd.R_drewN | apply Kd.R_drew)); exact HO114.out⟩, ⟨by repeat (first | (with_reducible first | exact HB.out | apply below_alloc | apply pw_below_drewN | apply below_drew1) | exact HB.out)⟩⟩
              · rw [if_neg c6] at H; exact absurd H (by simp)
            · rw [if_neg c5] at H; have c5b0 : decide (128 ≤ x0_2) = false := decide_eq_false c5; clear c5
              by_cases c8 : x4_2.length < 140737488355328
              · rw [if_pos c8] at H; have LMc8 := Aside0.mk c8; clear c8; obtain ⟨y115, hy115⟩ : ∃ y_ : List Int, y_ = (x4_2 ++ [(x0_2) % 256]) := ⟨_, rfl⟩; replace H : (some (strOfNums y115, 0)) = some (r1, r2) := by first | (rw [hy115]; with_reducible exact H) | (have H2_ := (Option.bind_some _ _).symm.trans H; rw [hy115]; with_reducible exact H2_) | (have H2_ := (Option.bind_some _ _).symm.trans H; with_reducible exact H2_) | with_reducible exact H | (rw [hy115]; exact H) | exact H
                have Ny115 := Aside0.mk hy115; clear hy115; simp only [Option.some.injEq, Prod.mk.injEq] at H; obtain ⟨rfl, rfl⟩ := H
                go_wp2_with (first | ((with_reducible refine gate_builtin (b := .append) (xs := #[.tmp 21, .tmp 24]) rfl ?_); at_builtin; refine Kd.R_append (Kd.int .u8) (w0 := w) w.heap.size rfl (.tmp 21) (.tmp 24) 47 5 (.int .u8 0) 1 rfl Try.underlying47 info5 rfl (by decide) (by omega) u4 x4_2 ((x0_2) % 256) [.int .u8 ((x0_2) % 256)] (fun _ => True) (fun _ => False) rfl rfl ?aP (fun _ hk => hk.elim) ?aF ?aO ?aB ?aS ?aL ?_; (case aP => exact rfl); (case aB => exact (by repeat (first | (with_reducible first | exact HB.out | apply below_alloc | apply pw_below_drewN | apply below_drew1) | exact HB.out))); (case aF => exact (fun _ _ => trivial)); (case aO => exact (by (with_reducible repeat (first | apply Kd.R_alloc | apply Kd.R_drewN | apply Kd.R_drew)); exact HO_4.out)); (case aS => exact (below_size (by repeat (first | (with_reducible first | exact HB.out | apply below_alloc | apply pw_below_drewN | apply below_drew1) | exact HB.out)))); (case aL => have := LMc8.out; omega); intro v116 w9 ho hb hg hat; rw [← Ny115.out] at ho; have n0_ := Aside0.mk (hb); have n1_ := Aside0.mk (ho); clear HB; clear HO_4; have HB := n0_; have HO117 := n1_; clear n0_ n1_; clear ho hb hg hat; have hcv10 := own_string (P := Try.prog) Try.underlying47 Try.underlying5 Try.underlying9 (Kd.own_of_R HO117.out)))
                go_ret2; exact ⟨by first | rfl | (simp [errW_none, errW_some] <;> rfl) | (simp [*, errW_none, errW_some] <;> rfl), by repeat (first | (with_reducible first | exact HB.out | apply below_alloc | apply pw_below_drewN | apply below_drew1) | exact HB.out)⟩
              · rw [if_neg c8] at H; exact absurd H (by simp)
def varint_Text.f (k : Nat) (a0 : ByteArray) : Option (ByteArray × Int) := if (a0.size : Int) > 262144 then (some ((⟨#[]⟩ : ByteArray), 1)) else ((varint_Put.f k (a0.size : Int)).bind fun bt118 => (if bt118.1.size + a0.size ≤ 9223372036854775807 then (some (bt118.1 ++ a0, 0)) else (none)))
set_option maxHeartbeats 8000000 in
set_option maxRecDepth 100000 in
theorem varint_Text.calls (k : Nat) (a0 : ByteArray) (r1 : ByteArray) (r2 : Int) (w : World) (h : varint_Text.f k a0 = some (r1, r2)) :
    Calls Try.prog 37 #[.string a0] w fun e w' => e = .returned (.tuple #[.string r1, .int .i64 r2]) ∧ Below w.heap.size w w' := by
  have HB := Aside0.mk (Below.refl w.heap.size w)
  have H : (if (a0.size : Int) > 262144 then (some ((⟨#[]⟩ : ByteArray), 1)) else ((varint_Put.f k (a0.size : Int)).bind fun bt118 => (if bt118.1.size + a0.size ≤ 9223372036854775807 then (some (bt118.1 ++ a0, 0)) else (none)))) = some (r1, r2) := h
  clear h
  by_cases c2 : (a0.size : Int) > 262144
  · rw [if_pos c2] at H; have c2b0 : decide (262144 < (a0.size : Int)) = true := decide_eq_true c2; have c2b1 : decide (262144 < a0.size) = true := decide_eq_true (by omega); clear c2; simp only [Option.some.injEq, Prod.mk.injEq] at H; obtain ⟨rfl, rfl⟩ := H; go_enter Try.func37, Try.ntmps37; go_wp2; go_ret2; exact ⟨by first | rfl | (simp [errW_none, errW_some] <;> rfl) | (simp [*, errW_none, errW_some] <;> rfl), by repeat (first | (with_reducible first | exact HB.out | apply below_alloc | apply pw_below_drewN | apply below_drew1) | exact HB.out)⟩
  · rw [if_neg c2] at H; have c2b0 : decide (262144 < (a0.size : Int)) = false := decide_eq_false c2; have c2b1 : decide (262144 < a0.size) = false := decide_eq_false (by omega); clear c2; replace H := Option.bind_eq_some_iff.mp H; obtain ⟨⟨t118, t119⟩, A30, H⟩ := H; replace H : (if t118.size + a0.size ≤ 9223372036854775807 then (some (t118 ++ a0, 0)) else (none)) = some (r1, r2) := H; have A3 := Aside0.mk A30; clear A30
    by_cases c4 : t118.size + a0.size ≤ 9223372036854775807
    · rw [if_pos c4] at H; have c4b0 := eq_true c4; have c4b1 : decide (t118.size + a0.size ≤ 9223372036854775807) = true := decide_eq_true c4
      try have c4b2 : (9223372036854775807 < t118.size + a0.size) = False := eq_false (Nat.not_lt.2 c4)
      simp only [Option.some.injEq, Prod.mk.injEq] at H; obtain ⟨rfl, rfl⟩ := H; go_enter Try.func37, Try.ntmps37
      go_wp2_with (first | ((with_reducible refine gate_callee (f := 34) rfl ?_); refine goesL_ (some 12) rfl rfl Try.func34 (by kernel_rfl) rfl #[.int .i64 (a0.size : Int)] rfl (by (try simp only [List.map_toArray, List.map_cons, List.map_nil]); first | done | rfl | (simp only [List.length_drop, List.length_take]; rfl)) ?_; (with_reducible refine (varint_Put.calls k (a0.size : Int) t118 t119 _ A3.out).mono ?_); rintro e w5 ⟨rfl, hb⟩; refine ⟨_, rfl, ?_⟩; have n0_ := Aside0.mk (below_step (by repeat (first | (with_reducible first | exact HB.out | apply below_alloc | apply pw_below_drewN | apply below_drew1) | exact HB.out)) hb); clear HB; have HB := n0_; clear n0_; (try clear hb); (try clear hb2); (try clear hk); (try clear hi)))
      go_ret2; exact ⟨by first | rfl | (simp [errW_none, errW_some] <;> rfl) | (simp [*, errW_none, errW_some] <;> rfl), by repeat (first | (with_reducible first | exact HB.out | apply below_alloc | apply pw_below_drewN | apply below_drew1) | exact HB.out)⟩
    · rw [if_neg c4] at H; exact absurd H (by simp)
def crc_bytes.dig (a : Int) (j : Nat) : Int := a / 2 ^ (8 * j) % 256
def crc_bytes.digs (a : Int) (k : Nat) : Array Value := #[.int .u8 (if 0 < k then crc_bytes.dig a 0 else 0), .int .u8 (if 1 < k then crc_bytes.dig a 1 else 0), .int .u8 (if 2 < k then crc_bytes.dig a 2 else 0), .int .u8 (if 3 < k then crc_bytes.dig a 3 else 0)]
theorem crc_bytes.digs_at (a : Int) (k : Nat) (h : k < 4) : (crc_bytes.digs a k)[k]? = some (.int .u8 0) := by
  match k, h with
  | 0, _ => rfl
  | 1, _ => rfl
  | 2, _ => rfl
  | 3, _ => rfl
theorem crc_bytes.digs_set (a : Int) (k : Nat) (h : k < 4) : (crc_bytes.digs a k).setIfInBounds k (.int .u8 (a / 2 ^ (8 * k) % 256)) = crc_bytes.digs a (k + 1) := by
  match k, h with
  | 0, _ => rfl
  | 1, _ => rfl
  | 2, _ => rfl
  | 3, _ => rfl
theorem crc_bytes.digs_end (a : Int) (i : Nat) (h : i < 4) : (crc_bytes.digs a 4)[i]? = some (.int .u8 ([crc_bytes.dig a 0, crc_bytes.dig a 1, crc_bytes.dig a 2, crc_bytes.dig a 3].getD i 0)) := by
  match i, h with
  | 0, _ => rfl
  | 1, _ => rfl
  | 2, _ => rfl
  | 3, _ => rfl
def crc_bytes.f (a0 : Int) : Option (ByteArray) := some (strOfNums [crc_bytes.dig a0 0, crc_bytes.dig a0 1, crc_bytes.dig a0 2, crc_bytes.dig a0 3])
set_option maxHeartbeats 800000 in
set_option maxRecDepth 100000 in
theorem crc_bytes.calls (a0 : Int) (r : ByteArray) (w : World) (h : crc_bytes.f a0 = some r) :
    Calls Try.prog 76 #[.int .i64 a0] w fun e w' => e = .returned (.string r) ∧ Below w.heap.size w w' := by
  obtain rfl := Option.some.inj h
  clear h
  go_enter Try.func76, Try.ntmps76
  go_wp2
  go_loopw [5] (fun v wr => ∃ k : Nat, k ≤ 4 ∧ v = .int .i64 k ∧ Aside0 (wr.heap[w.heap.size]? = some (.cells (crc_bytes.digs a0 k) 102 (0, 0))) ∧ Aside0 (Below w.heap.size w wr)) (fun v _ => 4 - (intOf v).toNat)
  case atStart => exact ⟨0, by omega, rfl, ⟨heap_alloc_new w (.cells (crc_bytes.digs a0 0) 102)⟩, ⟨below_alloc (Below.refl _ _) _⟩⟩
  case round =>
    obtain ⟨k, hk, rfl, HB, HW⟩ := hrel
    by_cases c : k < 4
    · have hc : wr.cell? ⟨w.heap.size, k, none⟩ = some (.int .u8 0) := (blk_cell HB.out k).trans (crc_bytes.digs_at a0 k c); have hf := blk_frozen HB.out k; go_wp2; exact ⟨⟨k + 1, by omega, rfl, ⟨by rw [← crc_bytes.digs_set a0 k c]; exact blk_set HB.out k _⟩, ⟨below_set HW.out (Nat.le_refl _)⟩⟩, by simp [intOf]; omega⟩
    · obtain rfl : k = 4 := by omega
      have hcv := Go.run_convert_bytes_arg (P := Try.prog) (w := wr) 47 5 Try.underlying47 Try.underlying5 w.heap.size 0 4 4 [crc_bytes.dig a0 0, crc_bytes.dig a0 1, crc_bytes.dig a0 2, crc_bytes.dig a0 3] rfl (fun i hi => by rw [Nat.zero_add]; exact (blk_cell HB.out i).trans (crc_bytes.digs_end a0 i hi)) 9 Try.underlying9; go_wp2; go_ret; exact ⟨rfl, HW.out⟩
mutual
def crc_More.l0 : Nat → ByteArray → Int → Int → Int → Option (Int)
  | 0, _, _, _, _ => none
  | k + 1, x1, x5, x13, x14 => if x14 < x13 then (if 0 ≤ x14 then (if x14 < (x1.size : Int) then (crc_More.l1 k x1 (Go.bits .xor .u32 x5 ((bt x1 x14) % 4294967296)) x13 x14 0) else (none)) else (none)) else (some (wrap64 (Go.bits .xor .u32 4294967295 x5)))
def crc_More.l1 : Nat → ByteArray → Int → Int → Int → Int → Option (Int)
  | 0, _, _, _, _, _ => none
  | k + 1, x1, x5, x13, x14, x23 => if x23 < 8 then (if (Go.bits .and .u32 x5 1) = 1 then (crc_More.l1 k x1 (Go.bits .xor .u32 (x5 / 2) 2197175160) x13 x14 (wrap64 (x23 + 1))) else (crc_More.l1 k x1 (x5 / 2) x13 x14 (wrap64 (x23 + 1)))) else (crc_More.l0 k x1 x5 x13 (wrap64 (x14 + 1)))
end
def crc_More.f (k : Nat) (a0 : Int) (a1 : ByteArray) : Option (Int) := crc_More.l0 k a1 (Go.bits .xor .u32 4294967295 ((Go.bits .and .i64 a0 4294967295) % 4294967296)) (a1.size : Int) 0
set_option maxHeartbeats 8000000 in
set_option maxRecDepth 100000 in
theorem crc_More.calls (k : Nat) (a0 : Int) (a1 : ByteArray) (r : Int) (w : World) (h : crc_More.f k a0 a1 = some r) :
    Calls Try.prog 105 #[.int .i64 a0, .string a1] w fun e w' => e = .returned (.int .i64 r) ∧ Drawn0 w w' := by
  have H : (crc_More.l0 k a1 (Go.bits .xor .u32 4294967295 ((Go.bits .and .i64 a0 4294967295) % 4294967296)) (a1.size : Int) 0) = some r := h
  clear h
  have H' := Aside0.mk H
  clear H
  go_enter Try.func105, Try.ntmps105
  go_wp2
  go_loopg [5, 14] k (fun kq v5 v14 w' => ∃ (x5_1 : Int) (x14_1 : Int), v5 = .int .u32 x5_1 ∧ v14 = .int .i64 x14_1 ∧ Aside0 (crc_More.l0 kq a1 x5_1 (a1.size : Int) x14_1 = some r) ∧ Aside0 (kq ≤ k) ∧ Drawn0 w w')
  case atStart => exact ⟨(Go.bits .xor .u32 4294967295 ((Go.bits .and .i64 a0 4294967295) % 4294967296)), (0), (by first | rfl | (simp; done) | (simp [*]; done) | exact isE1 _ | exact isE2 _ | exact isE3 _ | exact isE4 _ | exact congrArg Value.bool (isE1 _) | exact congrArg Value.bool (isE2 _) | exact congrArg Value.bool (isE3 _) | exact congrArg Value.bool (isE4 _)), (by first | rfl | (simp; done) | (simp [*]; done) | exact isE1 _ | exact isE2 _ | exact isE3 _ | exact isE4 _ | exact congrArg Value.bool (isE1 _) | exact congrArg Value.bool (isE2 _) | exact congrArg Value.bool (isE3 _) | exact congrArg Value.bool (isE4 _)), H', ⟨Nat.le_refl _⟩, by repeat (first | exact Drawn0.refl _ | apply Drawn0.step)⟩
  case round =>
    clear H'
    try clear c1
    try clear p2
    obtain ⟨x5_1, x14_1, rfl, rfl, HA, HK1, ⟨m1, rfl⟩⟩ := hrel
    cases gk with
    | zero => exact absurd HA.out (by simp [crc_More.l0])
    | succ k1 =>
      have H := HA.out; clear HA; simp only [crc_More.l0] at H
      by_cases c3 : x14_1 < (a1.size : Int)
      · rw [if_pos c3] at H; have c3b0 : decide (x14_1 < (a1.size : Int)) = true := decide_eq_true c3; clear c3
        by_cases c4 : 0 ≤ x14_1
        · rw [if_pos c4] at H; have c4b0 : decide (0 ≤ x14_1) = true := decide_eq_true c4; clear c4
          by_cases c5 : x14_1 < (a1.size : Int)
          · rw [if_pos c5] at H; have c5b0 : decide (x14_1 < (a1.size : Int)) = true := decide_eq_true c5; clear c5; have H' := Aside0.mk H; clear H; have p6 : 0 ≤ (x14_1 : Int) := of_decide_eq_true (by first | (with_reducible assumption) | assumption); have q6 : x14_1 < (a1.size : Int) := of_decide_eq_true (by first | (with_reducible assumption) | assumption); have hx6 := bt_at a1 x14_1; replace p6 := eq_true p6; replace q6 := eq_true q6; go_wp2
            go_loopg [5, 23] k1 (fun kq v5 v23 w' => ∃ (x5_2 : Int) (x23_2 : Int), v5 = .int .u32 x5_2 ∧ v23 = .int .i64 x23_2 ∧ Aside0 (crc_More.l1 kq a1 x5_2 (a1.size : Int) x14_1 x23_2 = some r) ∧ Aside0 (kq ≤ k1) ∧ Drawn0 w w')
            case atStart => exact ⟨(Go.bits .xor .u32 x5_1 ((bt a1 x14_1) % 4294967296)), (0), (by first | rfl | (simp; done) | (simp [*]; done) | exact isE1 _ | exact isE2 _ | exact isE3 _ | exact isE4 _ | exact congrArg Value.bool (isE1 _) | exact congrArg Value.bool (isE2 _) | exact congrArg Value.bool (isE3 _) | exact congrArg Value.bool (isE4 _)), (by first | rfl | (simp; done) | (simp [*]; done) | exact isE1 _ | exact isE2 _ | exact isE3 _ | exact isE4 _ | exact congrArg Value.bool (isE1 _) | exact congrArg Value.bool (isE2 _) | exact congrArg Value.bool (isE3 _) | exact congrArg Value.bool (isE4 _)), H', ⟨Nat.le_refl _⟩, by repeat (first | exact Drawn0.refl _ | apply Drawn0.step)⟩
            case round =>
              clear H'
              try clear c1
              try clear p2
              try clear c3
              try clear c3b0
              try clear c4
              try clear c4b0
              try clear c5
              try clear c5b0
              try clear p6
              try clear q6
              try clear hx6
              try clear p2
              try clear p6
              try clear q6
              obtain ⟨x5_2, x23_2, rfl, rfl, HA, HK2, ⟨m2, rfl⟩⟩ := hrel
              cases gk with
              | zero => exact absurd HA.out (by simp [crc_More.l1])
              | succ k2 =>
                have H := HA.out; clear HA; simp only [crc_More.l1] at H
                by_cases c7 : x23_2 < 8
                · rw [if_pos c7] at H; have c7b0 : decide (x23_2 < 8) = true := decide_eq_true c7; clear c7
                  by_cases c8 : (Go.bits .and .u32 x5_2 1) = 1
                  · rw [if_pos c8] at H; have c8b0 : ((Go.bits .and .u32 x5_2 1) == 1) = true := beq_iff_eq.mpr c8; have c8b1 : ((Go.bits .and .u32 x5_2 1) != 1) = false := bne_eq_false_iff_eq.mpr c8; clear c8; have H' := Aside0.mk H; clear H; go_wp2
                    go_roundg k2
                    case measure => have := HK1.out; have := HK2.out; omega
                    case rel => exact ⟨(Go.bits .xor .u32 (x5_2 / 2) 2197175160), (wrap64 (x23_2 + 1)), (by first | rfl | (simp; done) | (simp [*]; done) | exact isE1 _ | exact isE2 _ | exact isE3 _ | exact isE4 _ | exact congrArg Value.bool (isE1 _) | exact congrArg Value.bool (isE2 _) | exact congrArg Value.bool (isE3 _) | exact congrArg Value.bool (isE4 _)), (by first | rfl | (simp; done) | (simp [*]; done) | exact isE1 _ | exact isE2 _ | exact isE3 _ | exact isE4 _ | exact congrArg Value.bool (isE1 _) | exact congrArg Value.bool (isE2 _) | exact congrArg Value.bool (isE3 _) | exact congrArg Value.bool (isE4 _)), H', ⟨by have := HK1.out; have := HK2.out; omega⟩, by repeat (first | exact Drawn0.refl _ | apply Drawn0.step)⟩
                  · rw [if_neg c8] at H; have c8b0 : ((Go.bits .and .u32 x5_2 1) == 1) = false := beq_eq_false_iff_ne.mpr c8; have c8b1 : ((Go.bits .and .u32 x5_2 1) != 1) = true := bne_iff_ne.mpr c8; have H' := Aside0.mk H; clear H; go_wp2
                    go_roundg k2
                    case measure => have := HK1.out; have := HK2.out; omega
                    case rel => exact ⟨(x5_2 / 2), (wrap64 (x23_2 + 1)), (by first | rfl | (simp; done) | (simp [*]; done) | exact isE1 _ | exact isE2 _ | exact isE3 _ | exact isE4 _ | exact congrArg Value.bool (isE1 _) | exact congrArg Value.bool (isE2 _) | exact congrArg Value.bool (isE3 _) | exact congrArg Value.bool (isE4 _)), (by first | rfl | (simp; done) | (simp [*]; done) | exact isE1 _ | exact isE2 _ | exact isE3 _ | exact isE4 _ | exact congrArg Value.bool (isE1 _) | exact congrArg Value.bool (isE2 _) | exact congrArg Value.bool (isE3 _) | exact congrArg Value.bool (isE4 _)), H', ⟨by have := HK1.out; have := HK2.out; omega⟩, by repeat (first | exact Drawn0.refl _ | apply Drawn0.step)⟩
                · rw [if_neg c7] at H; have c7b0 : decide (x23_2 < 8) = false := decide_eq_false c7; clear c7; have H' := Aside0.mk H; clear H; go_wp2
                  go_roundg k2
                  case measure => have := HK1.out; have := HK2.out; omega
                  case rel => exact ⟨(x5_2), (wrap64 (x14_1 + 1)), (by first | rfl | (simp; done) | (simp [*]; done) | exact isE1 _ | exact isE2 _ | exact isE3 _ | exact isE4 _ | exact congrArg Value.bool (isE1 _) | exact congrArg Value.bool (isE2 _) | exact congrArg Value.bool (isE3 _) | exact congrArg Value.bool (isE4 _)), (by first | rfl | (simp; done) | (simp [*]; done) | exact isE1 _ | exact isE2 _ | exact isE3 _ | exact isE4 _ | exact congrArg Value.bool (isE1 _) | exact congrArg Value.bool (isE2 _) | exact congrArg Value.bool (isE3 _) | exact congrArg Value.bool (isE4 _)), H', ⟨by have := HK1.out; have := HK2.out; omega⟩, by repeat (first | exact Drawn0.refl _ | apply Drawn0.step)⟩
          · rw [if_neg c5] at H; exact absurd H (by simp)
        · rw [if_neg c4] at H; exact absurd H (by simp)
      · rw [if_neg c3] at H; have c3b0 : decide (x14_1 < (a1.size : Int)) = false := decide_eq_false c3; clear c3; obtain rfl := Option.some.inj H; go_wp2; go_ret; exact ⟨by first | rfl | (simp; done) | (simp [*]; done) | exact isE1 _ | exact isE2 _ | exact isE3 _ | exact isE4 _ | exact congrArg Value.bool (isE1 _) | exact congrArg Value.bool (isE2 _) | exact congrArg Value.bool (isE3 _) | exact congrArg Value.bool (isE4 _), by repeat (first | exact Drawn0.refl _ | apply Drawn0.step)⟩
def crc_Sum.f (k : Nat) (a0 : ByteArray) : Option (Int) := (crc_More.f k 0 a0).bind fun t120 => (some t120)
set_option maxHeartbeats 8000000 in
set_option maxRecDepth 100000 in
theorem crc_Sum.calls (k : Nat) (a0 : ByteArray) (r : Int) (w : World) (h : crc_Sum.f k a0 = some r) :
    Calls Try.prog 77 #[.string a0] w fun e w' => e = .returned (.int .i64 r) ∧ Drawn0 w w' := by
  have H : ((crc_More.f k 0 a0).bind fun t120 => (some t120)) = some r := h
  clear h
  replace H := Option.bind_eq_some_iff.mp H
  obtain ⟨t120, A20, H⟩ := H
  replace H : (some t120) = some r := H
  have A2 := Aside0.mk A20
  clear A20
  obtain rfl := Option.some.inj H
  go_enter Try.func77, Try.ntmps77
  go_wp2_with (first | ((with_reducible refine gate_callee (f := 105) rfl ?_); refine goesL_ (some 4) rfl rfl Try.func105 (by kernel_rfl) rfl #[.int .i64 0, .string a0] rfl (by (try simp only [List.map_toArray, List.map_cons, List.map_nil]); first | done | rfl | (simp only [List.length_drop, List.length_take]; rfl)) ?_; (with_reducible refine (crc_More.calls k 0 a0 t120 _ A2.out).mono ?_); rintro e w' ⟨rfl, ⟨nd, rfl⟩⟩; refine ⟨_, rfl, ?_⟩))
  go_ret
  exact ⟨by first | rfl | (simp; done) | (simp [*]; done) | exact isE1 _ | exact isE2 _ | exact isE3 _ | exact isE4 _ | exact congrArg Value.bool (isE1 _) | exact congrArg Value.bool (isE2 _) | exact congrArg Value.bool (isE3 _) | exact congrArg Value.bool (isE4 _), by repeat (first | exact Drawn0.refl _ | apply Drawn0.step)⟩
def crc_Seal.f (k : Nat) (a0 : ByteArray) : Option (ByteArray) := (crc_Sum.f k a0).bind fun t121 => ((crc_bytes.f t121).bind fun t122 => (if a0.size + t122.size ≤ 9223372036854775807 then (some (a0 ++ t122)) else (none)))
set_option maxHeartbeats 8000000 in
set_option maxRecDepth 100000 in
theorem crc_Seal.calls (k : Nat) (a0 : ByteArray) (r : ByteArray) (w : World) (h : crc_Seal.f k a0 = some r) :
    Calls Try.prog 43 #[.string a0] w fun e w' => e = .returned (.string r) ∧ Below w.heap.size w w' := by
  have HB := Aside0.mk (Below.refl w.heap.size w)
  have H : ((crc_Sum.f k a0).bind fun t121 => ((crc_bytes.f t121).bind fun t122 => (if a0.size + t122.size ≤ 9223372036854775807 then (some (a0 ++ t122)) else (none)))) = some r := h
  clear h
  replace H := Option.bind_eq_some_iff.mp H
  obtain ⟨t121, A20, H⟩ := H
  replace H : ((crc_bytes.f t121).bind fun t122 => (if a0.size + t122.size ≤ 9223372036854775807 then (some (a0 ++ t122)) else (none))) = some r := H
  have A2 := Aside0.mk A20
  clear A20
  replace H := Option.bind_eq_some_iff.mp H
  obtain ⟨t122, A30, H⟩ := H
  replace H : (if a0.size + t122.size ≤ 9223372036854775807 then (some (a0 ++ t122)) else (none)) = some r := H
  have A3 := Aside0.mk A30
  clear A30
  by_cases c4 : a0.size + t122.size ≤ 9223372036854775807
  · rw [if_pos c4] at H; have c4b0 := eq_true c4; have c4b1 : decide (a0.size + t122.size ≤ 9223372036854775807) = true := decide_eq_true c4
    try have c4b2 : (9223372036854775807 < a0.size + t122.size) = False := eq_false (Nat.not_lt.2 c4)
    obtain rfl := Option.some.inj H; go_enter Try.func43, Try.ntmps43
    go_wp2_with (first | ((with_reducible refine gate_callee (f := 77) rfl ?_); refine goesL_ (some 5) rfl rfl Try.func77 (by kernel_rfl) rfl #[.string a0] rfl (by (try simp only [List.map_toArray, List.map_cons, List.map_nil]); first | done | rfl | (simp only [List.length_drop, List.length_take]; rfl)) ?_; (with_reducible refine (crc_Sum.calls k a0 t121 _ A2.out).mono ?_); rintro e w' ⟨rfl, ⟨nd, rfl⟩⟩; refine ⟨_, rfl, ?_⟩) | ((with_reducible refine gate_callee (f := 76) rfl ?_); refine goesL_ (some 6) rfl rfl Try.func76 (by kernel_rfl) rfl #[.int .i64 t121] rfl (by (try simp only [List.map_toArray, List.map_cons, List.map_nil]); first | done | rfl | (simp only [List.length_drop, List.length_take]; rfl)) ?_; (with_reducible refine (crc_bytes.calls t121 t122 _ A3.out).mono ?_); rintro e w5 ⟨rfl, hb⟩; refine ⟨_, rfl, ?_⟩; have n0_ := Aside0.mk (below_step (by repeat (first | (with_reducible first | exact HB.out | apply below_alloc | apply pw_below_drewN | apply below_drew1) | exact HB.out)) hb); clear HB; have HB := n0_; clear n0_; (try clear hb); (try clear hb2); (try clear hk); (try clear hi)))
    go_ret; exact ⟨by first | rfl | (simp [errW_none, errW_some] <;> rfl) | (simp [*, errW_none, errW_some] <;> rfl), by repeat (first | (with_reducible first | exact HB.out | apply below_alloc | apply pw_below_drewN | apply below_drew1) | exact HB.out)⟩
  · rw [if_neg c4] at H; exact absurd H (by simp)
def block_common.l0 : Nat → ByteArray → ByteArray → Int → Option (Int)
  | 0, _, _, _ => none
  | k + 1, x0, x1, x5 => if x5 < (mn (x0.size : Int) (x1.size : Int)) then (if 0 ≤ x5 then (if x5 < (x0.size : Int) then (if x5 < (x1.size : Int) then (if (bt x0 x5) = (bt x1 x5) then (block_common.l0 k x0 x1 (wrap64 (x5 + 1))) else (some x5)) else (none)) else (none)) else (none)) else (some x5)
def block_common.f (k : Nat) (a0 : ByteArray) (a1 : ByteArray) : Option (Int) := block_common.l0 k a0 a1 0
set_option maxHeartbeats 8000000 in
set_option maxRecDepth 100000 in
theorem block_common.calls (k : Nat) (a0 : ByteArray) (a1 : ByteArray) (r : Int) (w : World) (h : block_common.f k a0 a1 = some r) :
    Calls Try.prog 71 #[.string a0, .string a1] w fun e w' => e = .returned (.int .i64 r) ∧ Below w.heap.size w w' := by
  have HB := Aside0.mk (Below.refl w.heap.size w)
  have H : (block_common.l0 k a0 a1 0) = some r := h
  clear h
  have H' := Aside0.mk H
  clear H
  go_enter Try.func71, Try.ntmps71
  go_wp2
  repeat (go_quiet (fail); try go_wp2)
  go_loopg [5] k (fun kq v5 w' => ∃ (x5_1 : Int), v5 = .int .i64 x5_1 ∧ Aside0 (block_common.l0 kq a0 a1 x5_1 = some r) ∧ Aside0 (kq ≤ k) ∧ Aside0 (Below w.heap.size w w'))
  case atStart => exact ⟨(0), (by first | rfl | (simp; done) | (simp [*]; done) | exact isE1 _ | exact isE2 _ | exact isE3 _ | exact isE4 _ | exact congrArg Value.bool (isE1 _) | exact congrArg Value.bool (isE2 _) | exact congrArg Value.bool (isE3 _) | exact congrArg Value.bool (isE4 _)), H', ⟨Nat.le_refl _⟩, ⟨by repeat (first | (with_reducible first | exact HB.out | apply below_alloc | apply pw_below_drewN | apply below_drew1) | exact HB.out)⟩⟩
  case round =>
    clear H'
    try clear p2
    obtain ⟨x5_1, rfl, HA, HK1, HB⟩ := hrel
    cases gk with
    | zero => exact absurd HA.out (by simp [block_common.l0])
    | succ k1 =>
      have H := HA.out; clear HA; simp only [block_common.l0] at H; obtain ⟨ji3, hji3⟩ : ∃ j_ : Int, (mn (a0.size : Int) (a1.size : Int)) = j_ := ⟨_, rfl⟩; replace H : (if x5_1 < (ji3) then (if 0 ≤ x5_1 then (if x5_1 < (a0.size : Int) then (if x5_1 < (a1.size : Int) then (if (bt a0 x5_1) = (bt a1 x5_1) then (block_common.l0 k1 a0 a1 (wrap64 (x5_1 + 1))) else (some x5_1)) else (none)) else (none)) else (none)) else (some x5_1)) = some r := by first | (rw [hji3] at H; exact H) | (simp only [hji3] at H ⊢; exact H)
      have hji3_ : (if (a1.size : Int) < (a0.size : Int) then (a1.size : Int) else (a0.size : Int)) = ji3 := hji3
      have hji3n : (if a1.size < a0.size then (a1.size : Int) else (a0.size : Int)) = ji3 := by
        by_cases hq_ : a1.size < a0.size
        · rw [if_pos hq_, ← hji3_, if_pos (by omega)]
        · rw [if_neg hq_, ← hji3_, if_neg (by omega)]
      by_cases c4 : x5_1 < (ji3)
      · rw [if_pos c4] at H; have c4b0 : decide (x5_1 < (ji3)) = true := decide_eq_true c4; clear c4
        by_cases c5 : 0 ≤ x5_1
        · rw [if_pos c5] at H; have c5b0 : decide (0 ≤ x5_1) = true := decide_eq_true c5; clear c5
          by_cases c6 : x5_1 < (a0.size : Int)
          · rw [if_pos c6] at H; have c6b0 : decide (x5_1 < (a0.size : Int)) = true := decide_eq_true c6; clear c6
            by_cases c8 : x5_1 < (a1.size : Int)
            · rw [if_pos c8] at H; have c8b0 : decide (x5_1 < (a1.size : Int)) = true := decide_eq_true c8; clear c8
              by_cases c10 : (bt a0 x5_1) = (bt a1 x5_1)
              · rw [if_pos c10] at H; have c10b0 : ((bt a0 x5_1) == (bt a1 x5_1)) = true := beq_iff_eq.mpr c10; have c10b1 : ((bt a0 x5_1) != (bt a1 x5_1)) = false := bne_eq_false_iff_eq.mpr c10; clear c10; have H' := Aside0.mk H; clear H; have p7 : 0 ≤ (x5_1 : Int) := of_decide_eq_true (by first | (with_reducible assumption) | assumption); have q7 : x5_1 < (a0.size : Int) := of_decide_eq_true (by first | (with_reducible assumption) | assumption); have hx7 := bt_at a0 x5_1; replace p7 := eq_true p7; replace q7 := eq_true q7; have p9 : 0 ≤ (x5_1 : Int) := of_decide_eq_true (by first | (with_reducible assumption) | assumption); have q9 : x5_1 < (a1.size : Int) := of_decide_eq_true (by first | (with_reducible assumption) | assumption); have hx9 := bt_at a1 x5_1; replace p9 := eq_true p9; replace q9 := eq_true q9; go_wp2
                repeat (go_quiet (fail); try go_wp2)
                go_roundg k1
                case measure => have := HK1.out; omega
                case rel => exact ⟨(wrap64 (x5_1 + 1)), (by first | rfl | (simp; done) | (simp [*]; done) | exact isE1 _ | exact isE2 _ | exact isE3 _ | exact isE4 _ | exact congrArg Value.bool (isE1 _) | exact congrArg Value.bool (isE2 _) | exact congrArg Value.bool (isE3 _) | exact congrArg Value.bool (isE4 _)), H', ⟨by have := HK1.out; omega⟩, ⟨by repeat (first | (with_reducible first | exact HB.out | apply below_alloc | apply pw_below_drewN | apply below_drew1) | exact HB.out)⟩⟩
              · rw [if_neg c10] at H; have c10b0 : ((bt a0 x5_1) == (bt a1 x5_1)) = false := beq_eq_false_iff_ne.mpr c10; have c10b1 : ((bt a0 x5_1) != (bt a1 x5_1)) = true := bne_iff_ne.mpr c10; obtain rfl := Option.some.inj H; have p7 : 0 ≤ (x5_1 : Int) := of_decide_eq_true (by first | (with_reducible assumption) | assumption); have q7 : x5_1 < (a0.size : Int) := of_decide_eq_true (by first | (with_reducible assumption) | assumption); have hx7 := bt_at a0 x5_1; replace p7 := eq_true p7; replace q7 := eq_true q7; have p9 : 0 ≤ (x5_1 : Int) := of_decide_eq_true (by first | (with_reducible assumption) | assumption); have q9 : x5_1 < (a1.size : Int) := of_decide_eq_true (by first | (with_reducible assumption) | assumption); have hx9 := bt_at a1 x5_1; replace p9 := eq_true p9; replace q9 := eq_true q9; go_wp2
                repeat (go_quiet (fail); try go_wp2)
                go_ret; exact ⟨by first | rfl | (simp [errW_none, errW_some] <;> rfl) | (simp only [← hji3]; first | rfl | (simp [errW_none, errW_some] <;> rfl)) | (simp [*, errW_none, errW_some] <;> rfl), by repeat (first | (with_reducible first | exact HB.out | apply below_alloc | apply pw_below_drewN | apply below_drew1) | exact HB.out)⟩
            · rw [if_neg c8] at H; exact absurd H (by simp)
          · rw [if_neg c6] at H; exact absurd H (by simp)
        · rw [if_neg c5] at H; exact absurd H (by simp)
      · rw [if_neg c4] at H; have c4b0 : decide (x5_1 < (ji3)) = false := decide_eq_false c4; clear c4; obtain rfl := Option.some.inj H; go_wp2
        repeat (go_quiet (fail); try go_wp2)
        go_ret; exact ⟨by first | rfl | (simp [errW_none, errW_some] <;> rfl) | (simp only [← hji3]; first | rfl | (simp [errW_none, errW_some] <;> rfl)) | (simp [*, errW_none, errW_some] <;> rfl), by repeat (first | (with_reducible first | exact HB.out | apply below_alloc | apply pw_below_drewN | apply below_drew1) | exact HB.out)⟩
def block_Put.l0 : Nat → List S43 → List UInt8 → ByteArray → Int → Option (ByteArray × Int)
  | 0, _, _, _, _ => none
  | k + 1, l, acc, last, i =>
    if i < (l.length : Int) then
      (if 0 ≤ i then
        ((block_common.f k last (rd_T43 l i).f0).bind fun n => (varint_Put.f k n).bind fun a =>
          if 0 ≤ n then (if n ≤ ((rd_T43 l i).f0.size : Int) then
            ((varint_Text.f k ((rd_T43 l i).f0.extract n.toNat (rd_T43 l i).f0.size)).bind fun b =>
              if acc.length + a.1.size + b.1.size ≤ 140737488355328 then
                (if (rd_T43 l i).f2 = true then
                  ((varint_Put.f k (wrap64 (wrap64 (2 * (rd_T43 l i).f3) + 1))).bind fun c =>
                    if acc.length + a.1.size + b.1.size + c.1.size ≤ 140737488355328 then block_Put.l0 k l (acc ++ a.1.data.toList ++ b.1.data.toList ++ c.1.data.toList) (rd_T43 l i).f0 (wrap64 (i + 1)) else none)
                else
                  ((varint_Put.f k (wrap64 (2 * (rd_T43 l i).f3))).bind fun c => (varint_Text.f k (rd_T43 l i).f1).bind fun d =>
                    if acc.length + a.1.size + b.1.size + c.1.size + d.1.size ≤ 140737488355328 then block_Put.l0 k l (acc ++ a.1.data.toList ++ b.1.data.toList ++ c.1.data.toList ++ d.1.data.toList) (rd_T43 l i).f0 (wrap64 (i + 1)) else none))
              else none)
          else none) else none)
      else none)
    else (if acc = [] then none else ((crc_Seal.f k ⟨acc.toArray⟩).bind fun z => some (z, 0)))
def block_Put.f (k : Nat) (l : List S43) : Option (ByteArray × Int) :=
  (block_Check.f k l).bind fun t => if t = 0 then ((varint_Put.f k (l.length : Int)).bind fun a => if a.1.size ≤ 140737488355328 then block_Put.l0 k l a.1.data.toList (⟨#[]⟩ : ByteArray) 0 else none) else some ((⟨#[]⟩ : ByteArray), t)
set_option maxHeartbeats 1600000 in
set_option maxRecDepth 100000 in
theorem block_Put.number (k : Nat) (B b : Nat) (v : Value) (u : Bool) (bs : List UInt8) (n : Int) (s : ByteArray) (e0 : Int) (w : World) (h : Bld.Bd w B b v u bs) (hBw : B ≤ w.heap.size) (hl : bs.length + s.size ≤ 140737488355328) (hA : varint_Put.f k n = some (s, e0)) :
    Calls Try.prog 69 #[.int .i64 n, .pointer (some ⟨b, 0, none⟩)] w fun e w' => ∃ v', e = .returned (.tuple #[]) ∧ Bld.Bd w' B b v' true (bs ++ s.data.toList) ∧ Below B w w' ∧ Bld.KeepT w w' := by
  have A1 := Aside0.mk hA
  have H := Aside0.mk h
  have HL := Aside0.mk hl
  have HBW := Aside0.mk hBw
  clear hA h hl hBw
  go_enter Try.func69, Try.ntmps69
  go_wp2_with (first | (go_at_call 34; (refine (varint_Put.calls k n s e0 _ A1.out).mono ?_); rintro e w1 ⟨rfl, hb1⟩; have HD1 := Aside0.mk (Bld.Bd.below H.out hb1); have HB1 := Aside0.mk (hb1.mono HBW.out); have HK1 := Aside0.mk (Bld.KeepT.of_below hb1); have HS1 := Aside0.mk (Nat.le_trans HBW.out hb1.size); clear hb1) | (go_at_call 35; (refine (Bld.WriteString_any B b v u bs s w1 HD1.out HL.out HS1.out).mono ?_); rintro e w2 ⟨v2, rfl, hd2, hb2, hk2⟩; have HD2 := Aside0.mk hd2; have HB2 := Aside0.mk (HB1.out.trans hb2); have HK2 := Aside0.mk (HK1.out.trans (HD1.out.keepT hk2)); clear hd2 hb2 hk2))
  go_end0
  exact ⟨v2, rfl, HD2.out, HB2.out, HK2.out⟩
set_option maxHeartbeats 1600000 in
set_option maxRecDepth 100000 in
theorem block_Put.text (k : Nat) (B b : Nat) (v : Value) (u : Bool) (bs : List UInt8) (n : ByteArray) (s : ByteArray) (e0 : Int) (w : World) (h : Bld.Bd w B b v u bs) (hBw : B ≤ w.heap.size) (hl : bs.length + s.size ≤ 140737488355328) (hA : varint_Text.f k n = some (s, e0)) :
    Calls Try.prog 70 #[.string n, .pointer (some ⟨b, 0, none⟩)] w fun e w' => ∃ v', e = .returned (.tuple #[]) ∧ Bld.Bd w' B b v' true (bs ++ s.data.toList) ∧ Below B w w' ∧ Bld.KeepT w w' := by
  have A1 := Aside0.mk hA
  have H := Aside0.mk h
  have HL := Aside0.mk hl
  have HBW := Aside0.mk hBw
  clear hA h hl hBw
  go_enter Try.func70, Try.ntmps70
  go_wp2_with (first | (go_at_call 37; (refine (varint_Text.calls k n s e0 _ A1.out).mono ?_); rintro e w1 ⟨rfl, hb1⟩; have HD1 := Aside0.mk (Bld.Bd.below H.out hb1); have HB1 := Aside0.mk (hb1.mono HBW.out); have HK1 := Aside0.mk (Bld.KeepT.of_below hb1); have HS1 := Aside0.mk (Nat.le_trans HBW.out hb1.size); clear hb1) | (go_at_call 35; (refine (Bld.WriteString_any B b v u bs s w1 HD1.out HL.out HS1.out).mono ?_); rintro e w2 ⟨v2, rfl, hd2, hb2, hk2⟩; have HD2 := Aside0.mk hd2; have HB2 := Aside0.mk (HB1.out.trans hb2); have HK2 := Aside0.mk (HK1.out.trans (HD1.out.keepT hk2)); clear hd2 hb2 hk2))
  go_end0
  exact ⟨v2, rfl, HD2.out, HB2.out, HK2.out⟩
set_option maxHeartbeats 8000000 in
set_option maxRecDepth 100000 in
theorem block_Put.calls (k : Nat) (A0 : Option Addr) (c0 : Nat) (l0 : List S43) (r1 : ByteArray) (r2 : Int) (w : World) (hr0 : Kd.C k43 w A0 l0.length l0) (hc0 : l0.length ≤ c0) (h : block_Put.f k l0 = some (r1, r2)) :
    Calls Try.prog 40 #[.slice A0 l0.length c0] w fun e w' => e = .returned (.tuple #[.string r1, .int .i64 r2]) ∧ Below w.heap.size w w' := by
  have HR0 := Aside0.mk hr0
  have HC0 := Aside0.mk hc0
  clear hr0 hc0
  unfold block_Put.f at h
  obtain ⟨t, hA, h⟩ := Option.bind_eq_some_iff.mp h
  have A1 := Aside0.mk hA
  clear hA
  by_cases c1 : t = 0
  · rw [if_pos c1] at h; subst c1; obtain ⟨⟨s0, e0⟩, hA, h⟩ := Option.bind_eq_some_iff.mp h; dsimp only at hA h; have A2 := Aside0.mk hA; clear hA
    by_cases c2 : s0.size ≤ 140737488355328
    · rw [if_pos c2] at h; have H' := Aside0.mk h; have L0 : Aside0 (([] : List UInt8).length + s0.size ≤ 140737488355328) := ⟨by simpa using c2⟩; clear h c2; go_enter Try.func40, Try.ntmps40
      go_wp2_with (first | (go_at_call 32; (refine (block_Check.calls k _ _ l0 0 _ HR0.out HC0.out A1.out).mono ?_); rintro e w1 ⟨rfl, hb1⟩; have HB1 := Aside0.mk hb1; clear hb1) | (go_at_call 69; (refine (block_Put.number k w.heap.size w1.heap.size _ false [] (l0.length : Int) s0 e0 (w1.alloc _) (Bld.Bd.new w1 w.heap.size (below_size HB1.out)) (Nat.le_trans (below_size HB1.out) (Below.size (below_alloc (Below.refl _ _) _))) L0.out A2.out).mono ?_); rintro e w2 ⟨v2, rfl, hd, hb, hk⟩; have HD2 : Aside0 (Bld.Bd w2 w.heap.size w1.heap.size v2 true s0.data.toList) := Aside0.mk hd; have HB2 := Aside0.mk ((below_alloc HB1.out _).trans hb); clear hd hb hk))
      have HBD : Aside0 (Bld.Bd w2 w.heap.size w1.heap.size v2 true s0.data.toList) := HD2
      go_loopg [8, 25] k (fun kq v8 v25 w' => ∃ (v : Value) (acc : List UInt8) (last : ByteArray) (i : Int), v8 = .string last ∧ v25 = .int .i64 i ∧ Aside0 (block_Put.l0 kq l0 acc last i = some (r1, r2)) ∧ Aside0 (kq ≤ k) ∧ Aside0 (Bld.Bd w' w.heap.size w1.heap.size v true acc) ∧ Aside0 (Below w.heap.size w w'))
      case atStart => exact ⟨v2, s0.data.toList, _, 0, rfl, rfl, H', ⟨Nat.le_refl _⟩, HBD, HB2⟩
      case round =>
        clear H' HD2 HB2 HBD; obtain ⟨v, acc, last, i, rfl, rfl, HA, HKQ, HD, HB⟩ := hrel
        cases gk with
        | zero => exact absurd HA.out (by simp [block_Put.l0])
        | succ k1 =>
          have H := HA.out; clear HA; simp only [block_Put.l0] at H
          by_cases ci : i < (l0.length : Int)
          · rw [if_pos ci] at H
            by_cases cj : 0 ≤ i
            · rw [if_pos cj] at H; have cib : decide (i < (l0.length : Int)) = true := decide_eq_true ci; have cic := eq_true ci; have cjb := eq_true cj; have cjc : decide (0 ≤ i) = true := decide_eq_true cj; obtain ⟨ad, eA, hx0, hx1, hx2, hx3⟩ := at_T43 (Kd.C_below HR0.out HB.out) i cj ci; cases eA; obtain ⟨x, hx⟩ : ∃ x, rd_T43 l0 i = x := ⟨_, rfl⟩; rw [hx] at H hx0 hx1 hx2 hx3; clear hx ci cj; obtain ⟨K, V, G, Q⟩ := x; dsimp only at H hx0 hx1 hx2 hx3; obtain ⟨n, hA, H⟩ := Option.bind_eq_some_iff.mp H; obtain ⟨⟨a, e1⟩, hN, H⟩ := Option.bind_eq_some_iff.mp H; dsimp only at hN H; have N0 := Aside0.mk hA; have N1 := Aside0.mk hN; clear hA hN
              by_cases c3 : 0 ≤ n
              · rw [if_pos c3] at H
                by_cases c4 : n ≤ (K.size : Int)
                · rw [if_pos c4] at H; obtain ⟨⟨b, e2⟩, hT, H⟩ := Option.bind_eq_some_iff.mp H; dsimp only at hT H; have T1 := Aside0.mk hT; have p3 := eq_true c3; have p3b : decide (0 ≤ n) = true := decide_eq_true c3; have p4 := eq_true c4; have p4b : decide (n ≤ (K.size : Int)) = true := decide_eq_true c4; clear hT c3 c4
                  by_cases c5 : acc.length + a.size + b.size ≤ 140737488355328
                  · rw [if_pos c5] at H; have L1 : Aside0 (acc.length + a.size ≤ 140737488355328) := ⟨by omega⟩; have L2 : Aside0 ((acc ++ a.data.toList).length + b.size ≤ 140737488355328) := ⟨by rw [List.length_append, Array.length_toList]; exact c5⟩; clear c5
                    cases G with
                    | true =>
                      rw [if_pos rfl] at H; obtain ⟨⟨c, e3⟩, hN, H⟩ := Option.bind_eq_some_iff.mp H; dsimp only at hN H; have N2 := Aside0.mk hN; clear hN
                      by_cases c6 : acc.length + a.size + b.size + c.size ≤ 140737488355328
                      · rw [if_pos c6] at H; have L3 : Aside0 ((acc ++ a.data.toList ++ b.data.toList).length + c.size ≤ 140737488355328) := ⟨by rw [List.length_append, List.length_append, Array.length_toList, Array.length_toList]; exact c6⟩; have H' := Aside0.mk H; clear H c6
                        go_wp2_with (first | (go_at_call 71; (refine (block_common.calls k1 last K n _ N0.out).mono ?_); rintro e w3 ⟨rfl, hb⟩; have HD3 := Aside0.mk (Bld.Bd.below (Bld.Bd.below HD.out (below_alloc (Below.refl _ _) _)) hb); have HE3 := Aside0.mk (blk_below (heap_alloc_new wr _) hb); have HB3 := Aside0.mk (below_step (below_alloc HB.out _) hb); clear hb) | (go_at_call 69; (with_reducible refine (block_Put.number k1 w.heap.size w1.heap.size v true (acc) (n) a e1 w3 HD3.out (below_size HB3.out) L1.out N1.out).mono ?_); rintro e w4 ⟨v4, rfl, hd, hb, hk⟩; have HD4 := Aside0.mk hd; have HB4 := Aside0.mk (HB3.out.trans hb); have HE4 := Aside0.mk (hk _ _ _ _ (by decide) (by decide) HE3.out); have hy40 := (blk_cell HE4.out 0).trans rfl; clear hd hb hk) | (go_at_call 70; (with_reducible refine (block_Put.text k1 w.heap.size w1.heap.size v4 true (acc ++ a.data.toList) (K.extract n.toNat K.size) b e2 w4 HD4.out (below_size HB4.out) L2.out T1.out).mono ?_); rintro e w5 ⟨v5, rfl, hd, hb, hk⟩; have HD5 := Aside0.mk hd; have HB5 := Aside0.mk (HB4.out.trans hb); have HE5 := Aside0.mk (hk _ _ _ _ (by decide) (by decide) HE4.out); have hy50 := (blk_cell HE5.out 0).trans rfl; have hy52 := (blk_cell HE5.out 2).trans rfl; have hy53 := (blk_cell HE5.out 3).trans rfl; clear hd hb hk) | (go_at_call 69; (with_reducible refine (block_Put.number k1 w.heap.size w1.heap.size v5 true (acc ++ a.data.toList ++ b.data.toList) (wrap64 (wrap64 (2 * Q) + 1)) c e3 w5 HD5.out (below_size HB5.out) L3.out N2.out).mono ?_); rintro e w6 ⟨v6, rfl, hd, hb, hk⟩; have HD6 := Aside0.mk hd; have HB6 := Aside0.mk (HB5.out.trans hb); have HE6 := Aside0.mk (hk _ _ _ _ (by decide) (by decide) HE5.out); clear hd hb hk))
                        go_roundg k1
                        case measure => have := HKQ.out; omega
                        case rel => exact ⟨_, _, _, _, rfl, rfl, H', ⟨by have := HKQ.out; omega⟩, HD6, HB6⟩
                      · rw [if_neg c6] at H; exact absurd H (by simp)
                    | false =>
                      rw [if_neg (by decide)] at H; obtain ⟨⟨c, e3⟩, hN, H⟩ := Option.bind_eq_some_iff.mp H; obtain ⟨⟨d, e4⟩, hT, H⟩ := Option.bind_eq_some_iff.mp H; dsimp only at hN hT H; have N2 := Aside0.mk hN; have T2 := Aside0.mk hT; clear hN hT
                      by_cases c6 : acc.length + a.size + b.size + c.size + d.size ≤ 140737488355328
                      · rw [if_pos c6] at H; have L3 : Aside0 ((acc ++ a.data.toList ++ b.data.toList).length + c.size ≤ 140737488355328) := ⟨by have ea : a.data.toList.length = a.size := Array.length_toList; have eb : b.data.toList.length = b.size := Array.length_toList; rw [List.length_append, List.length_append, ea, eb]; omega⟩; have L4 : Aside0 ((acc ++ a.data.toList ++ b.data.toList ++ c.data.toList).length + d.size ≤ 140737488355328) := ⟨by rw [List.length_append, List.length_append, List.length_append, Array.length_toList, Array.length_toList, Array.length_toList]; exact c6⟩; have H' := Aside0.mk H; clear H c6
                        go_wp2_with (first | (go_at_call 71; (refine (block_common.calls k1 last K n _ N0.out).mono ?_); rintro e w3 ⟨rfl, hb⟩; have HD3 := Aside0.mk (Bld.Bd.below (Bld.Bd.below HD.out (below_alloc (Below.refl _ _) _)) hb); have HE3 := Aside0.mk (blk_below (heap_alloc_new wr _) hb); have HB3 := Aside0.mk (below_step (below_alloc HB.out _) hb); clear hb) | (go_at_call 69; (with_reducible refine (block_Put.number k1 w.heap.size w1.heap.size v true (acc) (n) a e1 w3 HD3.out (below_size HB3.out) L1.out N1.out).mono ?_); rintro e w4 ⟨v4, rfl, hd, hb, hk⟩; have HD4 := Aside0.mk hd; have HB4 := Aside0.mk (HB3.out.trans hb); have HE4 := Aside0.mk (hk _ _ _ _ (by decide) (by decide) HE3.out); have hy40 := (blk_cell HE4.out 0).trans rfl; clear hd hb hk) | (go_at_call 70; (with_reducible refine (block_Put.text k1 w.heap.size w1.heap.size v4 true (acc ++ a.data.toList) (K.extract n.toNat K.size) b e2 w4 HD4.out (below_size HB4.out) L2.out T1.out).mono ?_); rintro e w5 ⟨v5, rfl, hd, hb, hk⟩; have HD5 := Aside0.mk hd; have HB5 := Aside0.mk (HB4.out.trans hb); have HE5 := Aside0.mk (hk _ _ _ _ (by decide) (by decide) HE4.out); have hy50 := (blk_cell HE5.out 0).trans rfl; have hy52 := (blk_cell HE5.out 2).trans rfl; have hy53 := (blk_cell HE5.out 3).trans rfl; clear hd hb hk) | (go_at_call 69; (with_reducible refine (block_Put.number k1 w.heap.size w1.heap.size v5 true (acc ++ a.data.toList ++ b.data.toList) (wrap64 (2 * Q)) c e3 w5 HD5.out (below_size HB5.out) L3.out N2.out).mono ?_); rintro e w6 ⟨v6, rfl, hd, hb, hk⟩; have HD6 := Aside0.mk hd; have HB6 := Aside0.mk (HB5.out.trans hb); have HE6 := Aside0.mk (hk _ _ _ _ (by decide) (by decide) HE5.out); have hy61 := (blk_cell HE6.out 1).trans rfl; clear hd hb hk) | (go_at_call 70; (with_reducible refine (block_Put.text k1 w.heap.size w1.heap.size v6 true (acc ++ a.data.toList ++ b.data.toList ++ c.data.toList) (V) d e4 w6 HD6.out (below_size HB6.out) L4.out T2.out).mono ?_); rintro e w7 ⟨v7, rfl, hd, hb, hk⟩; have HD7 := Aside0.mk hd; have HB7 := Aside0.mk (HB6.out.trans hb); have HE7 := Aside0.mk (hk _ _ _ _ (by decide) (by decide) HE6.out); clear hd hb hk))
                        go_roundg k1
                        case measure => have := HKQ.out; omega
                        case rel => exact ⟨_, _, _, _, rfl, rfl, H', ⟨by have := HKQ.out; omega⟩, HD7, HB7⟩
                      · rw [if_neg c6] at H; exact absurd H (by simp)
                  · rw [if_neg c5] at H; exact absurd H (by simp)
                · rw [if_neg c4] at H; exact absurd H (by simp)
              · rw [if_neg c3] at H; exact absurd H (by simp)
            · rw [if_neg cj] at H; exact absurd H (by simp)
          · rw [if_neg ci] at H; have cib : decide (i < (l0.length : Int)) = false := decide_eq_false ci; clear ci
            by_cases ca : acc = []
            · rw [if_pos ca] at H; exact absurd H (by simp)
            · rw [if_neg ca] at H; obtain ⟨z, hZ, H⟩ := Option.bind_eq_some_iff.mp H; have Z1 := Aside0.mk hZ; have CA := Aside0.mk ca; clear hZ ca; simp only [Option.some.injEq, Prod.mk.injEq] at H; obtain ⟨rfl, rfl⟩ := H
              go_wp2_with (first | (go_at_call 44; (refine (Bld.String_any w.heap.size w1.heap.size v true acc wr HD.out CA.out).mono ?_); rintro e ws ⟨rfl, hb⟩; have HBs := Aside0.mk (HB.out.trans hb); clear hb) | (go_at_call 43; (refine (crc_Seal.calls k1 ⟨acc.toArray⟩ _ _ Z1.out).mono ?_); rintro e wf ⟨rfl, hb⟩; have HBf := Aside0.mk (below_step HBs.out hb); clear hb))
              go_ret2; exact ⟨rfl, HBf.out⟩
    · rw [if_neg c2] at h; exact absurd h (by simp)
  · rw [if_neg c1] at h; have p1 : (t == 0) = false := beq_eq_false_iff_ne.mpr c1; have p1b : (t != 0) = true := bne_iff_ne.mpr c1; clear c1; simp only [Option.some.injEq, Prod.mk.injEq] at h; obtain ⟨rfl, rfl⟩ := h; go_enter Try.func40, Try.ntmps40
    go_wp2_with (go_at_call 32; (refine (block_Check.calls k _ _ l0 _ _ HR0.out HC0.out A1.out).mono ?_); rintro e w1 ⟨rfl, hb1⟩; have HB1 := Aside0.mk hb1; clear hb1)
    go_ret2; exact ⟨rfl, HB1.out⟩
end Go.Proofs.Ytlmoafkmhenejaa.XA
