import Derived.Test.YtlmoafkmhenejaakOXAx0
import Derived.Test.YtlmoafkmhenejaakOXAx4
namespace Go.Proofs.YtlmoafkmhenejaaW.PrintWords
end Go.Proofs.YtlmoafkmhenejaaW.PrintWords
namespace Go.Proofs.YtlmoafkmhenejaaW.PrintLast
end Go.Proofs.YtlmoafkmhenejaaW.PrintLast
namespace Go.Proofs.YtlmoafkmhenejaaW.PrintMore
end Go.Proofs.YtlmoafkmhenejaaW.PrintMore
namespace Go.Proofs.Ytlmoafkmhenejaa.XW
end Go.Proofs.Ytlmoafkmhenejaa.XW
namespace Go.Proofs.Ytlmoafkmhenejaa.XA
open Go.RowKit Go.Proofs.YtlmoafkmhenejaaW.PrintWords Go.Proofs.YtlmoafkmhenejaaW.PrintLast Go.Proofs.YtlmoafkmhenejaaW.PrintMore Go.Proofs.Ytlmoafkmhenejaa.XW
attribute [local go_sem high] max2_str unary_xor_u32 leq_str geq_str gtr_str
attribute [local go_sem] max2_int min2_int max_two min_two max_three min_three max_four min_four   -- for this text's walks alone
set_option linter.unusedVariables false
set_option linter.unusedSimpArgs false
def bloom_Size.f (a0 : Int) : Option (Int) := some (8 * (mx 8 ((((mn (mx a0 0) 4096) * 10) + 7) / 8)))
set_option maxHeartbeats 8000000 in
set_option maxRecDepth 100000 in
theorem bloom_Size.calls (a0 : Int) (r : Int) (w : World) (h : bloom_Size.f a0 = some r) :
    Calls Try.prog 72 #[.int .i64 a0] w fun e w' => e = .returned (.int .i64 r) ∧ Below w.heap.size w w' := by
  have HB := Aside0.mk (Below.refl w.heap.size w)
  have H : (some (8 * (mx 8 ((((mn (mx a0 0) 4096) * 10) + 7) / 8)))) = some r := h
  clear h
  obtain ⟨ji2, hji2⟩ : ∃ j_ : Int, (mx a0 0) = j_ := ⟨_, rfl⟩
  replace H : (some (8 * (mx 8 ((((mn (ji2) 4096) * 10) + 7) / 8)))) = some r := by first | (rw [hji2] at H; exact H) | (simp only [hji2] at H ⊢; exact H)
  (try (have hji2l : 0 ≤ ji2 := by (rw [← hji2]; unfold mx; (repeat' split) <;> omega)))
  (try (have hji2m : 0 ≤ ji2 := by omega))
  have hji2_ : (if a0 < 0 then 0 else a0) = ji2 := hji2
  obtain ⟨ji3, hji3⟩ : ∃ j_ : Int, (mn (ji2) 4096) = j_ := ⟨_, rfl⟩
  replace H : (some (8 * (mx 8 ((((ji3) * 10) + 7) / 8)))) = some r := by first | (rw [hji3] at H; exact H) | (simp only [hji3] at H ⊢; exact H)
  have hji3_ : (if 4096 < (ji2) then 4096 else (ji2)) = ji3 := hji3
  obtain ⟨ji4, hji4⟩ : ∃ j_ : Int, (mx 8 ((((ji3) * 10) + 7) / 8)) = j_ := ⟨_, rfl⟩
  replace H : (some (8 * (ji4))) = some r := by first | (rw [hji4] at H; exact H) | (simp only [hji4] at H ⊢; exact H)
  have hji4_ : (if 8 < ((((ji3) * 10) + 7) / 8) then ((((ji3) * 10) + 7) / 8) else 8) = ji4 := hji4
  obtain rfl := Option.some.inj H
  go_enter Try.func72, Try.ntmps72
  go_wp2
  go_ret
  exact ⟨by first | rfl | (simp [errW_none, errW_some] <;> rfl) | (simp only [← hji2, ← hji3, ← hji4]; first | rfl | (simp [errW_none, errW_some] <;> rfl)) | (simp [*, errW_none, errW_some] <;> rfl), by repeat (first | (with_reducible first | exact HB.out | apply below_alloc | apply pw_below_drewN | apply below_drew1) | exact HB.out)⟩
set_option maxHeartbeats 1600000 in
set_option maxRecDepth 100000 in
theorem bloom_Make.one (w0 : World) (g : Nat) (v : Value) (xs : List Int) (p : Int) (W : World) (hb0 : W.heap[g]? = some (.cells #[v] 47 (0, 0))) (hge : w0.heap.size ≤ g)
    (hR : Kd.R (Kd.int .u8) 5 W w0.heap.size (fun _ => True) v xs) (hB : Below w0.heap.size w0 W) (h1 : 0 ≤ wrap64 (Int.tdiv p 8)) (h2 : wrap64 (Int.tdiv p 8) < (xs.length : Int)) (h3 : 0 ≤ Int.tmod p 8) :
    Calls Try.prog 74 #[.int .i64 p, .pointer (some ⟨g, 0, none⟩)] W fun e w' => e = .returned (.bool true) ∧ w'.heap[g]? = some (.cells #[v] 47 (0, 0)) ∧
      Kd.R (Kd.int .u8) 5 w' w0.heap.size (fun _ => True) v (xs.set (wrap64 (Int.tdiv p 8)).toNat (Go.bits .or .u8 (rd xs (wrap64 (Int.tdiv p 8))) (shl .u8 1 (Int.tmod p 8)))) ∧ Below w0.heap.size w0 w' := by
  have hne := Kd.R_ne hR hb0 (by decide)
  obtain ⟨ji1, hji1⟩ : ∃ j_ : Int, (wrap64 (Int.tdiv p 8)) = j_ := ⟨_, rfl⟩
  rw [hji1] at h1 h2 ⊢
  have hji1w : (IntKind.i64.wrap (Int.tdiv p 8)) = ji1 := (i64_w _).trans hji1
  obtain ⟨ji2, hji2⟩ : ∃ j_ : Int, (Int.tmod p 8) = j_ := ⟨_, rfl⟩
  rw [hji2] at h3 ⊢
  obtain ⟨ji3, hji3⟩ : ∃ j_ : Int, (shl .u8 1 ji2) = j_ := ⟨_, rfl⟩
  rw [hji3]
  have hji3_ : (IntKind.u8.wrap (1 * 2 ^ min (ji2).toNat 8)) = ji3 := hji3
  have hji3z : (ji2) ≤ 8 → (IntKind.u8.wrap (1 * 2 ^ (ji2).toNat)) = ji3 := shl_small hji3
  have hji3u : (IntKind.u8.wrap (2 ^ min (ji2).toNat 8)) = ji3 := by have h_ := hji3_; rw [Int.one_mul] at h_; exact h_
  have hji3v : (ji2) ≤ 8 → (IntKind.u8.wrap (2 ^ (ji2).toNat)) = ji3 := fun hle_ => by have h_ := hji3z hle_; rw [Int.one_mul] at h_; exact h_
  obtain ⟨go, co, eo, gb, gl, cl, HG⟩ := Kd.R_form hR (by omega)
  subst eo
  have hge2 : g ≠ go := fun e => hne (by rw [e]; rfl)
  have HR2 := Kd.R_drew hR
  have HB2 := below_drew1 hB
  have HK2 := blk_drew hb0
  have hc : W.cell? ⟨g, 0, none⟩ = some (.slice (some ⟨go, 0, none⟩) xs.length co) := (blk_cell hb0 0).trans rfl
  obtain ⟨ad, ea, hx⟩ := Kd.at_int (Kd.R_reads' hR).2.2 ji1 h1 h2
  cases ea
  obtain ⟨hx2, hf2⟩ := Kd.R_celln 0 HR2 ji1 h1 h2
  have HP := Kd.R_putn HR2 ji1 (Go.bits .or .u8 (rd xs ji1) ji3)
  have c1 : decide (0 ≤ ji1) = true := decide_eq_true h1
  have c2 : decide (ji1 < (xs.length : Int)) = true := decide_eq_true h2
  have c3b1 : decide (0 ≤ ji2) = true := decide_eq_true h3
  have p10 := eq_true h1
  have q10 := eq_true h2
  have p12 := eq_true h3
  obtain ⟨y, hy⟩ : ∃ y : List Int, y = xs.set ji1.toNat (Go.bits .or .u8 (rd xs ji1) ji3) := ⟨_, rfl⟩
  rw [← hy] at HP ⊢
  have HPA := Aside0.mk HP
  have HYA := Aside0.mk hy
  have HBA := Aside0.mk HB2
  have HKA := Aside0.mk HK2
  have HNA := Aside0.mk hge2
  clear HP hy HB2 HK2 hR hB hb0 HR2 hne HG gl cl
  simp only [add_plain] at hx
  go_enter Try.func74, Try.ntmps74
  go_wp2
  go_still_tail 10, (by kernel_rfl)
  change wpList _ _ _ _ _ W.drew
  generalize W.drew = w2 at hx2 hf2 HPA HBA HKA ⊢
  go_wp2
  go_ret
  exact ⟨rfl, blk_far HKA.out HNA.out _, HPA.out, below_set HBA.out gb⟩
def bloom_Make.l1 : Nat → List Int → Int → Int → Int → Int → Option (List Int)
  | 0, _, _, _, _, _ => none
  | k + 1, xs, a, b, n, i => if i < 6 then (if n = 0 then (none) else (if 0 ≤ (wrap64 (Int.tdiv (Int.tmod (wrap64 (a + (wrap64 (i * b)))) n) 8)) then (if (wrap64 (Int.tdiv (Int.tmod (wrap64 (a + (wrap64 (i * b)))) n) 8)) < (xs.length : Int) then (if 0 ≤ (Int.tmod (Int.tmod (wrap64 (a + (wrap64 (i * b)))) n) 8) then (bloom_Make.l1 k (xs.set (wrap64 (Int.tdiv (Int.tmod (wrap64 (a + (wrap64 (i * b)))) n) 8)).toNat (Go.bits .or .u8 (rd xs (wrap64 (Int.tdiv (Int.tmod (wrap64 (a + (wrap64 (i * b)))) n) 8))) (shl .u8 1 (Int.tmod (Int.tmod (wrap64 (a + (wrap64 (i * b)))) n) 8)))) a b n (wrap64 (i + 1))) else (none)) else (none)) else (none))) else (some xs)
def bloom_Make.one_f (k : Nat) (key : ByteArray) (xs : List Int) (n : Int) : Option (List Int) := (crc_Sum.f k key).bind fun ta => (if key.size + 1 ≤ 9223372036854775807 then ((crc_Sum.f k (key ++ (⟨#[35]⟩ : ByteArray))).bind fun tb => (bloom_Make.l1 k xs ta (Go.bits .or .i64 tb 1) n 0)) else (none))
def bloom_Make.l0 : Nat → List ByteArray → Int → List Int → Int → Option (ByteArray × Int)
  | 0, _, _, _, _ => none
  | k + 1, ks, n, xs, i => if i < (ks.length : Int) then (if 0 ≤ i then ((bloom_Make.one_f k (rdOf ByteArray.empty ks i) xs n).bind fun ys => (bloom_Make.l0 k ks n ys (wrap64 (i + 1)))) else (none)) else (some (strOfNums xs, 0))
def bloom_Make.f (k : Nat) (ks : List ByteArray) : Option (ByteArray × Int) := if (ks.length : Int) > 4096 then (some ((⟨#[]⟩ : ByteArray), 2)) else ((bloom_Size.f (ks.length : Int)).bind fun n => (if 0 ≤ (wrap64 (Int.tdiv n 8)) then (if (wrap64 (Int.tdiv n 8) : Int).toNat ≤ 281474976710656 then (bloom_Make.l0 k ks n (List.replicate (wrap64 (Int.tdiv n 8) : Int).toNat 0) 0) else (none)) else (none)))
set_option maxHeartbeats 1600000 in
set_option maxRecDepth 100000 in
theorem bloom_Make.each (k : Nat) (w0 : World) (g : Nat) (v : Value) (xs ys : List Int) (key : ByteArray) (n : Int) (W : World) (hb0 : W.heap[g]? = some (.cells #[v] 47 (0, 0))) (hge : w0.heap.size ≤ g)
    (hR : Kd.R (Kd.int .u8) 5 W w0.heap.size (fun _ => True) v xs) (hB : Below w0.heap.size w0 W) (h : bloom_Make.one_f k key xs n = some ys) :
    Calls Try.prog 73 #[.string key, .int .i64 n, .func (Fn.func 74) #[] #[.pointer (some ⟨g, 0, none⟩)]] W fun e w' => e = .returned (.bool true) ∧ w'.heap[g]? = some (.cells #[v] 47 (0, 0)) ∧
      Kd.R (Kd.int .u8) 5 w' w0.heap.size (fun _ => True) v ys ∧ Below w0.heap.size w0 w' := by
  unfold bloom_Make.one_f at h
  obtain ⟨ta, hA, h⟩ := Option.bind_eq_some_iff.mp h
  by_cases c5 : key.size + 1 ≤ 9223372036854775807
  · rw [if_pos c5] at h; obtain ⟨tb, hBs, h⟩ := Option.bind_eq_some_iff.mp h; have HK := Aside0.mk hb0; have HO := Aside0.mk hR; have HB := Aside0.mk hB; have A4 := Aside0.mk hA; have A6 := Aside0.mk hBs; clear hb0 hA hBs hR hB; have c5b0 := eq_true c5; have c5b1 : decide (key.size + 1 ≤ 9223372036854775807) = true := decide_eq_true c5
    try have c5b2 : (9223372036854775807 < key.size + 1) = False := eq_false (Nat.not_lt.2 c5)
    obtain ⟨b, hb⟩ : ∃ b : Int, Go.bits .or .i64 tb 1 = b := ⟨_, rfl⟩; rw [hb] at h; have H' := Aside0.mk h; clear h c5; go_enter Try.func73, Try.ntmps73
    go_wp2_with (first | ((with_reducible refine gate_callee (f := 77) rfl ?_); refine goesL_ (some 11) rfl rfl Try.func77 (by kernel_rfl) rfl #[.string key] rfl (by (try simp only [List.map_toArray, List.map_cons, List.map_nil]); first | done | rfl) ?_; (with_reducible refine (crc_Sum.calls k key ta _ A4.out).mono ?_); rintro e w' ⟨rfl, ⟨nd, rfl⟩⟩; refine ⟨_, rfl, ?_⟩) | ((with_reducible refine gate_callee (f := 77) rfl ?_); refine goesL_ (some 14) rfl rfl Try.func77 (by kernel_rfl) rfl #[.string (key ++ (⟨#[35]⟩ : ByteArray))] rfl (by (try simp only [List.map_toArray, List.map_cons, List.map_nil]); first | done | rfl) ?_; (with_reducible refine (crc_Sum.calls k (key ++ (⟨#[35]⟩ : ByteArray)) tb _ A6.out).mono ?_); rintro e w' ⟨rfl, ⟨nd, rfl⟩⟩; refine ⟨_, rfl, ?_⟩))
    go_loopg [16] k (fun kq v16 w' => ∃ (zs : List Int) (i : Int), v16 = .int .i64 i ∧ Aside0 (bloom_Make.l1 kq zs ta b n i = some ys) ∧ Aside0 (kq ≤ k) ∧ Aside0 (w'.heap[g]? = some (.cells #[v] 47 (0, 0))) ∧ Aside0 (Kd.R (Kd.int .u8) 5 w' w0.heap.size (fun _ => True) v zs) ∧ Aside0 (Below w0.heap.size w0 w'))
    case atStart => exact ⟨xs, 0, rfl, H', ⟨Nat.le_refl _⟩, HK, ⟨by (with_reducible repeat (first | apply Kd.R_alloc | apply Kd.R_drewN | apply Kd.R_drew)); exact HO.out⟩, ⟨by repeat (first | (with_reducible first | exact HB.out | apply pw_below_drewN | apply below_drew1) | exact HB.out)⟩⟩
    case round =>
      clear H' HK HO HB; obtain ⟨zs, i, rfl, HA, HK1, HK, HO, HB⟩ := hrel
      cases gk with
      | zero => exact absurd HA.out (by simp [bloom_Make.l1])
      | succ k1 =>
        have H := HA.out; clear HA; simp only [bloom_Make.l1] at H
        by_cases c2 : i < 6
        · rw [if_pos c2] at H; have c2b0 : decide (i < 6) = true := decide_eq_true c2; clear c2
          by_cases c7 : n = 0
          · rw [if_pos c7] at H; exact absurd H (by simp)
          · rw [if_neg c7] at H; have c7b0 : (n == 0) = false := beq_eq_false_iff_ne.mpr c7; have c7b1 : (n != 0) = true := bne_iff_ne.mpr c7; obtain ⟨p, hp⟩ : ∃ p : Int, Int.tmod (wrap64 (ta + (wrap64 (i * b)))) n = p := ⟨_, rfl⟩; rw [hp] at H
            by_cases d1 : 0 ≤ wrap64 (Int.tdiv p 8)
            · rw [if_pos d1] at H
              by_cases d2 : wrap64 (Int.tdiv p 8) < (zs.length : Int)
              · rw [if_pos d2] at H
                by_cases d3 : 0 ≤ Int.tmod p 8
                · rw [if_pos d3] at H; have A1 := Aside0.mk d1; have A2 := Aside0.mk d2; have A3 := Aside0.mk d3; clear d1 d2 d3; have H' := Aside0.mk H; clear H
                  go_wp2_with (go_at_call 74; (try rw [hp]); (refine (bloom_Make.one w0 g v zs p _ HK.out hge HO.out HB.out A1.out A2.out A3.out).mono ?_); rintro e w7 ⟨rfl, hk7, ho7, hb7⟩; have HK7 := Aside0.mk hk7; have HO7 := Aside0.mk ho7; have HB7 := Aside0.mk hb7; clear hk7 ho7 hb7)
                  go_roundg k1
                  case measure => have := HK1.out; omega
                  case rel => exact ⟨_, wrap64 (i + 1), (by first | rfl | (simp; done) | (simp [*]; done)), H', ⟨by have := HK1.out; omega⟩, HK7, HO7, HB7⟩
                · rw [if_neg d3] at H; exact absurd H (by simp)
              · rw [if_neg d2] at H; exact absurd H (by simp)
            · rw [if_neg d1] at H; exact absurd H (by simp)
        · rw [if_neg c2] at H; have c2b0 : decide (i < 6) = false := decide_eq_false c2; clear c2; obtain rfl := Option.some.inj H; go_wp2; go_ret; exact ⟨rfl, HK.out, HO.out, HB.out⟩
  · rw [if_neg c5] at h; exact absurd h (by simp)
set_option maxHeartbeats 3200000 in
set_option maxRecDepth 100000 in
theorem bloom_Make.calls (k : Nat) (A0 : Option Addr) (c0 : Nat) (l0 : List ByteArray) (r1 : ByteArray) (r2 : Int) (w : World) (hr0 : Kd.C Kd.string w A0 l0.length l0) (hc0 : l0.length ≤ c0) (h : bloom_Make.f k l0 = some (r1, r2)) :
    Calls Try.prog 41 #[.slice A0 l0.length c0] w fun e w' => e = .returned (.tuple #[.string r1, .int .i64 r2]) ∧ Below w.heap.size w w' := by
  have HR0 := Aside0.mk hr0
  have HC0 := Aside0.mk hc0
  clear hr0 hc0
  have HB := Aside0.mk (Below.refl w.heap.size w)
  have H : (if (l0.length : Int) > 4096 then (some ((⟨#[]⟩ : ByteArray), 2)) else ((bloom_Size.f (l0.length : Int)).bind fun n => (if 0 ≤ (wrap64 (Int.tdiv n 8)) then (if (wrap64 (Int.tdiv n 8) : Int).toNat ≤ 281474976710656 then (bloom_Make.l0 k l0 n (List.replicate (wrap64 (Int.tdiv n 8) : Int).toNat 0) 0) else (none)) else (none)))) = some (r1, r2) := h
  clear h
  by_cases c2 : (l0.length : Int) > 4096
  · rw [if_pos c2] at H; have c2b0 : decide (4096 < (l0.length : Int)) = true := decide_eq_true c2; have c2b1 : decide (4096 < l0.length) = true := decide_eq_true (by omega); clear c2; simp only [Option.some.injEq, Prod.mk.injEq] at H; obtain ⟨rfl, rfl⟩ := H; go_enter Try.func41, Try.ntmps41; go_wp2; go_ret2; exact ⟨rfl, by repeat (first | (with_reducible first | exact HB.out | apply below_alloc | apply pw_below_drewN | apply below_drew1) | exact HB.out)⟩
  · rw [if_neg c2] at H; have c2b0 : decide (4096 < (l0.length : Int)) = false := decide_eq_false c2; have c2b1 : decide (4096 < l0.length) = false := decide_eq_false (by omega); clear c2; replace H := Option.bind_eq_some_iff.mp H; obtain ⟨n, A30, H⟩ := H; replace H : (if 0 ≤ (wrap64 (Int.tdiv n 8)) then (if (wrap64 (Int.tdiv n 8) : Int).toNat ≤ 281474976710656 then (bloom_Make.l0 k l0 n (List.replicate (wrap64 (Int.tdiv n 8) : Int).toNat 0) 0) else (none)) else (none)) = some (r1, r2) := H; have A3 := Aside0.mk A30; clear A30; obtain ⟨ji4, hji4⟩ : ∃ j_ : Int, (wrap64 (Int.tdiv n 8)) = j_ := ⟨_, rfl⟩; rw [hji4] at H; have hji4w : (IntKind.i64.wrap (Int.tdiv n 8)) = ji4 := (i64_w _).trans hji4
    by_cases c5 : 0 ≤ (ji4)
    · rw [if_pos c5] at H; have c5b0 := eq_true c5; have c5b1 : decide (0 ≤ (ji4)) = true := decide_eq_true c5; clear c5
      by_cases c6 : (ji4 : Int).toNat ≤ 281474976710656
      · rw [if_pos c6] at H; have c6b0 := eq_true c6; have c6b1 : decide ((ji4 : Int).toNat ≤ 281474976710656) = true := decide_eq_true c6; clear c6; obtain ⟨y114, hy114⟩ : ∃ y_ : List Int, y_ = (List.replicate (ji4 : Int).toNat 0) := ⟨_, rfl⟩; rw [← hy114] at H; have Ny114 := Aside0.mk hy114; clear hy114; have H' := Aside0.mk H; clear H; go_enter Try.func41, Try.ntmps41
        go_wp2_with (first | ((with_reducible refine gate_callee (f := 72) rfl ?_); refine goesL_ (some 13) rfl rfl Try.func72 (by kernel_rfl) rfl #[.int .i64 (l0.length : Int)] rfl (by (try simp only [List.map_toArray, List.map_cons, List.map_nil]); first | done | rfl | (simp only [List.length_drop, List.length_take]; rfl)) ?_; (with_reducible refine (bloom_Size.calls (l0.length : Int) n _ A3.out).mono ?_); rintro e w7 ⟨rfl, hb⟩; refine ⟨_, rfl, ?_⟩; have n0_ := Aside0.mk (below_step (by repeat (first | (with_reducible first | exact HB.out | apply below_alloc | apply pw_below_drewN | apply below_drew1) | exact HB.out)) hb); clear HB; have HB := n0_; clear n0_; (try clear hb); (try clear hb2); (try clear hk); (try clear hi)) | ((with_reducible refine gate_dst (N := 16) rfl ?_); refine Kd.R_make (Kd.int .u8) _ 5 rfl (N := 16) rfl 47 _ _ rfl ji4 rfl rfl Try.underlying47 (.int .u8 0) 1 info5 rfl (by decide) (by omega) 0 (ok := fun _ => True) (okp := fun _ => True) rfl (fun _ hk => hk) trivial (of_decide_eq_true (by first | (with_reducible assumption) | assumption)) (Nat.le_trans (Nat.mul_le_mul_right _ (of_decide_eq_true (by first | (with_reducible assumption) | assumption) : ji4.toNat ≤ 281474976710656)) (by omega)) (Below.refl _ _) (Nat.le_refl _) ?_; intro v115 w8 ho9 hb hg_ hnew_; clear hg_ hnew_; (first | rw [← Ny114.out] at ho9 | (simp only [Int.reduceToNat] at ho9; rw [← Ny114.out] at ho9)); have n0_ := Aside0.mk (Kd.R_lower ho9 (below_size (by repeat (first | (with_reducible first | exact HB.out | apply below_alloc | apply pw_below_drewN | apply below_drew1) | exact HB.out)))); have n1_ := Aside0.mk (below_step (by repeat (first | (with_reducible first | exact HB.out | apply below_alloc | apply pw_below_drewN | apply below_drew1) | exact HB.out)) hb); clear HB; have HO116 := n0_; have HB := n1_; clear n0_ n1_; clear hb ho9; obtain ⟨Ax, cx, ex⟩ := Kd.R_slice HO116.out; subst ex; ((have hg9 := Aside0.mk (below_size HB.out); have HK9 := Aside0.mk (heap_alloc_new w8 (.cells #[.slice Ax y114.length cx] 47)); have HO9 := Aside0.mk (Kd.R_alloc HO116.out (.cells #[.slice Ax y114.length cx] 47)); have HB9 := Aside0.mk (below_alloc HB.out (.cells #[.slice Ax y114.length cx] 47))))))
        go_loopg [19] k (fun kq v19 w' => ∃ (zs : List Int) (i : Int), v19 = .int .i64 i ∧ Aside0 (bloom_Make.l0 kq l0 n zs i = some (r1, r2)) ∧ Aside0 (kq ≤ k) ∧ Aside0 (w'.heap[w8.heap.size]? = some (.cells #[(.slice Ax y114.length cx)] 47 (0, 0))) ∧ Aside0 (Kd.R (Kd.int .u8) 5 w' w.heap.size (fun _ => True) (.slice Ax y114.length cx) zs) ∧ Aside0 (Below w.heap.size w w'))
        case atStart => exact ⟨y114, 0, rfl, H', ⟨Nat.le_refl _⟩, HK9, HO9, HB9⟩
        case round =>
          clear H' HO116 HB HK9 HO9 HB9; obtain ⟨zs, i, rfl, HA, HK1, HK, HO, HB⟩ := hrel
          cases gk with
          | zero => exact absurd HA.out (by simp [bloom_Make.l0])
          | succ k1 =>
            have H := HA.out; clear HA; simp only [bloom_Make.l0] at H
            by_cases c10 : i < (l0.length : Int)
            · rw [if_pos c10] at H; have c10b0 : decide (i < (l0.length : Int)) = true := decide_eq_true c10
              by_cases c12 : 0 ≤ i
              · rw [if_pos c12] at H; have c12b0 : decide (0 ≤ i) = true := decide_eq_true c12; obtain ⟨ys, A14, H⟩ := Option.bind_eq_some_iff.mp H; have B14 := Aside0.mk A14; have H' := Aside0.mk H; clear H A14; obtain ⟨ad117, e117, hx117_0⟩ := Kd.at_string HR0.out i c12 c10; cases e117; replace hx117_0 := (HB.out.cell (World.block_lt_of_cell? w _ hx117_0)).trans hx117_0; have p117 := eq_true c12; have q117 := eq_true c10; clear c10 c12
                go_wp2_with (go_at_call 73; go_loud ((refine (bloom_Make.each k1 w w8.heap.size (.slice Ax y114.length cx) zs ys _ n _ HK.out hg9.out HO.out HB.out B14.out).mono ?_); rintro e w7 ⟨rfl, hk7, ho7, hb7⟩; have HK7 := Aside0.mk hk7; have HO7 := Aside0.mk ho7; have HB7 := Aside0.mk hb7; clear hk7 ho7 hb7))
                go_roundg k1
                case measure => have := HK1.out; omega
                case rel => exact ⟨_, wrap64 (i + 1), (by first | rfl | (simp; done) | (simp [*]; done)), H', ⟨by have := HK1.out; omega⟩, HK7, HO7, HB7⟩
              · rw [if_neg c12] at H; exact absurd H (by simp)
            · rw [if_neg c10] at H; have c10b0 : decide (i < (l0.length : Int)) = false := decide_eq_false c10; clear c10; simp only [Option.some.injEq, Prod.mk.injEq] at H; obtain ⟨rfl, rfl⟩ := H; have hc : wr.cell? ⟨w8.heap.size, 0, none⟩ = some (.slice Ax y114.length cx) := (blk_cell HK.out 0).trans rfl; have hcv25 := own_string (P := Try.prog) Try.underlying47 Try.underlying5 Try.underlying9 (Kd.own_of_R HO.out); go_wp2; go_ret2; exact ⟨rfl, HB.out⟩
      · rw [if_neg c6] at H; exact absurd H (by simp)
    · rw [if_neg c5] at H; exact absurd H (by simp)
def varint_Fix.dig (a : Int) (j : Nat) : Int := a / 2 ^ (8 * j) % 256
def varint_Fix.digs (a : Int) (k : Nat) : Array Value := #[.int .u8 (if 0 < k then varint_Fix.dig a 0 else 0), .int .u8 (if 1 < k then varint_Fix.dig a 1 else 0), .int .u8 (if 2 < k then varint_Fix.dig a 2 else 0), .int .u8 (if 3 < k then varint_Fix.dig a 3 else 0)]
theorem varint_Fix.digs_at (a : Int) (k : Nat) (h : k < 4) : (varint_Fix.digs a k)[k]? = some (.int .u8 0) := by
  match k, h with
  | 0, _ => rfl
  | 1, _ => rfl
  | 2, _ => rfl
  | 3, _ => rfl
theorem varint_Fix.digs_set (a : Int) (k : Nat) (h : k < 4) : (varint_Fix.digs a k).setIfInBounds k (.int .u8 (a / 2 ^ (8 * k) % 256)) = varint_Fix.digs a (k + 1) := by
  match k, h with
  | 0, _ => rfl
  | 1, _ => rfl
  | 2, _ => rfl
  | 3, _ => rfl
theorem varint_Fix.digs_end (a : Int) (i : Nat) (h : i < 4) : (varint_Fix.digs a 4)[i]? = some (.int .u8 ([varint_Fix.dig a 0, varint_Fix.dig a 1, varint_Fix.dig a 2, varint_Fix.dig a 3].getD i 0)) := by
  match i, h with
  | 0, _ => rfl
  | 1, _ => rfl
  | 2, _ => rfl
  | 3, _ => rfl
def varint_Fix.f (a0 : Int) : Option (ByteArray × Int) := if a0 < 0 then some ((⟨#[]⟩ : ByteArray), 1) else if a0 > 4294967295 then some ((⟨#[]⟩ : ByteArray), 1) else some (strOfNums [varint_Fix.dig a0 0, varint_Fix.dig a0 1, varint_Fix.dig a0 2, varint_Fix.dig a0 3], 0)
set_option maxHeartbeats 800000 in
set_option maxRecDepth 100000 in
theorem varint_Fix.calls (a0 : Int) (r0 : ByteArray) (r1 : Int) (w : World) (h : varint_Fix.f a0 = some (r0, r1)) :
    Calls Try.prog 45 #[.int .i64 a0] w fun e w' => e = .returned (.tuple #[.string r0, .int .i64 r1]) ∧ Below w.heap.size w w' := by
  unfold varint_Fix.f at h
  by_cases c0 : a0 < 0
  · rw [if_pos c0] at h; simp only [Option.some.injEq, Prod.mk.injEq] at h; obtain ⟨rfl, rfl⟩ := h; have c1 : decide (a0 < 0) = true := decide_eq_true c0; clear c0; go_enter Try.func45, Try.ntmps45; go_wp2; go_ret2; exact ⟨rfl, Below.refl _ _⟩
  · rw [if_neg c0] at h; have c1 : decide (a0 < 0) = false := decide_eq_false c0; clear c0
    by_cases c2 : a0 > 4294967295
    · rw [if_pos c2] at h; simp only [Option.some.injEq, Prod.mk.injEq] at h; obtain ⟨rfl, rfl⟩ := h; have c3 : decide (4294967295 < a0) = true := decide_eq_true c2; clear c2; go_enter Try.func45, Try.ntmps45; go_wp2; go_ret2; exact ⟨rfl, Below.refl _ _⟩
    · rw [if_neg c2] at h; simp only [Option.some.injEq, Prod.mk.injEq] at h; obtain ⟨rfl, rfl⟩ := h; have c3 : decide (4294967295 < a0) = false := decide_eq_false c2; clear c2; go_enter Try.func45, Try.ntmps45; go_wp2
      go_loopw [12] (fun v wr => ∃ k : Nat, k ≤ 4 ∧ v = .int .i64 k ∧ Aside0 (wr.heap[w.heap.size]? = some (.cells (varint_Fix.digs a0 k) 102 (0, 0))) ∧ Aside0 (Below w.heap.size w wr)) (fun v _ => 4 - (intOf v).toNat)
      case atStart => exact ⟨0, by omega, rfl, ⟨heap_alloc_new w (.cells (varint_Fix.digs a0 0) 102)⟩, ⟨below_alloc (Below.refl _ _) _⟩⟩
      case round =>
        obtain ⟨k, hk, rfl, HB, HW⟩ := hrel
        by_cases c : k < 4
        · have hc : wr.cell? ⟨w.heap.size, k, none⟩ = some (.int .u8 0) := (blk_cell HB.out k).trans (varint_Fix.digs_at a0 k c); have hf := blk_frozen HB.out k; go_wp2; exact ⟨⟨k + 1, by omega, rfl, ⟨by rw [← varint_Fix.digs_set a0 k c]; exact blk_set HB.out k _⟩, ⟨below_set HW.out (Nat.le_refl _)⟩⟩, by simp [intOf]; omega⟩
        · obtain rfl : k = 4 := by omega
          have hcv := Go.run_convert_bytes_arg (P := Try.prog) (w := wr) 47 5 Try.underlying47 Try.underlying5 w.heap.size 0 4 4 [varint_Fix.dig a0 0, varint_Fix.dig a0 1, varint_Fix.dig a0 2, varint_Fix.dig a0 3] rfl (fun i hi => by rw [Nat.zero_add]; exact (blk_cell HB.out i).trans (varint_Fix.digs_end a0 i hi)) 9 Try.underlying9; go_wp2; go_ret2; exact ⟨rfl, HW.out⟩
def varint_TakeFix.l0 : Nat → ByteArray → Int → Int → Option (Int × Int)
  | 0, _, _, _ => none
  | k + 1, x0, x4, x9 => if x9 < 4 then (if 0 ≤ x9 then (if x9 < (x0.size : Int) then (if 0 ≤ (wrap64 (8 * x9)) then (varint_TakeFix.l0 k x0 (Go.bits .or .i64 x4 (shl .i64 (wrap64 (bt x0 x9)) (wrap64 (8 * x9)))) (wrap64 (x9 + 1))) else (none)) else (none)) else (none)) else (some (x4, 0))
def varint_TakeFix.f (k : Nat) (a0 : ByteArray) : Option (Int × Int) := if (a0.size : Int) < 4 then (some (0, 10)) else (varint_TakeFix.l0 k a0 0 0)
set_option maxHeartbeats 8000000 in
set_option maxRecDepth 100000 in
theorem varint_TakeFix.calls (k : Nat) (a0 : ByteArray) (r1 : Int) (r2 : Int) (w : World) (h : varint_TakeFix.f k a0 = some (r1, r2)) :
    Calls Try.prog 53 #[.string a0] w fun e w' => e = .returned (.tuple #[.int .i64 r1, .int .i64 r2]) ∧ Drawn0 w w' := by
  have H : (if (a0.size : Int) < 4 then (some (0, 10)) else (varint_TakeFix.l0 k a0 0 0)) = some (r1, r2) := h
  clear h
  by_cases c2 : (a0.size : Int) < 4
  · rw [if_pos c2] at H; have c2b0 : decide ((a0.size : Int) < 4) = true := decide_eq_true c2; have c2b1 : decide (a0.size < 4) = true := decide_eq_true (by omega); clear c2; simp only [Option.some.injEq, Prod.mk.injEq] at H; obtain ⟨rfl, rfl⟩ := H; go_enter Try.func53, Try.ntmps53; go_wp2; go_ret2; exact ⟨by first | rfl | (simp; done) | (simp [*]; done) | exact isE1 _ | exact isE2 _ | exact isE3 _ | exact isE4 _ | exact congrArg Value.bool (isE1 _) | exact congrArg Value.bool (isE2 _) | exact congrArg Value.bool (isE3 _) | exact congrArg Value.bool (isE4 _), by repeat (first | exact Drawn0.refl _ | apply Drawn0.step)⟩
  · rw [if_neg c2] at H; have c2b0 : decide ((a0.size : Int) < 4) = false := decide_eq_false c2; have c2b1 : decide (a0.size < 4) = false := decide_eq_false (by omega); clear c2; have H' := Aside0.mk H; clear H; go_enter Try.func53, Try.ntmps53; go_wp2
    go_loopg [4, 9] k (fun kq v4 v9 w' => ∃ (x4_1 : Int) (x9_1 : Int), v4 = .int .i64 x4_1 ∧ v9 = .int .i64 x9_1 ∧ Aside0 (varint_TakeFix.l0 kq a0 x4_1 x9_1 = some (r1, r2)) ∧ Aside0 (kq ≤ k) ∧ Drawn0 w w')
    case atStart => exact ⟨(0), (0), (by first | rfl | (simp; done) | (simp [*]; done) | exact isE1 _ | exact isE2 _ | exact isE3 _ | exact isE4 _ | exact congrArg Value.bool (isE1 _) | exact congrArg Value.bool (isE2 _) | exact congrArg Value.bool (isE3 _) | exact congrArg Value.bool (isE4 _)), (by first | rfl | (simp; done) | (simp [*]; done) | exact isE1 _ | exact isE2 _ | exact isE3 _ | exact isE4 _ | exact congrArg Value.bool (isE1 _) | exact congrArg Value.bool (isE2 _) | exact congrArg Value.bool (isE3 _) | exact congrArg Value.bool (isE4 _)), H', ⟨Nat.le_refl _⟩, by repeat (first | exact Drawn0.refl _ | apply Drawn0.step)⟩
    case round =>
      clear H'
      try clear c2
      try clear c2b0
      try clear c2b1
      try clear p2
      obtain ⟨x4_1, x9_1, rfl, rfl, HA, HK1, ⟨m1, rfl⟩⟩ := hrel
      cases gk with
      | zero => exact absurd HA.out (by simp [varint_TakeFix.l0])
      | succ k1 =>
        have H := HA.out; clear HA; simp only [varint_TakeFix.l0] at H
        by_cases c3 : x9_1 < 4
        · rw [if_pos c3] at H; have c3b0 : decide (x9_1 < 4) = true := decide_eq_true c3; clear c3
          by_cases c4 : 0 ≤ x9_1
          · rw [if_pos c4] at H; have c4b0 : decide (0 ≤ x9_1) = true := decide_eq_true c4; clear c4
            by_cases c5 : x9_1 < (a0.size : Int)
            · rw [if_pos c5] at H; have c5b0 : decide (x9_1 < (a0.size : Int)) = true := decide_eq_true c5; clear c5; obtain ⟨ji7, hji7⟩ : ∃ j_ : Int, (wrap64 (8 * x9_1)) = j_ := ⟨_, rfl⟩; replace H : (if 0 ≤ (ji7) then (varint_TakeFix.l0 k1 a0 (Go.bits .or .i64 x4_1 (shl .i64 (wrap64 (bt a0 x9_1)) (ji7))) (wrap64 (x9_1 + 1))) else (none)) = some (r1, r2) := by first | (rw [hji7] at H; exact H) | (simp only [hji7] at H ⊢; exact H)
              have hji7w : (IntKind.i64.wrap (8 * x9_1)) = ji7 := (i64_w _).trans hji7
              by_cases c8 : 0 ≤ (ji7)
              · rw [if_pos c8] at H; have c8b0 := eq_true c8; have c8b1 : decide (0 ≤ (ji7)) = true := decide_eq_true c8; clear c8; obtain ⟨ji9, hji9⟩ : ∃ j_ : Int, (shl .i64 (wrap64 (bt a0 x9_1)) (ji7)) = j_ := ⟨_, rfl⟩; replace H : (varint_TakeFix.l0 k1 a0 (Go.bits .or .i64 x4_1 (ji9)) (wrap64 (x9_1 + 1))) = some (r1, r2) := by first | (rw [hji9] at H; exact H) | (simp only [hji9] at H ⊢; exact H)
                have hji9_ : (IntKind.i64.wrap ((wrap64 (bt a0 x9_1)) * 2 ^ min (ji7).toNat 64)) = ji9 := hji9; have hji9z : (ji7) ≤ 64 → (IntKind.i64.wrap ((wrap64 (bt a0 x9_1)) * 2 ^ (ji7).toNat)) = ji9 := shl_small hji9; have hji9y : (wrap64 ((wrap64 (bt a0 x9_1)) * 2 ^ min (ji7).toNat 64)) = ji9 := (i64_w _).symm.trans hji9_; have hji9x : (ji7) ≤ 64 → (wrap64 ((wrap64 (bt a0 x9_1)) * 2 ^ (ji7).toNat)) = ji9 := fun h_ => (i64_w _).symm.trans (hji9z h_)
                have H' := Aside0.mk H; clear H; have p6 : 0 ≤ (x9_1 : Int) := of_decide_eq_true (by first | (with_reducible assumption) | assumption); have q6 : x9_1 < (a0.size : Int) := of_decide_eq_true (by first | (with_reducible assumption) | assumption); have hx6 := bt_at a0 x9_1; replace p6 := eq_true p6; replace q6 := eq_true q6; go_wp2
                go_roundg k1
                case measure => have := HK1.out; omega
                case rel => exact ⟨(Go.bits .or .i64 x4_1 (ji9)), (wrap64 (x9_1 + 1)), (by first | rfl | (simp; done) | (simp only [← hji9] <;> (first | rfl | simp)) | (simp [*]; done)), (by first | rfl | (simp; done) | (simp [*]; done) | exact isE1 _ | exact isE2 _ | exact isE3 _ | exact isE4 _ | exact congrArg Value.bool (isE1 _) | exact congrArg Value.bool (isE2 _) | exact congrArg Value.bool (isE3 _) | exact congrArg Value.bool (isE4 _)), H', ⟨by have := HK1.out; omega⟩, by repeat (first | exact Drawn0.refl _ | apply Drawn0.step)⟩
              · rw [if_neg c8] at H; exact absurd H (by simp)
            · rw [if_neg c5] at H; exact absurd H (by simp)
          · rw [if_neg c4] at H; exact absurd H (by simp)
        · rw [if_neg c3] at H; have c3b0 : decide (x9_1 < 4) = false := decide_eq_false c3; clear c3; simp only [Option.some.injEq, Prod.mk.injEq] at H; obtain ⟨rfl, rfl⟩ := H; go_wp2; go_ret2; exact ⟨by first | rfl | (simp; done) | (simp [*]; done) | exact isE1 _ | exact isE2 _ | exact isE3 _ | exact isE4 _ | exact congrArg Value.bool (isE1 _) | exact congrArg Value.bool (isE2 _) | exact congrArg Value.bool (isE3 _) | exact congrArg Value.bool (isE4 _), by repeat (first | exact Drawn0.refl _ | apply Drawn0.step)⟩
def varint_Take.l0 : Nat → ByteArray → Int → Int → Option (Int × Int × Int)
  | 0, _, _, _ => none
  | k + 1, x0, x5, x8 => if x8 < 9 then (if x8 = (x0.size : Int) then (some (0, 0, 10)) else (if 0 ≤ x8 then (if x8 < (x0.size : Int) then (if 0 ≤ (wrap64 (7 * x8)) then (if (bt x0 x8) ≥ 128 then (varint_Take.l0 k x0 (Go.bits .or .i64 x5 (shl .i64 (wrap64 (Go.bits .and .u8 (bt x0 x8) 127)) (wrap64 (7 * x8)))) (wrap64 (x8 + 1))) else (if x8 > 0 then (if (bt x0 x8) = 0 then (some (0, 0, 11)) else (if (Go.bits .or .i64 x5 (shl .i64 (wrap64 (Go.bits .and .u8 (bt x0 x8) 127)) (wrap64 (7 * x8)))) > 4611686018427387904 then (some (0, 0, 11)) else (some (Go.bits .or .i64 x5 (shl .i64 (wrap64 (Go.bits .and .u8 (bt x0 x8) 127)) (wrap64 (7 * x8))), wrap64 (x8 + 1), 0)))) else (if (Go.bits .or .i64 x5 (shl .i64 (wrap64 (Go.bits .and .u8 (bt x0 x8) 127)) (wrap64 (7 * x8)))) > 4611686018427387904 then (some (0, 0, 11)) else (some (Go.bits .or .i64 x5 (shl .i64 (wrap64 (Go.bits .and .u8 (bt x0 x8) 127)) (wrap64 (7 * x8))), wrap64 (x8 + 1), 0))))) else (none)) else (none)) else (none))) else (some (0, 0, 11))
def varint_Take.f (k : Nat) (a0 : ByteArray) : Option (Int × Int × Int) := varint_Take.l0 k a0 0 0
set_option maxHeartbeats 8000000 in
set_option maxRecDepth 100000 in
theorem varint_Take.calls (k : Nat) (a0 : ByteArray) (r1 : Int) (r2 : Int) (r3 : Int) (w : World) (h : varint_Take.f k a0 = some (r1, r2, r3)) :
    Calls Try.prog 87 #[.string a0] w fun e w' => e = .returned (.tuple #[.int .i64 r1, .int .i64 r2, .int .i64 r3]) ∧ Drawn0 w w' := by
  have H : (varint_Take.l0 k a0 0 0) = some (r1, r2, r3) := h
  clear h
  have H' := Aside0.mk H
  clear H
  go_enter Try.func87, Try.ntmps87
  go_wp2
  go_loopg [5, 8] k (fun kq v5 v8 w' => ∃ (x5_1 : Int) (x8_1 : Int), v5 = .int .i64 x5_1 ∧ v8 = .int .i64 x8_1 ∧ Aside0 (varint_Take.l0 kq a0 x5_1 x8_1 = some (r1, r2, r3)) ∧ Aside0 (kq ≤ k) ∧ Drawn0 w w')
  case atStart => exact ⟨(0), (0), (by first | rfl | (simp; done) | (simp [*]; done) | exact isE1 _ | exact isE2 _ | exact isE3 _ | exact isE4 _ | exact congrArg Value.bool (isE1 _) | exact congrArg Value.bool (isE2 _) | exact congrArg Value.bool (isE3 _) | exact congrArg Value.bool (isE4 _)), (by first | rfl | (simp; done) | (simp [*]; done) | exact isE1 _ | exact isE2 _ | exact isE3 _ | exact isE4 _ | exact congrArg Value.bool (isE1 _) | exact congrArg Value.bool (isE2 _) | exact congrArg Value.bool (isE3 _) | exact congrArg Value.bool (isE4 _)), H', ⟨Nat.le_refl _⟩, by repeat (first | exact Drawn0.refl _ | apply Drawn0.step)⟩
  case round =>
    clear H'; obtain ⟨x5_1, x8_1, rfl, rfl, HA, HK1, ⟨m1, rfl⟩⟩ := hrel
    cases gk with
    | zero => exact absurd HA.out (by simp [varint_Take.l0])
    | succ k1 =>
      have H := HA.out; clear HA; simp only [varint_Take.l0] at H
      by_cases c2 : x8_1 < 9
      · rw [if_pos c2] at H; have c2b0 : decide (x8_1 < 9) = true := decide_eq_true c2; clear c2
        by_cases c3 : x8_1 = (a0.size : Int)
        · rw [if_pos c3] at H; have c3b0 : (x8_1 == (a0.size : Int)) = true := beq_iff_eq.mpr c3; have c3b1 : (x8_1 != (a0.size : Int)) = false := bne_eq_false_iff_eq.mpr c3; clear c3; simp only [Option.some.injEq, Prod.mk.injEq] at H; obtain ⟨rfl, rfl, rfl⟩ := H; go_wp2; go_ret3; exact ⟨by first | rfl | (simp; done) | (simp [*]; done) | exact isE1 _ | exact isE2 _ | exact isE3 _ | exact isE4 _ | exact congrArg Value.bool (isE1 _) | exact congrArg Value.bool (isE2 _) | exact congrArg Value.bool (isE3 _) | exact congrArg Value.bool (isE4 _), by repeat (first | exact Drawn0.refl _ | apply Drawn0.step)⟩
        · rw [if_neg c3] at H; have c3b0 : (x8_1 == (a0.size : Int)) = false := beq_eq_false_iff_ne.mpr c3; have c3b1 : (x8_1 != (a0.size : Int)) = true := bne_iff_ne.mpr c3
          by_cases c4 : 0 ≤ x8_1
          · rw [if_pos c4] at H; have c4b0 : decide (0 ≤ x8_1) = true := decide_eq_true c4; clear c4
            by_cases c5 : x8_1 < (a0.size : Int)
            · rw [if_pos c5] at H; have c5b0 : decide (x8_1 < (a0.size : Int)) = true := decide_eq_true c5; clear c5; obtain ⟨ji7, hji7⟩ : ∃ j_ : Int, (wrap64 (7 * x8_1)) = j_ := ⟨_, rfl⟩; replace H : (if 0 ≤ (ji7) then (if (bt a0 x8_1) ≥ 128 then (varint_Take.l0 k1 a0 (Go.bits .or .i64 x5_1 (shl .i64 (wrap64 (Go.bits .and .u8 (bt a0 x8_1) 127)) (ji7))) (wrap64 (x8_1 + 1))) else (if x8_1 > 0 then (if (bt a0 x8_1) = 0 then (some (0, 0, 11)) else (if (Go.bits .or .i64 x5_1 (shl .i64 (wrap64 (Go.bits .and .u8 (bt a0 x8_1) 127)) (ji7))) > 4611686018427387904 then (some (0, 0, 11)) else (some (Go.bits .or .i64 x5_1 (shl .i64 (wrap64 (Go.bits .and .u8 (bt a0 x8_1) 127)) (ji7)), wrap64 (x8_1 + 1), 0)))) else (if (Go.bits .or .i64 x5_1 (shl .i64 (wrap64 (Go.bits .and .u8 (bt a0 x8_1) 127)) (ji7))) > 4611686018427387904 then (some (0, 0, 11)) else (some (Go.bits .or .i64 x5_1 (shl .i64 (wrap64 (Go.bits .and .u8 (bt a0 x8_1) 127)) (ji7)), wrap64 (x8_1 + 1), 0))))) else (none)) = some (r1, r2, r3) := by first | (rw [hji7] at H; exact H) | (simp only [hji7] at H ⊢; exact H)
              have hji7w : (IntKind.i64.wrap (7 * x8_1)) = ji7 := (i64_w _).trans hji7
              by_cases c8 : 0 ≤ (ji7)
              · rw [if_pos c8] at H; have c8b0 := eq_true c8; have c8b1 : decide (0 ≤ (ji7)) = true := decide_eq_true c8; clear c8; obtain ⟨ji9, hji9⟩ : ∃ j_ : Int, (shl .i64 (wrap64 (Go.bits .and .u8 (bt a0 x8_1) 127)) (ji7)) = j_ := ⟨_, rfl⟩; replace H : (if (bt a0 x8_1) ≥ 128 then (varint_Take.l0 k1 a0 (Go.bits .or .i64 x5_1 (ji9)) (wrap64 (x8_1 + 1))) else (if x8_1 > 0 then (if (bt a0 x8_1) = 0 then (some (0, 0, 11)) else (if (Go.bits .or .i64 x5_1 (ji9)) > 4611686018427387904 then (some (0, 0, 11)) else (some (Go.bits .or .i64 x5_1 (ji9), wrap64 (x8_1 + 1), 0)))) else (if (Go.bits .or .i64 x5_1 (ji9)) > 4611686018427387904 then (some (0, 0, 11)) else (some (Go.bits .or .i64 x5_1 (ji9), wrap64 (x8_1 + 1), 0))))) = some (r1, r2, r3) := by first | (rw [hji9] at H; exact H) | (simp only [hji9] at H ⊢; exact H)
                have hji9_ : (IntKind.i64.wrap ((wrap64 (Go.bits .and .u8 (bt a0 x8_1) 127)) * 2 ^ min (ji7).toNat 64)) = ji9 := hji9; have hji9z : (ji7) ≤ 64 → (IntKind.i64.wrap ((wrap64 (Go.bits .and .u8 (bt a0 x8_1) 127)) * 2 ^ (ji7).toNat)) = ji9 := shl_small hji9; have hji9y : (wrap64 ((wrap64 (Go.bits .and .u8 (bt a0 x8_1) 127)) * 2 ^ min (ji7).toNat 64)) = ji9 := (i64_w _).symm.trans hji9_; have hji9x : (ji7) ≤ 64 → (wrap64 ((wrap64 (Go.bits .and .u8 (bt a0 x8_1) 127)) * 2 ^ (ji7).toNat)) = ji9 := fun h_ => (i64_w _).symm.trans (hji9z h_)
                by_cases c10 : (bt a0 x8_1) ≥ 128
                · rw [if_pos c10] at H; have c10b0 : decide (128 ≤ (bt a0 x8_1)) = true := decide_eq_true c10; clear c10; have H' := Aside0.mk H; clear H; have p6 : 0 ≤ (x8_1 : Int) := of_decide_eq_true (by first | (with_reducible assumption) | assumption); have q6 : x8_1 < (a0.size : Int) := of_decide_eq_true (by first | (with_reducible assumption) | assumption); have hx6 := bt_at a0 x8_1; replace p6 := eq_true p6; replace q6 := eq_true q6; go_wp2
                  go_roundg k1
                  case measure => have := HK1.out; omega
                  case rel => exact ⟨(Go.bits .or .i64 x5_1 (ji9)), (wrap64 (x8_1 + 1)), (by first | rfl | (simp; done) | (simp only [← hji9] <;> (first | rfl | simp)) | (simp [*]; done)), (by first | rfl | (simp; done) | (simp [*]; done) | exact isE1 _ | exact isE2 _ | exact isE3 _ | exact isE4 _ | exact congrArg Value.bool (isE1 _) | exact congrArg Value.bool (isE2 _) | exact congrArg Value.bool (isE3 _) | exact congrArg Value.bool (isE4 _)), H', ⟨by have := HK1.out; omega⟩, by repeat (first | exact Drawn0.refl _ | apply Drawn0.step)⟩
                · rw [if_neg c10] at H; have c10b0 : decide (128 ≤ (bt a0 x8_1)) = false := decide_eq_false c10; clear c10
                  by_cases c11 : x8_1 > 0
                  · rw [if_pos c11] at H; have c11b0 : decide (0 < x8_1) = true := decide_eq_true c11; clear c11
                    by_cases c12 : (bt a0 x8_1) = 0
                    · rw [if_pos c12] at H; have c12b0 : ((bt a0 x8_1) == 0) = true := beq_iff_eq.mpr c12; have c12b1 : ((bt a0 x8_1) != 0) = false := bne_eq_false_iff_eq.mpr c12; clear c12; simp only [Option.some.injEq, Prod.mk.injEq] at H; obtain ⟨rfl, rfl, rfl⟩ := H; have p6 : 0 ≤ (x8_1 : Int) := of_decide_eq_true (by first | (with_reducible assumption) | assumption); have q6 : x8_1 < (a0.size : Int) := of_decide_eq_true (by first | (with_reducible assumption) | assumption); have hx6 := bt_at a0 x8_1; replace p6 := eq_true p6; replace q6 := eq_true q6; go_wp2; go_ret3; exact ⟨by first | rfl | (simp; done) | (simp only [← hji7, ← hji9] <;> (first | rfl | simp)) | (simp [*]; done), by repeat (first | exact Drawn0.refl _ | apply Drawn0.step)⟩
                    · rw [if_neg c12] at H; have c12b0 : ((bt a0 x8_1) == 0) = false := beq_eq_false_iff_ne.mpr c12; have c12b1 : ((bt a0 x8_1) != 0) = true := bne_iff_ne.mpr c12
                      by_cases c13 : (Go.bits .or .i64 x5_1 (ji9)) > 4611686018427387904
                      · rw [if_pos c13] at H; have c13b0 : decide (4611686018427387904 < (Go.bits .or .i64 x5_1 (ji9))) = true := decide_eq_true c13; clear c13; simp only [Option.some.injEq, Prod.mk.injEq] at H; obtain ⟨rfl, rfl, rfl⟩ := H; have p6 : 0 ≤ (x8_1 : Int) := of_decide_eq_true (by first | (with_reducible assumption) | assumption); have q6 : x8_1 < (a0.size : Int) := of_decide_eq_true (by first | (with_reducible assumption) | assumption); have hx6 := bt_at a0 x8_1; replace p6 := eq_true p6; replace q6 := eq_true q6; go_wp2; go_ret3; exact ⟨by first | rfl | (simp; done) | (simp only [← hji7, ← hji9] <;> (first | rfl | simp)) | (simp [*]; done), by repeat (first | exact Drawn0.refl _ | apply Drawn0.step)⟩
                      · rw [if_neg c13] at H; have c13b0 : decide (4611686018427387904 < (Go.bits .or .i64 x5_1 (ji9))) = false := decide_eq_false c13; clear c13; simp only [Option.some.injEq, Prod.mk.injEq] at H; obtain ⟨rfl, rfl, rfl⟩ := H; have p6 : 0 ≤ (x8_1 : Int) := of_decide_eq_true (by first | (with_reducible assumption) | assumption); have q6 : x8_1 < (a0.size : Int) := of_decide_eq_true (by first | (with_reducible assumption) | assumption); have hx6 := bt_at a0 x8_1; replace p6 := eq_true p6; replace q6 := eq_true q6; go_wp2; go_ret3; exact ⟨by first | rfl | (simp; done) | (simp only [← hji7, ← hji9] <;> (first | rfl | simp)) | (simp [*]; done), by repeat (first | exact Drawn0.refl _ | apply Drawn0.step)⟩
                  · rw [if_neg c11] at H; have c11b0 : decide (0 < x8_1) = false := decide_eq_false c11; clear c11
                    by_cases c14 : (Go.bits .or .i64 x5_1 (ji9)) > 4611686018427387904
                    · rw [if_pos c14] at H; have c14b0 : decide (4611686018427387904 < (Go.bits .or .i64 x5_1 (ji9))) = true := decide_eq_true c14; clear c14; simp only [Option.some.injEq, Prod.mk.injEq] at H; obtain ⟨rfl, rfl, rfl⟩ := H; have p6 : 0 ≤ (x8_1 : Int) := of_decide_eq_true (by first | (with_reducible assumption) | assumption); have q6 : x8_1 < (a0.size : Int) := of_decide_eq_true (by first | (with_reducible assumption) | assumption); have hx6 := bt_at a0 x8_1; replace p6 := eq_true p6; replace q6 := eq_true q6; go_wp2; go_ret3; exact ⟨by first | rfl | (simp; done) | (simp only [← hji7, ← hji9] <;> (first | rfl | simp)) | (simp [*]; done), by repeat (first | exact Drawn0.refl _ | apply Drawn0.step)⟩
                    · rw [if_neg c14] at H; have c14b0 : decide (4611686018427387904 < (Go.bits .or .i64 x5_1 (ji9))) = false := decide_eq_false c14; clear c14; simp only [Option.some.injEq, Prod.mk.injEq] at H; obtain ⟨rfl, rfl, rfl⟩ := H; have p6 : 0 ≤ (x8_1 : Int) := of_decide_eq_true (by first | (with_reducible assumption) | assumption); have q6 : x8_1 < (a0.size : Int) := of_decide_eq_true (by first | (with_reducible assumption) | assumption); have hx6 := bt_at a0 x8_1; replace p6 := eq_true p6; replace q6 := eq_true q6; go_wp2; go_ret3; exact ⟨by first | rfl | (simp; done) | (simp only [← hji7, ← hji9] <;> (first | rfl | simp)) | (simp [*]; done), by repeat (first | exact Drawn0.refl _ | apply Drawn0.step)⟩
              · rw [if_neg c8] at H; exact absurd H (by simp)
            · rw [if_neg c5] at H; exact absurd H (by simp)
          · rw [if_neg c4] at H; exact absurd H (by simp)
      · rw [if_neg c2] at H; have c2b0 : decide (x8_1 < 9) = false := decide_eq_false c2; clear c2; simp only [Option.some.injEq, Prod.mk.injEq] at H; obtain ⟨rfl, rfl, rfl⟩ := H; go_wp2; go_ret3; exact ⟨by first | rfl | (simp; done) | (simp [*]; done) | exact isE1 _ | exact isE2 _ | exact isE3 _ | exact isE4 _ | exact congrArg Value.bool (isE1 _) | exact congrArg Value.bool (isE2 _) | exact congrArg Value.bool (isE3 _) | exact congrArg Value.bool (isE4 _), by repeat (first | exact Drawn0.refl _ | apply Drawn0.step)⟩
def varint_TakeText.f (k : Nat) (a0 : ByteArray) : Option (ByteArray × Int × Int) := (varint_Take.f k a0).bind fun bt143 => (if bt143.2.2 = 0 then (if bt143.1 > 262144 then (some ((⟨#[]⟩ : ByteArray), 0, 11)) else (if (wrap64 ((a0.size : Int) - bt143.2.1)) < bt143.1 then (some ((⟨#[]⟩ : ByteArray), 0, 10)) else (if 0 ≤ bt143.2.1 then (if bt143.2.1 ≤ (wrap64 (bt143.2.1 + bt143.1)) then (if (wrap64 (bt143.2.1 + bt143.1)) ≤ (a0.size : Int) then (some (a0.extract (bt143.2.1 : Int).toNat ((wrap64 (bt143.2.1 + bt143.1)) : Int).toNat, wrap64 (bt143.2.1 + bt143.1), 0)) else (none)) else (none)) else (none)))) else (some ((⟨#[]⟩ : ByteArray), 0, bt143.2.2)))
set_option maxHeartbeats 8000000 in
set_option maxRecDepth 100000 in
theorem varint_TakeText.calls (k : Nat) (a0 : ByteArray) (r1 : ByteArray) (r2 : Int) (r3 : Int) (w : World) (h : varint_TakeText.f k a0 = some (r1, r2, r3)) :
    Calls Try.prog 88 #[.string a0] w fun e w' => e = .returned (.tuple #[.string r1, .int .i64 r2, .int .i64 r3]) ∧ Drawn0 w w' := by
  have H : ((varint_Take.f k a0).bind fun bt143 => (if bt143.2.2 = 0 then (if bt143.1 > 262144 then (some ((⟨#[]⟩ : ByteArray), 0, 11)) else (if (wrap64 ((a0.size : Int) - bt143.2.1)) < bt143.1 then (some ((⟨#[]⟩ : ByteArray), 0, 10)) else (if 0 ≤ bt143.2.1 then (if bt143.2.1 ≤ (wrap64 (bt143.2.1 + bt143.1)) then (if (wrap64 (bt143.2.1 + bt143.1)) ≤ (a0.size : Int) then (some (a0.extract (bt143.2.1 : Int).toNat ((wrap64 (bt143.2.1 + bt143.1)) : Int).toNat, wrap64 (bt143.2.1 + bt143.1), 0)) else (none)) else (none)) else (none)))) else (some ((⟨#[]⟩ : ByteArray), 0, bt143.2.2)))) = some (r1, r2, r3) := h
  clear h
  replace H := Option.bind_eq_some_iff.mp H
  obtain ⟨⟨t143, t144, t145⟩, A20, H⟩ := H
  replace H : (if t145 = 0 then (if t143 > 262144 then (some ((⟨#[]⟩ : ByteArray), 0, 11)) else (if (wrap64 ((a0.size : Int) - t144)) < t143 then (some ((⟨#[]⟩ : ByteArray), 0, 10)) else (if 0 ≤ t144 then (if t144 ≤ (wrap64 (t144 + t143)) then (if (wrap64 (t144 + t143)) ≤ (a0.size : Int) then (some (a0.extract (t144 : Int).toNat ((wrap64 (t144 + t143)) : Int).toNat, wrap64 (t144 + t143), 0)) else (none)) else (none)) else (none)))) else (some ((⟨#[]⟩ : ByteArray), 0, t145))) = some (r1, r2, r3) := H
  have A2 := Aside0.mk A20
  clear A20
  by_cases c3 : t145 = 0
  · rw [if_pos c3] at H; have c3b0 : (t145 == 0) = true := beq_iff_eq.mpr c3; have c3b1 : (t145 != 0) = false := bne_eq_false_iff_eq.mpr c3; clear c3
    by_cases c4 : t143 > 262144
    · rw [if_pos c4] at H; have c4b0 : decide (262144 < t143) = true := decide_eq_true c4; clear c4; simp only [Option.some.injEq, Prod.mk.injEq] at H; obtain ⟨rfl, rfl, rfl⟩ := H; go_enter Try.func88, Try.ntmps88
      go_wp2_with (first | ((with_reducible refine gate_callee (f := 87) rfl ?_); refine goesL_ (some 10) rfl rfl Try.func87 (by kernel_rfl) rfl #[.string a0] rfl (by (try simp only [List.map_toArray, List.map_cons, List.map_nil]); first | done | rfl | (simp only [List.length_drop, List.length_take]; rfl)) ?_; (with_reducible refine (varint_Take.calls k a0 t143 t144 t145 _ A2.out).mono ?_); rintro e w' ⟨rfl, ⟨nd, rfl⟩⟩; refine ⟨_, rfl, ?_⟩))
      go_ret3; exact ⟨by first | rfl | (simp; done) | (simp [*]; done) | exact isE1 _ | exact isE2 _ | exact isE3 _ | exact isE4 _ | exact congrArg Value.bool (isE1 _) | exact congrArg Value.bool (isE2 _) | exact congrArg Value.bool (isE3 _) | exact congrArg Value.bool (isE4 _), by repeat (first | exact Drawn0.refl _ | apply Drawn0.step)⟩
    · rw [if_neg c4] at H; have c4b0 : decide (262144 < t143) = false := decide_eq_false c4; clear c4
      by_cases c5 : (wrap64 ((a0.size : Int) - t144)) < t143
      · rw [if_pos c5] at H; have c5b0 : decide ((wrap64 ((a0.size : Int) - t144)) < t143) = true := decide_eq_true c5; clear c5; simp only [Option.some.injEq, Prod.mk.injEq] at H; obtain ⟨rfl, rfl, rfl⟩ := H; go_enter Try.func88, Try.ntmps88
        go_wp2_with (first | ((with_reducible refine gate_callee (f := 87) rfl ?_); refine goesL_ (some 10) rfl rfl Try.func87 (by kernel_rfl) rfl #[.string a0] rfl (by (try simp only [List.map_toArray, List.map_cons, List.map_nil]); first | done | rfl | (simp only [List.length_drop, List.length_take]; rfl)) ?_; (with_reducible refine (varint_Take.calls k a0 t143 t144 t145 _ A2.out).mono ?_); rintro e w' ⟨rfl, ⟨nd, rfl⟩⟩; refine ⟨_, rfl, ?_⟩))
        go_ret3; exact ⟨by first | rfl | (simp; done) | (simp [*]; done) | exact isE1 _ | exact isE2 _ | exact isE3 _ | exact isE4 _ | exact congrArg Value.bool (isE1 _) | exact congrArg Value.bool (isE2 _) | exact congrArg Value.bool (isE3 _) | exact congrArg Value.bool (isE4 _), by repeat (first | exact Drawn0.refl _ | apply Drawn0.step)⟩
      · rw [if_neg c5] at H; have c5b0 : decide ((wrap64 ((a0.size : Int) - t144)) < t143) = false := decide_eq_false c5; clear c5
        by_cases c6 : 0 ≤ t144
        · rw [if_pos c6] at H; have c6b0 := eq_true c6; have c6b1 : decide (0 ≤ t144) = true := decide_eq_true c6; clear c6
          by_cases c7 : t144 ≤ (wrap64 (t144 + t143))
          · rw [if_pos c7] at H; have c7b0 := eq_true c7; have c7b1 : decide (t144 ≤ (wrap64 (t144 + t143))) = true := decide_eq_true c7
            by_cases c8 : (wrap64 (t144 + t143)) ≤ (a0.size : Int)
            · rw [if_pos c8] at H; have c8b0 := eq_true c8; have c8b1 : decide ((wrap64 (t144 + t143)) ≤ (a0.size : Int)) = true := decide_eq_true c8; simp only [Option.some.injEq, Prod.mk.injEq] at H; obtain ⟨rfl, rfl, rfl⟩ := H; go_enter Try.func88, Try.ntmps88
              go_wp2_with (first | ((with_reducible refine gate_callee (f := 87) rfl ?_); refine goesL_ (some 10) rfl rfl Try.func87 (by kernel_rfl) rfl #[.string a0] rfl (by (try simp only [List.map_toArray, List.map_cons, List.map_nil]); first | done | rfl | (simp only [List.length_drop, List.length_take]; rfl)) ?_; (with_reducible refine (varint_Take.calls k a0 t143 t144 t145 _ A2.out).mono ?_); rintro e w' ⟨rfl, ⟨nd, rfl⟩⟩; refine ⟨_, rfl, ?_⟩))
              go_ret3; exact ⟨by first | rfl | (simp; done) | (simp [*]; done) | exact isE1 _ | exact isE2 _ | exact isE3 _ | exact isE4 _ | exact congrArg Value.bool (isE1 _) | exact congrArg Value.bool (isE2 _) | exact congrArg Value.bool (isE3 _) | exact congrArg Value.bool (isE4 _), by repeat (first | exact Drawn0.refl _ | apply Drawn0.step)⟩
            · rw [if_neg c8] at H; exact absurd H (by simp)
          · rw [if_neg c7] at H; exact absurd H (by simp)
        · rw [if_neg c6] at H; exact absurd H (by simp)
  · rw [if_neg c3] at H; have c3b0 : (t145 == 0) = false := beq_eq_false_iff_ne.mpr c3; have c3b1 : (t145 != 0) = true := bne_iff_ne.mpr c3; simp only [Option.some.injEq, Prod.mk.injEq] at H; obtain ⟨rfl, rfl, rfl⟩ := H; go_enter Try.func88, Try.ntmps88
    go_wp2_with (first | ((with_reducible refine gate_callee (f := 87) rfl ?_); refine goesL_ (some 10) rfl rfl Try.func87 (by kernel_rfl) rfl #[.string a0] rfl (by (try simp only [List.map_toArray, List.map_cons, List.map_nil]); first | done | rfl | (simp only [List.length_drop, List.length_take]; rfl)) ?_; (with_reducible refine (varint_Take.calls k a0 t143 t144 t145 _ A2.out).mono ?_); rintro e w' ⟨rfl, ⟨nd, rfl⟩⟩; refine ⟨_, rfl, ?_⟩))
    go_ret3; exact ⟨by first | rfl | (simp; done) | (simp [*]; done) | exact isE1 _ | exact isE2 _ | exact isE3 _ | exact isE4 _ | exact congrArg Value.bool (isE1 _) | exact congrArg Value.bool (isE2 _) | exact congrArg Value.bool (isE3 _) | exact congrArg Value.bool (isE4 _), by repeat (first | exact Drawn0.refl _ | apply Drawn0.step)⟩
end Go.Proofs.Ytlmoafkmhenejaa.XA
