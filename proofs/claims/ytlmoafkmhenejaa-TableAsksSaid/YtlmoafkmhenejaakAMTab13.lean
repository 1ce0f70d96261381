import Derived.Test.YtlmoafkmhenejaakAXAx13
import Derived.Test.YtlmoafkmhenejaakAMTab9
import Derived.Test.YtlmoafkmhenejaakAXAx2
import Derived.Test.YtlmoafkmhenejaakAXAx3
import Derived.Test.YtlmoafkmhenejaakAXAx4
import Derived.Test.YtlmoafkmhenejaakAXAx5
import Derived.Test.YtlmoafkmhenejaakAXAx6
import Derived.Test.YtlmoafkmhenejaakAXAx7
import Derived.Test.YtlmoafkmhenejaakAXAx8
import Derived.Test.YtlmoafkmhenejaakAXAx9
import Derived.Test.YtlmoafkmhenejaakAXAx10
import Derived.Test.YtlmoafkmhenejaakABld
import Derived.Test.YtlmoafkmhenejaakAXAx12
import Derived.Test.YtlmoafkmhenejaakAXAx15
import Derived.Test.YtlmoafkmhenejaakAVLib
import Derived.Test.YtlmoafkmhenejaakACLib
import Derived.Test.YtlmoafkmhenejaakAVaBl
import Derived.Test.YtlmoafkmhenejaakAVaB1
section
namespace Go.Proofs.Ytlmoafkmhenejaa.VLib
end Go.Proofs.Ytlmoafkmhenejaa.VLib
namespace Go.Proofs.Ytlmoafkmhenejaa.Bld
end Go.Proofs.Ytlmoafkmhenejaa.Bld
namespace Go.Proofs.YtlmoafkmhenejaaW.PrintWords
end Go.Proofs.YtlmoafkmhenejaaW.PrintWords
namespace Go.Proofs.YtlmoafkmhenejaaW.PrintLast
end Go.Proofs.YtlmoafkmhenejaaW.PrintLast
namespace Go.Proofs.YtlmoafkmhenejaaW.PrintMore
end Go.Proofs.YtlmoafkmhenejaaW.PrintMore
namespace Go.Proofs.Ytlmoafkmhenejaa.XW
end Go.Proofs.Ytlmoafkmhenejaa.XW
namespace Go.Proofs.Ytlmoafkmhenejaa.XA
open Go.Proofs.Ytlmoafkmhenejaa.VLib Go.Proofs.Ytlmoafkmhenejaa.Bld Go.RowKit Go.Proofs.YtlmoafkmhenejaaW.PrintWords Go.Proofs.YtlmoafkmhenejaaW.PrintLast Go.Proofs.YtlmoafkmhenejaaW.PrintMore Go.Proofs.Ytlmoafkmhenejaa.XW
attribute [local go_sem high] max2_str unary_xor_u32 leq_str geq_str gtr_str
attribute [local go_sem] max2_int min2_int max_two min_two max_three min_three max_four min_four
set_option linter.unusedVariables false
set_option linter.unusedSimpArgs false
set_option maxHeartbeats 2000000 in
set_option maxRecDepth 100000 in
theorem refchunk_calls (A : Option Addr) (c : Nat) (l : List S43) (key : ByteArray) (m : Int) (r : Nat) (w : World) (hC : Kd.C k43 w A l.length l) (hc : l.length ≤ c) (hn : l.length ≤ 4096) (hm : -9223372036854775808 ≤ m ∧ m ≤ 9223372036854775807) (hcut : Cut l key r) :
    Calls Try.prog 26 #[.slice A l.length c, .string key, .int .i64 m] w fun e w' => ∃ A2 c2, e = .returned (.tuple #[.slice A2 ((l.take (chunkTo l r m)).drop r).length c2, .string (chunkNext l r m)]) ∧ Kd.C k43 w' A2 ((l.take (chunkTo l r m)).drop r).length ((l.take (chunkTo l r m)).drop r) ∧ ((l.take (chunkTo l r m)).drop r).length ≤ c2 ∧ Below w.heap.size w w' := by
  have HC := Aside0.mk hC
  have HCC := Aside0.mk hc
  have HN := Aside0.mk hn
  have HCT := Aside0.mk hcut
  have HM := Aside0.mk hm
  clear hC hc hn hcut hm
  go_enter Try.func26, Try.ntmps26
  go_wp2
  go_loopg [8] l.length (fun kq v8 w' => ∃ (k : Nat), v8 = .int .i64 (k : Int) ∧ Aside0 (k ≤ r) ∧ Aside0 (k + kq = l.length) ∧ Aside0 (Below w.heap.size w w'))
  case atStart => exact ⟨0, rfl, ⟨Nat.zero_le _⟩, ⟨Nat.zero_add _⟩, ⟨Below.refl _ _⟩⟩
  case round =>
    obtain ⟨k, rfl, HKR, HKQ, HB⟩ := hrel; have hkr := HKR.out; have hkq := HKQ.out; have hrl := HCT.out.1; have hnn := HN.out
    by_cases q1 : k < r
    · have d1 : decide ((k : Int) < (l.length : Int)) = true := decide_eq_true (by omega); have d2 : decide (k < l.length) = true := decide_eq_true (by omega); have p1 : (0 ≤ (k : Int)) = True := eq_true (by omega); have p2 : ((k : Int) < (l.length : Int)) = True := eq_true (by omega); have p3 : (k < l.length) = True := eq_true (by omega); obtain ⟨ad, ea, k0, -, -, -⟩ := at_T43 (Kd.C_below HC.out HB.out) (k : Int) (by omega) (by omega); rw [Int.toNat_natCast] at k0; have hlt := HCT.out.2.1 k q1
      unfold keyLt at hlt
      obtain ⟨a0, ha0⟩ : ∃ a0, (rd_T43 l (k : Int)).f0 = a0 := ⟨_, rfl⟩; rw [ha0] at k0 hlt; have HW : Aside0 (wrap64 ((k : Int) + 1) = ((k + 1 : Nat) : Int)) := ⟨by unfold wrap64; omega⟩
      cases gk with
      | zero => exact absurd hkq (by omega)
      | succ k1 =>
        have HQ2 : Aside0 (k + 1 + k1 = l.length) := ⟨by omega⟩; have HR2 : Aside0 (k + 1 ≤ r) := ⟨by omega⟩; cases ea; clear hkr hkq hrl hnn q1 ha0; go_wp2
        go_roundg k1
        case measure => omega
        case rel => exact ⟨k + 1, by rw [HW.out], HR2, HQ2, HB⟩
    · have hke : r = k := by omega
      clear q1 hkr; subst hke
      by_cases q5 : r < l.length
      · have d1 : decide ((r : Int) < (l.length : Int)) = true := decide_eq_true (by omega); have d2 : decide (r < l.length) = true := decide_eq_true q5; have p1 : (0 ≤ (r : Int)) = True := eq_true (by omega); have p2 : ((r : Int) < (l.length : Int)) = True := eq_true (by omega); have p3 : (r < l.length) = True := eq_true (by omega); obtain ⟨ad0, ea0, k00, -, -, -⟩ := at_T43 (Kd.C_below HC.out HB.out) (r : Int) (by omega) (by omega); rw [Int.toNat_natCast] at k00; have hlt := HCT.out.2.2 r (Nat.le_refl _) q5
        unfold keyLt at hlt
        obtain ⟨a0, ha0⟩ : ∃ a0, (rd_T43 l (r : Int)).f0 = a0 := ⟨_, rfl⟩; rw [ha0] at k00 hlt; subst ea0; clear hkq hrl hnn ha0 q5; go_wp2; clear d1 d2 p1 p2 p3 hlt k00; obtain ⟨mm, hmm, hmm2⟩ : ∃ mm : Int, (if 1 < m then m else (1 : Int)) = mm ∧ mm = max m 1 := ⟨_, rfl, by by_cases c : 1 < m <;> simp [c] <;> omega⟩; obtain ⟨n0, hn0⟩ : ∃ n0 : Nat, r + (min (max m 1) ((l.length : Int) - (r : Int))).toNat = n0 := ⟨_, rfl⟩; have HTO : Aside0 (chunkTo l r m = ext l r l.length n0) := ⟨by unfold chunkTo; rw [hn0]⟩; have hrl0 := HCT.out.1; have HN0 : Aside0 (r ≤ n0 ∧ n0 ≤ l.length ∧ ((n0 : Int) - (r : Int) ≤ mm) ∧ (n0 < l.length → (n0 : Int) - (r : Int) = mm) ∧ 1 ≤ mm) := ⟨by omega⟩; clear hmm2 hn0 hrl0; have HB1 := Aside0.mk HB.out
        go_loopg [9] l.length (fun kq v9 w' => ∃ (n : Nat), v9 = .int .i64 (n : Int) ∧ Aside0 (r ≤ n ∧ n ≤ l.length ∧ l.length ≤ n + kq) ∧ Aside0 (n < n0 ∨ (n0 ≤ n ∧ ∃ f, l.length ≤ n + f ∧ chunkTo l r m = ext l r f n)) ∧ Aside0 (Below w.heap.size w w'))
        case atStart => exact ⟨r, rfl, ⟨by have := HCT.out.1; omega⟩, ⟨by
          have h0 := HN0.out
          by_cases hq : r < n0
          · exact .inl hq
          · exact .inr ⟨by omega, l.length, by omega, by rw [HTO.out, show n0 = r from by omega]⟩⟩, HB1⟩
        case round =>
          clear HB1 HB; obtain ⟨n, rfl, HNN, HD, HB2⟩ := hrel; have hnn2 := HNN.out; have hn0 := HN0.out; have hN := HN.out; obtain ⟨i0, hi0, _, hsz0, _⟩ := info_parts info43
          by_cases q2 : n < l.length
          · have d3 : decide ((n : Int) < (l.length : Int)) = true := decide_eq_true (by omega); have d4 : decide (n < l.length) = true := decide_eq_true q2; have s1 : (0 ≤ (n : Int)) = True := eq_true (by omega); have s2 : ((n : Int) < (l.length : Int)) = True := eq_true (by omega); have s3 : (n < l.length) = True := eq_true (by omega); have HWN : Aside0 (wrap64 ((n : Int) + 1) = ((n + 1 : Nat) : Int)) := ⟨by unfold wrap64; omega⟩; obtain ⟨dd, hdd⟩ : ∃ dd : Nat, n - r = dd := ⟨_, rfl⟩; have HWD : Aside0 (wrap64 ((n : Int) - (r : Int)) = (dd : Int)) := ⟨by unfold wrap64; omega⟩
            cases gk with
            | zero => exact absurd hnn2.2.2 (by omega)
            | succ k1 =>
              by_cases q4 : n < n0
              · have d5 : decide ((dd : Int) < mm) = true := decide_eq_true (by omega)
                have HD2 : Aside0 (n + 1 < n0 ∨ (n0 ≤ n + 1 ∧ ∃ f, l.length ≤ n + 1 + f ∧ chunkTo l r m = ext l r f (n + 1))) := ⟨by
                  by_cases hq : n + 1 < n0
                  · exact .inl hq
                  · exact .inr ⟨by omega, l.length, by omega, by rw [HTO.out, show n0 = n + 1 from by omega]⟩⟩
                have HN2 : Aside0 (r ≤ n + 1 ∧ n + 1 ≤ l.length ∧ l.length ≤ n + 1 + k1) := ⟨by omega⟩; have hwd := HWD.out; clear hnn2 hn0 hN hi0 hsz0 q2 q4 hdd; go_wp2
                go_quiet (fail)
                go_wp2
                go_roundg k1
                case measure => omega
                case rel => exact ⟨n + 1, by rw [HWN.out], HN2, HD2, ⟨pw_below_drewN HB2.out nq⟩⟩
              · have d5 : decide ((dd : Int) < mm) = false := decide_eq_false (by omega)
                obtain ⟨f, hf1, hf2⟩ : ∃ f, l.length ≤ n + f ∧ chunkTo l r m = ext l r f n := by
                  rcases HD.out with h | ⟨-, h⟩
                  · exact absurd h q4
                  · exact h
                obtain ⟨f, rfl⟩ : ∃ f', f = f' + 1 := ⟨f - 1, by omega⟩; obtain ⟨ad, ea, k0, -, -, -⟩ := at_T43 (Kd.C_below HC.out HB2.out) (n : Int) (by omega) (by omega); obtain ⟨ad', ea', k1_, -, -, -⟩ := at_T43 (Kd.C_below HC.out HB2.out) ((n : Int) - 1) (by omega) (by omega); rw [ea] at ea'; injection ea' with ea'
                subst ea'; rw [Int.toNat_natCast] at k0; obtain ⟨n1, hn1⟩ : ∃ n1, n = n1 + 1 := ⟨n - 1, by omega⟩; have h1e : (n : Int) - 1 = (n1 : Int) := by omega
                rw [h1e, Int.toNat_natCast] at k1_; have HW1 : Aside0 (wrap64 ((n : Int) - 1) = (n1 : Int)) := ⟨by unfold wrap64; omega⟩; have s4 : (0 ≤ (n1 : Int)) = True := eq_true (by omega); have s5 : ((n1 : Int) < (l.length : Int)) = True := eq_true (by omega); have s6 : (n1 < l.length) = True := eq_true (by omega)
                by_cases q3 : (rd_T43 l (n : Int)).f0 = (rd_T43 l (n1 : Int)).f0
                · have e3 : ((rd_T43 l (n : Int)).f0.toList == (rd_T43 l (n1 : Int)).f0.toList) = true := beq_iff_eq.mpr (toList_inj.2 q3); have HD2 : Aside0 (n + 1 < n0 ∨ (n0 ≤ n + 1 ∧ ∃ f, l.length ≤ n + 1 + f ∧ chunkTo l r m = ext l r f (n + 1))) := ⟨.inr ⟨by omega, f, by omega, by rw [hf2, ext, if_pos ⟨by omega, q2, by rw [h1e]; exact q3⟩]⟩⟩; have HN2 : Aside0 (r ≤ n + 1 ∧ n + 1 ≤ l.length ∧ l.length ≤ n + 1 + k1) := ⟨by omega⟩; have hwd := HWD.out; have hw1 := HW1.out; injection ea with ea
                  subst ea; clear hnn2 hn0 hN hi0 hsz0 q2 q4 hdd hf1 hf2 hn1 h1e q3; go_wp2
                  go_quiet (fail)
                  go_wp2
                  go_roundg k1
                  case measure => omega
                  case rel => exact ⟨n + 1, by rw [HWN.out], HN2, HD2, ⟨pw_below_drewN HB2.out nq⟩⟩
                · have e3 : ((rd_T43 l (n : Int)).f0.toList == (rd_T43 l (n1 : Int)).f0.toList) = false := beq_eq_false_iff_ne.mpr (fun h => q3 (toList_inj.1 h)); have HTN : Aside0 (chunkTo l r m = n) := ⟨by rw [hf2, ext, if_neg (fun h => q3 (by have h2 := h.2.2; rw [h1e] at h2; exact h2))]⟩; have hwd := HWD.out; have hw1 := HW1.out; have HK0 := Aside0.mk k0; injection ea with ea
                  subst ea; have hcut := cut_mid (P := Try.prog) 22 43 .i64 .i64 Try.underlying22 hi0 4 hsz0 (some ad0) l.length c (r : Int) (n : Int) (by omega) (by omega) (by omega) HCC.out; rw [Int.toNat_natCast, Int.toNat_natCast] at hcut; have hcc := HCC.out; have hCt := Kd.C_take (Kd.C_below HC.out HB2.out) (m := n) (by omega); have htl : (l.take n).length = n := by rw [List.length_take]; omega
                  have hCd := Kd.C_drop hCt (m := r) (c := c) (by omega) (by omega); have hdl : ((l.take n).drop r).length = n - r := by rw [List.length_drop, htl]
                  obtain ⟨A2, hA2⟩ : ∃ A2, (if c = r then (some ad0) else (some ad0 : Option Addr).map (·.add (r * 4))) = A2 := ⟨_, rfl⟩; obtain ⟨c2, hc2⟩ : ∃ c2, c - r = c2 := ⟨_, rfl⟩; have hCd' : Kd.C k43 wr A2 ((l.take n).drop r).length ((l.take n).drop r) := by rw [← hA2]; exact hCd
                  have HLE : Aside0 (((l.take n).drop r).length ≤ c2) := ⟨by rw [hdl]; omega⟩; obtain ⟨pt, hpt⟩ : ∃ pt, (l.take n).drop r = pt := ⟨_, rfl⟩; rw [hA2, hc2, ← hdl, hpt] at hcut; rw [hpt] at hCd' HLE; have HPT := Aside0.mk hpt; have HCP := Aside0.mk hCd'; have e9 : ((n : Int) == (l.length : Int)) = false := beq_eq_false_iff_ne.mpr (by omega); have HNE : Aside0 (n < l.length) := ⟨by omega⟩; clear hcc hCt htl hCd hdl hA2 hc2 hCd' hpt hi0 hsz0 hnn2 hn0 hN q2 q4 hdd hf1 hf2 hn1 h1e q3; go_wp2
                  go_quiet (fail)
                  go_wp2
                  go_quiet (fail)
                  go_wp2; go_ret2
                  refine ⟨A2, c2, ?_, ?_, ?_, pw_below_drewN (pw_below_drewN HB2.out _) nq⟩
                  · rw [HTN.out, HPT.out]; unfold chunkNext; rw [HTN.out, if_neg (Nat.ne_of_lt HNE.out)]; rfl
                  · rw [HTN.out, HPT.out]; exact Kd.C_drewN (Kd.C_drewN HCP.out _) nq
                  · rw [HTN.out, HPT.out]; exact HLE.out
          · have d3 : decide ((n : Int) < (l.length : Int)) = false := decide_eq_false (by omega); have d4 : decide (n < l.length) = false := decide_eq_false q2
            have HTN : Aside0 (chunkTo l r m = n) := ⟨by
              rcases HD.out with h | ⟨-, f, -, h⟩
              · exact absurd h (by omega)
              · rw [h]
                cases f with
                | zero => rfl
                | succ f => rw [ext, if_neg (fun h => q2 h.2.1)]⟩
            have hcut := cut_mid (P := Try.prog) 22 43 .i64 .i64 Try.underlying22 hi0 4 hsz0 (some ad0) l.length c (r : Int) (n : Int) (by omega) (by omega) (by omega) HCC.out; rw [Int.toNat_natCast, Int.toNat_natCast] at hcut; have hcc := HCC.out; have hCt := Kd.C_take (Kd.C_below HC.out HB2.out) (m := n) (by omega); have htl : (l.take n).length = n := by rw [List.length_take]; omega
            have hCd := Kd.C_drop hCt (m := r) (c := c) (by omega) (by omega); have hdl : ((l.take n).drop r).length = n - r := by rw [List.length_drop, htl]
            obtain ⟨A2, hA2⟩ : ∃ A2, (if c = r then (some ad0) else (some ad0 : Option Addr).map (·.add (r * 4))) = A2 := ⟨_, rfl⟩; obtain ⟨c2, hc2⟩ : ∃ c2, c - r = c2 := ⟨_, rfl⟩; have hCd' : Kd.C k43 wr A2 ((l.take n).drop r).length ((l.take n).drop r) := by rw [← hA2]; exact hCd
            have HLE : Aside0 (((l.take n).drop r).length ≤ c2) := ⟨by rw [hdl]; omega⟩; obtain ⟨pt, hpt⟩ : ∃ pt, (l.take n).drop r = pt := ⟨_, rfl⟩; rw [hA2, hc2, ← hdl, hpt] at hcut; rw [hpt] at hCd' HLE; have HPT := Aside0.mk hpt; have HCP := Aside0.mk hCd'; have e9 : ((n : Int) == (l.length : Int)) = true := beq_iff_eq.mpr (by omega); have HNE : Aside0 (n = l.length) := ⟨by omega⟩; clear hcc hCt htl hCd hdl hA2 hc2 hCd' hpt hi0 hsz0 hnn2 hn0 hN q2; go_wp2
            go_quiet (fail)
            go_wp2; go_ret2
            refine ⟨A2, c2, ?_, ?_, ?_, pw_below_drewN HB2.out nq⟩
            · rw [HTN.out, HPT.out]; unfold chunkNext; rw [HTN.out, if_pos HNE.out]; rfl
            · rw [HTN.out, HPT.out]; exact Kd.C_drewN HCP.out nq
            · rw [HTN.out, HPT.out]; exact HLE.out
      · have d1 : decide ((r : Int) < (l.length : Int)) = false := decide_eq_false (by omega); have d2 : decide (r < l.length) = false := decide_eq_false q5; clear hkq hrl hnn q5; go_wp2; clear d1 d2; obtain ⟨mm, hmm, hmm2⟩ : ∃ mm : Int, (if 1 < m then m else (1 : Int)) = mm ∧ mm = max m 1 := ⟨_, rfl, by by_cases c : 1 < m <;> simp [c] <;> omega⟩; obtain ⟨n0, hn0⟩ : ∃ n0 : Nat, r + (min (max m 1) ((l.length : Int) - (r : Int))).toNat = n0 := ⟨_, rfl⟩; have HTO : Aside0 (chunkTo l r m = ext l r l.length n0) := ⟨by unfold chunkTo; rw [hn0]⟩; have hrl0 := HCT.out.1; have HN0 : Aside0 (r ≤ n0 ∧ n0 ≤ l.length ∧ ((n0 : Int) - (r : Int) ≤ mm) ∧ (n0 < l.length → (n0 : Int) - (r : Int) = mm) ∧ 1 ≤ mm) := ⟨by omega⟩; clear hmm2 hn0 hrl0; have HB1 := Aside0.mk HB.out
        go_loopg [9] l.length (fun kq v9 w' => ∃ (n : Nat), v9 = .int .i64 (n : Int) ∧ Aside0 (r ≤ n ∧ n ≤ l.length ∧ l.length ≤ n + kq) ∧ Aside0 (n < n0 ∨ (n0 ≤ n ∧ ∃ f, l.length ≤ n + f ∧ chunkTo l r m = ext l r f n)) ∧ Aside0 (Below w.heap.size w w'))
        case atStart => exact ⟨r, rfl, ⟨by have := HCT.out.1; omega⟩, ⟨by
          have h0 := HN0.out
          by_cases hq : r < n0
          · exact .inl hq
          · exact .inr ⟨by omega, l.length, by omega, by rw [HTO.out, show n0 = r from by omega]⟩⟩, HB1⟩
        case round =>
          clear HB1 HB; obtain ⟨n, rfl, HNN, HD, HB2⟩ := hrel; have hnn2 := HNN.out; have hn0 := HN0.out; have hN := HN.out; obtain ⟨i0, hi0, _, hsz0, _⟩ := info_parts info43
          by_cases q2 : n < l.length
          · have d3 : decide ((n : Int) < (l.length : Int)) = true := decide_eq_true (by omega); have d4 : decide (n < l.length) = true := decide_eq_true q2; have s1 : (0 ≤ (n : Int)) = True := eq_true (by omega); have s2 : ((n : Int) < (l.length : Int)) = True := eq_true (by omega); have s3 : (n < l.length) = True := eq_true (by omega); have HWN : Aside0 (wrap64 ((n : Int) + 1) = ((n + 1 : Nat) : Int)) := ⟨by unfold wrap64; omega⟩; obtain ⟨dd, hdd⟩ : ∃ dd : Nat, n - r = dd := ⟨_, rfl⟩; have HWD : Aside0 (wrap64 ((n : Int) - (r : Int)) = (dd : Int)) := ⟨by unfold wrap64; omega⟩
            cases gk with
            | zero => exact absurd hnn2.2.2 (by omega)
            | succ k1 =>
              by_cases q4 : n < n0
              · have d5 : decide ((dd : Int) < mm) = true := decide_eq_true (by omega)
                have HD2 : Aside0 (n + 1 < n0 ∨ (n0 ≤ n + 1 ∧ ∃ f, l.length ≤ n + 1 + f ∧ chunkTo l r m = ext l r f (n + 1))) := ⟨by
                  by_cases hq : n + 1 < n0
                  · exact .inl hq
                  · exact .inr ⟨by omega, l.length, by omega, by rw [HTO.out, show n0 = n + 1 from by omega]⟩⟩
                have HN2 : Aside0 (r ≤ n + 1 ∧ n + 1 ≤ l.length ∧ l.length ≤ n + 1 + k1) := ⟨by omega⟩; have hwd := HWD.out; clear hnn2 hn0 hN hi0 hsz0 q2 q4 hdd; go_wp2
                go_quiet (fail)
                go_wp2
                go_roundg k1
                case measure => omega
                case rel => exact ⟨n + 1, by rw [HWN.out], HN2, HD2, ⟨pw_below_drewN HB2.out nq⟩⟩
              · have d5 : decide ((dd : Int) < mm) = false := decide_eq_false (by omega)
                obtain ⟨f, hf1, hf2⟩ : ∃ f, l.length ≤ n + f ∧ chunkTo l r m = ext l r f n := by
                  rcases HD.out with h | ⟨-, h⟩
                  · exact absurd h q4
                  · exact h
                obtain ⟨f, rfl⟩ : ∃ f', f = f' + 1 := ⟨f - 1, by omega⟩; obtain ⟨ad, ea, k0, -, -, -⟩ := at_T43 (Kd.C_below HC.out HB2.out) (n : Int) (by omega) (by omega); obtain ⟨ad', ea', k1_, -, -, -⟩ := at_T43 (Kd.C_below HC.out HB2.out) ((n : Int) - 1) (by omega) (by omega); rw [ea] at ea'; injection ea' with ea'
                subst ea'; rw [Int.toNat_natCast] at k0; obtain ⟨n1, hn1⟩ : ∃ n1, n = n1 + 1 := ⟨n - 1, by omega⟩; have h1e : (n : Int) - 1 = (n1 : Int) := by omega
                rw [h1e, Int.toNat_natCast] at k1_; have HW1 : Aside0 (wrap64 ((n : Int) - 1) = (n1 : Int)) := ⟨by unfold wrap64; omega⟩; have s4 : (0 ≤ (n1 : Int)) = True := eq_true (by omega); have s5 : ((n1 : Int) < (l.length : Int)) = True := eq_true (by omega); have s6 : (n1 < l.length) = True := eq_true (by omega)
                by_cases q3 : (rd_T43 l (n : Int)).f0 = (rd_T43 l (n1 : Int)).f0
                · have e3 : ((rd_T43 l (n : Int)).f0.toList == (rd_T43 l (n1 : Int)).f0.toList) = true := beq_iff_eq.mpr (toList_inj.2 q3); have HD2 : Aside0 (n + 1 < n0 ∨ (n0 ≤ n + 1 ∧ ∃ f, l.length ≤ n + 1 + f ∧ chunkTo l r m = ext l r f (n + 1))) := ⟨.inr ⟨by omega, f, by omega, by rw [hf2, ext, if_pos ⟨by omega, q2, by rw [h1e]; exact q3⟩]⟩⟩; have HN2 : Aside0 (r ≤ n + 1 ∧ n + 1 ≤ l.length ∧ l.length ≤ n + 1 + k1) := ⟨by omega⟩; have hwd := HWD.out; have hw1 := HW1.out; cases ea; clear hnn2 hn0 hN hi0 hsz0 q2 q4 hdd hf1 hf2 hn1 h1e q3; go_wp2
                  go_quiet (fail)
                  go_wp2
                  go_roundg k1
                  case measure => omega
                  case rel => exact ⟨n + 1, by rw [HWN.out], HN2, HD2, ⟨pw_below_drewN HB2.out nq⟩⟩
                · have e3 : ((rd_T43 l (n : Int)).f0.toList == (rd_T43 l (n1 : Int)).f0.toList) = false := beq_eq_false_iff_ne.mpr (fun h => q3 (toList_inj.1 h)); have HTN : Aside0 (chunkTo l r m = n) := ⟨by rw [hf2, ext, if_neg (fun h => q3 (by have h2 := h.2.2; rw [h1e] at h2; exact h2))]⟩; have hwd := HWD.out; have hw1 := HW1.out; have HK0 := Aside0.mk k0; subst ea; have hcut := cut_mid (P := Try.prog) 22 43 .i64 .i64 Try.underlying22 hi0 4 hsz0 (some ad) l.length c (r : Int) (n : Int) (by omega) (by omega) (by omega) HCC.out; rw [Int.toNat_natCast, Int.toNat_natCast] at hcut; have hcc := HCC.out; have hCt := Kd.C_take (Kd.C_below HC.out HB2.out) (m := n) (by omega); have htl : (l.take n).length = n := by rw [List.length_take]; omega
                  have hCd := Kd.C_drop hCt (m := r) (c := c) (by omega) (by omega); have hdl : ((l.take n).drop r).length = n - r := by rw [List.length_drop, htl]
                  obtain ⟨A2, hA2⟩ : ∃ A2, (if c = r then (some ad) else (some ad : Option Addr).map (·.add (r * 4))) = A2 := ⟨_, rfl⟩; obtain ⟨c2, hc2⟩ : ∃ c2, c - r = c2 := ⟨_, rfl⟩; have hCd' : Kd.C k43 wr A2 ((l.take n).drop r).length ((l.take n).drop r) := by rw [← hA2]; exact hCd
                  have HLE : Aside0 (((l.take n).drop r).length ≤ c2) := ⟨by rw [hdl]; omega⟩; obtain ⟨pt, hpt⟩ : ∃ pt, (l.take n).drop r = pt := ⟨_, rfl⟩; rw [hA2, hc2, ← hdl, hpt] at hcut; rw [hpt] at hCd' HLE; have HPT := Aside0.mk hpt; have HCP := Aside0.mk hCd'; have e9 : ((n : Int) == (l.length : Int)) = false := beq_eq_false_iff_ne.mpr (by omega); have HNE : Aside0 (n < l.length) := ⟨by omega⟩; clear hcc hCt htl hCd hdl hA2 hc2 hCd' hpt hi0 hsz0 hnn2 hn0 hN q2 q4 hdd hf1 hf2 hn1 h1e q3; go_wp2
                  go_quiet (fail)
                  go_wp2
                  go_quiet (fail)
                  go_wp2; go_ret2
                  refine ⟨A2, c2, ?_, ?_, ?_, pw_below_drewN (pw_below_drewN HB2.out _) nq⟩
                  · rw [HTN.out, HPT.out]; unfold chunkNext; rw [HTN.out, if_neg (Nat.ne_of_lt HNE.out)]; rfl
                  · rw [HTN.out, HPT.out]; exact Kd.C_drewN (Kd.C_drewN HCP.out _) nq
                  · rw [HTN.out, HPT.out]; exact HLE.out
          · have d3 : decide ((n : Int) < (l.length : Int)) = false := decide_eq_false (by omega); have d4 : decide (n < l.length) = false := decide_eq_false q2
            have HTN : Aside0 (chunkTo l r m = n) := ⟨by
              rcases HD.out with h | ⟨-, f, -, h⟩
              · exact absurd h (by omega)
              · rw [h]
                cases f with
                | zero => rfl
                | succ f => rw [ext, if_neg (fun h => q2 h.2.1)]⟩
            have hcut := cut_mid (P := Try.prog) 22 43 .i64 .i64 Try.underlying22 hi0 4 hsz0 A l.length c (r : Int) (n : Int) (by omega) (by omega) (by omega) HCC.out; rw [Int.toNat_natCast, Int.toNat_natCast] at hcut; have hcc := HCC.out; have hCt := Kd.C_take (Kd.C_below HC.out HB2.out) (m := n) (by omega); have htl : (l.take n).length = n := by rw [List.length_take]; omega
            have hCd := Kd.C_drop hCt (m := r) (c := c) (by omega) (by omega); have hdl : ((l.take n).drop r).length = n - r := by rw [List.length_drop, htl]
            obtain ⟨A2, hA2⟩ : ∃ A2, (if c = r then A else A.map (·.add (r * 4))) = A2 := ⟨_, rfl⟩; obtain ⟨c2, hc2⟩ : ∃ c2, c - r = c2 := ⟨_, rfl⟩; have hCd' : Kd.C k43 wr A2 ((l.take n).drop r).length ((l.take n).drop r) := by rw [← hA2]; exact hCd
            have HLE : Aside0 (((l.take n).drop r).length ≤ c2) := ⟨by rw [hdl]; omega⟩; obtain ⟨pt, hpt⟩ : ∃ pt, (l.take n).drop r = pt := ⟨_, rfl⟩; rw [hA2, hc2, ← hdl, hpt] at hcut; rw [hpt] at hCd' HLE; have HPT := Aside0.mk hpt; have HCP := Aside0.mk hCd'; have e9 : ((n : Int) == (l.length : Int)) = true := beq_iff_eq.mpr (by omega); have HNE : Aside0 (n = l.length) := ⟨by omega⟩; clear hcc hCt htl hCd hdl hA2 hc2 hCd' hpt hi0 hsz0 hnn2 hn0 hN q2; go_wp2
            go_quiet (fail)
            go_wp2; go_ret2
            refine ⟨A2, c2, ?_, ?_, ?_, pw_below_drewN HB2.out nq⟩
            · rw [HTN.out, HPT.out]; unfold chunkNext; rw [HTN.out, if_pos HNE.out]; rfl
            · rw [HTN.out, HPT.out]; exact Kd.C_drewN HCP.out nq
            · rw [HTN.out, HPT.out]; exact HLE.out
end Go.Proofs.Ytlmoafkmhenejaa.XA
end
section
namespace Go.Proofs.Ytlmoafkmhenejaa.XA
end Go.Proofs.Ytlmoafkmhenejaa.XA
namespace Go.Proofs.Ytlmoafkmhenejaa.VLib
end Go.Proofs.Ytlmoafkmhenejaa.VLib
namespace Go.Proofs.Ytlmoafkmhenejaa.CLib
end Go.Proofs.Ytlmoafkmhenejaa.CLib
namespace Go.Proofs.Ytlmoafkmhenejaa.VaBl
end Go.Proofs.Ytlmoafkmhenejaa.VaBl
namespace Go.Proofs.Ytlmoafkmhenejaa.VaHas
end Go.Proofs.Ytlmoafkmhenejaa.VaHas
namespace Go.Proofs.Ytlmoafkmhenejaa.VaBits
end Go.Proofs.Ytlmoafkmhenejaa.VaBits
namespace Go.Proofs.Ytlmoafkmhenejaa.VaChk
end Go.Proofs.Ytlmoafkmhenejaa.VaChk
namespace Go.Proofs.YtlmoafkmhenejaaW.PrintWords
end Go.Proofs.YtlmoafkmhenejaaW.PrintWords
namespace Go.Proofs.YtlmoafkmhenejaaW.PrintLast
end Go.Proofs.YtlmoafkmhenejaaW.PrintLast
namespace Go.Proofs.YtlmoafkmhenejaaW.PrintMore
end Go.Proofs.YtlmoafkmhenejaaW.PrintMore
namespace Go.Proofs.Ytlmoafkmhenejaa.VaRf
open Go.RowKit Go.Proofs.Ytlmoafkmhenejaa.XA Go.Proofs.Ytlmoafkmhenejaa.VLib Go.Proofs.Ytlmoafkmhenejaa.CLib Go.Proofs.Ytlmoafkmhenejaa.VaBl Go.Proofs.Ytlmoafkmhenejaa.VaHas Go.Proofs.Ytlmoafkmhenejaa.VaBits Go.Proofs.Ytlmoafkmhenejaa.VaChk Go.Proofs.YtlmoafkmhenejaaW.PrintWords Go.Proofs.YtlmoafkmhenejaaW.PrintLast Go.Proofs.YtlmoafkmhenejaaW.PrintMore
theorem rmore_l1 : ∀ (d K j : Nat) (s : ByteArray) (c : BitVec 32) (i : Int), j + d = 8 → sorrelref02_More.l1 (K + d + 1) s (c.toNat : Int) i (j : Int) = sorrelref02_More.l0 K s ((bsteps d c).toNat : Int) (wrap64 (i + 1)) := by
  intro d
  induction d with
  | zero =>
    intro K j s c i h; simp only [sorrelref02_More.l1]; rw [if_neg (by omega)]; rfl
  | succ d ih =>
    intro K j s c i h; have hc := c.isLt; rw [show K + (d + 1) + 1 = (K + d + 1) + 1 from by omega]; simp only [sorrelref02_More.l1]; rw [if_pos (by omega), and1_i64 _ (by omega), w64 (n := (j : Int) + 1) (by omega) (by omega), ← half, poly_toNat, xor_i64_bv]
    by_cases b : c.toNat % 2 = 1
    · rw [if_pos (by omega), ← bstep_one c b]; exact ih K (j + 1) s (bstep c) i (by omega)
    · rw [if_neg (by omega), ← bstep_zero c b]; exact ih K (j + 1) s (bstep c) i (by omega)
theorem rmore_l0 : ∀ (n K i : Nat) (s : ByteArray) (c : BitVec 32), i + n = s.data.toList.length → s.size ≤ 4611686018427387904 →
    sorrelref02_More.l0 (10 * n + (K + 1)) s (c.toNat : Int) (i : Int) = some ((~~~ crcL c (s.data.toList.drop i)).toNat : Int) := by
  intro n
  induction n with
  | zero =>
    intro K i s c h hs; have hl := len_list s; rw [Nat.mul_zero, Nat.zero_add]; simp only [sorrelref02_More.l0]; rw [if_neg (by omega), List.drop_eq_nil_of_le (by omega), ones_xor64]
    rfl
  | succ n ih =>
    intro K i s c h hs; have hl := len_list s; have hlt : i < s.data.toList.length := by omega
    rw [show 10 * (n + 1) + (K + 1) = (10 * n + (K + 1) + 9) + 1 from by omega]; simp only [sorrelref02_More.l0]; have hw := (wide (s.data.toList[i]'hlt)).isLt; rw [if_pos (by omega), if_pos (by omega), wide_bt s i hlt, w64 (by omega) (by omega), xor_i64_bv]; have h1 := rmore_l1 8 (10 * n + (K + 1)) 0 s (c ^^^ wide (s.data.toList[i]'hlt)) (i : Int) rfl; rw [show 10 * n + (K + 1) + 9 = 10 * n + (K + 1) + 8 + 1 from rfl]; refine h1.trans ?_; rw [w64 (by omega) (by omega), drop_cons s i hlt]; exact ih K (i + 1) s (cbyte c (s.data.toList[i]'hlt)) (by omega) hs
theorem rmore_is (x : Int) (s : ByteArray) (k : Nat) (hk : 10 * s.size + 1 ≤ k) (hs : s.size ≤ 4611686018427387904) :
    sorrelref02_More.f k x s = some ((crcM (BitVec.ofInt 32 x) s.data.toList).toNat : Int) := by
  obtain ⟨K, rfl⟩ : ∃ K, k = 10 * s.size + (K + 1) := ⟨k - 10 * s.size - 1, by omega⟩
  unfold sorrelref02_More.f
  rw [low32, ones_xor64]
  have h := rmore_l0 s.size K 0 s (~~~ BitVec.ofInt 32 x) (by rw [len_list]; omega) hs
  exact h
theorem rsum_is (s : ByteArray) (k : Nat) (hk : 10 * s.size + 1 ≤ k) (hs : s.size ≤ 4611686018427387904) :
    sorrelref02_Sum.f k s = some ((crcM 0#32 s.data.toList).toNat : Int) := by
  unfold sorrelref02_Sum.f
  rw [rmore_is _ s k hk hs]
  rfl
theorem rsum_key (s : ByteArray) (k M : Nat) (hs : s.size ≤ M) (hM : M ≤ 1000000) (hk : 10 * M + 12 ≤ k) : sorrelref02_Sum.f k s = some ((sm (tx s) : Nat) : Int) ∧ sorrelref02_Sum.f k (s ++ (⟨#[35]⟩ : ByteArray)) = some ((sm (tx s ++ [35]) : Nat) : Int) := by
  have hz : (s ++ (⟨#[35]⟩ : ByteArray)).size = s.size + 1 := by rw [size_append]; rfl
  refine ⟨rsum_is s k (by omega) (by omega), ?_⟩
  rw [rsum_is _ k (by omega) (by omega), list_append]; rfl
theorem place_is (s : ByteArray) (n i k M : Nat) (hi : i < 6) (hn : 0 < n) (hs : s.size ≤ M) (hM : M ≤ 1000000) (hk : 10 * M + 12 ≤ k) : sorrelref08_place.f k s (i : Int) (n : Int) = some ((pl (tx s) n i : Nat) : Int) := by
  obtain ⟨h1, h2⟩ := rsum_key s k M hs hM hk
  unfold sorrelref08_place.f
  rw [h1, Option.bind_some, if_pos (by omega), h2, Option.bind_some, if_neg (by omega), or1 _ (sm_lt _), pl_int _ n i hi]
theorem rmake_l1 (ks : List ByteArray) (idx : Nat) (hi0 : idx < ks.length) (n M : Nat) (hn : 0 < n) (hm : n ≤ 1099511627776) (hM : M ≤ 1000000) (hs : (ks[idx]).size ≤ M) : ∀ (d i K : Nat) (xs : List Int), i + d = 6 → 10 * M + 12 ≤ K → n ≤ 8 * xs.length →
    sorrelref08_Make.l1 (K + d + 1) ks (n : Int) xs (idx : Int) (i : Int) = sorrelref08_Make.l0 K ks (n : Int) (keyFrom (tx ks[idx]) n d i xs) (wrap64 ((idx : Int) + 1)) := by
  intro d
  induction d with
  | zero =>
    intro i K xs h hk hx; simp only [sorrelref08_Make.l1]; rw [if_neg (by omega)]; rfl
  | succ d ih =>
    intro i K xs h hk hx; have hp := pl_lt (tx ks[idx]) n i hn
    rw [show K + (d + 1) + 1 = (K + d + 1) + 1 from by omega, sorrelref08_Make.l1, if_pos (by omega), if_pos (by omega), if_pos (by omega), rdS ks idx hi0, place_is _ n i (K + d + 1) M (by omega) hn hs hM (by omega), Option.bind_some,
      div8 _ (by omega), mod8, if_pos (by omega), if_pos (by omega), if_pos (by omega), w64 (n := (i : Int) + 1) (by omega) (by omega), Int.toNat_natCast]
    exact ih (i + 1) K (putp xs (pl (tx ks[idx]) n i)) (by omega) hk (by rw [putp_len]; exact hx)
theorem rmake_l0 (ks : List ByteArray) (n M : Nat) (hn : 0 < n) (hm : n ≤ 1099511627776) (hM : M ≤ 1000000) (hl : ks.length ≤ 4611686018427387904) (hs : ∀ t ∈ ks, t.size ≤ M) : ∀ (d i k : Nat) (xs : List Int), i + d = ks.length → n ≤ 8 * xs.length → 10 * M + 13 + 8 * d ≤ k →
    sorrelref08_Make.l0 k ks (n : Int) xs (i : Int) = some (strOfNums (keysP n (ks.drop i) xs), 0) := by
  intro d
  induction d with
  | zero =>
    intro i k xs h hx hk; obtain ⟨k, rfl⟩ : ∃ m, k = m + 1 := ⟨k - 1, by omega⟩; simp only [sorrelref08_Make.l0]; rw [if_neg (by omega), List.drop_eq_nil_of_le (by omega)]; rfl
  | succ d ih =>
    intro i k xs h hx hk; obtain ⟨k, rfl⟩ : ∃ m, k = (m + 6 + 1) + 1 := ⟨k - 8, by omega⟩; have hi : i < ks.length := by omega
    have e : ks.drop i = ks[i] :: ks.drop (i + 1) := (List.getElem_cons_drop hi).symm; rw [sorrelref08_Make.l0, if_pos (by omega)]; have := rmake_l1 ks i hi n M hn hm hM (hs _ (List.getElem_mem hi)) 6 0 k xs (by omega) (by omega) hx; rw [show ((0 : Nat) : Int) = 0 from rfl] at this; rw [this, w64 (by omega) (by omega), e]; exact ih (i + 1) k _ (by omega) (by rw [keyFrom_len]; exact hx) (by omega)
theorem rsize_is (x : Int) : sorrelref08_Size.f x = some ((8 * bytesN x.toNat : Nat) : Int) := by
  unfold sorrelref08_Size.f bytesN mx mn
  congr 1
  split <;> split <;> split <;> omega
theorem rmake_is (ks : List ByteArray) (k M : Nat) (hl : ks.length ≤ 4096) (hM : M ≤ 1000000) (hs : ∀ t ∈ ks, t.size ≤ M) (hk : 10 * M + 14 + 8 * ks.length ≤ k) :
    sorrelref08_Make.f k ks = some (strOfNums (keysP (8 * bytesN ks.length) ks (List.replicate (bytesN ks.length) 0)), 0) := by
  unfold sorrelref08_Make.f
  have hb : 8 ≤ bytesN ks.length ∧ bytesN ks.length ≤ 6000 := by unfold bytesN; omega
  rw [if_neg (by omega), rsize_is, Int.toNat_natCast, Option.bind_some, div8 _ (by omega), show 8 * bytesN ks.length / 8 = bytesN ks.length from by omega, if_pos (by omega), Int.toNat_natCast, if_pos (by omega)]
  exact rmake_l0 ks _ M (by omega) (by omega) hM (by omega) hs ks.length 0 k _ (by omega) (by rw [List.length_replicate]; omega) (by omega)
theorem bit_same : ∀ (b : Fin 256) (j : Fin 8), (Go.bits .and .u8 (b.val : Int) (shl .u8 1 (j.val : Int)) != 0) = !(decide (Go.bits .and .u8 (shr .u8 (b.val : Int) (j.val : Int)) 1 = 0)) := by decide +kernel
theorem bt_nat (s : ByteArray) (i : Int) : ∃ b : Nat, b < 256 ∧ bt s i = (b : Int) := by
  have := bt_range s i
  exact ⟨(bt s i).toNat, by omega, by omega⟩
theorem bitS_ref (s : ByteArray) (p : Nat) : bitS s p = !(decide (Go.bits .and .u8 (shr .u8 (bt s ((p / 8 : Nat) : Int)) ((p % 8 : Nat) : Int)) 1 = 0)) := by
  obtain ⟨b, hb, e⟩ := bt_nat s ((p / 8 : Nat) : Int)
  unfold bitS
  rw [e]
  exact bit_same ⟨b, hb⟩ ⟨p % 8, by omega⟩
theorem rhas_l0 (s key : ByteArray) (M : Nat) (hz : s.size ≤ 1000000) (h0 : s.size ≠ 0) (hs : key.size ≤ M) (hM : M ≤ 1000000) : ∀ (d i k : Nat), i + d = 6 → 10 * M + 14 + 2 * d ≤ k →
    sorrelref08_Has.l0 k s key (i : Int) = some (hasFrom s (tx key) (8 * s.size) d i) := by
  have c : ¬ s.toList = ([] : List UInt8) := fun h => h0 ((VaHas.nil_size s).1 h)
  have e8 : wrap64 (8 * (s.size : Int)) = ((8 * s.size : Nat) : Int) := by rw [w64 (by omega) (by omega)]; rfl
  intro d
  induction d with
  | zero =>
    intro i k h hk; obtain ⟨k, rfl⟩ : ∃ m, k = m + 1 := ⟨k - 1, by omega⟩; simp only [sorrelref08_Has.l0]; rw [if_neg (by omega)]; rfl
  | succ d ih =>
    intro i k h hk; obtain ⟨k, rfl⟩ : ∃ m, k = m + 1 := ⟨k - 1, by omega⟩; have hp := pl_lt (tx key) (8 * s.size) i (by omega); simp only [sorrelref08_Has.l0]; rw [if_pos (by omega), if_neg c, e8, place_is _ _ i k M (by omega) (by omega) hs hM (by omega), Option.bind_some, div8 _ (by omega), mod8, if_pos (by omega), if_pos (by omega), if_pos (by omega), w64 (by omega) (by omega), show (i : Int) + 1 = ((i + 1 : Nat) : Int) from rfl, ih (i + 1) k (by omega) (by omega), hasFrom, bitS_ref]
    by_cases g : Go.bits .and .u8 (shr .u8 (bt s ((pl (tx key) (8 * s.size) i / 8 : Nat) : Int)) ((pl (tx key) (8 * s.size) i % 8 : Nat) : Int)) 1 = 0
    · rw [if_pos g, decide_eq_true g]; rfl
    · rw [if_neg g, decide_eq_false g]; rfl
theorem rhas_is (s key : ByteArray) (k M : Nat) (hz : s.size ≤ 1000000) (hs : key.size ≤ M) (hM : M ≤ 1000000) (hk : 10 * M + 30 ≤ k) : sorrelref08_Has.f k s key = some (hasB s (tx key)) := by
  unfold sorrelref08_Has.f hasB
  by_cases c : s.size = 0
  · have e : s.toList = [] := (VaHas.nil_size s).2 c; obtain ⟨k, rfl⟩ : ∃ m, k = m + 1 := ⟨k - 1, by omega⟩; simp only [sorrelref08_Has.l0]; rw [if_pos (by omega), if_pos e, e]; rfl
  · have hc : s.toList.isEmpty = false := by cases h : s.toList with | nil => exact absurd ((VaHas.nil_size s).1 h) c | cons _ _ => rfl
    rw [hc, Bool.false_or]; exact rhas_l0 s key M hz c hs hM 6 0 k (by omega) (by omega)
theorem rmake_bits (ks : List ByteArray) (k M : Nat) (hl : ks.length ≤ 4096) (hM : M ≤ 1000000) (hs : ∀ t ∈ ks, t.size ≤ M) (hk : 10 * M + 14 + 8 * ks.length ≤ k) : sorrelref08_Make.f k ks = some (bitsOf ks, 0) := by
  rw [rmake_is ks k M hl hM hs hk]
  have := make_is ks (10 * M + 14 + 8 * ks.length) M hl hM hs (by omega)
  rw [make_bits ks (10 * M + 14 + 8 * ks.length) M hl hM hs (by omega)] at this
  exact this.symm
theorem cmp_snoc (x : ByteArray) : ∀ (xs : List ByteArray) (y : ByteArray), cmpL (xs ++ [y] ++ [x]) = if y = x then cmpL (xs ++ [y]) else cmpL (xs ++ [y]) ++ [x] := by
  intro xs
  induction xs with
  | nil =>
    intro y
    by_cases c : y = x
    · rw [if_pos c, c]; simp [cmpL]
    · rw [if_neg c]; simp [cmpL, c]
  | cons a t ih =>
    intro y; have h := ih y
    cases t with
    | nil =>
      by_cases c : a = y
      · simp only [List.cons_append, List.nil_append, cmpL, if_pos c] at h ⊢; exact h
      · simp only [List.cons_append, List.nil_append, cmpL, if_neg c] at h ⊢; rw [h]; split <;> rfl
    | cons b t =>
      by_cases c : a = b
      · simp only [List.cons_append, cmpL, if_pos c] at h ⊢; exact h
      · simp only [List.cons_append, cmpL, if_neg c] at h ⊢; rw [h]; split <;> rfl
theorem rkeys_l0 (l : List S43) (hl : l.length ≤ 4096) : ∀ (n i k : Nat) (out : List ByteArray), i + n = l.length → n + 1 ≤ k → out = cmpL ((l.map (·.f0)).take i) → out.length ≤ i → sorrelref10_Keys.l0 k l out (i : Int) = some (cmpL (l.map (·.f0))) := by
  intro n
  induction n with
  | zero =>
    intro i k out h hk ho hle; obtain ⟨k, rfl⟩ : ∃ m, k = m + 1 := ⟨k - 1, by omega⟩; simp only [sorrelref10_Keys.l0]; rw [if_neg (by omega), ho, List.take_of_length_le (by rw [List.length_map]; omega)]
  | succ n ih =>
    intro i k out h hk ho hle; obtain ⟨k, rfl⟩ : ∃ m, k = m + 1 := ⟨k - 1, by omega⟩; have hi : i < l.length := by omega
    have hn : wrap64 ((i : Int) + 1) = ((i + 1 : Nat) : Int) := by rw [w64 (by omega) (by omega)]; rfl
    have hti : (l.map (·.f0)).take (i + 1) = (l.map (·.f0)).take i ++ [l[i].f0] := by
      rw [List.take_succ_eq_append_getElem (by rw [List.length_map]; exact hi), List.getElem_map]
    simp only [sorrelref10_Keys.l0]; rw [if_pos (by omega), rdT l i hi, hn]
    by_cases c0 : i = 0
    · subst c0; rw [if_pos (by omega), if_pos (by omega), if_pos (by omega)]; refine ih 1 k _ (by omega) (by omega) ?_ (by rw [List.length_append, List.length_singleton]; omega); rw [hti, ho, List.take_zero]; rfl
    · have hp : wrap64 ((i : Int) - 1) = ((i - 1 : Nat) : Int) := by rw [w64 (by omega) (by omega)]; omega
      have hpi : (l.map (·.f0)).take i = (l.map (·.f0)).take (i - 1) ++ [l[i - 1].f0] := by
        have e := List.take_succ_eq_append_getElem (l := l.map (·.f0)) (i := i - 1) (by rw [List.length_map]; omega); rw [show i - 1 + 1 = i from by omega, List.getElem_map] at e; exact e
      have hs := cmp_snoc l[i].f0 ((l.map (·.f0)).take (i - 1)) l[i - 1].f0; rw [← hpi, ← hti, ← ho] at hs; rw [if_neg (by omega), if_pos (by omega), hp, if_pos (by omega), if_pos (by omega), rdT l (i - 1) (by omega)]
      by_cases c : l[i - 1].f0 = l[i].f0
      · rw [if_pos c] at hs; rw [if_pos (toList_inj.2 c.symm)]; exact ih (i + 1) k _ (by omega) (by omega) hs.symm (by omega)
      · rw [if_neg c] at hs; rw [if_neg (fun e => c (toList_inj.1 e).symm), if_pos (by omega)]; exact ih (i + 1) k _ (by omega) (by omega) hs.symm (by rw [List.length_append, List.length_singleton]; omega)
theorem rkeys_is (l : List S43) (k : Nat) (hl : l.length ≤ 4096) (hk : 4098 ≤ k) : sorrelref10_Keys.f k l = some (keysL l) :=
  rkeys_l0 l hl l.length 0 k [] (by omega) (by omega) (by rw [List.take_zero]; rfl) (Nat.le_refl _)
end Go.Proofs.Ytlmoafkmhenejaa.VaRf
end
