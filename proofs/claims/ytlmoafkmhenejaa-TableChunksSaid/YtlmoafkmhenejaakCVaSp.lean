import Derived.Test.YtlmoafkmhenejaakCXAx2
import Derived.Test.YtlmoafkmhenejaakCXAx3
import Derived.Test.YtlmoafkmhenejaakCXAx4
import Derived.Test.YtlmoafkmhenejaakCXAx5
import Derived.Test.YtlmoafkmhenejaakCXAx6
import Derived.Test.YtlmoafkmhenejaakCXAx7
import Derived.Test.YtlmoafkmhenejaakCXAx8
import Derived.Test.YtlmoafkmhenejaakCXAx9
import Derived.Test.YtlmoafkmhenejaakCXAx0
import Derived.Test.YtlmoafkmhenejaakCXAx12
import Derived.Test.YtlmoafkmhenejaakCXAx13
import Derived.Test.YtlmoafkmhenejaakCCLib
import Derived.Test.YtlmoafkmhenejaakCVLib
import Derived.Test.YtlmoafkmhenejaakCOpn
import Derived.Test.YtlmoafkmhenejaakCVaTb
section
namespace Go.Proofs.Ytlmoafkmhenejaa.XA
end Go.Proofs.Ytlmoafkmhenejaa.XA
namespace Go.Proofs.Ytlmoafkmhenejaa.VLib
end Go.Proofs.Ytlmoafkmhenejaa.VLib
namespace Go.Proofs.Ytlmoafkmhenejaa.CLib
end Go.Proofs.Ytlmoafkmhenejaa.CLib
namespace Go.Proofs.Ytlmoafkmhenejaa.XW
end Go.Proofs.Ytlmoafkmhenejaa.XW
namespace Go.Proofs.YtlmoafkmhenejaaW.PrintWords
end Go.Proofs.YtlmoafkmhenejaaW.PrintWords
namespace Go.Proofs.YtlmoafkmhenejaaW.PrintLast
end Go.Proofs.YtlmoafkmhenejaaW.PrintLast
namespace Go.Proofs.YtlmoafkmhenejaaW.PrintMore
end Go.Proofs.YtlmoafkmhenejaaW.PrintMore
namespace Go.Proofs.Ytlmoafkmhenejaa.VaSp
open Go.RowKit Go.Proofs.Ytlmoafkmhenejaa.XA Go.Proofs.Ytlmoafkmhenejaa.VLib Go.Proofs.Ytlmoafkmhenejaa.CLib Go.Proofs.Ytlmoafkmhenejaa.XW Go.Proofs.YtlmoafkmhenejaaW.PrintWords Go.Proofs.YtlmoafkmhenejaaW.PrintLast Go.Proofs.YtlmoafkmhenejaaW.PrintMore
theorem less_irrefl : ∀ a : List UInt8, Op.bytesLess a a = false
  | [] => rfl
  | x :: a => by
    have := less_irrefl a
    simp only [Op.bytesLess, this, Bool.and_false, Bool.or_false, decide_eq_false_iff_not, UInt8.lt_iff_toNat_lt]
    omega
theorem less_trans : ∀ a b c : List UInt8, Op.bytesLess a b = true → Op.bytesLess b c = true → Op.bytesLess a c = true
  | [], [], _, h, _ => by simp [Op.bytesLess] at h
  | [], _ :: _, [], _, h => by simp [Op.bytesLess] at h
  | [], _ :: _, _ :: _, _, _ => rfl
  | _ :: _, [], _, h, _ => by simp [Op.bytesLess] at h
  | _ :: _, _ :: _, [], _, h => by simp [Op.bytesLess] at h
  | x :: a, y :: b, z :: c, h1, h2 => by
    have ih := less_trans a b c
    simp only [Op.bytesLess, Bool.or_eq_true, Bool.and_eq_true, decide_eq_true_eq, beq_iff_eq, UInt8.lt_iff_toNat_lt] at h1 h2 ⊢
    rcases h1 with h1 | ⟨rfl, h1⟩
    · rcases h2 with h2 | ⟨rfl, h2⟩
      · exact .inl (by omega)
      · exact .inl h1
    · rcases h2 with h2 | ⟨rfl, h2⟩
      · exact .inl h2
      · exact .inr ⟨rfl, ih h1 h2⟩
def lt (a b : ByteArray) : Bool := Op.bytesLess a.toList b.toList
theorem lt_irrefl (a : ByteArray) : lt a a = false := less_irrefl _
theorem lt_trans {a b c : ByteArray} (h1 : lt a b = true) (h2 : lt b c = true) : lt a c = true := less_trans _ _ _ h1 h2
theorem lt_tri (a b : ByteArray) : lt a b = true ∨ a = b ∨ lt b a = true := by
  have h := less_total a.toList b.toList
  cases h1 : lt a b
  · cases h2 : lt b a
    · refine .inr (.inl ?_)
      have e1 : Op.bytesLess a.toList b.toList = false := h1
      have e2 : Op.bytesLess b.toList a.toList = false := h2
      rw [e1, e2] at h
      simp only [Bool.false_or, Bool.not_false, beq_iff_eq] at h
      exact toList_inj.1 h
    · exact .inr (.inr rfl)
  · exact .inl rfl
theorem lt_asymm {a b : ByteArray} (h : lt a b = true) : lt b a = false := by
  cases h2 : lt b a
  · rfl
  · have := lt_trans h h2; rw [lt_irrefl] at this; cases this
theorem le_lt {a b c : ByteArray} (h1 : lt b a = false) (h2 : lt b c = true) : lt a c = true := by
  rcases lt_tri a b with h | rfl | h
  · exact lt_trans h h2
  · exact h2
  · rw [h] at h1; cases h1
def emp (a : ByteArray) : Bool := a.toList == []
theorem emp_iff {a : ByteArray} : emp a = true ↔ a.toList = [] := by unfold emp; exact beq_iff_eq
theorem emp_size (a : ByteArray) : emp a = decide (a.size = 0) := by
  rw [Bool.eq_iff_iff, emp_iff, toList_data, decide_eq_true_eq, ← len_list, List.length_eq_zero_iff]
theorem lt_emp {a b : ByteArray} (h : emp b = true) : lt a b = false := by
  unfold lt; rw [emp_iff.1 h]; cases a.toList <;> rfl
def keyB (s : ByteArray) : Bool := !emp s && decide (s.size ≤ 64)
def aheadB (s hi : ByteArray) : Bool := emp hi || lt s hi
def mayB (lo hi : ByteArray) : Bool := decide (lo.size ≤ 64) && decide (hi.size ≤ 64) && aheadB lo hi
def hasB (lo hi key : ByteArray) : Bool := mayB lo hi && keyB key && !lt key lo && aheadB key hi
theorem key_is (s : ByteArray) : span_Key.f s = some (keyB s) := by
  unfold span_Key.f keyB
  by_cases h : s.toList = []
  · rw [if_pos h, emp_iff.2 h]; rfl
  · have e : emp s = false := by cases h2 : emp s; rfl; exact absurd (emp_iff.1 h2) h
    rw [if_neg h, e]
    simp only [Bool.not_false, Bool.true_and, Option.some.injEq]
    exact decide_eq_decide.2 (by omega)
theorem ahead_is (s hi : ByteArray) : span_ahead.f s hi = some (aheadB s hi) := by
  unfold span_ahead.f aheadB
  by_cases h : hi.toList = []
  · rw [if_pos h, emp_iff.2 h]; rfl
  · have e : emp hi = false := by cases h2 : emp hi; rfl; exact absurd (emp_iff.1 h2) h
    rw [if_neg h, e]; rfl
theorem may_is (lo hi : ByteArray) : span_may.f lo hi = some (mayB lo hi) := by
  unfold span_may.f mayB
  rw [ahead_is]
  by_cases h1 : lo.size ≤ 64
  · rw [if_pos (by omega), decide_eq_true h1]
    by_cases h2 : hi.size ≤ 64
    · rw [if_pos (by omega), decide_eq_true h2]; rfl
    · rw [if_neg (by omega), decide_eq_false h2]; rfl
  · rw [if_neg (by omega), decide_eq_false h1]; rfl
theorem rkey_is (s : ByteArray) : sorrelref04_Key.f s = some (keyB s) := by
  unfold sorrelref04_Key.f keyB
  rw [emp_size]
  by_cases h : s.size = 0
  · rw [if_neg (by omega), decide_eq_true h]; rfl
  · rw [if_pos (by omega), decide_eq_false h]
    simp only [Bool.not_false, Bool.true_and, Option.some.injEq]
    exact decide_eq_decide.2 (by omega)
theorem rmay_is (lo hi : ByteArray) : sorrelref04_May.f lo hi = some (mayB lo hi) := by
  have h := may_is lo hi
  unfold span_may.f at h
  rw [← h]
  unfold sorrelref04_May.f span_ahead.f
  split
  · split
    · split <;> rfl
    · rfl
  · rfl
theorem hasB_iff {lo hi key : ByteArray} : hasB lo hi key = true ↔ mayB lo hi = true ∧ keyB key = true ∧ lt key lo = false ∧ aheadB key hi = true := by
  unfold hasB; simp [and_assoc]
theorem aheadB_iff {s hi : ByteArray} : aheadB s hi = true ↔ emp hi = true ∨ lt s hi = true := by unfold aheadB; simp
theorem mayB_iff {lo hi : ByteArray} : mayB lo hi = true ↔ lo.size ≤ 64 ∧ hi.size ≤ 64 ∧ aheadB lo hi = true := by unfold mayB; simp [and_assoc]
theorem keyB_iff {s : ByteArray} : keyB s = true ↔ emp s = false ∧ s.size ≤ 64 := by unfold keyB; simp
structure CutOk (lo hi key : ByteArray) : Prop where
  low : lt lo key = true
  full : emp key = false
  size : key.size ≤ 64
  losize : lo.size ≤ 64
  hisize : hi.size ≤ 64
  up : aheadB key hi = true
theorem CutOk.left {lo hi key : ByteArray} (h : CutOk lo hi key) : mayB lo key = true := mayB_iff.2 ⟨h.losize, h.size, aheadB_iff.2 (.inr h.low)⟩
def inR (lo hi : ByteArray) (l : List S43) : List S43 := l.filter (fun e => hasB lo hi e.f0)
theorem sameE_l0 (a : List S43) (ha : a.length ≤ 4611686018427387904) : ∀ (n i k : Nat), i + n = a.length → n + 1 ≤ k → sorrelref04_Same.l0 k a a (i : Int) = some true := by
  intro n
  induction n with
  | zero =>
    intro i k h hk
    obtain ⟨k, rfl⟩ : ∃ m, k = m + 1 := ⟨k - 1, by omega⟩
    simp only [sorrelref04_Same.l0]
    rw [if_neg (by omega)]
  | succ n ih =>
    intro i k h hk
    obtain ⟨k, rfl⟩ : ∃ m, k = m + 1 := ⟨k - 1, by omega⟩
    simp only [sorrelref04_Same.l0]
    rw [if_pos (by omega), if_pos (by omega), if_pos (by omega), if_neg (by simp), w64 (by omega) (by omega), show (i : Int) + 1 = ((i + 1 : Nat) : Int) from by omega]
    exact ih (i + 1) k (by omega) (by omega)
theorem sameE_yes (a : List S43) (k : Nat) (ha : a.length ≤ 4611686018427387904) (hk : a.length + 1 ≤ k) : sorrelref04_Same.f k a a = some true := by
  unfold sorrelref04_Same.f
  rw [if_pos rfl]
  exact sameE_l0 a ha a.length 0 k (by omega) hk
end Go.Proofs.Ytlmoafkmhenejaa.VaSp
end
section
namespace Go.Proofs.Ytlmoafkmhenejaa.VLib
end Go.Proofs.Ytlmoafkmhenejaa.VLib
namespace Go.Proofs.Ytlmoafkmhenejaa.Bld
end Go.Proofs.Ytlmoafkmhenejaa.Bld
namespace Go.Proofs.YtlmoafkmhenejaaW.PrintWords
end Go.Proofs.YtlmoafkmhenejaaW.PrintWords
namespace Go.Proofs.YtlmoafkmhenejaaW.PrintLast
end Go.Proofs.YtlmoafkmhenejaaW.PrintLast
namespace Go.Proofs.YtlmoafkmhenejaaW.PrintMore
end Go.Proofs.YtlmoafkmhenejaaW.PrintMore
namespace Go.Proofs.Ytlmoafkmhenejaa.XW
end Go.Proofs.Ytlmoafkmhenejaa.XW
namespace Go.Proofs.Ytlmoafkmhenejaa.XA
open Go.Proofs.Ytlmoafkmhenejaa.VLib Go.Proofs.Ytlmoafkmhenejaa.Bld Go.RowKit Go.Proofs.YtlmoafkmhenejaaW.PrintWords Go.Proofs.YtlmoafkmhenejaaW.PrintLast Go.Proofs.YtlmoafkmhenejaaW.PrintMore Go.Proofs.Ytlmoafkmhenejaa.XW
set_option linter.unusedVariables false
set_option linter.unusedSimpArgs false
def OkB (m : List S43) : Prop := VaChk.okB m = true
theorem OkB.len {m : List S43} (h : OkB m) : m.length ≤ 4096 := ((VaPut.okB_iff m).1 h).1
theorem table_put (kk : Nat) (hk : 10000000 ≤ kk) (m : List S43) (h : OkB m) (hl : 0 < m.length) : ∃ s bits, buildF kk 300 m = some (s, 0) ∧ s.size ≤ 140737488355328 ∧ openF kk 300 s = some (some (m, bits)) ∧ bits = VaTb.bitsT m := by
  have hf := VaTb.footL_le m h
  have hs := VaTb.sfoot_len m
  have ht := VaTbB.tabL_len m
  exact ⟨bs (VaTb.tabL m), VaTb.bitsT m, VaTb.build_ok m kk hk (by omega) h, by rw [bs_size]; omega, VaTbB.open_put m kk hk (by omega) h, rfl⟩
def OpenOk (l m : List S43) : Prop := OkB m ∧ m.length ≤ l.length ∧ ((m = [] ∧ ∀ (A : Option Addr) (c : Nat) (w : World), Kd.C k43 w A l.length l → l.length ≤ c →
    Calls Try.prog 21 #[.slice A l.length c] w fun e w' => e = .returned (.tuple #[.pointer none, .slice none 0 0, .bool true]) ∧ Below w.heap.size w w') ∨
  (0 < m.length ∧ ∀ (A : Option Addr) (c : Nat) (w : World), Kd.C k43 w A l.length l → l.length ≤ c →
    Calls Try.prog 21 #[.slice A l.length c] w fun e w' => ∃ p A2 c2, e = .returned (.tuple #[.pointer (some p), .slice A2 m.length c2, .bool true]) ∧ TabAt w' (.pointer (some p)) m (VaTb.bitsT m) ∧ Kd.C k43 w' A2 m.length m ∧ m.length ≤ c2 ∧ Below w.heap.size w w'))
theorem open_any_ (kk : Nat) (hk : 10000000 ≤ kk) (l : List S43) (hl : l.length ≤ 80) : ∃ m, OpenOk l m := by
  obtain ⟨m, h1, h2, h3⟩ := VaMade.made_is l (by omega) kk (by omega)
  refine ⟨m, h2, h3, ?_⟩
  rcases Nat.eq_zero_or_pos m.length with h0 | h0
  · have e := List.length_eq_zero_iff.1 h0
    subst e
    exact .inl ⟨rfl, fun A c w hC hc => opened_none kk kk 300 A c l w hC hc h1 (VaTb.build_no [] kk hk (.inl rfl))⟩
  · obtain ⟨s, bits, g1, g2, g3, rfl⟩ := table_put kk hk m h2 h0
    exact .inr ⟨h0, fun A c w hC hc => opened_some kk kk 300 A c l m s _ w hC hc h1 h0 g1 g2 g3⟩
theorem open_any (l : List S43) (hl : l.length ≤ 80) : ∃ m, OpenOk l m := open_any_ 10000000 (Nat.le_refl _) l hl
theorem light_any (l : List S43) : ∃ b, (b = true → l.length ≤ 80) ∧ sorrellaw10_light.f 82 l = some b := by
  obtain ⟨b, h1, h2⟩ := VaMade.light_is l 82 (Nat.le_refl _)
  exact ⟨b, h2, h1⟩
theorem same_yes (A1 : Option Addr) (c1 : Nat) (A2 : Option Addr) (c2 : Nat) (a b : List S43) (w : World) (hab : a = b) (ha : a.length ≤ 1000000) (h1 : Kd.C k43 w A1 a.length a) (hc1 : a.length ≤ c1) (h2 : Kd.C k43 w A2 b.length b) (hc2 : b.length ≤ c2) :
    Calls Try.prog 19 #[.slice A1 a.length c1, .slice A2 b.length c2] w fun e w' => e = .returned (.bool true) ∧ Below w.heap.size w w' := by
  subst hab
  refine (sorrelref04_Same.calls (a.length + 1) A1 c1 a A2 c2 a true w h1 hc1 h2 hc2 (VaSp.sameE_yes a _ (by omega) (Nat.le_refl _))).mono ?_
  rintro e w' ⟨rfl, m1, e1⟩
  exact ⟨rfl, by rw [e1]; exact pw_below_drewN (Below.refl _ _) _⟩
theorem chunk_any (p : Value) (m : List S43) (bits key : ByteArray) (q : Int) (r : Nat) (w : World) (h : TabAt w p m bits) (hl : 0 < m.length) (hn : m.length ≤ 4096) (hq : -9223372036854775808 ≤ q ∧ q ≤ 9223372036854775807) (hr : Cut m key r) :
    Calls Try.prog 25 #[p, .string key, .int .i64 q] w fun e w' => ∃ v, e = .returned (.tuple #[v, .string (chunkNext m r q)]) ∧ Kd.R k43 43 w' w.heap.size (fun _ => True) v ((m.take (chunkTo m r q)).drop r) ∧ Below w.heap.size w w' :=
  chunk_some (m.length + 1) p m bits key q r w h hl hn hq (seek_is m key r _ hr (Nat.lt_succ_self _)) hr.1
theorem OkB.may {m : List S43} (h : OkB m) : ∀ e ∈ m, 1 ≤ e.f0.size ∧ e.f0.size ≤ 64 := fun e he => by
  have := VaPut.ok_may m none ((VaPut.okB_iff m).1 h).2 e he
  exact ⟨this.k1, this.k64⟩
theorem OkB.all {m : List S43} (h : OkB m) : VaSp.inR ⟨#[]⟩ ⟨#[]⟩ m = m := by
  unfold VaSp.inR
  rw [List.filter_eq_self]
  intro a ha
  obtain ⟨h1, h2⟩ := h.may a ha
  have e0 : VaSp.emp ⟨#[]⟩ = true := by rw [VaSp.emp_size]; rfl
  refine VaSp.hasB_iff.2 ⟨VaSp.mayB_iff.2 ⟨Nat.zero_le _, Nat.zero_le _, VaSp.aheadB_iff.2 (.inl e0)⟩, VaSp.keyB_iff.2 ⟨?_, h2⟩, ?_, VaSp.aheadB_iff.2 (.inl e0)⟩
  · rw [VaSp.emp_size, decide_eq_false (by omega)]
  · exact VaSp.lt_emp e0
end Go.Proofs.Ytlmoafkmhenejaa.XA
end
section
namespace Go.Proofs.Ytlmoafkmhenejaa.VLib
end Go.Proofs.Ytlmoafkmhenejaa.VLib
namespace Go.Proofs.Ytlmoafkmhenejaa.Bld
end Go.Proofs.Ytlmoafkmhenejaa.Bld
namespace Go.Proofs.YtlmoafkmhenejaaW.PrintWords
end Go.Proofs.YtlmoafkmhenejaaW.PrintWords
namespace Go.Proofs.YtlmoafkmhenejaaW.PrintLast
end Go.Proofs.YtlmoafkmhenejaaW.PrintLast
namespace Go.Proofs.YtlmoafkmhenejaaW.PrintMore
end Go.Proofs.YtlmoafkmhenejaaW.PrintMore
namespace Go.Proofs.Ytlmoafkmhenejaa.XW
end Go.Proofs.Ytlmoafkmhenejaa.XW
namespace Go.Proofs.Ytlmoafkmhenejaa.XA
open Go.Proofs.Ytlmoafkmhenejaa.VLib Go.Proofs.Ytlmoafkmhenejaa.Bld Go.RowKit Go.Proofs.YtlmoafkmhenejaaW.PrintWords Go.Proofs.YtlmoafkmhenejaaW.PrintLast Go.Proofs.YtlmoafkmhenejaaW.PrintMore Go.Proofs.Ytlmoafkmhenejaa.XW
attribute [local go_sem high] max2_str unary_xor_u32 leq_str geq_str gtr_str
attribute [local go_sem] max2_int min2_int max_two min_two max_three min_three max_four min_four
set_option linter.unusedVariables false
set_option linter.unusedSimpArgs false
theorem ext_stop (l : List S43) (r : Nat) : ∀ d n, l.length ≤ n + d → ¬ (r < ext l r d n ∧ ext l r d n < l.length ∧ (rd_T43 l (ext l r d n : Int)).f0 = (rd_T43 l ((ext l r d n : Int) - 1)).f0)
  | 0, n, h => by rw [ext]; omega
  | d + 1, n, h => by
    rw [ext]
    by_cases c : r < n ∧ n < l.length ∧ (rd_T43 l (n : Int)).f0 = (rd_T43 l ((n : Int) - 1)).f0
    · rw [if_pos c]; exact ext_stop l r d (n + 1) (by omega)
    · rw [if_neg c]; exact c
theorem cut_zero (m : List S43) : Cut m ⟨#[]⟩ 0 := by
  refine ⟨Nat.zero_le _, fun i h => absurd h (by omega), fun i _ h => ?_⟩
  rw [VaTbO.keyLt_is m _ i h]
  exact VaSp.lt_emp (by rw [VaSp.emp_size]; rfl)
theorem cut_at (m : List S43) (h : OkB m) (t : Nat) (ht : 0 < t) (ht2 : t < m.length) (hne : ¬ m[t].f0 = (m[t - 1]'(by omega)).f0) : Cut m m[t].f0 t ∧ Op.bytesLess (m[t - 1]'(by omega)).f0.toList m[t].f0.toList = true := by
  have hlt : VaChk.lt (m[t - 1]'(by omega)).f0 m[t].f0 = true := by
    have g := VaTbO.pw_at m h (t - 1) t (by omega) ht2 (by omega)
    rwa [VaChk.LE_key (fun e => hne (toList_inj.1 e).symm)] at g
  refine ⟨⟨by omega, fun i hi => ?_, fun i hi hi2 => ?_⟩, hlt⟩
  · rw [VaTbO.keyLt_is m _ i (by omega)]
    rcases (show i = t - 1 ∨ i < t - 1 by omega) with rfl | c
    · exact hlt
    · exact VaChk.le_lt (VaTbO.LE_le (VaTbO.pw_at m h i (t - 1) (by omega) (by omega) c)) hlt
  · rw [VaTbO.keyLt_is m _ i hi2]
    rcases (show i = t ∨ t < i by omega) with rfl | c
    · exact VaChk.lt_irrefl _
    · exact VaTbO.LE_le (VaTbO.pw_at m h t i ht2 hi2 c)
theorem chunk_facts (m : List S43) (h : OkB m) (r : Nat) (hr : r < m.length) (q : Int) : ∃ t, chunkTo m r q = t ∧ r < t ∧ t ≤ m.length ∧ ((m.take t).drop r).length = t - r ∧ ((t = m.length ∧ chunkNext m r q = ⟨#[]⟩) ∨ (t < m.length ∧ Cut m (chunkNext m r q) t ∧ ¬ (chunkNext m r q).toList = [] ∧ Op.bytesLess (rd_T43 ((m.take t).drop r) ((((m.take t).drop r).length : Int) - 1)).f0.toList (chunkNext m r q).toList = true)) := by
  obtain ⟨t, ht⟩ : ∃ t, chunkTo m r q = t := ⟨_, rfl⟩
  have h1 := ext_le m r m.length (r + (min (max q 1) ((m.length : Int) - (r : Int))).toNat) (by omega)
  have h2 := ext_stop m r m.length (r + (min (max q 1) ((m.length : Int) - (r : Int))).toNat) (by omega)
  rw [show ext m r m.length (r + (min (max q 1) ((m.length : Int) - (r : Int))).toNat) = t from ht] at h1 h2
  have hrt : r < t := by omega
  have hl : ((m.take t).drop r).length = t - r := by rw [List.length_drop, List.length_take]; omega
  refine ⟨t, ht, hrt, h1.2, hl, ?_⟩
  unfold chunkNext
  rw [ht]
  by_cases c : t = m.length
  · rw [if_pos c]; exact .inl ⟨c, rfl⟩
  · rw [if_neg c]
    have htl : t < m.length := by omega
    have e1 : rd_T43 m (t : Int) = m[t] := VaChk.rdT m t htl
    have e2 : rd_T43 m ((t : Int) - 1) = m[t - 1] := by rw [show (t : Int) - 1 = ((t - 1 : Nat) : Int) from by omega]; exact VaChk.rdT m (t - 1) (by omega)
    rw [e1, e2] at h2
    obtain ⟨g1, g2⟩ := cut_at m h t (by omega) htl (fun e => h2 ⟨hrt, htl, e⟩)
    rw [e1]
    refine .inr ⟨htl, g1, ?_, ?_⟩
    · have k1 := (h.may m[t] (List.getElem_mem _)).1
      intro e
      rw [toList_data] at e
      have k2 := congrArg List.length e
      rw [len_list, List.length_nil] at k2
      omega
    · have e3 : rd_T43 ((m.take t).drop r) ((((m.take t).drop r).length : Int) - 1) = m[t - 1] := by
        rw [hl, show ((t - r : Nat) : Int) - 1 = ((t - r - 1 : Nat) : Int) from by omega, VaChk.rdT _ _ (by omega), List.getElem_drop, List.getElem_take]
        congr 1; omega
      rw [e3]; exact g2
set_option maxHeartbeats 4000000 in
set_option maxRecDepth 100000 in
theorem chunks_law (A : Option Addr) (c : Nat) (l : List S43) (most : Int) (w : World) (hC : Kd.C k43 w A l.length l) (hc : l.length ≤ c) :
    Calls Try.prog 9 #[.slice A l.length c, .int .i64 most] w fun e w' => e = .returned (.bool true) ∧ Below w.heap.size w w' := by
  have HC := Aside0.mk hC
  have HCC := Aside0.mk hc
  obtain ⟨b, hb80, hli⟩ := light_any l
  have HLI := Aside0.mk hli
  clear hC hc hli
  cases b with
  | false =>
    clear hb80
    go_enter Try.func9, Try.ntmps9
    go_wp2_with (first
      | (go_at_call 12; go_loud ((refine (awake_calls _).mono ?_); rintro e w99 ⟨rfl, hb99⟩; have HB99 := Aside0.mk (below_step HB1.out hb99); clear hb99))
      | (go_at_call 11; go_loud ((with_reducible refine (sorrellaw10_light.calls 82 A c l false _ HC.out HCC.out HLI.out).mono ?_); rintro e w1 ⟨rfl, m1, e1⟩; have HB1 : Aside0 (Below w.heap.size w w1) := ⟨by rw [e1]; exact pw_below_drewN (Below.refl _ _) _⟩; clear e1)))
    go_ret
    exact ⟨rfl, HB99.out⟩
  | true =>
    obtain ⟨m, hOK, hml, hop⟩ := open_any l (hb80 rfl)
    have h80 := hb80 rfl
    clear hb80
    rcases hop with ⟨hm0, hop⟩ | ⟨hm0, hop⟩
    · clear hml hm0 h80 hOK
      go_enter Try.func9, Try.ntmps9
      go_wp2_with (first
        | (go_at_call 12; go_loud ((refine (awake_calls _).mono ?_); rintro e w99 ⟨rfl, hb99⟩; have HB99 := Aside0.mk (below_step HB2.out hb99); clear hb99))
        | (go_at_call 21; go_loud ((with_reducible refine (hop A c _ (Kd.C_below HC.out HB1.out) HCC.out).mono ?_); rintro e w2 ⟨rfl, hb2⟩; have HB2 := Aside0.mk (below_step HB1.out hb2); clear hb2))
        | (go_at_call 11; go_loud ((with_reducible refine (sorrellaw10_light.calls 82 A c l true _ HC.out HCC.out HLI.out).mono ?_); rintro e w1 ⟨rfl, m1, e1⟩; have HB1 : Aside0 (Below w.heap.size w w1) := ⟨by rw [e1]; exact pw_below_drewN (Below.refl _ _) _⟩; clear e1)))
      go_ret
      exact ⟨rfl, HB99.out⟩
    · have HL0 : Aside0 (0 < m.length ∧ m.length ≤ 80) := ⟨by omega⟩
      have HOK := Aside0.mk hOK
      obtain ⟨q, hq1, hq⟩ := and_small most 31 (by omega)
      have HQ : Aside0 (Go.bits .and .i64 most 31 = (q : Int)) := ⟨hq⟩
      have HQ1 := Aside0.mk hq1
      clear hml h80 hm0 hOK hq1
      go_enter Try.func9, Try.ntmps9
      go_wp2_with (first
        | (go_at_call 21; go_loud ((with_reducible refine (hop A c _ (Kd.C_below HC.out HB1.out) HCC.out).mono ?_); rintro e w2 ⟨p, A2, c2, rfl, hT2, hC2, hc2, hb2⟩; have HT2 := Aside0.mk hT2; have HM2 := Aside0.mk hC2; have HMC := Aside0.mk hc2; have HB2 := Aside0.mk (below_step HB1.out hb2); clear hT2 hC2 hc2 hb2))
        | (go_at_call 11; go_loud ((with_reducible refine (sorrellaw10_light.calls 82 A c l true _ HC.out HCC.out HLI.out).mono ?_); rintro e w1 ⟨rfl, m1, e1⟩; have HB1 : Aside0 (Below w.heap.size w w1) := ⟨by rw [e1]; exact pw_below_drewN (Below.refl _ _) _⟩; clear e1)))
      go_loopg [8, 9, 10] m.length (fun kq v8 v9 v10 w' => ∃ (r i : Nat) (fr : ByteArray) (al : List S43), v9 = .string fr ∧ v10 = .int .i64 (i : Int) ∧ Aside0 (r < m.length ∧ m.length ≤ kq + r ∧ i ≤ r) ∧ Aside0 (al = m.take r) ∧ Aside0 (Cut m fr r) ∧ Aside0 (Kd.R k43 43 w' w2.heap.size (fun _ => True) v8 al) ∧ Aside0 (Below w2.heap.size w2 w'))
      case atStart => exact ⟨0, 0, ⟨#[]⟩, [], rfl, rfl, ⟨by have := HL0.out; omega⟩, ⟨rfl⟩, ⟨cut_zero m⟩, ⟨Kd.R_nil _ _ _ _ _⟩, ⟨Below.refl _ _⟩⟩
      case round =>
        obtain ⟨r, i, fr, al, rfl, rfl, HI, HAL, HCUT, HO, HB⟩ := hrel
        cases gk with
        | zero => exact absurd HI.out (by omega)
        | succ k1 =>
          have hi := HI.out
          have hl0 := HL0.out
          obtain ⟨A8, c8, e8⟩ := Kd.R_slice HO.out
          subst e8
          obtain ⟨t, ht, hrt, htl, hcl, hnx⟩ := chunk_facts m HOK.out r hi.1 q
          obtain ⟨nx, hnx0⟩ : ∃ nx, chunkNext m r q = nx := ⟨_, rfl⟩
          obtain ⟨cc, hcc⟩ : ∃ cc, (m.take t).drop r = cc := ⟨_, rfl⟩
          obtain ⟨an, han⟩ : ∃ an, al ++ cc = an := ⟨_, rfl⟩
          have hAN : an = m.take t := by
            rw [← han, HAL.out, ← hcc]
            conv => rhs; rw [← List.take_append_drop r (m.take t), List.take_take, Nat.min_eq_left (Nat.le_of_lt hrt)]
          rw [hcc] at hcl
          rw [hcc, hnx0] at hnx
          have HCC1 : Aside0 ((m.take (chunkTo m r q)).drop r = cc) := ⟨by rw [ht]; exact hcc⟩
          have HNX := Aside0.mk hnx0
          have HAN0 := Aside0.mk han
          have HAN := Aside0.mk hAN
          have HLEN : Aside0 (al.length + cc.length ≤ 80) := ⟨by have h := congrArg List.length han; rw [List.length_append, hAN, List.length_take] at h; omega⟩
          have dd1 : decide ((i : Int) < 100) = true := decide_eq_true (by omega)
          have dd2 : decide (i < 100) = true := decide_eq_true (by omega)
          have dd3 : ((cc.length : Int) == 0) = false := beq_eq_false_iff_ne.mpr (by omega)
          have dd4 : (cc.length == 0) = false := beq_eq_false_iff_ne.mpr (by omega)
          have HW : Aside0 (wrap64 ((i : Int) + 1) = ((i + 1 : Nat) : Int)) := ⟨by unfold wrap64; omega⟩
          have HQB : Aside0 (-9223372036854775808 ≤ (q : Int) ∧ (q : Int) ≤ 9223372036854775807) := ⟨by have := HQ1.out; omega⟩
          rcases hnx with ⟨hte, hne⟩ | ⟨hte, hcut, hne, hlt⟩
          · have HTE := Aside0.mk hte
            have hn0 : nx.toList = [] := by rw [hne, toList_data]
            have yhn00 : (nx.toList == []) = true := (beq_iff_eq.mpr hn0)
            have yhn01 : nx.toList.isEmpty = true := by rw [isE3]; exact yhn00
            have yhn02 : (nx.toList != []) = false := by rw [bne, yhn00]; rfl
            clear hi hl0 ht hrt htl hcl hnx0 hcc han hAN hte hne hn0
            go_wp2_with (first
              | (go_at_call 12; go_loud ((refine (awake_calls _).mono ?_); rintro e w99 ⟨rfl, hb99⟩; have HB99 := Aside0.mk (below_step HB6.out hb99); clear hb99))
              | (go_at_call 19; go_loud ((with_reducible refine (same_yes A5 c5 A2 c2 an m _ (HAN.out.trans (by rw [HTE.out, List.take_length])) (by rw [HAN.out, List.length_take]; have := HL0.out; omega) (Kd.R_reads' HO5.out).2.2 (Kd.R_reads' HO5.out).2.1 (Kd.C_below HM2.out HB5.out) HMC.out).mono ?_); rintro e w6 ⟨rfl, hb6⟩; have HB6 := Aside0.mk (below_step (below_step HB2.out HB5.out) hb6); clear hb6))
              | ((with_reducible refine gate_builtin (b := .append) (xs := #[.tmp 59, .tmp 60]) rfl ?_); at_builtin; go_loud (refine Kd.R_append_rows k43 (w0 := w2) w2.heap.size rfl (.tmp 59) (.tmp 60) 22 43 (.agg #[(.string ⟨#[]⟩), (.string ⟨#[]⟩), (.bool false), (.int .i64 0)]) 48 rfl Try.underlying22 info43 rfl (by decide) (by omega) (.slice A8 al.length c8) al cc _ _ _ (fun _ => True) (fun _ => False) rfl rfl HO4.out (Kd.R_reads' HR4.out).2.2 (fun _ _ h => h) (fun _ h => h.elim) (fun _ _ => trivial) HB4.out HB4.out.size (by have := HLEN.out; omega) ?_); intro v5 w5 ho5 hb5 hg5 hat5; rw [HAN0.out] at ho5; obtain ⟨A5, c5, e5⟩ := Kd.R_slice ho5; subst e5; have HO5 := Aside0.mk ho5; have HB5 := Aside0.mk hb5; clear ho5 hb5 hg5 hat5)
              | (go_at_call 25; go_loud (rw [HQ.out]; (with_reducible refine (chunk_any _ m _ fr (q : Int) r _ (HT2.out.below HB.out) HL0.out.1 (by have := HL0.out; omega) HQB.out HCUT.out).mono ?_); rintro e w4 ⟨v4, rfl, hR4, hb4⟩; rw [HCC1.out] at hR4; rw [HNX.out]; obtain ⟨A4, c4_, e4⟩ := Kd.R_slice hR4; subst e4; have HR4 := Aside0.mk hR4; have HB4 := Aside0.mk (HB.out.trans (below_at_ hb4 HB.out.size)); have HO4 := Aside0.mk (Kd.R_below HO.out hb4); skip; clear hR4 hb4)))
            go_ret
            exact ⟨rfl, HB99.out⟩
          · have HTE := Aside0.mk hte
            have HCUT2 := Aside0.mk hcut
            have yhne0 : (nx.toList == []) = false := (by rw [beq_eq_false_iff_ne]; exact hne)
            have yhne1 : nx.toList.isEmpty = false := by rw [isE3]; exact yhne0
            have yhne2 : (nx.toList != []) = true := by rw [bne, yhne0]; rfl
            have HTT : Aside0 (r < t) := ⟨hrt⟩
            obtain ⟨lm, hlm⟩ : ∃ lm : Int, (cc.length : Int) - 1 = lm := ⟨_, rfl⟩
            have HWL : Aside0 (wrap64 ((cc.length : Int) - 1) = lm) := ⟨by unfold wrap64; omega⟩
            have p1 : (0 ≤ lm) = True := eq_true (by omega)
            have p2 : (lm < (cc.length : Int)) = True := eq_true (by omega)
            have HLM : Aside0 (0 ≤ lm ∧ lm < (cc.length : Int)) := ⟨by omega⟩
            rw [hlm] at hlt
            obtain ⟨K1, hK1⟩ : ∃ K1, (rd_T43 cc lm).f0 = K1 := ⟨_, rfl⟩
            rw [hK1] at hlt
            have HK1 := Aside0.mk hK1
            clear hi hl0 ht hrt htl hcl hnx0 hcc han hAN hte hcut hne hlm hK1
            have hwl := HWL.out
            go_wp2_with (first
              | ((with_reducible refine gate_builtin (b := .append) (xs := #[.tmp 59, .tmp 60]) rfl ?_); at_builtin; go_loud (refine Kd.R_append_rows k43 (w0 := w2) w2.heap.size rfl (.tmp 59) (.tmp 60) 22 43 (.agg #[(.string ⟨#[]⟩), (.string ⟨#[]⟩), (.bool false), (.int .i64 0)]) 48 rfl Try.underlying22 info43 rfl (by decide) (by omega) (.slice A8 al.length c8) al cc _ _ _ (fun _ => True) (fun _ => False) rfl rfl HO4.out (Kd.R_reads' HR4.out).2.2 (fun _ _ h => h) (fun _ h => h.elim) (fun _ _ => trivial) HB4.out HB4.out.size (by have := HLEN.out; omega) ?_); intro v5 w5 ho5 hb5 hg5 hat5; rw [HAN0.out] at ho5; obtain ⟨A5, c5, e5⟩ := Kd.R_slice ho5; subst e5; have HO5 := Aside0.mk ho5; have HB5 := Aside0.mk hb5; clear ho5 hb5 hg5 hat5)
              | (go_at_call 25; go_loud (rw [HQ.out]; (with_reducible refine (chunk_any _ m _ fr (q : Int) r _ (HT2.out.below HB.out) HL0.out.1 (by have := HL0.out; omega) HQB.out HCUT.out).mono ?_); rintro e w4 ⟨v4, rfl, hR4, hb4⟩; rw [HCC1.out] at hR4; rw [HNX.out]; obtain ⟨A4, c4_, e4⟩ := Kd.R_slice hR4; subst e4; have HR4 := Aside0.mk hR4; have HB4 := Aside0.mk (HB.out.trans (below_at_ hb4 HB.out.size)); have HO4 := Aside0.mk (Kd.R_below HO.out hb4); obtain ⟨ad, ea, a0, -, -, -⟩ := at_T43 (Kd.R_reads' hR4).2.2 lm HLM.out.1 HLM.out.2; rw [HK1.out] at a0; subst ea; have a00 := a0; clear hR4 hb4)))
            have hw := HW.out
            go_roundg k1
            case measure => omega
            case rel => exact ⟨t, i + 1, nx, an, rfl, by rw [HW.out], ⟨by have h1 := HI.out; have h2 := HTT.out; have h3 := HTE.out; omega⟩, HAN, HCUT2, HO5, HB5⟩
theorem law_chunks {R P1 : Prop} (a0 : Option Addr) (c0 : Nat) (l0 : List S43) (x1 : Int) {W : World} (hC : Kd.C k43 W a0 l0.length l0) (hl : l0.length ≤ c0) (_ : R) (_ : P1) :
    Calls Try.prog 9 #[.slice a0 l0.length c0, .int .i64 x1] W fun e w' => e = .returned (.bool true) ∧ Below W.heap.size W w' := chunks_law a0 c0 l0 x1 W hC hl
end Go.Proofs.Ytlmoafkmhenejaa.XA
end
