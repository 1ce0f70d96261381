import Derived.Test.YtlmoafkmhenejaakAXAx13
import Derived.Test.YtlmoafkmhenejaakAVLib
import Derived.Test.YtlmoafkmhenejaakACLib
import Derived.Test.YtlmoafkmhenejaakAOpn
import Derived.Test.YtlmoafkmhenejaakAVaB1
import Derived.Test.YtlmoafkmhenejaakAVaBl
import Derived.Test.YtlmoafkmhenejaakAVaTb
import Derived.Test.YtlmoafkmhenejaakAXAx2
import Derived.Test.YtlmoafkmhenejaakAXAx3
import Derived.Test.YtlmoafkmhenejaakAXAx4
import Derived.Test.YtlmoafkmhenejaakAXAx5
import Derived.Test.YtlmoafkmhenejaakAXAx6
import Derived.Test.YtlmoafkmhenejaakAXAx7
import Derived.Test.YtlmoafkmhenejaakAXAx8
import Derived.Test.YtlmoafkmhenejaakAXAx9
import Derived.Test.YtlmoafkmhenejaakAXAx10
import Derived.Test.YtlmoafkmhenejaakABld
import Derived.Test.YtlmoafkmhenejaakAXAx12
import Derived.Test.YtlmoafkmhenejaakAXAx15
section
namespace Go.Proofs.Ytlmoafkmhenejaa.XA
end Go.Proofs.Ytlmoafkmhenejaa.XA
namespace Go.Proofs.Ytlmoafkmhenejaa.VLib
end Go.Proofs.Ytlmoafkmhenejaa.VLib
namespace Go.Proofs.Ytlmoafkmhenejaa.CLib
end Go.Proofs.Ytlmoafkmhenejaa.CLib
namespace Go.Proofs.Ytlmoafkmhenejaa.XW
end Go.Proofs.Ytlmoafkmhenejaa.XW
namespace Go.Proofs.Ytlmoafkmhenejaa.VaB1
end Go.Proofs.Ytlmoafkmhenejaa.VaB1
namespace Go.Proofs.Ytlmoafkmhenejaa.VaChk
end Go.Proofs.Ytlmoafkmhenejaa.VaChk
namespace Go.Proofs.Ytlmoafkmhenejaa.VaPut
end Go.Proofs.Ytlmoafkmhenejaa.VaPut
namespace Go.Proofs.Ytlmoafkmhenejaa.VaBl
end Go.Proofs.Ytlmoafkmhenejaa.VaBl
namespace Go.Proofs.Ytlmoafkmhenejaa.VaHas
end Go.Proofs.Ytlmoafkmhenejaa.VaHas
namespace Go.Proofs.Ytlmoafkmhenejaa.VaBits
end Go.Proofs.Ytlmoafkmhenejaa.VaBits
namespace Go.Proofs.Ytlmoafkmhenejaa.VaFnd
end Go.Proofs.Ytlmoafkmhenejaa.VaFnd
namespace Go.Proofs.Ytlmoafkmhenejaa.VaTb
end Go.Proofs.Ytlmoafkmhenejaa.VaTb
namespace Go.Proofs.YtlmoafkmhenejaaW.PrintWords
end Go.Proofs.YtlmoafkmhenejaaW.PrintWords
namespace Go.Proofs.YtlmoafkmhenejaaW.PrintLast
end Go.Proofs.YtlmoafkmhenejaaW.PrintLast
namespace Go.Proofs.YtlmoafkmhenejaaW.PrintMore
end Go.Proofs.YtlmoafkmhenejaaW.PrintMore
namespace Go.Proofs.Ytlmoafkmhenejaa.VaTbO
open Go.RowKit Go.Proofs.Ytlmoafkmhenejaa.XA Go.Proofs.Ytlmoafkmhenejaa.VLib Go.Proofs.Ytlmoafkmhenejaa.CLib Go.Proofs.Ytlmoafkmhenejaa.XW Go.Proofs.Ytlmoafkmhenejaa.VaB1 Go.Proofs.Ytlmoafkmhenejaa.VaChk Go.Proofs.Ytlmoafkmhenejaa.VaPut Go.Proofs.Ytlmoafkmhenejaa.VaBl Go.Proofs.Ytlmoafkmhenejaa.VaHas Go.Proofs.Ytlmoafkmhenejaa.VaBits Go.Proofs.Ytlmoafkmhenejaa.VaFnd Go.Proofs.Ytlmoafkmhenejaa.VaTb Go.Proofs.YtlmoafkmhenejaaW.PrintWords Go.Proofs.YtlmoafkmhenejaaW.PrintLast Go.Proofs.YtlmoafkmhenejaaW.PrintMore
theorem pw_of (l : List S43) (h : okB l = true) : l.Pairwise (fun a b => LE a b = true) := (ok_pw l none ((okB_iff l).1 h).2).2.1
theorem pw_at (l : List S43) (h : okB l = true) : ∀ (a b : Nat) (ha : a < l.length) (hb : b < l.length), a < b → LE l[a] l[b] = true := List.pairwise_iff_getElem.1 (pw_of l h)
theorem LE_le {a b : S43} (h : LE a b = true) : lt b.f0 a.f0 = false := by
  by_cases c : a.f0.toList = b.f0.toList
  · rw [toList_inj.1 c]; exact lt_irrefl _
  · rw [LE_key c] at h; exact lt_asymm h
theorem keyLt_is (l : List S43) (key : ByteArray) (m : Nat) (h : m < l.length) : keyLt l key (m : Int) = lt l[m].f0 key := by
  unfold keyLt
  rw [rdT l m h]
  rfl
theorem cut_any (l : List S43) (h : okB l = true) (key : ByteArray) : ∃ r, Cut l key r := by
  refine cut_exists l key (fun i j hij hj hlt => ?_)
  rw [keyLt_is l key j hj] at hlt
  rw [keyLt_is l key i (by omega)]
  rcases (show i = j ∨ i < j by omega) with rfl | c
  · exact hlt
  · exact le_lt (LE_le (pw_at l h i j (by omega) hj c)) hlt
def getO : Option S43 → S43 × Bool
  | some e => (e, true)
  | none => (⟨⟨#[]⟩, ⟨#[]⟩, false, 0⟩, false)
theorem fnd_none (key : ByteArray) (q : Int) : ∀ ys : List S43, (∀ y ∈ ys, ¬ (y.f0.toList = key.toList ∧ y.f3 ≤ q)) → fnd key q ys = none
  | [], _ => rfl
  | y :: ys, h => by
    rw [fnd_cons, if_neg (h y List.mem_cons_self)]; exact fnd_none key q ys (fun a ha => h a (List.mem_cons_of_mem _ ha))
theorem fnd_past (key : ByteArray) (q : Int) (ys : List S43) : ∀ xs : List S43, (∀ x ∈ xs, ¬ (x.f0.toList = key.toList ∧ x.f3 ≤ q)) → fnd key q (xs ++ ys) = fnd key q ys
  | [], _ => rfl
  | x :: xs, h => by
    rw [List.cons_append, fnd_cons, if_neg (h x List.mem_cons_self), fnd_past key q ys xs (fun a ha => h a (List.mem_cons_of_mem _ ha))]
theorem get_from (key : ByteArray) (q : Int) : ∀ ys : List S43, ys.Pairwise (fun a b => LE a b = true) → (∀ y ∈ ys, lt y.f0 key = false) → getF ys key q = getO (fnd key q ys)
  | [], _, _ => rfl
  | y :: ys, hp, hk => by
    obtain ⟨p1, p2⟩ := List.pairwise_cons.1 hp; rw [getF, fnd_cons]
    by_cases c : y.f0 = key
    · rw [if_pos c]
      by_cases d : y.f3 ≤ q
      · rw [if_pos d, if_pos ⟨by rw [c], d⟩]; rfl
      · rw [if_neg d, if_neg (fun x => d x.2)]; exact get_from key q ys p2 (fun z hz => hk z (List.mem_cons_of_mem _ hz))
    · rw [if_neg c, if_neg (fun x => c (toList_inj.1 x.1)), fnd_no]
      · rfl
      · intro z hz e; have e2 : z.f0 = key := toList_inj.1 e; have g := LE_le (p1 z hz); rw [e2] at g; have k0 := hk y List.mem_cons_self
        rcases lt_tri y.f0 key with t | t | t
        · rw [k0] at t; cases t
        · exact c t
        · rw [g] at t; cases t
theorem get_is (l : List S43) (h : okB l = true) (key : ByteArray) (q : Int) (r : Nat) (hc : Cut l key r) : getF (l.drop r) key q = getO (fnd key q l) := by
  obtain ⟨h1, h2, h3⟩ := hc
  have e : fnd key q l = fnd key q (l.drop r) := by
    conv => lhs; rw [← List.take_append_drop r l]
    refine fnd_past key q _ _ (fun x hx => ?_); obtain ⟨a, ha, rfl⟩ := List.getElem_of_mem hx; rw [List.length_take] at ha; rw [List.getElem_take]; have g := h2 a (by omega); rw [keyLt_is l key a (by omega)] at g; intro x; rw [toList_inj.1 x.1, lt_irrefl] at g; cases g
  rw [e]
  refine get_from key q _ ((pw_of l h).sublist (List.drop_sublist r l)) (fun y hy => ?_)
  obtain ⟨a, ha, rfl⟩ := List.getElem_of_mem hy
  rw [List.length_drop] at ha
  rw [List.getElem_drop]
  have g := h3 (r + a) (by omega) (by omega)
  rw [keyLt_is l key (r + a) (by omega)] at g
  exact g
theorem has_self (l : List S43) (h : okB l = true) (i : Nat) (hi : i < l.length) (kk : Nat) (hk : 80000 ≤ kk) : bloom_Has.f kk (bitsT l) l[i].f0 = some true := by
  have hz := bitsT_size l
  have hm := (ok_may l none ((okB_iff l).1 h).2 l[i] (List.getElem_mem _)).k64
  rw [has_is (bitsT l) l[i].f0 kk 64 (by omega) hm (by omega) (by omega)]
  exact congrArg some (has_all (keysL l) l[i].f0 ((keys_mem l _).2 ⟨_, List.getElem_mem _, rfl⟩))
theorem has_any (l : List S43) (key : ByteArray) (h : key.size ≤ 1000) (kk : Nat) (hk : 80000 ≤ kk) : ∃ b, bloom_Has.f kk (bitsT l) key = some b := by
  have hz := bitsT_size l
  exact ⟨_, has_is (bitsT l) key kk 1000 (by omega) h (by omega) (by omega)⟩
end Go.Proofs.Ytlmoafkmhenejaa.VaTbO
end
section
namespace Go.Proofs.Ytlmoafkmhenejaa.XA
end Go.Proofs.Ytlmoafkmhenejaa.XA
namespace Go.Proofs.Ytlmoafkmhenejaa.VLib
end Go.Proofs.Ytlmoafkmhenejaa.VLib
namespace Go.Proofs.Ytlmoafkmhenejaa.CLib
end Go.Proofs.Ytlmoafkmhenejaa.CLib
namespace Go.Proofs.Ytlmoafkmhenejaa.XW
end Go.Proofs.Ytlmoafkmhenejaa.XW
namespace Go.Proofs.YtlmoafkmhenejaaW.PrintWords
end Go.Proofs.YtlmoafkmhenejaaW.PrintWords
namespace Go.Proofs.YtlmoafkmhenejaaW.PrintLast
end Go.Proofs.YtlmoafkmhenejaaW.PrintLast
namespace Go.Proofs.YtlmoafkmhenejaaW.PrintMore
end Go.Proofs.YtlmoafkmhenejaaW.PrintMore
namespace Go.Proofs.Ytlmoafkmhenejaa.VaSp
open Go.RowKit Go.Proofs.Ytlmoafkmhenejaa.XA Go.Proofs.Ytlmoafkmhenejaa.VLib Go.Proofs.Ytlmoafkmhenejaa.CLib Go.Proofs.Ytlmoafkmhenejaa.XW Go.Proofs.YtlmoafkmhenejaaW.PrintWords Go.Proofs.YtlmoafkmhenejaaW.PrintLast Go.Proofs.YtlmoafkmhenejaaW.PrintMore
theorem less_irrefl : ∀ a : List UInt8, Op.bytesLess a a = false
  | [] => rfl
  | x :: a => by
    have := less_irrefl a; simp only [Op.bytesLess, this, Bool.and_false, Bool.or_false, decide_eq_false_iff_not, UInt8.lt_iff_toNat_lt]
    omega
theorem less_trans : ∀ a b c : List UInt8, Op.bytesLess a b = true → Op.bytesLess b c = true → Op.bytesLess a c = true
  | [], [], _, h, _ => by simp [Op.bytesLess] at h
  | [], _ :: _, [], _, h => by simp [Op.bytesLess] at h
  | [], _ :: _, _ :: _, _, _ => rfl
  | _ :: _, [], _, h, _ => by simp [Op.bytesLess] at h
  | _ :: _, _ :: _, [], _, h => by simp [Op.bytesLess] at h
  | x :: a, y :: b, z :: c, h1, h2 => by
    have ih := less_trans a b c; simp only [Op.bytesLess, Bool.or_eq_true, Bool.and_eq_true, decide_eq_true_eq, beq_iff_eq, UInt8.lt_iff_toNat_lt] at h1 h2 ⊢
    rcases h1 with h1 | ⟨rfl, h1⟩
    · rcases h2 with h2 | ⟨rfl, h2⟩
      · exact .inl (by omega)
      · exact .inl h1
    · rcases h2 with h2 | ⟨rfl, h2⟩
      · exact .inl h2
      · exact .inr ⟨rfl, ih h1 h2⟩
def lt (a b : ByteArray) : Bool := Op.bytesLess a.toList b.toList
theorem lt_irrefl (a : ByteArray) : lt a a = false := less_irrefl _
theorem lt_trans {a b c : ByteArray} (h1 : lt a b = true) (h2 : lt b c = true) : lt a c = true := less_trans _ _ _ h1 h2
theorem lt_tri (a b : ByteArray) : lt a b = true ∨ a = b ∨ lt b a = true := by
  have h := less_total a.toList b.toList
  cases h1 : lt a b
  · cases h2 : lt b a
    · refine .inr (.inl ?_); have e1 : Op.bytesLess a.toList b.toList = false := h1; have e2 : Op.bytesLess b.toList a.toList = false := h2; rw [e1, e2] at h; simp only [Bool.false_or, Bool.not_false, beq_iff_eq] at h; exact toList_inj.1 h
    · exact .inr (.inr rfl)
  · exact .inl rfl
theorem lt_asymm {a b : ByteArray} (h : lt a b = true) : lt b a = false := by
  cases h2 : lt b a
  · rfl
  · have := lt_trans h h2; rw [lt_irrefl] at this; cases this
theorem le_lt {a b c : ByteArray} (h1 : lt b a = false) (h2 : lt b c = true) : lt a c = true := by
  rcases lt_tri a b with h | rfl | h
  · exact lt_trans h h2
  · exact h2
  · rw [h] at h1; cases h1
def emp (a : ByteArray) : Bool := a.toList == []
theorem emp_iff {a : ByteArray} : emp a = true ↔ a.toList = [] := by unfold emp; exact beq_iff_eq
theorem emp_size (a : ByteArray) : emp a = decide (a.size = 0) := by
  rw [Bool.eq_iff_iff, emp_iff, toList_data, decide_eq_true_eq, ← len_list, List.length_eq_zero_iff]
theorem lt_emp {a b : ByteArray} (h : emp b = true) : lt a b = false := by
  unfold lt; rw [emp_iff.1 h]; cases a.toList <;> rfl
def keyB (s : ByteArray) : Bool := !emp s && decide (s.size ≤ 64)
def aheadB (s hi : ByteArray) : Bool := emp hi || lt s hi
def mayB (lo hi : ByteArray) : Bool := decide (lo.size ≤ 64) && decide (hi.size ≤ 64) && aheadB lo hi
def hasB (lo hi key : ByteArray) : Bool := mayB lo hi && keyB key && !lt key lo && aheadB key hi
theorem key_is (s : ByteArray) : span_Key.f s = some (keyB s) := by
  unfold span_Key.f keyB
  by_cases h : s.toList = []
  · rw [if_pos h, emp_iff.2 h]; rfl
  · have e : emp s = false := by cases h2 : emp s; rfl; exact absurd (emp_iff.1 h2) h
    rw [if_neg h, e]; simp only [Bool.not_false, Bool.true_and, Option.some.injEq]; exact decide_eq_decide.2 (by omega)
theorem ahead_is (s hi : ByteArray) : span_ahead.f s hi = some (aheadB s hi) := by
  unfold span_ahead.f aheadB
  by_cases h : hi.toList = []
  · rw [if_pos h, emp_iff.2 h]; rfl
  · have e : emp hi = false := by cases h2 : emp hi; rfl; exact absurd (emp_iff.1 h2) h
    rw [if_neg h, e]; rfl
theorem may_is (lo hi : ByteArray) : span_may.f lo hi = some (mayB lo hi) := by
  unfold span_may.f mayB
  rw [ahead_is]
  by_cases h1 : lo.size ≤ 64
  · rw [if_pos (by omega), decide_eq_true h1]
    by_cases h2 : hi.size ≤ 64
    · rw [if_pos (by omega), decide_eq_true h2]; rfl
    · rw [if_neg (by omega), decide_eq_false h2]; rfl
  · rw [if_neg (by omega), decide_eq_false h1]; rfl
theorem has_is (lo hi key : ByteArray) : span_Has.f lo hi key = some (hasB lo hi key) := by
  unfold span_Has.f hasB
  rw [may_is, key_is, ahead_is]
  have e : Op.bytesLess key.toList lo.toList = lt key lo := rfl
  simp only [Option.bind_some, e]
  cases mayB lo hi <;> cases keyB key <;> cases lt key lo <;> simp
theorem rkey_is (s : ByteArray) : sorrelref04_Key.f s = some (keyB s) := by
  unfold sorrelref04_Key.f keyB
  rw [emp_size]
  by_cases h : s.size = 0
  · rw [if_neg (by omega), decide_eq_true h]; rfl
  · rw [if_pos (by omega), decide_eq_false h]; simp only [Bool.not_false, Bool.true_and, Option.some.injEq]; exact decide_eq_decide.2 (by omega)
theorem rmay_is (lo hi : ByteArray) : sorrelref04_May.f lo hi = some (mayB lo hi) := by
  have h := may_is lo hi
  unfold span_may.f at h
  rw [← h]
  unfold sorrelref04_May.f span_ahead.f
  split
  · split
    · split <;> rfl
    · rfl
  · rfl
theorem rhas_is (lo hi key : ByteArray) : sorrelref04_Has.f lo hi key = some (hasB lo hi key) := by
  have h := has_is lo hi key
  unfold span_Has.f at h
  rw [may_is, key_is] at h
  rw [← h]
  unfold sorrelref04_Has.f span_ahead.f
  rw [rmay_is, rkey_is]
  simp only [Option.bind_some]
  cases mayB lo hi <;> cases keyB key <;> simp
theorem hasB_iff {lo hi key : ByteArray} : hasB lo hi key = true ↔ mayB lo hi = true ∧ keyB key = true ∧ lt key lo = false ∧ aheadB key hi = true := by
  unfold hasB; simp [and_assoc]
theorem aheadB_iff {s hi : ByteArray} : aheadB s hi = true ↔ emp hi = true ∨ lt s hi = true := by unfold aheadB; simp
theorem mayB_iff {lo hi : ByteArray} : mayB lo hi = true ↔ lo.size ≤ 64 ∧ hi.size ≤ 64 ∧ aheadB lo hi = true := by unfold mayB; simp [and_assoc]
theorem keyB_iff {s : ByteArray} : keyB s = true ↔ emp s = false ∧ s.size ≤ 64 := by unfold keyB; simp
structure CutOk (lo hi key : ByteArray) : Prop where
  low : lt lo key = true
  full : emp key = false
  size : key.size ≤ 64
  losize : lo.size ≤ 64
  hisize : hi.size ≤ 64
  up : aheadB key hi = true
theorem CutOk.left {lo hi key : ByteArray} (h : CutOk lo hi key) : mayB lo key = true := mayB_iff.2 ⟨h.losize, h.size, aheadB_iff.2 (.inr h.low)⟩
def inR (lo hi : ByteArray) (l : List S43) : List S43 := l.filter (fun e => hasB lo hi e.f0)
theorem inR_cons (lo hi : ByteArray) (e : S43) (t : List S43) : inR lo hi (e :: t) = if hasB lo hi e.f0 = true then e :: inR lo hi t else inR lo hi t := by
  unfold inR; rw [List.filter_cons]
theorem inR_len (lo hi : ByteArray) (l : List S43) : (inR lo hi l).length ≤ l.length := List.length_filter_le _ _
theorem clip_l0 (lo hi : ByteArray) : ∀ l : List S43, span_Clip.l0 lo hi l = some (inR lo hi l)
  | [] => rfl
  | e :: t => by
    rw [span_Clip.l0, has_is, Option.bind_some, clip_l0 lo hi t, Option.bind_some, inR_cons]
    split <;> rfl
theorem clip_is (lo hi : ByteArray) (l : List S43) (h : l.length < 2932031007402) : span_Clip.f l lo hi = some (inR lo hi l) := by
  unfold span_Clip.f; rw [if_pos h, clip_l0]
theorem rdE (l : List S43) (i : Nat) (h : i < l.length) : rd_T43 l (i : Int) = l[i] := by
  unfold rd_T43; rw [Int.toNat_natCast, List.getD_eq_getElem?_getD, List.getElem?_eq_getElem h]; rfl
theorem rclip_l0 (lo hi : ByteArray) (l : List S43) (hl : l.length ≤ 1000000) : ∀ (n i k : Nat) (out : List S43), i + n = l.length → n + 1 ≤ k → out.length ≤ i → sorrelref04_Clip.l0 k l out (i : Int) lo hi = some (out ++ inR lo hi (l.drop i)) := by
  intro n
  induction n with
  | zero =>
    intro i k out h hk ho; obtain ⟨k, rfl⟩ : ∃ m, k = m + 1 := ⟨k - 1, by omega⟩; simp only [sorrelref04_Clip.l0]; rw [if_neg (by omega), List.drop_eq_nil_of_le (by omega)]; exact congrArg some (List.append_nil out).symm
  | succ n ih =>
    intro i k out h hk ho; obtain ⟨k, rfl⟩ : ∃ m, k = m + 1 := ⟨k - 1, by omega⟩; have hi' : i < l.length := by omega
    have e : l.drop i = l[i] :: l.drop (i + 1) := (List.getElem_cons_drop hi').symm; simp only [sorrelref04_Clip.l0]; rw [if_pos (by omega), if_pos (by omega), rdE l i hi', rhas_is, Option.bind_some, e, inR_cons, w64 (by omega) (by omega), show (i : Int) + 1 = ((i + 1 : Nat) : Int) from by omega]
    split
    · rw [if_pos (by omega), ih (i + 1) k _ (by omega) (by omega) (by rw [List.length_append, List.length_singleton]; omega), List.append_assoc]; rfl
    · rw [ih (i + 1) k _ (by omega) (by omega) (by omega)]
theorem sameE_l0 (a : List S43) (ha : a.length ≤ 4611686018427387904) : ∀ (n i k : Nat), i + n = a.length → n + 1 ≤ k → sorrelref04_Same.l0 k a a (i : Int) = some true := by
  intro n
  induction n with
  | zero =>
    intro i k h hk; obtain ⟨k, rfl⟩ : ∃ m, k = m + 1 := ⟨k - 1, by omega⟩; simp only [sorrelref04_Same.l0]; rw [if_neg (by omega)]
  | succ n ih =>
    intro i k h hk; obtain ⟨k, rfl⟩ : ∃ m, k = m + 1 := ⟨k - 1, by omega⟩; simp only [sorrelref04_Same.l0]; rw [if_pos (by omega), if_pos (by omega), if_pos (by omega), if_neg (by simp), w64 (by omega) (by omega), show (i : Int) + 1 = ((i + 1 : Nat) : Int) from by omega]; exact ih (i + 1) k (by omega) (by omega)
theorem sameE_yes (a : List S43) (k : Nat) (ha : a.length ≤ 4611686018427387904) (hk : a.length + 1 ≤ k) : sorrelref04_Same.f k a a = some true := by
  unfold sorrelref04_Same.f
  rw [if_pos rfl]
  exact sameE_l0 a ha a.length 0 k (by omega) hk
end Go.Proofs.Ytlmoafkmhenejaa.VaSp
end
section
namespace Go.Proofs.Ytlmoafkmhenejaa.VLib
end Go.Proofs.Ytlmoafkmhenejaa.VLib
namespace Go.Proofs.Ytlmoafkmhenejaa.Bld
end Go.Proofs.Ytlmoafkmhenejaa.Bld
namespace Go.Proofs.YtlmoafkmhenejaaW.PrintWords
end Go.Proofs.YtlmoafkmhenejaaW.PrintWords
namespace Go.Proofs.YtlmoafkmhenejaaW.PrintLast
end Go.Proofs.YtlmoafkmhenejaaW.PrintLast
namespace Go.Proofs.YtlmoafkmhenejaaW.PrintMore
end Go.Proofs.YtlmoafkmhenejaaW.PrintMore
namespace Go.Proofs.Ytlmoafkmhenejaa.XW
end Go.Proofs.Ytlmoafkmhenejaa.XW
namespace Go.Proofs.Ytlmoafkmhenejaa.XA
open Go.Proofs.Ytlmoafkmhenejaa.VLib Go.Proofs.Ytlmoafkmhenejaa.Bld Go.RowKit Go.Proofs.YtlmoafkmhenejaaW.PrintWords Go.Proofs.YtlmoafkmhenejaaW.PrintLast Go.Proofs.YtlmoafkmhenejaaW.PrintMore Go.Proofs.Ytlmoafkmhenejaa.XW
set_option linter.unusedVariables false
set_option linter.unusedSimpArgs false
def OkB (m : List S43) : Prop := VaChk.okB m = true
theorem OkB.len {m : List S43} (h : OkB m) : m.length ≤ 4096 := ((VaPut.okB_iff m).1 h).1
theorem table_put (kk : Nat) (hk : 10000000 ≤ kk) (m : List S43) (h : OkB m) (hl : 0 < m.length) : ∃ s bits, buildF kk 300 m = some (s, 0) ∧ s.size ≤ 140737488355328 ∧ openF kk 300 s = some (some (m, bits)) ∧ bits = VaTb.bitsT m := by
  have hf := VaTb.footL_le m h
  have hs := VaTb.sfoot_len m
  have ht := VaTbB.tabL_len m
  exact ⟨bs (VaTb.tabL m), VaTb.bitsT m, VaTb.build_ok m kk hk (by omega) h, by rw [bs_size]; omega, VaTbB.open_put m kk hk (by omega) h, rfl⟩
def OpenOk (l m : List S43) : Prop := OkB m ∧ m.length ≤ l.length ∧ ((m = [] ∧ ∀ (A : Option Addr) (c : Nat) (w : World), Kd.C k43 w A l.length l → l.length ≤ c →
    Calls Try.prog 21 #[.slice A l.length c] w fun e w' => e = .returned (.tuple #[.pointer none, .slice none 0 0, .bool true]) ∧ Below w.heap.size w w') ∨
  (0 < m.length ∧ ∀ (A : Option Addr) (c : Nat) (w : World), Kd.C k43 w A l.length l → l.length ≤ c →
    Calls Try.prog 21 #[.slice A l.length c] w fun e w' => ∃ p A2 c2, e = .returned (.tuple #[.pointer (some p), .slice A2 m.length c2, .bool true]) ∧ TabAt w' (.pointer (some p)) m (VaTb.bitsT m) ∧ Kd.C k43 w' A2 m.length m ∧ m.length ≤ c2 ∧ Below w.heap.size w w'))
theorem open_any_ (kk : Nat) (hk : 10000000 ≤ kk) (l : List S43) (hl : l.length ≤ 80) : ∃ m, OpenOk l m := by
  obtain ⟨m, h1, h2, h3⟩ := VaMade.made_is l (by omega) kk (by omega)
  refine ⟨m, h2, h3, ?_⟩
  rcases Nat.eq_zero_or_pos m.length with h0 | h0
  · have e := List.length_eq_zero_iff.1 h0; subst e; exact .inl ⟨rfl, fun A c w hC hc => opened_none kk kk 300 A c l w hC hc h1 (VaTb.build_no [] kk hk (.inl rfl))⟩
  · obtain ⟨s, bits, g1, g2, g3, rfl⟩ := table_put kk hk m h2 h0; exact .inr ⟨h0, fun A c w hC hc => opened_some kk kk 300 A c l m s _ w hC hc h1 h0 g1 g2 g3⟩
theorem open_any (l : List S43) (hl : l.length ≤ 80) : ∃ m, OpenOk l m := open_any_ 10000000 (Nat.le_refl _) l hl
theorem light_any (l : List S43) : ∃ b, (b = true → l.length ≤ 80) ∧ sorrellaw10_light.f 82 l = some b := by
  obtain ⟨b, h1, h2⟩ := VaMade.light_is l 82 (Nat.le_refl _)
  exact ⟨b, h2, h1⟩
theorem range_ok (p : Value) (m : List S43) (bits lo hi : ByteArray) (w : World) (h : TabAt w p m bits) (hm : m.length ≤ 4096) :
    Calls Try.prog 20 #[p, .agg #[.string lo, .string hi]] w fun e w' => ∃ v, e = .returned v ∧ Kd.R k43 43 w' w.heap.size (fun _ => True) v (VaSp.inR lo hi m) ∧ Below w.heap.size w w' :=
  range_calls p m _ bits lo hi w h (VaSp.clip_is lo hi m (by omega))
theorem same_yes (A1 : Option Addr) (c1 : Nat) (A2 : Option Addr) (c2 : Nat) (a b : List S43) (w : World) (hab : a = b) (ha : a.length ≤ 1000000) (h1 : Kd.C k43 w A1 a.length a) (hc1 : a.length ≤ c1) (h2 : Kd.C k43 w A2 b.length b) (hc2 : b.length ≤ c2) :
    Calls Try.prog 19 #[.slice A1 a.length c1, .slice A2 b.length c2] w fun e w' => e = .returned (.bool true) ∧ Below w.heap.size w w' := by
  subst hab
  refine (sorrelref04_Same.calls (a.length + 1) A1 c1 a A2 c2 a true w h1 hc1 h2 hc2 (VaSp.sameE_yes a _ (by omega) (Nat.le_refl _))).mono ?_
  rintro e w' ⟨rfl, m1, e1⟩
  exact ⟨rfl, by rw [e1]; exact pw_below_drewN (Below.refl _ _) _⟩
theorem get_any (p : Value) (m : List S43) (key : ByteArray) (q : Int) (w : World) (h : TabAt w p m (VaTb.bitsT m)) (hm : OkB m) (hl : 0 < m.length) (b : Bool) (hb : bloom_Has.f 80000 (VaTb.bitsT m) key = some b) :
    Calls Try.prog 22 #[p, .string key, .int .i64 q] w fun e w' => e = .returned (.tuple #[.agg #[.string (VaTbO.getO (if b = true then VaFnd.fnd key q m else none)).1.f0, .string (VaTbO.getO (if b = true then VaFnd.fnd key q m else none)).1.f1, .bool (VaTbO.getO (if b = true then VaFnd.fnd key q m else none)).1.f2, .int .i64 (VaTbO.getO (if b = true then VaFnd.fnd key q m else none)).1.f3], .bool (VaTbO.getO (if b = true then VaFnd.fnd key q m else none)).2]) ∧ Below w.heap.size w w' := by
  cases b with
  | false =>
    refine (get_no 80000 p m (VaTb.bitsT m) key q w h (.inr ⟨hl, hb⟩)).mono ?_; rintro e w' ⟨rfl, hb⟩; exact ⟨rfl, hb⟩
  | true =>
    obtain ⟨r, hr⟩ := VaTbO.cut_any m hm key; have hn := hm.len; refine (get_yes 80000 (m.length + 1) p m (VaTb.bitsT m) key q r w h hl hn hb (seek_is m key r _ hr (Nat.lt_succ_self _)) hr.1).mono ?_; rintro e w' ⟨rfl, hb⟩; rw [if_pos rfl, VaTbO.get_is m hm key q r hr]; exact ⟨rfl, hb⟩
theorem chunk_any (p : Value) (m : List S43) (bits key : ByteArray) (q : Int) (r : Nat) (w : World) (h : TabAt w p m bits) (hl : 0 < m.length) (hn : m.length ≤ 4096) (hq : -9223372036854775808 ≤ q ∧ q ≤ 9223372036854775807) (hr : Cut m key r) :
    Calls Try.prog 25 #[p, .string key, .int .i64 q] w fun e w' => ∃ v, e = .returned (.tuple #[v, .string (chunkNext m r q)]) ∧ Kd.R k43 43 w' w.heap.size (fun _ => True) v ((m.take (chunkTo m r q)).drop r) ∧ Below w.heap.size w w' :=
  chunk_some (m.length + 1) p m bits key q r w h hl hn hq (seek_is m key r _ hr (Nat.lt_succ_self _)) hr.1
theorem OkB.may {m : List S43} (h : OkB m) : ∀ e ∈ m, 1 ≤ e.f0.size ∧ e.f0.size ≤ 64 := fun e he => by
  have := VaPut.ok_may m none ((VaPut.okB_iff m).1 h).2 e he
  exact ⟨this.k1, this.k64⟩
theorem OkB.all {m : List S43} (h : OkB m) : VaSp.inR ⟨#[]⟩ ⟨#[]⟩ m = m := by
  unfold VaSp.inR
  rw [List.filter_eq_self]
  intro a ha
  obtain ⟨h1, h2⟩ := h.may a ha
  have e0 : VaSp.emp ⟨#[]⟩ = true := by rw [VaSp.emp_size]; rfl
  refine VaSp.hasB_iff.2 ⟨VaSp.mayB_iff.2 ⟨Nat.zero_le _, Nat.zero_le _, VaSp.aheadB_iff.2 (.inl e0)⟩, VaSp.keyB_iff.2 ⟨?_, h2⟩, ?_, VaSp.aheadB_iff.2 (.inl e0)⟩
  · rw [VaSp.emp_size, decide_eq_false (by omega)]
  · exact VaSp.lt_emp e0
end Go.Proofs.Ytlmoafkmhenejaa.XA
end
