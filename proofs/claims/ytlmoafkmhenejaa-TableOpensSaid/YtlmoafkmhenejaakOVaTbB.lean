import Derived.Test.YtlmoafkmhenejaakOMTab4
import Derived.Test.YtlmoafkmhenejaakOVLib
import Derived.Test.YtlmoafkmhenejaakOMTab10
import Derived.Test.YtlmoafkmhenejaakOOpn
import Derived.Test.YtlmoafkmhenejaakOXAx15
import Derived.Test.YtlmoafkmhenejaakOVaBl
import Derived.Test.YtlmoafkmhenejaakOVaRT
import Derived.Test.YtlmoafkmhenejaakOVaPT
import Derived.Test.YtlmoafkmhenejaakOXAx0
import Derived.Test.YtlmoafkmhenejaakOXAx3
import Derived.Test.YtlmoafkmhenejaakOXAx4
import Derived.Test.YtlmoafkmhenejaakOXAx5
import Derived.Test.YtlmoafkmhenejaakOXAx6
import Derived.Test.YtlmoafkmhenejaakOXAx7
import Derived.Test.YtlmoafkmhenejaakOXAx8
import Derived.Test.YtlmoafkmhenejaakOXAx9
import Derived.Test.YtlmoafkmhenejaakOXAx10
import Derived.Test.YtlmoafkmhenejaakOXAx11
import Derived.Test.YtlmoafkmhenejaakOXAx13
import Derived.Test.YtlmoafkmhenejaakOXAx14
section
namespace Go.Proofs.Ytlmoafkmhenejaa.XA
end Go.Proofs.Ytlmoafkmhenejaa.XA
namespace Go.Proofs.Ytlmoafkmhenejaa.VLib
end Go.Proofs.Ytlmoafkmhenejaa.VLib
namespace Go.Proofs.Ytlmoafkmhenejaa.CLib
end Go.Proofs.Ytlmoafkmhenejaa.CLib
namespace Go.Proofs.Ytlmoafkmhenejaa.XW
end Go.Proofs.Ytlmoafkmhenejaa.XW
namespace Go.Proofs.Ytlmoafkmhenejaa.VaB1
end Go.Proofs.Ytlmoafkmhenejaa.VaB1
namespace Go.Proofs.Ytlmoafkmhenejaa.VaChk
end Go.Proofs.Ytlmoafkmhenejaa.VaChk
namespace Go.Proofs.Ytlmoafkmhenejaa.VaPut
end Go.Proofs.Ytlmoafkmhenejaa.VaPut
namespace Go.Proofs.Ytlmoafkmhenejaa.VaBl
end Go.Proofs.Ytlmoafkmhenejaa.VaBl
namespace Go.Proofs.Ytlmoafkmhenejaa.VaBits
end Go.Proofs.Ytlmoafkmhenejaa.VaBits
namespace Go.Proofs.Ytlmoafkmhenejaa.VaFix
end Go.Proofs.Ytlmoafkmhenejaa.VaFix
namespace Go.Proofs.Ytlmoafkmhenejaa.VaRT
end Go.Proofs.Ytlmoafkmhenejaa.VaRT
namespace Go.Proofs.Ytlmoafkmhenejaa.VaRT2
end Go.Proofs.Ytlmoafkmhenejaa.VaRT2
namespace Go.Proofs.Ytlmoafkmhenejaa.VaPT
end Go.Proofs.Ytlmoafkmhenejaa.VaPT
namespace Go.Proofs.Ytlmoafkmhenejaa.VaBack
end Go.Proofs.Ytlmoafkmhenejaa.VaBack
namespace Go.Proofs.Ytlmoafkmhenejaa.VaTb
end Go.Proofs.Ytlmoafkmhenejaa.VaTb
namespace Go.Proofs.YtlmoafkmhenejaaW.PrintWords
end Go.Proofs.YtlmoafkmhenejaaW.PrintWords
namespace Go.Proofs.YtlmoafkmhenejaaW.PrintLast
end Go.Proofs.YtlmoafkmhenejaaW.PrintLast
namespace Go.Proofs.YtlmoafkmhenejaaW.PrintMore
end Go.Proofs.YtlmoafkmhenejaaW.PrintMore
namespace Go.Proofs.Ytlmoafkmhenejaa.VaTbB
open Go.RowKit Go.Proofs.Ytlmoafkmhenejaa.XA Go.Proofs.Ytlmoafkmhenejaa.VLib Go.Proofs.Ytlmoafkmhenejaa.CLib Go.Proofs.Ytlmoafkmhenejaa.XW Go.Proofs.Ytlmoafkmhenejaa.VaB1 Go.Proofs.Ytlmoafkmhenejaa.VaChk Go.Proofs.Ytlmoafkmhenejaa.VaPut Go.Proofs.Ytlmoafkmhenejaa.VaBl Go.Proofs.Ytlmoafkmhenejaa.VaBits Go.Proofs.Ytlmoafkmhenejaa.VaFix Go.Proofs.Ytlmoafkmhenejaa.VaRT Go.Proofs.Ytlmoafkmhenejaa.VaRT2 Go.Proofs.Ytlmoafkmhenejaa.VaPT Go.Proofs.Ytlmoafkmhenejaa.VaBack Go.Proofs.Ytlmoafkmhenejaa.VaTb Go.Proofs.YtlmoafkmhenejaaW.PrintWords Go.Proofs.YtlmoafkmhenejaaW.PrintLast Go.Proofs.YtlmoafkmhenejaaW.PrintMore
def sizesL : Nat → List UInt8 → List Nat → Option (List Nat)
  | 0, _, acc => some acc
  | n + 1, s, acc => if (takeX s).2.2 = 0 then (if (takeN (s.drop (takeX s).2.1)).2.2 = 0 then sizesL n (s.drop ((takeX s).2.1 + (takeN (s.drop (takeX s).2.1)).2.1)) (acc ++ [(takeN (s.drop (takeX s).2.1)).1]) else none) else none
def outZ : Option (List Nat) → List Int × Bool
  | some l => (l.map (fun (x : Nat) => (x : Int)), true)
  | none => ([], false)
theorem psz_l0 (N : Nat) (hN : N ≤ 4096) : ∀ (n i k p : Nat) (x0 : ByteArray) (acc : List Nat), i + n = N → p ≤ x0.size → x0.size ≤ 1099511627776 → acc.length = i → n + 12 ≤ k → table_sizes.l0 k x0 (p : Int) (acc.map (fun (x : Nat) => (x : Int))) (N : Int) (i : Int) = some (outZ (sizesL n (x0.data.toList.drop p) acc)) := by
  intro n
  induction n with
  | zero =>
    intro i k p x0 acc h hp hs ha hk; obtain ⟨k, rfl⟩ : ∃ m, k = m + 1 := ⟨k - 1, by omega⟩; simp only [table_sizes.l0]; rw [if_neg (by omega)]
    rfl
  | succ n ih =>
    intro i k p x0 acc h hp hs ha hk; obtain ⟨k, rfl⟩ : ∃ m, k = m + 1 := ⟨k - 1, by omega⟩; simp only [table_sizes.l0, sizesL]; rw [if_pos (by omega), if_pos (by omega), if_pos (by omega), Int.toNat_natCast]; obtain ⟨fs, hfs⟩ : ∃ fs, x0.extract p x0.size = fs := ⟨_, rfl⟩; have hl : fs.data.toList = x0.data.toList.drop p := by rw [← hfs, ext_drop]
    have hz : fs.size ≤ x0.size := drop_size x0 fs p hl; rw [hfs, ← hl, ttext_is fs k (by omega) (by omega), Option.bind_some]; dsimp only [outT]; have x1 := takeX_le fs.data.toList; have ln := len_list fs
    by_cases c : (takeX fs.data.toList).2.2 = 0
    · rw [if_pos (by omega), if_pos c, if_pos (by omega), if_pos (by omega), Int.toNat_natCast]; obtain ⟨gs, hgs⟩ : ∃ gs, fs.extract (takeX fs.data.toList).2.1 fs.size = gs := ⟨_, rfl⟩; have hg : gs.data.toList = fs.data.toList.drop (takeX fs.data.toList).2.1 := by rw [← hgs, ext_drop]
      rw [hgs, ← hg, take_is gs k (by omega), Option.bind_some]; dsimp only [outI]; have x2 := takeN_le gs.data.toList; have x3 : gs.data.toList.length = fs.data.toList.length - (takeX fs.data.toList).2.1 := by rw [hg, List.length_drop]
      by_cases d : (takeN gs.data.toList).2.2 = 0
      · rw [if_pos (by omega), if_pos d, if_pos (by rw [List.length_map]; omega), w64 (by omega) (by omega), w64 (by omega) (by omega), show (i : Int) + 1 = ((i + 1 : Nat) : Int) from by omega]; have := ih (i + 1) k ((takeX fs.data.toList).2.1 + (takeN gs.data.toList).2.1) fs (acc ++ [(takeN gs.data.toList).1]) (by omega) (by omega) (by omega) (by rw [List.length_append, List.length_singleton, ha]) (by omega); rw [List.map_append, List.map_singleton, Int.natCast_add] at this; exact this
      · rw [if_neg (by omega), if_neg d]; rfl
    · rw [if_neg (by omega), if_neg c]; rfl
def sizesO (s : List UInt8) : Option (List Nat) := if (takeN s).2.2 = 0 ∧ (takeN s).1 ≤ 4096 then sizesL (takeN s).1 (s.drop (takeN s).2.1) [] else none
theorem psz_is (s : ByteArray) (k : Nat) (hs : s.size ≤ 1099511627776) (hk : 5000 ≤ k) : table_sizes.f k s = some (outZ (sizesO s.data.toList)) := by
  unfold table_sizes.f sizesO
  have x1 := takeN_le s.data.toList
  have ln := len_list s
  rw [take_is s k (by omega), Option.bind_some]
  dsimp only [outI]
  obtain ⟨k, rfl⟩ : ∃ m, k = m + 1 := ⟨k - 1, by omega⟩
  by_cases c : (takeN s.data.toList).2.2 = 0
  · rw [if_pos (by omega)]; simp only [table_sizes.j0]
    by_cases d : (takeN s.data.toList).1 ≤ 4096
    · rw [decide_eq_false (by omega), if_neg (by decide), if_pos ⟨c, d⟩]; exact psz_l0 _ d (takeN s.data.toList).1 0 k (takeN s.data.toList).2.1 s [] (by omega) (by omega) hs rfl (by omega)
    · rw [decide_eq_true (by omega), if_pos rfl, if_neg (fun x => d x.2)]; rfl
  · rw [if_neg (by omega)]; simp only [table_sizes.j0]; rw [if_pos trivial, if_neg (fun x => c x.1)]; rfl
def blocksL (s : List UInt8) : List Nat → Nat → List S43 → Option (List S43)
  | [], _, acc => some acc
  | z :: t, p, acc => if s.length < p + z then none else (blkT ((s.take (p + z)).drop p)).bind fun b => blocksL s t (p + z) (acc ++ b)
theorem blk_le (s : List UInt8) (l : List S43) (h : blkT s = some l) : l.length ≤ s.length := by
  have hb := (okB_iff l).1 (blkT_ok s l h)
  have hm := ok_may l none hb.2
  have : ∀ (l : List S43) (last : List UInt8), (∀ e ∈ l, MayE e) → l.length ≤ (bodyL last l).length := by
    intro l
    induction l with
    | nil => intro _ _; exact Nat.zero_le _
    | cons e r ih =>
      intro last h; have h1 := entL_le last e (h e List.mem_cons_self); have h2 := ih (kL e) (fun x hx => h x (List.mem_cons_of_mem _ hx)); simp only [bodyL, List.length_append, List.length_cons]; omega
  have g := this l [] hm
  rw [← put_blkT s l h]
  unfold putL sealL
  simp only [List.length_append]
  omega
theorem openL_is (kk : Nat) (hk : 10000000 ≤ kk) (s : ByteArray) (hs : s.size ≤ 900000) : ∀ (t : List Nat) (p : Nat) (acc : List S43), p ≤ s.size → s.size ≤ 500000 ∧ acc.length ≤ p → openL kk s (t.map (fun (x : Nat) => (x : Int))) p acc = some (blocksL s.data.toList t p acc) := by
  intro t
  induction t with
  | nil => intro p acc _ _; rfl
  | cons z t ih =>
    intro p acc hp ha; have ln := len_list s; rw [List.map_cons, openL, blocksL]
    by_cases c : s.size < p + z
    · rw [if_pos (by omega), if_pos (by omega)]
    · rw [if_neg (by omega), if_pos (by omega), if_neg (by omega), Int.toNat_natCast]; have hx : (s.extract p (p + z)).data.toList = (s.data.toList.take (p + z)).drop p := extract_list s p (p + z); have hz : ((s.data.toList.take (p + z)).drop p).length = z := by rw [List.length_drop, List.length_take]; omega
      have hz2 : (s.extract p (p + z)).size = z := by rw [← len_list, hx, hz]
      rw [btk_is _ kk (by omega) (by omega), Option.bind_some, hx]
      cases hb : blkT ((s.data.toList.take (p + z)).drop p) with
      | none => rw [outB]; dsimp only; rw [if_neg (by decide), Option.bind_none]
      | some b =>
        have hl := blk_le _ b hb; rw [outB]; dsimp only; rw [if_pos rfl, Option.bind_some, if_pos (by omega)]; exact ih (p + z) (acc ++ b) (by omega) ⟨ha.1, by rw [List.length_append]; omega⟩
end Go.Proofs.Ytlmoafkmhenejaa.VaTbB
end
section
namespace Go.Proofs.Ytlmoafkmhenejaa.XA
end Go.Proofs.Ytlmoafkmhenejaa.XA
namespace Go.Proofs.Ytlmoafkmhenejaa.VLib
end Go.Proofs.Ytlmoafkmhenejaa.VLib
namespace Go.Proofs.Ytlmoafkmhenejaa.CLib
end Go.Proofs.Ytlmoafkmhenejaa.CLib
namespace Go.Proofs.Ytlmoafkmhenejaa.XW
end Go.Proofs.Ytlmoafkmhenejaa.XW
namespace Go.Proofs.YtlmoafkmhenejaaW.PrintWords
end Go.Proofs.YtlmoafkmhenejaaW.PrintWords
namespace Go.Proofs.YtlmoafkmhenejaaW.PrintLast
end Go.Proofs.YtlmoafkmhenejaaW.PrintLast
namespace Go.Proofs.YtlmoafkmhenejaaW.PrintMore
end Go.Proofs.YtlmoafkmhenejaaW.PrintMore
namespace Go.Proofs.Ytlmoafkmhenejaa.VaSp
open Go.RowKit Go.Proofs.Ytlmoafkmhenejaa.XA Go.Proofs.Ytlmoafkmhenejaa.VLib Go.Proofs.Ytlmoafkmhenejaa.CLib Go.Proofs.Ytlmoafkmhenejaa.XW Go.Proofs.YtlmoafkmhenejaaW.PrintWords Go.Proofs.YtlmoafkmhenejaaW.PrintLast Go.Proofs.YtlmoafkmhenejaaW.PrintMore
theorem less_irrefl : ∀ a : List UInt8, Op.bytesLess a a = false
  | [] => rfl
  | x :: a => by
    have := less_irrefl a; simp only [Op.bytesLess, this, Bool.and_false, Bool.or_false, decide_eq_false_iff_not, UInt8.lt_iff_toNat_lt]
    omega
def lt (a b : ByteArray) : Bool := Op.bytesLess a.toList b.toList
theorem lt_irrefl (a : ByteArray) : lt a a = false := less_irrefl _
def emp (a : ByteArray) : Bool := a.toList == []
theorem emp_iff {a : ByteArray} : emp a = true ↔ a.toList = [] := by unfold emp; exact beq_iff_eq
theorem emp_size (a : ByteArray) : emp a = decide (a.size = 0) := by
  rw [Bool.eq_iff_iff, emp_iff, toList_data, decide_eq_true_eq, ← len_list, List.length_eq_zero_iff]
theorem lt_emp {a b : ByteArray} (h : emp b = true) : lt a b = false := by
  unfold lt; rw [emp_iff.1 h]; cases a.toList <;> rfl
def keyB (s : ByteArray) : Bool := !emp s && decide (s.size ≤ 64)
def aheadB (s hi : ByteArray) : Bool := emp hi || lt s hi
def mayB (lo hi : ByteArray) : Bool := decide (lo.size ≤ 64) && decide (hi.size ≤ 64) && aheadB lo hi
def hasB (lo hi key : ByteArray) : Bool := mayB lo hi && keyB key && !lt key lo && aheadB key hi
theorem key_is (s : ByteArray) : span_Key.f s = some (keyB s) := by
  unfold span_Key.f keyB
  by_cases h : s.toList = []
  · rw [if_pos h, emp_iff.2 h]; rfl
  · have e : emp s = false := by cases h2 : emp s; rfl; exact absurd (emp_iff.1 h2) h
    rw [if_neg h, e]; simp only [Bool.not_false, Bool.true_and, Option.some.injEq]; exact decide_eq_decide.2 (by omega)
theorem ahead_is (s hi : ByteArray) : span_ahead.f s hi = some (aheadB s hi) := by
  unfold span_ahead.f aheadB
  by_cases h : hi.toList = []
  · rw [if_pos h, emp_iff.2 h]; rfl
  · have e : emp hi = false := by cases h2 : emp hi; rfl; exact absurd (emp_iff.1 h2) h
    rw [if_neg h, e]; rfl
theorem may_is (lo hi : ByteArray) : span_may.f lo hi = some (mayB lo hi) := by
  unfold span_may.f mayB
  rw [ahead_is]
  by_cases h1 : lo.size ≤ 64
  · rw [if_pos (by omega), decide_eq_true h1]
    by_cases h2 : hi.size ≤ 64
    · rw [if_pos (by omega), decide_eq_true h2]; rfl
    · rw [if_neg (by omega), decide_eq_false h2]; rfl
  · rw [if_neg (by omega), decide_eq_false h1]; rfl
theorem has_is (lo hi key : ByteArray) : span_Has.f lo hi key = some (hasB lo hi key) := by
  unfold span_Has.f hasB
  rw [may_is, key_is, ahead_is]
  have e : Op.bytesLess key.toList lo.toList = lt key lo := rfl
  simp only [Option.bind_some, e]
  cases mayB lo hi <;> cases keyB key <;> cases lt key lo <;> simp
theorem rkey_is (s : ByteArray) : sorrelref04_Key.f s = some (keyB s) := by
  unfold sorrelref04_Key.f keyB
  rw [emp_size]
  by_cases h : s.size = 0
  · rw [if_neg (by omega), decide_eq_true h]; rfl
  · rw [if_pos (by omega), decide_eq_false h]; simp only [Bool.not_false, Bool.true_and, Option.some.injEq]; exact decide_eq_decide.2 (by omega)
theorem rmay_is (lo hi : ByteArray) : sorrelref04_May.f lo hi = some (mayB lo hi) := by
  have h := may_is lo hi
  unfold span_may.f at h
  rw [← h]
  unfold sorrelref04_May.f span_ahead.f
  split
  · split
    · split <;> rfl
    · rfl
  · rfl
theorem hasB_iff {lo hi key : ByteArray} : hasB lo hi key = true ↔ mayB lo hi = true ∧ keyB key = true ∧ lt key lo = false ∧ aheadB key hi = true := by
  unfold hasB; simp [and_assoc]
theorem aheadB_iff {s hi : ByteArray} : aheadB s hi = true ↔ emp hi = true ∨ lt s hi = true := by unfold aheadB; simp
theorem mayB_iff {lo hi : ByteArray} : mayB lo hi = true ↔ lo.size ≤ 64 ∧ hi.size ≤ 64 ∧ aheadB lo hi = true := by unfold mayB; simp [and_assoc]
theorem keyB_iff {s : ByteArray} : keyB s = true ↔ emp s = false ∧ s.size ≤ 64 := by unfold keyB; simp
structure CutOk (lo hi key : ByteArray) : Prop where
  low : lt lo key = true
  full : emp key = false
  size : key.size ≤ 64
  losize : lo.size ≤ 64
  hisize : hi.size ≤ 64
  up : aheadB key hi = true
theorem CutOk.left {lo hi key : ByteArray} (h : CutOk lo hi key) : mayB lo key = true := mayB_iff.2 ⟨h.losize, h.size, aheadB_iff.2 (.inr h.low)⟩
def inR (lo hi : ByteArray) (l : List S43) : List S43 := l.filter (fun e => hasB lo hi e.f0)
theorem inR_cons (lo hi : ByteArray) (e : S43) (t : List S43) : inR lo hi (e :: t) = if hasB lo hi e.f0 = true then e :: inR lo hi t else inR lo hi t := by
  unfold inR; rw [List.filter_cons]
theorem clip_l0 (lo hi : ByteArray) : ∀ l : List S43, span_Clip.l0 lo hi l = some (inR lo hi l)
  | [] => rfl
  | e :: t => by
    rw [span_Clip.l0, has_is, Option.bind_some, clip_l0 lo hi t, Option.bind_some, inR_cons]
    split <;> rfl
theorem clip_is (lo hi : ByteArray) (l : List S43) (h : l.length < 2932031007402) : span_Clip.f l lo hi = some (inR lo hi l) := by
  unfold span_Clip.f; rw [if_pos h, clip_l0]
theorem sameE_l0 (a : List S43) (ha : a.length ≤ 4611686018427387904) : ∀ (n i k : Nat), i + n = a.length → n + 1 ≤ k → sorrelref04_Same.l0 k a a (i : Int) = some true := by
  intro n
  induction n with
  | zero =>
    intro i k h hk; obtain ⟨k, rfl⟩ : ∃ m, k = m + 1 := ⟨k - 1, by omega⟩; simp only [sorrelref04_Same.l0]; rw [if_neg (by omega)]
  | succ n ih =>
    intro i k h hk; obtain ⟨k, rfl⟩ : ∃ m, k = m + 1 := ⟨k - 1, by omega⟩; simp only [sorrelref04_Same.l0]; rw [if_pos (by omega), if_pos (by omega), if_pos (by omega), if_neg (by simp), w64 (by omega) (by omega), show (i : Int) + 1 = ((i + 1 : Nat) : Int) from by omega]; exact ih (i + 1) k (by omega) (by omega)
theorem sameE_yes (a : List S43) (k : Nat) (ha : a.length ≤ 4611686018427387904) (hk : a.length + 1 ≤ k) : sorrelref04_Same.f k a a = some true := by
  unfold sorrelref04_Same.f
  rw [if_pos rfl]
  exact sameE_l0 a ha a.length 0 k (by omega) hk
end Go.Proofs.Ytlmoafkmhenejaa.VaSp
end
section
namespace Go.Proofs.Ytlmoafkmhenejaa.VLib
end Go.Proofs.Ytlmoafkmhenejaa.VLib
namespace Go.Proofs.Ytlmoafkmhenejaa.Bld
end Go.Proofs.Ytlmoafkmhenejaa.Bld
namespace Go.Proofs.YtlmoafkmhenejaaW.PrintWords
end Go.Proofs.YtlmoafkmhenejaaW.PrintWords
namespace Go.Proofs.YtlmoafkmhenejaaW.PrintLast
end Go.Proofs.YtlmoafkmhenejaaW.PrintLast
namespace Go.Proofs.YtlmoafkmhenejaaW.PrintMore
end Go.Proofs.YtlmoafkmhenejaaW.PrintMore
namespace Go.Proofs.Ytlmoafkmhenejaa.XW
end Go.Proofs.Ytlmoafkmhenejaa.XW
namespace Go.Proofs.Ytlmoafkmhenejaa.XA
open Go.Proofs.Ytlmoafkmhenejaa.VLib Go.Proofs.Ytlmoafkmhenejaa.Bld Go.RowKit Go.Proofs.YtlmoafkmhenejaaW.PrintWords Go.Proofs.YtlmoafkmhenejaaW.PrintLast Go.Proofs.YtlmoafkmhenejaaW.PrintMore Go.Proofs.Ytlmoafkmhenejaa.XW
set_option linter.unusedVariables false
set_option linter.unusedSimpArgs false
def OkB (m : List S43) : Prop := VaChk.okB m = true
theorem OkB.len {m : List S43} (h : OkB m) : m.length ≤ 4096 := ((VaPut.okB_iff m).1 h).1
theorem range_ok (p : Value) (m : List S43) (bits lo hi : ByteArray) (w : World) (h : TabAt w p m bits) (hm : m.length ≤ 4096) :
    Calls Try.prog 20 #[p, .agg #[.string lo, .string hi]] w fun e w' => ∃ v, e = .returned v ∧ Kd.R k43 43 w' w.heap.size (fun _ => True) v (VaSp.inR lo hi m) ∧ Below w.heap.size w w' :=
  range_calls p m _ bits lo hi w h (VaSp.clip_is lo hi m (by omega))
theorem same_yes (A1 : Option Addr) (c1 : Nat) (A2 : Option Addr) (c2 : Nat) (a b : List S43) (w : World) (hab : a = b) (ha : a.length ≤ 1000000) (h1 : Kd.C k43 w A1 a.length a) (hc1 : a.length ≤ c1) (h2 : Kd.C k43 w A2 b.length b) (hc2 : b.length ≤ c2) :
    Calls Try.prog 19 #[.slice A1 a.length c1, .slice A2 b.length c2] w fun e w' => e = .returned (.bool true) ∧ Below w.heap.size w w' := by
  subst hab
  refine (sorrelref04_Same.calls (a.length + 1) A1 c1 a A2 c2 a true w h1 hc1 h2 hc2 (VaSp.sameE_yes a _ (by omega) (Nat.le_refl _))).mono ?_
  rintro e w' ⟨rfl, m1, e1⟩
  exact ⟨rfl, by rw [e1]; exact pw_below_drewN (Below.refl _ _) _⟩
theorem OkB.may {m : List S43} (h : OkB m) : ∀ e ∈ m, 1 ≤ e.f0.size ∧ e.f0.size ≤ 64 := fun e he => by
  have := VaPut.ok_may m none ((VaPut.okB_iff m).1 h).2 e he
  exact ⟨this.k1, this.k64⟩
theorem OkB.all {m : List S43} (h : OkB m) : VaSp.inR ⟨#[]⟩ ⟨#[]⟩ m = m := by
  unfold VaSp.inR
  rw [List.filter_eq_self]
  intro a ha
  obtain ⟨h1, h2⟩ := h.may a ha
  have e0 : VaSp.emp ⟨#[]⟩ = true := by rw [VaSp.emp_size]; rfl
  refine VaSp.hasB_iff.2 ⟨VaSp.mayB_iff.2 ⟨Nat.zero_le _, Nat.zero_le _, VaSp.aheadB_iff.2 (.inl e0)⟩, VaSp.keyB_iff.2 ⟨?_, h2⟩, ?_, VaSp.aheadB_iff.2 (.inl e0)⟩
  · rw [VaSp.emp_size, decide_eq_false (by omega)]
  · exact VaSp.lt_emp e0
end Go.Proofs.Ytlmoafkmhenejaa.XA
end
section
namespace Go.Proofs.Ytlmoafkmhenejaa.XA
end Go.Proofs.Ytlmoafkmhenejaa.XA
namespace Go.Proofs.Ytlmoafkmhenejaa.VLib
end Go.Proofs.Ytlmoafkmhenejaa.VLib
namespace Go.Proofs.Ytlmoafkmhenejaa.CLib
end Go.Proofs.Ytlmoafkmhenejaa.CLib
namespace Go.Proofs.Ytlmoafkmhenejaa.VaBl
end Go.Proofs.Ytlmoafkmhenejaa.VaBl
namespace Go.Proofs.Ytlmoafkmhenejaa.VaHas
end Go.Proofs.Ytlmoafkmhenejaa.VaHas
namespace Go.Proofs.Ytlmoafkmhenejaa.VaBits
end Go.Proofs.Ytlmoafkmhenejaa.VaBits
namespace Go.Proofs.Ytlmoafkmhenejaa.VaChk
end Go.Proofs.Ytlmoafkmhenejaa.VaChk
namespace Go.Proofs.YtlmoafkmhenejaaW.PrintWords
end Go.Proofs.YtlmoafkmhenejaaW.PrintWords
namespace Go.Proofs.YtlmoafkmhenejaaW.PrintLast
end Go.Proofs.YtlmoafkmhenejaaW.PrintLast
namespace Go.Proofs.YtlmoafkmhenejaaW.PrintMore
end Go.Proofs.YtlmoafkmhenejaaW.PrintMore
namespace Go.Proofs.Ytlmoafkmhenejaa.VaRf
open Go.RowKit Go.Proofs.Ytlmoafkmhenejaa.XA Go.Proofs.Ytlmoafkmhenejaa.VLib Go.Proofs.Ytlmoafkmhenejaa.CLib Go.Proofs.Ytlmoafkmhenejaa.VaBl Go.Proofs.Ytlmoafkmhenejaa.VaHas Go.Proofs.Ytlmoafkmhenejaa.VaBits Go.Proofs.Ytlmoafkmhenejaa.VaChk Go.Proofs.YtlmoafkmhenejaaW.PrintWords Go.Proofs.YtlmoafkmhenejaaW.PrintLast Go.Proofs.YtlmoafkmhenejaaW.PrintMore
theorem rmore_l1 : ∀ (d K j : Nat) (s : ByteArray) (c : BitVec 32) (i : Int), j + d = 8 → sorrelref02_More.l1 (K + d + 1) s (c.toNat : Int) i (j : Int) = sorrelref02_More.l0 K s ((bsteps d c).toNat : Int) (wrap64 (i + 1)) := by
  intro d
  induction d with
  | zero =>
    intro K j s c i h; simp only [sorrelref02_More.l1]; rw [if_neg (by omega)]; rfl
  | succ d ih =>
    intro K j s c i h; have hc := c.isLt; rw [show K + (d + 1) + 1 = (K + d + 1) + 1 from by omega]; simp only [sorrelref02_More.l1]; rw [if_pos (by omega), and1_i64 _ (by omega), w64 (n := (j : Int) + 1) (by omega) (by omega), ← half, poly_toNat, xor_i64_bv]
    by_cases b : c.toNat % 2 = 1
    · rw [if_pos (by omega), ← bstep_one c b]; exact ih K (j + 1) s (bstep c) i (by omega)
    · rw [if_neg (by omega), ← bstep_zero c b]; exact ih K (j + 1) s (bstep c) i (by omega)
theorem rmore_l0 : ∀ (n K i : Nat) (s : ByteArray) (c : BitVec 32), i + n = s.data.toList.length → s.size ≤ 4611686018427387904 →
    sorrelref02_More.l0 (10 * n + (K + 1)) s (c.toNat : Int) (i : Int) = some ((~~~ crcL c (s.data.toList.drop i)).toNat : Int) := by
  intro n
  induction n with
  | zero =>
    intro K i s c h hs; have hl := len_list s; rw [Nat.mul_zero, Nat.zero_add]; simp only [sorrelref02_More.l0]; rw [if_neg (by omega), List.drop_eq_nil_of_le (by omega), ones_xor64]
    rfl
  | succ n ih =>
    intro K i s c h hs; have hl := len_list s; have hlt : i < s.data.toList.length := by omega
    rw [show 10 * (n + 1) + (K + 1) = (10 * n + (K + 1) + 9) + 1 from by omega]; simp only [sorrelref02_More.l0]; have hw := (wide (s.data.toList[i]'hlt)).isLt; rw [if_pos (by omega), if_pos (by omega), wide_bt s i hlt, w64 (by omega) (by omega), xor_i64_bv]; have h1 := rmore_l1 8 (10 * n + (K + 1)) 0 s (c ^^^ wide (s.data.toList[i]'hlt)) (i : Int) rfl; rw [show 10 * n + (K + 1) + 9 = 10 * n + (K + 1) + 8 + 1 from rfl]; refine h1.trans ?_; rw [w64 (by omega) (by omega), drop_cons s i hlt]; exact ih K (i + 1) s (cbyte c (s.data.toList[i]'hlt)) (by omega) hs
theorem rmore_is (x : Int) (s : ByteArray) (k : Nat) (hk : 10 * s.size + 1 ≤ k) (hs : s.size ≤ 4611686018427387904) :
    sorrelref02_More.f k x s = some ((crcM (BitVec.ofInt 32 x) s.data.toList).toNat : Int) := by
  obtain ⟨K, rfl⟩ : ∃ K, k = 10 * s.size + (K + 1) := ⟨k - 10 * s.size - 1, by omega⟩
  unfold sorrelref02_More.f
  rw [low32, ones_xor64]
  have h := rmore_l0 s.size K 0 s (~~~ BitVec.ofInt 32 x) (by rw [len_list]; omega) hs
  exact h
theorem rsum_is (s : ByteArray) (k : Nat) (hk : 10 * s.size + 1 ≤ k) (hs : s.size ≤ 4611686018427387904) :
    sorrelref02_Sum.f k s = some ((crcM 0#32 s.data.toList).toNat : Int) := by
  unfold sorrelref02_Sum.f
  rw [rmore_is _ s k hk hs]
  rfl
theorem rsum_key (s : ByteArray) (k M : Nat) (hs : s.size ≤ M) (hM : M ≤ 1000000) (hk : 10 * M + 12 ≤ k) : sorrelref02_Sum.f k s = some ((sm (tx s) : Nat) : Int) ∧ sorrelref02_Sum.f k (s ++ (⟨#[35]⟩ : ByteArray)) = some ((sm (tx s ++ [35]) : Nat) : Int) := by
  have hz : (s ++ (⟨#[35]⟩ : ByteArray)).size = s.size + 1 := by rw [size_append]; rfl
  refine ⟨rsum_is s k (by omega) (by omega), ?_⟩
  rw [rsum_is _ k (by omega) (by omega), list_append]; rfl
theorem place_is (s : ByteArray) (n i k M : Nat) (hi : i < 6) (hn : 0 < n) (hs : s.size ≤ M) (hM : M ≤ 1000000) (hk : 10 * M + 12 ≤ k) : sorrelref08_place.f k s (i : Int) (n : Int) = some ((pl (tx s) n i : Nat) : Int) := by
  obtain ⟨h1, h2⟩ := rsum_key s k M hs hM hk
  unfold sorrelref08_place.f
  rw [h1, Option.bind_some, if_pos (by omega), h2, Option.bind_some, if_neg (by omega), or1 _ (sm_lt _), pl_int _ n i hi]
theorem rmake_l1 (ks : List ByteArray) (idx : Nat) (hi0 : idx < ks.length) (n M : Nat) (hn : 0 < n) (hm : n ≤ 1099511627776) (hM : M ≤ 1000000) (hs : (ks[idx]).size ≤ M) : ∀ (d i K : Nat) (xs : List Int), i + d = 6 → 10 * M + 12 ≤ K → n ≤ 8 * xs.length →
    sorrelref08_Make.l1 (K + d + 1) ks (n : Int) xs (idx : Int) (i : Int) = sorrelref08_Make.l0 K ks (n : Int) (keyFrom (tx ks[idx]) n d i xs) (wrap64 ((idx : Int) + 1)) := by
  intro d
  induction d with
  | zero =>
    intro i K xs h hk hx; simp only [sorrelref08_Make.l1]; rw [if_neg (by omega)]; rfl
  | succ d ih =>
    intro i K xs h hk hx; have hp := pl_lt (tx ks[idx]) n i hn
    rw [show K + (d + 1) + 1 = (K + d + 1) + 1 from by omega, sorrelref08_Make.l1, if_pos (by omega), if_pos (by omega), if_pos (by omega), rdS ks idx hi0, place_is _ n i (K + d + 1) M (by omega) hn hs hM (by omega), Option.bind_some,
      div8 _ (by omega), mod8, if_pos (by omega), if_pos (by omega), if_pos (by omega), w64 (n := (i : Int) + 1) (by omega) (by omega), Int.toNat_natCast]
    exact ih (i + 1) K (putp xs (pl (tx ks[idx]) n i)) (by omega) hk (by rw [putp_len]; exact hx)
theorem rmake_l0 (ks : List ByteArray) (n M : Nat) (hn : 0 < n) (hm : n ≤ 1099511627776) (hM : M ≤ 1000000) (hl : ks.length ≤ 4611686018427387904) (hs : ∀ t ∈ ks, t.size ≤ M) : ∀ (d i k : Nat) (xs : List Int), i + d = ks.length → n ≤ 8 * xs.length → 10 * M + 13 + 8 * d ≤ k →
    sorrelref08_Make.l0 k ks (n : Int) xs (i : Int) = some (strOfNums (keysP n (ks.drop i) xs), 0) := by
  intro d
  induction d with
  | zero =>
    intro i k xs h hx hk; obtain ⟨k, rfl⟩ : ∃ m, k = m + 1 := ⟨k - 1, by omega⟩; simp only [sorrelref08_Make.l0]; rw [if_neg (by omega), List.drop_eq_nil_of_le (by omega)]; rfl
  | succ d ih =>
    intro i k xs h hx hk; obtain ⟨k, rfl⟩ : ∃ m, k = (m + 6 + 1) + 1 := ⟨k - 8, by omega⟩; have hi : i < ks.length := by omega
    have e : ks.drop i = ks[i] :: ks.drop (i + 1) := (List.getElem_cons_drop hi).symm; rw [sorrelref08_Make.l0, if_pos (by omega)]; have := rmake_l1 ks i hi n M hn hm hM (hs _ (List.getElem_mem hi)) 6 0 k xs (by omega) (by omega) hx; rw [show ((0 : Nat) : Int) = 0 from rfl] at this; rw [this, w64 (by omega) (by omega), e]; exact ih (i + 1) k _ (by omega) (by rw [keyFrom_len]; exact hx) (by omega)
theorem rsize_is (x : Int) : sorrelref08_Size.f x = some ((8 * bytesN x.toNat : Nat) : Int) := by
  unfold sorrelref08_Size.f bytesN mx mn
  congr 1
  split <;> split <;> split <;> omega
theorem rmake_is (ks : List ByteArray) (k M : Nat) (hl : ks.length ≤ 4096) (hM : M ≤ 1000000) (hs : ∀ t ∈ ks, t.size ≤ M) (hk : 10 * M + 14 + 8 * ks.length ≤ k) :
    sorrelref08_Make.f k ks = some (strOfNums (keysP (8 * bytesN ks.length) ks (List.replicate (bytesN ks.length) 0)), 0) := by
  unfold sorrelref08_Make.f
  have hb : 8 ≤ bytesN ks.length ∧ bytesN ks.length ≤ 6000 := by unfold bytesN; omega
  rw [if_neg (by omega), rsize_is, Int.toNat_natCast, Option.bind_some, div8 _ (by omega), show 8 * bytesN ks.length / 8 = bytesN ks.length from by omega, if_pos (by omega), Int.toNat_natCast, if_pos (by omega)]
  exact rmake_l0 ks _ M (by omega) (by omega) hM (by omega) hs ks.length 0 k _ (by omega) (by rw [List.length_replicate]; omega) (by omega)
theorem rmake_bits (ks : List ByteArray) (k M : Nat) (hl : ks.length ≤ 4096) (hM : M ≤ 1000000) (hs : ∀ t ∈ ks, t.size ≤ M) (hk : 10 * M + 14 + 8 * ks.length ≤ k) : sorrelref08_Make.f k ks = some (bitsOf ks, 0) := by
  rw [rmake_is ks k M hl hM hs hk]
  have := make_is ks (10 * M + 14 + 8 * ks.length) M hl hM hs (by omega)
  rw [make_bits ks (10 * M + 14 + 8 * ks.length) M hl hM hs (by omega)] at this
  exact this.symm
theorem cmp_snoc (x : ByteArray) : ∀ (xs : List ByteArray) (y : ByteArray), cmpL (xs ++ [y] ++ [x]) = if y = x then cmpL (xs ++ [y]) else cmpL (xs ++ [y]) ++ [x] := by
  intro xs
  induction xs with
  | nil =>
    intro y
    by_cases c : y = x
    · rw [if_pos c, c]; simp [cmpL]
    · rw [if_neg c]; simp [cmpL, c]
  | cons a t ih =>
    intro y; have h := ih y
    cases t with
    | nil =>
      by_cases c : a = y
      · simp only [List.cons_append, List.nil_append, cmpL, if_pos c] at h ⊢; exact h
      · simp only [List.cons_append, List.nil_append, cmpL, if_neg c] at h ⊢; rw [h]; split <;> rfl
    | cons b t =>
      by_cases c : a = b
      · simp only [List.cons_append, cmpL, if_pos c] at h ⊢; exact h
      · simp only [List.cons_append, cmpL, if_neg c] at h ⊢; rw [h]; split <;> rfl
theorem rkeys_l0 (l : List S43) (hl : l.length ≤ 4096) : ∀ (n i k : Nat) (out : List ByteArray), i + n = l.length → n + 1 ≤ k → out = cmpL ((l.map (·.f0)).take i) → out.length ≤ i → sorrelref10_Keys.l0 k l out (i : Int) = some (cmpL (l.map (·.f0))) := by
  intro n
  induction n with
  | zero =>
    intro i k out h hk ho hle; obtain ⟨k, rfl⟩ : ∃ m, k = m + 1 := ⟨k - 1, by omega⟩; simp only [sorrelref10_Keys.l0]; rw [if_neg (by omega), ho, List.take_of_length_le (by rw [List.length_map]; omega)]
  | succ n ih =>
    intro i k out h hk ho hle; obtain ⟨k, rfl⟩ : ∃ m, k = m + 1 := ⟨k - 1, by omega⟩; have hi : i < l.length := by omega
    have hn : wrap64 ((i : Int) + 1) = ((i + 1 : Nat) : Int) := by rw [w64 (by omega) (by omega)]; rfl
    have hti : (l.map (·.f0)).take (i + 1) = (l.map (·.f0)).take i ++ [l[i].f0] := by
      rw [List.take_succ_eq_append_getElem (by rw [List.length_map]; exact hi), List.getElem_map]
    simp only [sorrelref10_Keys.l0]; rw [if_pos (by omega), rdT l i hi, hn]
    by_cases c0 : i = 0
    · subst c0; rw [if_pos (by omega), if_pos (by omega), if_pos (by omega)]; refine ih 1 k _ (by omega) (by omega) ?_ (by rw [List.length_append, List.length_singleton]; omega); rw [hti, ho, List.take_zero]; rfl
    · have hp : wrap64 ((i : Int) - 1) = ((i - 1 : Nat) : Int) := by rw [w64 (by omega) (by omega)]; omega
      have hpi : (l.map (·.f0)).take i = (l.map (·.f0)).take (i - 1) ++ [l[i - 1].f0] := by
        have e := List.take_succ_eq_append_getElem (l := l.map (·.f0)) (i := i - 1) (by rw [List.length_map]; omega); rw [show i - 1 + 1 = i from by omega, List.getElem_map] at e; exact e
      have hs := cmp_snoc l[i].f0 ((l.map (·.f0)).take (i - 1)) l[i - 1].f0; rw [← hpi, ← hti, ← ho] at hs; rw [if_neg (by omega), if_pos (by omega), hp, if_pos (by omega), if_pos (by omega), rdT l (i - 1) (by omega)]
      by_cases c : l[i - 1].f0 = l[i].f0
      · rw [if_pos c] at hs; rw [if_pos (toList_inj.2 c.symm)]; exact ih (i + 1) k _ (by omega) (by omega) hs.symm (by omega)
      · rw [if_neg c] at hs; rw [if_neg (fun e => c (toList_inj.1 e).symm), if_pos (by omega)]; exact ih (i + 1) k _ (by omega) (by omega) hs.symm (by rw [List.length_append, List.length_singleton]; omega)
theorem rkeys_is (l : List S43) (k : Nat) (hl : l.length ≤ 4096) (hk : 4098 ≤ k) : sorrelref10_Keys.f k l = some (keysL l) :=
  rkeys_l0 l hl l.length 0 k [] (by omega) (by omega) (by rw [List.take_zero]; rfl) (Nat.le_refl _)
end Go.Proofs.Ytlmoafkmhenejaa.VaRf
end
section
namespace Go.Proofs.Ytlmoafkmhenejaa.VLib
end Go.Proofs.Ytlmoafkmhenejaa.VLib
namespace Go.Proofs.Ytlmoafkmhenejaa.Bld
end Go.Proofs.Ytlmoafkmhenejaa.Bld
namespace Go.Proofs.YtlmoafkmhenejaaW.PrintWords
end Go.Proofs.YtlmoafkmhenejaaW.PrintWords
namespace Go.Proofs.YtlmoafkmhenejaaW.PrintLast
end Go.Proofs.YtlmoafkmhenejaaW.PrintLast
namespace Go.Proofs.YtlmoafkmhenejaaW.PrintMore
end Go.Proofs.YtlmoafkmhenejaaW.PrintMore
namespace Go.Proofs.Ytlmoafkmhenejaa.XW
end Go.Proofs.Ytlmoafkmhenejaa.XW
namespace Go.Proofs.Ytlmoafkmhenejaa.XA
open Go.Proofs.Ytlmoafkmhenejaa.VLib Go.Proofs.Ytlmoafkmhenejaa.Bld Go.RowKit Go.Proofs.YtlmoafkmhenejaaW.PrintWords Go.Proofs.YtlmoafkmhenejaaW.PrintLast Go.Proofs.YtlmoafkmhenejaaW.PrintMore Go.Proofs.Ytlmoafkmhenejaa.XW
set_option linter.unusedVariables false
set_option linter.unusedSimpArgs false
theorem rkeys_calls (A : Option Addr) (c : Nat) (m : List S43) (w : World) (hC : Kd.C k43 w A m.length m) (hc : m.length ≤ c) (hm : OkB m) :
    Calls Try.prog 28 #[.slice A m.length c] w fun e w' => ∃ v, e = .returned v ∧ Kd.R Kd.string 9 w' w.heap.size (fun _ => True) v (keysL m) ∧ Below w.heap.size w w' :=
  sorrelref10_Keys.calls 5000 A c m _ w hC hc (VaRf.rkeys_is m 5000 hm.len (by omega))
theorem rmake_calls (A : Option Addr) (c : Nat) (m : List S43) (w : World) (hC : Kd.C Kd.string w A (keysL m).length (keysL m)) (hc : (keysL m).length ≤ c) (hm : OkB m) :
    Calls Try.prog 27 #[.slice A (keysL m).length c] w fun e w' => e = .returned (.tuple #[.string (VaTb.bitsT m), .int .i64 0]) ∧ Below w.heap.size w w' := by
  refine sorrelref08_Make.calls 80000 A c (keysL m) _ _ w hC hc ?_
  have h1 := VaTb.keys_len m
  have h2 := hm.len
  exact VaRf.rmake_bits (keysL m) 80000 64 (by omega) (by omega) (fun t ht => by
    obtain ⟨e, he, rfl⟩ := (VaTb.keys_mem m t).1 ht; exact (hm.may e he).2) (by omega)
end Go.Proofs.Ytlmoafkmhenejaa.XA
end
section
namespace Go.Proofs.Ytlmoafkmhenejaa.XA
end Go.Proofs.Ytlmoafkmhenejaa.XA
namespace Go.Proofs.Ytlmoafkmhenejaa.VLib
end Go.Proofs.Ytlmoafkmhenejaa.VLib
namespace Go.Proofs.Ytlmoafkmhenejaa.CLib
end Go.Proofs.Ytlmoafkmhenejaa.CLib
namespace Go.Proofs.Ytlmoafkmhenejaa.XW
end Go.Proofs.Ytlmoafkmhenejaa.XW
namespace Go.Proofs.Ytlmoafkmhenejaa.VaB1
end Go.Proofs.Ytlmoafkmhenejaa.VaB1
namespace Go.Proofs.Ytlmoafkmhenejaa.VaChk
end Go.Proofs.Ytlmoafkmhenejaa.VaChk
namespace Go.Proofs.Ytlmoafkmhenejaa.VaPut
end Go.Proofs.Ytlmoafkmhenejaa.VaPut
namespace Go.Proofs.Ytlmoafkmhenejaa.VaB2
end Go.Proofs.Ytlmoafkmhenejaa.VaB2
namespace Go.Proofs.YtlmoafkmhenejaaW.PrintWords
end Go.Proofs.YtlmoafkmhenejaaW.PrintWords
namespace Go.Proofs.YtlmoafkmhenejaaW.PrintLast
end Go.Proofs.YtlmoafkmhenejaaW.PrintLast
namespace Go.Proofs.YtlmoafkmhenejaaW.PrintMore
end Go.Proofs.YtlmoafkmhenejaaW.PrintMore
namespace Go.Proofs.Ytlmoafkmhenejaa.VaRPut
open Go.RowKit Go.Proofs.Ytlmoafkmhenejaa.XA Go.Proofs.Ytlmoafkmhenejaa.VLib Go.Proofs.Ytlmoafkmhenejaa.CLib Go.Proofs.Ytlmoafkmhenejaa.XW Go.Proofs.Ytlmoafkmhenejaa.VaB1 Go.Proofs.Ytlmoafkmhenejaa.VaChk Go.Proofs.Ytlmoafkmhenejaa.VaPut Go.Proofs.Ytlmoafkmhenejaa.VaB2 Go.Proofs.YtlmoafkmhenejaaW.PrintWords Go.Proofs.YtlmoafkmhenejaaW.PrintLast Go.Proofs.YtlmoafkmhenejaaW.PrintMore
def nat8 (l : List UInt8) : List Int := List.map (fun (b : UInt8) => ((b.toNat : Nat) : Int)) l
theorem nat8_app (a b : List UInt8) : nat8 (a ++ b) = nat8 a ++ nat8 b := List.map_append
theorem nat8_len (a : List UInt8) : (nat8 a).length = a.length := List.length_map _
theorem nat8_bs (a : List UInt8) : bytesOf (bs a) = nat8 a := rfl
theorem nat8_text (l : List UInt8) : strOfNums (nat8 l) = bs l := by
  rw [nums_bs]; unfold nat8
  rw [List.map_map]
  refine congrArg bs ((List.map_congr_left (fun b _ => ?_)).trans (List.map_id l))
  show UInt8.ofNat (((b.toNat : Nat) : Int).toNat) = b
  rw [Int.toNat_natCast, u8_eta]
theorem rnum_ok (n k : Nat) (h : n ≤ 4611686018427387904) (hk : 11 ≤ k) : sorrelref09_number.f k (n : Int) = some (bs (enc n)) := by
  unfold sorrelref09_number.f; rw [rput_ok n k h hk]; rfl
theorem rtxt_ok (s : ByteArray) (k : Nat) (h : s.size ≤ 262144) (hk : 11 ≤ k) : sorrelref09_text.f k s = some (bs (enc s.data.toList.length ++ s.data.toList)) := by
  unfold sorrelref09_text.f; rw [rtext_ok s k h hk]; rfl
theorem rbput_l0 (l : List S43) (hm : ∀ e ∈ l, MayE e) (hl : l.length ≤ 4096) : ∀ (n i k : Nat) (acc : List UInt8) (last : ByteArray), i + n = l.length → last.size ≤ 64 → acc.length ≤ 400 * i + 9 → 10 * (400 * l.length + 9) + n + 400 ≤ k →
    sorrelref09_Put.l0 k l (nat8 acc) last (i : Int) = some (bs (sealL (acc ++ bodyL last.data.toList (l.drop i))), 0) := by
  intro n
  induction n with
  | zero =>
    intro i k acc last h hz hb hk; obtain ⟨k, rfl⟩ : ∃ m, k = m + 1 := ⟨k - 1, by omega⟩; simp only [sorrelref09_Put.l0]; rw [if_neg (by omega), List.drop_eq_nil_of_le (by omega), nat8_text, rseal_is _ k (by rw [bs_size]; omega) (by rw [bs_size]; omega)]; simp only [Option.bind_some, bodyL, List.append_nil]; rfl
  | succ n ih =>
    intro i k acc last h hz hb hk; obtain ⟨k, rfl⟩ : ∃ m, k = m + 1 := ⟨k - 1, by omega⟩; have hi : i < l.length := by omega
    obtain ⟨m1, m2, m3, m4, m5, m6⟩ := hm l[i] (List.getElem_mem hi); have hle := entL_le last.data.toList l[i] (hm l[i] (List.getElem_mem hi)); have hk0 : (kL l[i]).length = (l[i]).f0.size := len_list _; have hcl := lcp_le last.data.toList (kL l[i]); have hdl : ((kL l[i]).drop (lcp last.data.toList (kL l[i]))).length = (kL l[i]).length - lcp last.data.toList (kL l[i]) := List.length_drop; have e0 : l.drop i = l[i] :: l.drop (i + 1) := (List.getElem_cons_drop hi).symm; have hxd : ((l[i]).f0.extract (lcp last.data.toList (kL l[i])) (l[i]).f0.size).data.toList = (kL l[i]).drop (lcp last.data.toList (kL l[i])) := ext_drop _ _; have hxs : ((l[i]).f0.extract (lcp last.data.toList (kL l[i])) (l[i]).f0.size).size ≤ 64 := by rw [← len_list, hxd]; omega
    have hn1 : lcp last.data.toList (kL l[i]) ≤ 4611686018427387904 := by omega
    have s1 : (enc (lcp last.data.toList (kL l[i]))).length ≤ 9 := enc9 hn1; have s2 : (enc ((kL l[i]).drop (lcp last.data.toList (kL l[i]))).length).length ≤ 9 := enc9 (by omega); simp only [sorrelref09_Put.l0]; rw [if_pos (by omega), if_pos (by omega), rdT l i hi, rcom_is last (l[i]).f0 k (by omega) (by omega)]; simp only [Option.bind_some]; rw [show (l[i]).f0.data.toList = kL l[i] from rfl, rnum_ok _ k hn1 (by omega)]; simp only [Option.bind_some]; rw [if_pos (by rw [nat8_len, bs_size]; omega), if_pos (by omega), if_pos (by omega), Int.toNat_natCast, rtxt_ok _ k (by omega) (by omega)]; simp only [Option.bind_some]; rw [hxd, nat8_bs, ← nat8_app, if_pos (by rw [nat8_len, bs_size, List.length_append, List.length_append]; omega), nat8_bs, ← nat8_app]
    by_cases hg : (l[i]).f2 = true
    · have s3 : (enc (2 * (l[i]).f3.toNat + 1)).length ≤ 9 := enc9 (by omega); rw [if_pos hg, w64 (n := 2 * (l[i]).f3) (by omega) (by omega), w64 (n := 2 * (l[i]).f3 + 1) (by omega) (by omega), show 2 * (l[i]).f3 + 1 = ((2 * (l[i]).f3.toNat + 1 : Nat) : Int) from by omega, rnum_ok _ k (by omega) (by omega)]; simp only [Option.bind_some]; rw [if_pos (by rw [nat8_len, bs_size]; simp only [List.length_append]; omega), nat8_bs, ← nat8_app, w64 (by omega) (by omega), show (i : Int) + 1 = ((i + 1 : Nat) : Int) from by omega]; have hel : entL last.data.toList l[i] = enc (lcp last.data.toList (kL l[i])) ++ ((enc ((kL l[i]).drop (lcp last.data.toList (kL l[i]))).length ++ (kL l[i]).drop (lcp last.data.toList (kL l[i]))) ++ enc (2 * (l[i]).f3.toNat + 1)) := by unfold entL txtL; rw [if_pos hg]
      rw [ih (i + 1) k _ _ (by omega) m2 (by rw [hel] at hle; simp only [List.length_append] at hle ⊢; omega) (by omega), e0, bodyL, hel]; simp only [List.append_assoc]; rfl
    · have s3 : (enc (2 * (l[i]).f3.toNat)).length ≤ 9 := enc9 (by omega); have hv0 : (l[i]).f1.data.toList.length = (l[i]).f1.size := len_list _; have s4 : (enc (l[i]).f1.data.toList.length).length ≤ 9 := enc9 (by omega); rw [if_neg hg, w64 (n := 2 * (l[i]).f3) (by omega) (by omega), show 2 * (l[i]).f3 = ((2 * (l[i]).f3.toNat : Nat) : Int) from by omega, rnum_ok _ k (by omega) (by omega)]; simp only [Option.bind_some]; rw [if_pos (by rw [nat8_len, bs_size]; simp only [List.length_append]; omega), nat8_bs, ← nat8_app, rtxt_ok _ k (by omega) (by omega)]; simp only [Option.bind_some]; rw [if_pos (by rw [nat8_len, bs_size]; simp only [List.length_append]; omega), nat8_bs, ← nat8_app, w64 (by omega) (by omega), show (i : Int) + 1 = ((i + 1 : Nat) : Int) from by omega]; have hel : entL last.data.toList l[i] = enc (lcp last.data.toList (kL l[i])) ++ ((enc ((kL l[i]).drop (lcp last.data.toList (kL l[i]))).length ++ (kL l[i]).drop (lcp last.data.toList (kL l[i]))) ++ (enc (2 * (l[i]).f3.toNat) ++ (enc (l[i]).f1.data.toList.length ++ (l[i]).f1.data.toList))) := by unfold entL txtL; rw [if_neg hg]; rfl
      rw [ih (i + 1) k _ _ (by omega) m2 (by rw [hel] at hle; simp only [List.length_append] at hle ⊢; omega) (by omega), e0, bodyL, hel]; simp only [List.append_assoc]; rfl
theorem rbput_ok (l : List S43) (k : Nat) (h : okB l = true) (hk : 4000 * l.length + 9000 ≤ k) : sorrelref09_Put.f k l = some (bs (putL l), 0) := by
  obtain ⟨h1, h2⟩ := (okB_iff l).1 h
  have s1 : (enc l.length).length ≤ 9 := enc9 (by omega)
  unfold sorrelref09_Put.f
  rw [rcheck_is_ l k (by omega), Option.bind_some, h, if_pos rfl, if_pos rfl, rnum_ok _ k (by omega) (by omega)]
  simp only [Option.bind_some]
  rw [if_pos (by rw [bs_size]; simp only [List.length_nil]; omega), List.nil_append, nat8_bs]
  have := rbput_l0 l (ok_may l none h2) h1 l.length 0 k (enc l.length) (⟨#[]⟩ : ByteArray) (by omega) (by decide) (by omega) (by omega)
  rw [List.drop_zero] at this
  exact this
end Go.Proofs.Ytlmoafkmhenejaa.VaRPut
end
