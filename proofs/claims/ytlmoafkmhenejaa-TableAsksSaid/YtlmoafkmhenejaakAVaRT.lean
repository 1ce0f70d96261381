import Derived.Test.YtlmoafkmhenejaakAXAx2
import Derived.Test.YtlmoafkmhenejaakAXAx3
import Derived.Test.YtlmoafkmhenejaakAXAx4
import Derived.Test.YtlmoafkmhenejaakAXAx5
import Derived.Test.YtlmoafkmhenejaakAXAx6
import Derived.Test.YtlmoafkmhenejaakAXAx7
import Derived.Test.YtlmoafkmhenejaakAXAx8
import Derived.Test.YtlmoafkmhenejaakAXAx9
import Derived.Test.YtlmoafkmhenejaakAXAx10
import Derived.Test.YtlmoafkmhenejaakABld
import Derived.Test.YtlmoafkmhenejaakAXAx12
import Derived.Test.YtlmoafkmhenejaakAXAx13
import Derived.Test.YtlmoafkmhenejaakAXAx15
import Derived.Test.YtlmoafkmhenejaakAVLib
import Derived.Test.YtlmoafkmhenejaakACLib
import Derived.Test.YtlmoafkmhenejaakAOpn
import Derived.Test.YtlmoafkmhenejaakAVaB1
import Derived.Test.YtlmoafkmhenejaakAVaBl
section
namespace Go.Proofs.Ytlmoafkmhenejaa.XA
end Go.Proofs.Ytlmoafkmhenejaa.XA
namespace Go.Proofs.Ytlmoafkmhenejaa.VLib
end Go.Proofs.Ytlmoafkmhenejaa.VLib
namespace Go.Proofs.Ytlmoafkmhenejaa.CLib
end Go.Proofs.Ytlmoafkmhenejaa.CLib
namespace Go.Proofs.Ytlmoafkmhenejaa.XW
end Go.Proofs.Ytlmoafkmhenejaa.XW
namespace Go.Proofs.Ytlmoafkmhenejaa.VaB1
end Go.Proofs.Ytlmoafkmhenejaa.VaB1
namespace Go.Proofs.Ytlmoafkmhenejaa.VaB2
end Go.Proofs.Ytlmoafkmhenejaa.VaB2
namespace Go.Proofs.Ytlmoafkmhenejaa.VaB3
end Go.Proofs.Ytlmoafkmhenejaa.VaB3
namespace Go.Proofs.Ytlmoafkmhenejaa.VaChk
end Go.Proofs.Ytlmoafkmhenejaa.VaChk
namespace Go.Proofs.Ytlmoafkmhenejaa.VaPut
end Go.Proofs.Ytlmoafkmhenejaa.VaPut
namespace Go.Proofs.YtlmoafkmhenejaaW.PrintWords
end Go.Proofs.YtlmoafkmhenejaaW.PrintWords
namespace Go.Proofs.YtlmoafkmhenejaaW.PrintLast
end Go.Proofs.YtlmoafkmhenejaaW.PrintLast
namespace Go.Proofs.YtlmoafkmhenejaaW.PrintMore
end Go.Proofs.YtlmoafkmhenejaaW.PrintMore
namespace Go.Proofs.Ytlmoafkmhenejaa.VaRT
open Go.RowKit Go.Proofs.Ytlmoafkmhenejaa.XA Go.Proofs.Ytlmoafkmhenejaa.VLib Go.Proofs.Ytlmoafkmhenejaa.CLib Go.Proofs.Ytlmoafkmhenejaa.XW Go.Proofs.Ytlmoafkmhenejaa.VaB1 Go.Proofs.Ytlmoafkmhenejaa.VaB2 Go.Proofs.Ytlmoafkmhenejaa.VaB3 Go.Proofs.Ytlmoafkmhenejaa.VaChk Go.Proofs.Ytlmoafkmhenejaa.VaPut Go.Proofs.YtlmoafkmhenejaaW.PrintWords Go.Proofs.YtlmoafkmhenejaaW.PrintLast Go.Proofs.YtlmoafkmhenejaaW.PrintMore
def oneL (last s : List UInt8) : Option (S43 × Nat) :=
  if (takeN s).2.2 = 0 ∧ (takeN s).1 ≤ last.length then
    (if (takeX (s.drop (takeN s).2.1)).2.2 = 0 then
      (if (takeN (s.drop ((takeN s).2.1 + (takeX (s.drop (takeN s).2.1)).2.1))).2.2 = 0 ∧ lcp last (last.take (takeN s).1 ++ (takeX (s.drop (takeN s).2.1)).1) = (takeN s).1 then
        (if (takeN (s.drop ((takeN s).2.1 + (takeX (s.drop (takeN s).2.1)).2.1))).1 % 2 = 1 then
          some (⟨bs (last.take (takeN s).1 ++ (takeX (s.drop (takeN s).2.1)).1), bs [], true, (((takeN (s.drop ((takeN s).2.1 + (takeX (s.drop (takeN s).2.1)).2.1))).1 / 2 : Nat) : Int)⟩, (takeN s).2.1 + (takeX (s.drop (takeN s).2.1)).2.1 + (takeN (s.drop ((takeN s).2.1 + (takeX (s.drop (takeN s).2.1)).2.1))).2.1)
        else
          (if (takeX (s.drop ((takeN s).2.1 + (takeX (s.drop (takeN s).2.1)).2.1 + (takeN (s.drop ((takeN s).2.1 + (takeX (s.drop (takeN s).2.1)).2.1))).2.1))).2.2 = 0 then
            some (⟨bs (last.take (takeN s).1 ++ (takeX (s.drop (takeN s).2.1)).1), bs (takeX (s.drop ((takeN s).2.1 + (takeX (s.drop (takeN s).2.1)).2.1 + (takeN (s.drop ((takeN s).2.1 + (takeX (s.drop (takeN s).2.1)).2.1))).2.1))).1, false, (((takeN (s.drop ((takeN s).2.1 + (takeX (s.drop (takeN s).2.1)).2.1))).1 / 2 : Nat) : Int)⟩,
              (takeN s).2.1 + (takeX (s.drop (takeN s).2.1)).2.1 + (takeN (s.drop ((takeN s).2.1 + (takeX (s.drop (takeN s).2.1)).2.1))).2.1 + (takeX (s.drop ((takeN s).2.1 + (takeX (s.drop (takeN s).2.1)).2.1 + (takeN (s.drop ((takeN s).2.1 + (takeX (s.drop (takeN s).2.1)).2.1))).2.1))).2.1)
          else none))
      else none)
    else none)
  else none
inductive One (last s : List UInt8) : Option (S43 × Nat) → Prop where
  | n (a : Nat) (e : Nat) (n : Nat) : takeN s = (n, a, e) → (e ≠ 0 ∨ last.length < n) → One last s none
  | t (n a : Nat) (t : List UInt8) (b f : Nat) : takeN s = (n, a, 0) → n ≤ last.length → takeX (s.drop a) = (t, b, f) → f ≠ 0 → One last s none
  | q (n a : Nat) (t : List UInt8) (b q c g : Nat) : takeN s = (n, a, 0) → n ≤ last.length → takeX (s.drop a) = (t, b, 0) → takeN (s.drop (a + b)) = (q, c, g) → (g ≠ 0 ∨ lcp last (last.take n ++ t) ≠ n) → One last s none
  | gone (n a : Nat) (t : List UInt8) (b q c : Nat) : takeN s = (n, a, 0) → n ≤ last.length → takeX (s.drop a) = (t, b, 0) → takeN (s.drop (a + b)) = (q, c, 0) → lcp last (last.take n ++ t) = n → q % 2 = 1 → One last s (some (⟨bs (last.take n ++ t), bs [], true, ((q / 2 : Nat) : Int)⟩, a + b + c))
  | v (n a : Nat) (t : List UInt8) (b q c : Nat) (v : List UInt8) (d h : Nat) : takeN s = (n, a, 0) → n ≤ last.length → takeX (s.drop a) = (t, b, 0) → takeN (s.drop (a + b)) = (q, c, 0) → lcp last (last.take n ++ t) = n → q % 2 ≠ 1 → takeX (s.drop (a + b + c)) = (v, d, h) → h ≠ 0 → One last s none
  | all (n a : Nat) (t : List UInt8) (b q c : Nat) (v : List UInt8) (d : Nat) : takeN s = (n, a, 0) → n ≤ last.length → takeX (s.drop a) = (t, b, 0) → takeN (s.drop (a + b)) = (q, c, 0) → lcp last (last.take n ++ t) = n → q % 2 ≠ 1 → takeX (s.drop (a + b + c)) = (v, d, 0) → One last s (some (⟨bs (last.take n ++ t), bs v, false, ((q / 2 : Nat) : Int)⟩, a + b + c + d))
theorem one_ways (last s : List UInt8) : One last s (oneL last s) := by
  rcases h1 : takeN s with ⟨n, a, e⟩
  rcases h2 : takeX (s.drop a) with ⟨t, b, f⟩
  rcases h3 : takeN (s.drop (a + b)) with ⟨q, c, g⟩
  rcases h4 : takeX (s.drop (a + b + c)) with ⟨v, d, h⟩
  unfold oneL
  rw [h1]; dsimp only; rw [h2]; dsimp only; rw [h3]; dsimp only; rw [h4]; dsimp only
  by_cases c1 : e = 0 ∧ n ≤ last.length
  · rw [if_pos c1]; obtain ⟨rfl, c1⟩ := c1
    by_cases c2 : f = 0
    · rw [if_pos c2]; subst c2
      by_cases c3 : g = 0 ∧ lcp last (last.take n ++ t) = n
      · rw [if_pos c3]; obtain ⟨rfl, c3⟩ := c3
        by_cases c4 : q % 2 = 1
        · rw [if_pos c4]; exact One.gone n a t b q c h1 c1 h2 h3 c3 c4
        · rw [if_neg c4]
          by_cases c5 : h = 0
          · rw [if_pos c5]; subst c5; exact One.all n a t b q c v d h1 c1 h2 h3 c3 c4 h4
          · rw [if_neg c5]; exact One.v n a t b q c v d h h1 c1 h2 h3 c3 c4 h4 c5
      · rw [if_neg c3]
        by_cases x : g = 0
        · exact One.q n a t b q c g h1 c1 h2 h3 (.inr (fun y => c3 ⟨x, y⟩))
        · exact One.q n a t b q c g h1 c1 h2 h3 (.inl x)
    · rw [if_neg c2]; exact One.t n a t b f h1 c1 h2 c2
  · rw [if_neg c1]
    by_cases x : e = 0
    · have y : ¬ n ≤ last.length := fun y => c1 ⟨x, y⟩
      exact One.n a e n h1 (.inr (by omega))
    · exact One.n a e n h1 (.inl x)
def entsL : Nat → List UInt8 → List UInt8 → Option (List S43 × Nat)
  | 0, _, _ => some ([], 0)
  | n + 1, last, s => (oneL last s).bind fun x => (entsL n (kL x.1) (s.drop x.2)).bind fun y => some (x.1 :: y.1, x.2 + y.2)
def blkT (s : List UInt8) : Option (List S43) :=
  if chk s = true ∧ (takeN (s.take (s.length - 4))).2.2 = 0 ∧ (takeN (s.take (s.length - 4))).1 ≤ 4096 then
    ((entsL (takeN (s.take (s.length - 4))).1 [] ((s.take (s.length - 4)).drop (takeN (s.take (s.length - 4))).2.1)).bind fun y =>
      if (takeN (s.take (s.length - 4))).2.1 + y.2 = (s.take (s.length - 4)).length ∧ okB y.1 = true then some y.1 else none)
  else none
def outB (r : Option (List S43)) : List S43 × Int := match r with | some l => (l, 0) | none => ([], 90)
theorem takeN_le (l : List UInt8) : (takeN l).2.1 ≤ l.length ∧ (takeN l).1 ≤ 4611686018427387904 := by
  by_cases h : (takeN l).2.2 = 0
  · obtain ⟨h1, h2, h3, h4, h5⟩ := takeN_back l (takeN l).1 (takeN l).2.1 (by rw [← h]); exact ⟨h1, h5⟩
  · have := takeN_err l h; rw [this]; simp
theorem takeX_le (l : List UInt8) : (takeX l).2.1 ≤ l.length ∧ (takeX l).1.length ≤ 262144 := by
  by_cases h : (takeX l).2.2 = 0
  · obtain ⟨h1, h2, h3, h4⟩ := takeX_back l (takeX l).1 (takeX l).2.1 (by rw [← h]); exact ⟨h1, h2⟩
  · have := takeX_err l h; rw [this]; simp
theorem key_form (last : ByteArray) (n : Nat) (t : List UInt8) : last.extract 0 n ++ bs t = bs (last.data.toList.take n ++ t) :=
  ext_list (by rw [list_append, extract_list, List.drop_zero, bs_list, bs_list])
theorem key_form_size (last : ByteArray) (n : Nat) : (last.extract 0 n).size ≤ last.size := by
  rw [← len_list, extract_list, List.drop_zero, List.length_take, len_list]; omega
end Go.Proofs.Ytlmoafkmhenejaa.VaRT
end
section
namespace Go.Proofs.Ytlmoafkmhenejaa.XA
end Go.Proofs.Ytlmoafkmhenejaa.XA
namespace Go.Proofs.Ytlmoafkmhenejaa.VLib
end Go.Proofs.Ytlmoafkmhenejaa.VLib
namespace Go.Proofs.Ytlmoafkmhenejaa.CLib
end Go.Proofs.Ytlmoafkmhenejaa.CLib
namespace Go.Proofs.Ytlmoafkmhenejaa.XW
end Go.Proofs.Ytlmoafkmhenejaa.XW
namespace Go.Proofs.Ytlmoafkmhenejaa.VaB1
end Go.Proofs.Ytlmoafkmhenejaa.VaB1
namespace Go.Proofs.Ytlmoafkmhenejaa.VaB2
end Go.Proofs.Ytlmoafkmhenejaa.VaB2
namespace Go.Proofs.Ytlmoafkmhenejaa.VaB3
end Go.Proofs.Ytlmoafkmhenejaa.VaB3
namespace Go.Proofs.Ytlmoafkmhenejaa.VaChk
end Go.Proofs.Ytlmoafkmhenejaa.VaChk
namespace Go.Proofs.Ytlmoafkmhenejaa.VaPut
end Go.Proofs.Ytlmoafkmhenejaa.VaPut
namespace Go.Proofs.Ytlmoafkmhenejaa.VaRT
end Go.Proofs.Ytlmoafkmhenejaa.VaRT
namespace Go.Proofs.YtlmoafkmhenejaaW.PrintWords
end Go.Proofs.YtlmoafkmhenejaaW.PrintWords
namespace Go.Proofs.YtlmoafkmhenejaaW.PrintLast
end Go.Proofs.YtlmoafkmhenejaaW.PrintLast
namespace Go.Proofs.YtlmoafkmhenejaaW.PrintMore
end Go.Proofs.YtlmoafkmhenejaaW.PrintMore
namespace Go.Proofs.Ytlmoafkmhenejaa.VaRT2
open Go.RowKit Go.Proofs.Ytlmoafkmhenejaa.XA Go.Proofs.Ytlmoafkmhenejaa.VLib Go.Proofs.Ytlmoafkmhenejaa.CLib Go.Proofs.Ytlmoafkmhenejaa.XW Go.Proofs.Ytlmoafkmhenejaa.VaB1 Go.Proofs.Ytlmoafkmhenejaa.VaB2 Go.Proofs.Ytlmoafkmhenejaa.VaB3 Go.Proofs.Ytlmoafkmhenejaa.VaChk Go.Proofs.Ytlmoafkmhenejaa.VaPut Go.Proofs.Ytlmoafkmhenejaa.VaRT Go.Proofs.YtlmoafkmhenejaaW.PrintWords Go.Proofs.YtlmoafkmhenejaaW.PrintLast Go.Proofs.YtlmoafkmhenejaaW.PrintMore
theorem one_len (last s : List UInt8) (e : S43) (m : Nat) (h : oneL last s = some (e, m)) : (kL e).length ≤ last.length + m ∧ m ≤ s.length := by
  have hw := one_ways last s
  rw [h] at hw
  have tn := fun l => takeN_le l
  have tb : ∀ (l t : List UInt8) (b : Nat), takeX l = (t, b, 0) → t.length ≤ b ∧ b ≤ l.length := fun l t b e => by
    obtain ⟨h1, h2, h3, h4⟩ := takeX_back l t b e; have := congrArg List.length h3; rw [List.length_append, List.length_take] at this
    omega
  generalize ho : some (e, m) = o at hw
  cases hw with
  | n => cases ho
  | t => cases ho
  | q => cases ho
  | v => cases ho
  | gone n a t b q c h1 h2 h3 h4 h5 h6 =>
    obtain ⟨rfl, rfl⟩ := Prod.mk.inj (Option.some.inj ho); obtain ⟨b1, b2⟩ := tb _ _ _ h3; have n1 := tn s; have n2 := tn (s.drop (a + b)); rw [h1] at n1; rw [h4] at n2; dsimp only at n1 n2; rw [List.length_drop] at b2 n2; refine ⟨?_, by omega⟩
    show (last.take n ++ t).length ≤ _
    rw [List.length_append, List.length_take]; omega
  | all n a t b q c v d h1 h2 h3 h4 h5 h6 h7 =>
    obtain ⟨rfl, rfl⟩ := Prod.mk.inj (Option.some.inj ho); obtain ⟨b1, b2⟩ := tb _ _ _ h3; obtain ⟨b3, b4⟩ := tb _ _ _ h7; have n1 := tn s; have n2 := tn (s.drop (a + b)); rw [h1] at n1; rw [h4] at n2; dsimp only at n1 n2; rw [List.length_drop] at b2 n2 b4; refine ⟨?_, by omega⟩
    show (last.take n ++ t).length ≤ _
    rw [List.length_append, List.length_take]; omega
def endB (out : List S43) (left : Nat) (y : Option (List S43 × Nat)) : Option (List S43) := y.bind fun y => if y.2 = left ∧ okB (out ++ y.1) = true then some (out ++ y.1) else none
theorem endB_step (out : List S43) (left : Nat) (n : Nat) (last s : List UInt8) (e : S43) (m : Nat) (h : oneL last s = some (e, m)) (hm : m ≤ left) :
    endB out left (entsL (n + 1) last s) = endB (out ++ [e]) (left - m) (entsL n (kL e) (s.drop m)) := by
  unfold endB
  simp only [entsL]
  rw [h, Option.bind_some]
  cases hy : entsL n (kL e) (s.drop m) with
  | none => rfl
  | some y =>
    simp only [Option.bind_some, List.append_assoc, List.cons_append, List.nil_append]
    by_cases c : y.2 = left - m ∧ okB (out ++ e :: y.1) = true
    · rw [if_pos c, if_pos ⟨by omega, c.2⟩]
    · rw [if_neg c, if_neg (fun x => c ⟨by omega, x.2⟩)]
theorem endB_none (out : List S43) (left : Nat) (n : Nat) (last s : List UInt8) (h : oneL last s = none) : endB out left (entsL (n + 1) last s) = none := by
  unfold endB
  simp only [entsL]
  rw [h]; rfl
theorem blkT_end (s : List UInt8) : blkT s = if chk s = true ∧ (takeN (s.take (s.length - 4))).2.2 = 0 ∧ (takeN (s.take (s.length - 4))).1 ≤ 4096 then
    endB [] ((s.take (s.length - 4)).length - (takeN (s.take (s.length - 4))).2.1) (entsL (takeN (s.take (s.length - 4))).1 [] ((s.take (s.length - 4)).drop (takeN (s.take (s.length - 4))).2.1)) else none := by
  have hn := (takeN_le (s.take (s.length - 4))).1
  unfold blkT endB
  by_cases c : chk s = true ∧ (takeN (s.take (s.length - 4))).2.2 = 0 ∧ (takeN (s.take (s.length - 4))).1 ≤ 4096
  · rw [if_pos c, if_pos c]
    cases entsL (takeN (s.take (s.length - 4))).1 [] ((s.take (s.length - 4)).drop (takeN (s.take (s.length - 4))).2.1) with
    | none => rfl
    | some y =>
      simp only [Option.bind_some, List.nil_append]
      by_cases d : y.2 = (s.take (s.length - 4)).length - (takeN (s.take (s.length - 4))).2.1 ∧ okB y.1 = true
      · rw [if_pos d, if_pos ⟨by omega, d.2⟩]
      · rw [if_neg d, if_neg (fun x => d ⟨by omega, x.2⟩)]
  · rw [if_neg c, if_neg c]
theorem chk_len (s : List UInt8) (h : chk s = true) : 4 ≤ s.length := by
  unfold chk at h
  rw [Bool.and_eq_true, decide_eq_true_eq] at h
  exact h.1
end Go.Proofs.Ytlmoafkmhenejaa.VaRT2
end
section
namespace Go.Proofs.Ytlmoafkmhenejaa.XA
end Go.Proofs.Ytlmoafkmhenejaa.XA
namespace Go.Proofs.Ytlmoafkmhenejaa.VLib
end Go.Proofs.Ytlmoafkmhenejaa.VLib
namespace Go.Proofs.Ytlmoafkmhenejaa.CLib
end Go.Proofs.Ytlmoafkmhenejaa.CLib
namespace Go.Proofs.Ytlmoafkmhenejaa.XW
end Go.Proofs.Ytlmoafkmhenejaa.XW
namespace Go.Proofs.Ytlmoafkmhenejaa.VaB1
end Go.Proofs.Ytlmoafkmhenejaa.VaB1
namespace Go.Proofs.Ytlmoafkmhenejaa.VaChk
end Go.Proofs.Ytlmoafkmhenejaa.VaChk
namespace Go.Proofs.Ytlmoafkmhenejaa.VaPut
end Go.Proofs.Ytlmoafkmhenejaa.VaPut
namespace Go.Proofs.Ytlmoafkmhenejaa.VaRT
end Go.Proofs.Ytlmoafkmhenejaa.VaRT
namespace Go.Proofs.Ytlmoafkmhenejaa.VaRT2
end Go.Proofs.Ytlmoafkmhenejaa.VaRT2
namespace Go.Proofs.YtlmoafkmhenejaaW.PrintWords
end Go.Proofs.YtlmoafkmhenejaaW.PrintWords
namespace Go.Proofs.YtlmoafkmhenejaaW.PrintLast
end Go.Proofs.YtlmoafkmhenejaaW.PrintLast
namespace Go.Proofs.YtlmoafkmhenejaaW.PrintMore
end Go.Proofs.YtlmoafkmhenejaaW.PrintMore
namespace Go.Proofs.Ytlmoafkmhenejaa.VaPT
open Go.RowKit Go.Proofs.Ytlmoafkmhenejaa.XA Go.Proofs.Ytlmoafkmhenejaa.VLib Go.Proofs.Ytlmoafkmhenejaa.CLib Go.Proofs.Ytlmoafkmhenejaa.XW Go.Proofs.Ytlmoafkmhenejaa.VaB1 Go.Proofs.Ytlmoafkmhenejaa.VaChk Go.Proofs.Ytlmoafkmhenejaa.VaPut Go.Proofs.Ytlmoafkmhenejaa.VaRT Go.Proofs.Ytlmoafkmhenejaa.VaRT2 Go.Proofs.YtlmoafkmhenejaaW.PrintWords Go.Proofs.YtlmoafkmhenejaaW.PrintLast Go.Proofs.YtlmoafkmhenejaaW.PrintMore
theorem bnum (s : ByteArray) (ok : Bool) (k : Nat) (hk : 10 ≤ k) : ∃ S : ByteArray, block_reader_number.f k s ok = some ((((takeN s.data.toList).1 : Nat) : Int), S, ok && decide ((takeN s.data.toList).2.2 = 0)) ∧ S.data.toList = s.data.toList.drop (takeN s.data.toList).2.1 := by
  have h := (takeN_le s.data.toList).1
  have hl := len_list s
  refine ⟨s.extract (takeN s.data.toList).2.1 s.size, ?_, ext_drop _ _⟩
  unfold block_reader_number.f
  rw [take_is s k hk, Option.bind_some]
  dsimp only [outI]
  rw [if_pos (by omega), if_pos (by omega), Int.toNat_natCast]
  refine congrArg some (congrArg (Prod.mk _) (congrArg (Prod.mk _) (congrArg (and ok) ?_)))
  rw [Bool.eq_iff_iff, beq_iff_eq, decide_eq_true_eq]; omega
theorem btxt (s : ByteArray) (ok : Bool) (k : Nat) (hs : s.size ≤ 1099511627776) (hk : 10 ≤ k) : ∃ S : ByteArray, block_reader_text.f k s ok = some (bs (takeX s.data.toList).1, S, ok && decide ((takeX s.data.toList).2.2 = 0)) ∧ S.data.toList = s.data.toList.drop (takeX s.data.toList).2.1 := by
  have h := (takeX_le s.data.toList).1
  have hl := len_list s
  refine ⟨s.extract (takeX s.data.toList).2.1 s.size, ?_, ext_drop _ _⟩
  unfold block_reader_text.f
  rw [ttext_is s k (by omega) hk, Option.bind_some]
  dsimp only [outT]
  rw [if_pos (by omega), if_pos (by omega), Int.toNat_natCast]
  refine congrArg some (congrArg (Prod.mk _) (congrArg (Prod.mk _) (congrArg (and ok) ?_)))
  rw [Bool.eq_iff_iff, beq_iff_eq, decide_eq_true_eq]; omega
theorem drop_size (s S : ByteArray) (a : Nat) (h : S.data.toList = s.data.toList.drop a) : S.size ≤ s.size := by
  rw [← len_list, h, List.length_drop, len_list]; omega
theorem btk_no (N i : Int) (s : ByteArray) (out : List S43) (last : ByteArray) (k : Nat) (hs : s.size ≤ 1099511627776) (hk : 11 ≤ k) : block_Take.l0 k N s false out last i = some ([], 90) := by
  obtain ⟨k, rfl⟩ : ∃ m, k = m + 1 := ⟨k - 1, by omega⟩
  obtain ⟨S1, r1, d1⟩ := bnum s false k (by omega)
  have z1 := drop_size _ _ _ d1
  obtain ⟨S2, r2, d2⟩ := btxt S1 (false && decide ((takeN s.data.toList).2.2 = 0)) k (by omega) (by omega)
  obtain ⟨S3, r3, d3⟩ := bnum S2 ((false && decide ((takeN s.data.toList).2.2 = 0)) && decide ((takeX S1.data.toList).2.2 = 0)) k (by omega)
  simp only [block_Take.l0]
  by_cases c : i < N
  · rw [if_pos c, r1, Option.bind_some]; dsimp only; rw [r2, Option.bind_some]; dsimp only; rw [r3, Option.bind_some]; dsimp only; rw [if_neg (by simp)]
  · rw [if_neg c, if_neg (by decide)]
theorem btk_l0 (N : Nat) (hN : N ≤ 4096) (Z : Nat) (hZ : Z ≤ 1099511627776) : ∀ (n i k : Nat) (s : ByteArray) (out : List S43) (last : ByteArray), i + n = N → s.size + last.size ≤ Z → out.length = i → n + Z + 5000 ≤ k →
    block_Take.l0 k (N : Int) s true out last (i : Int) = some (outB (endB out s.size (entsL n last.data.toList s.data.toList))) := by
  intro n
  induction n with
  | zero =>
    intro i k s out last h hz ho hk; obtain ⟨k, rfl⟩ : ∃ m, k = m + 1 := ⟨k - 1, by omega⟩; simp only [block_Take.l0]; rw [if_neg (by omega), if_pos trivial]
    unfold endB
    simp only [entsL, Option.bind_some, List.append_nil]
    by_cases c : s.size = 0
    · rw [if_pos ((nil_size s).2 c), check_is_ out k (by omega), Option.bind_some]
      cases hb : okB out
      · rw [if_neg (show ¬ (false = true) by decide), if_neg (show ¬ ((1 : Int) = 0) by decide), if_neg (show ¬ (0 = s.size ∧ false = true) from fun x => by cases x.2)]; rfl
      · rw [if_pos (show true = true from rfl), if_pos (show (0 : Int) = 0 from rfl), if_pos (show 0 = s.size ∧ true = true from ⟨c.symm, rfl⟩)]; rfl
    · rw [if_neg (fun e => c ((nil_size s).1 e)), if_neg (fun x => c x.1.symm)]; rfl
  | succ n ih =>
    intro i k s out last h hz ho hk; obtain ⟨k, rfl⟩ : ∃ m, k = m + 1 := ⟨k - 1, by omega⟩; have hls := len_list s; have hll := len_list last; have hw := one_ways last.data.toList s.data.toList; have en := fun hh => endB_none out s.size n last.data.toList s.data.toList hh
    have es := fun e m hh hm => endB_step out s.size n last.data.toList s.data.toList e m hh hm
    have ol := fun e m hh => one_len last.data.toList s.data.toList e m hh
    obtain ⟨S1, r1, d1⟩ := bnum s true k (by omega); have z1 := drop_size _ _ _ d1; simp only [block_Take.l0]; rw [if_pos (by omega), r1, Option.bind_some]; dsimp only; obtain ⟨S2, r2, d2⟩ := btxt S1 (true && decide ((takeN s.data.toList).2.2 = 0)) k (by omega) (by omega); have z2 := drop_size _ _ _ d2; rw [r2, Option.bind_some]; dsimp only; obtain ⟨S3, r3, d3⟩ := bnum S2 ((true && decide ((takeN s.data.toList).2.2 = 0)) && decide ((takeX S1.data.toList).2.2 = 0)) k (by omega); have z3 := drop_size _ _ _ d3; rw [r3, Option.bind_some]; dsimp only; rw [d2, d1, List.drop_drop] at d3 r3 ⊢; rw [d1] at d2; clear r1 r2 r3
    generalize ho1 : oneL last.data.toList s.data.toList = o at hw
    have com : ∀ (m : Nat) (t : List UInt8), m ≤ last.size → block_common.f k last (last.extract 0 m ++ bs t) = some ((lcp last.data.toList (last.data.toList.take m ++ t) : Nat) : Int) := fun m t _ => by
      rw [com_is last _ k (by omega) (by omega), key_form, bs_list]
    cases hw with
    | n a e m h1 h2 =>
      rw [en ho1, h1]; dsimp only
      split
      · next hh =>
        rw [Bool.and_eq_true, Bool.and_eq_true, Bool.and_eq_true, decide_eq_true_eq] at hh; rw [if_neg (by omega)]; rfl
      · rfl
    | t m a t b f h1 h2 h3 h4 =>
      rw [en ho1, h1]; dsimp only; rw [h3]; dsimp only; rw [if_neg (by rw [decide_eq_false h4]; simp)]; rfl
    | q m a t b q c g h1 h2 h3 h4 h5 =>
      rw [en ho1, h1]; dsimp only; rw [h3]; dsimp only; rw [h4]; dsimp only
      split
      · next hh =>
        rw [Bool.and_eq_true, decide_eq_true_eq] at hh
        rw [if_pos (by omega), if_pos (by omega), Int.toNat_natCast, if_pos (by
          have e1 := key_form_size last m; have e2 := takeX_le (s.data.toList.drop a); rw [h3] at e2; dsimp only at e2; rw [bs_size]; omega), com m t (by omega), Option.bind_some, if_neg (by omega)]; rfl
      · rfl
    | gone m a t b q c h1 h2 h3 h4 h5 h6 =>
      obtain ⟨l1, l2⟩ := ol _ _ ho1; have e2 := takeX_le (s.data.toList.drop a); have e3 := takeN_le (s.data.toList.drop (a + b)); rw [h3] at e2; rw [h4] at e3; dsimp only at e2 e3; rw [es _ _ ho1 (by omega), h1]; rw [h1] at d1 d2 d3; dsimp only at d1 d2 d3 ⊢; rw [h3] at d2 d3 ⊢; dsimp only at d2 d3 ⊢; simp only [List.drop_drop, h4] at d3; rw [← Nat.add_assoc] at d3; rw [h4]; dsimp only; rw [if_pos (by simp), if_pos (by omega), if_pos (by omega), Int.toNat_natCast, if_pos (by have e1 := key_form_size last m; rw [bs_size]; omega), com m t (by omega), Option.bind_some, h5, if_pos rfl, if_pos (by omega), and1_i64 q (by omega), if_neg (by omega), w64 (by omega) (by omega), show (i : Int) + 1 = ((i + 1 : Nat) : Int) from by omega]; have hsz : S3.size = s.size - (a + b + c) := by rw [← len_list, d3, List.length_drop, hls]
      have hk1 : (kL ⟨bs (last.data.toList.take m ++ t), bs [], true, ((q / 2 : Nat) : Int)⟩).length = (bs (last.data.toList.take m ++ t)).size := len_list _; rw [show ((true && decide ((0 : Nat) = 0)) && decide ((0 : Nat) = 0) && decide ((0 : Nat) = 0)) = true from rfl, show ((q : Int) / 2) = ((q / 2 : Nat) : Int) from by omega, ih (i + 1) k S3 _ _ (by omega) (by rw [key_form]; omega) (by rw [List.length_append, ho]; rfl) (by omega), d3, hsz, key_form]
      rfl
    | v m a t b q c v d h h1 h2 h3 h4 h5 h6 h7 h8 =>
      have e2 := takeX_le (s.data.toList.drop a); have e3 := takeN_le (s.data.toList.drop (a + b)); rw [h3] at e2; rw [h4] at e3; dsimp only at e2 e3; rw [en ho1, h1]; rw [h1] at d1 d2 d3; dsimp only at d1 d2 d3 ⊢; rw [h3] at d2 d3 ⊢; dsimp only at d2 d3 ⊢; simp only [List.drop_drop, h4] at d3; rw [← Nat.add_assoc] at d3; rw [h4]; dsimp only; rw [if_pos (by simp), if_pos (by omega), if_pos (by omega), Int.toNat_natCast, if_pos (by have e1 := key_form_size last m; rw [bs_size]; omega), com m t (by omega), Option.bind_some, h5, if_pos rfl, if_pos (by omega), and1_i64 q (by omega), if_pos (by omega)]; obtain ⟨S4, r4, d4⟩ := btxt S3 ((true && decide ((0 : Nat) = 0)) && decide ((0 : Nat) = 0) && decide ((0 : Nat) = 0)) k (by omega) (by omega); have z4 := drop_size _ _ _ d4; rw [r4, Option.bind_some]; dsimp only; rw [d3, h7]; dsimp only; rw [decide_eq_false h8, Bool.and_false]; exact btk_no _ _ _ _ _ k (by omega) (by omega)
    | all m a t b q c v d h1 h2 h3 h4 h5 h6 h7 =>
      obtain ⟨l1, l2⟩ := ol _ _ ho1; have e2 := takeX_le (s.data.toList.drop a); have e3 := takeN_le (s.data.toList.drop (a + b)); rw [h3] at e2; rw [h4] at e3; dsimp only at e2 e3; rw [es _ _ ho1 (by omega), h1]; rw [h1] at d1 d2 d3; dsimp only at d1 d2 d3 ⊢; rw [h3] at d2 d3 ⊢; dsimp only at d2 d3 ⊢; simp only [List.drop_drop, h4] at d3; rw [← Nat.add_assoc] at d3; rw [h4]; dsimp only; rw [if_pos (by simp), if_pos (by omega), if_pos (by omega), Int.toNat_natCast, if_pos (by have e1 := key_form_size last m; rw [bs_size]; omega), com m t (by omega), Option.bind_some, h5, if_pos rfl, if_pos (by omega), and1_i64 q (by omega), if_pos (by omega)]; obtain ⟨S4, r4, d4⟩ := btxt S3 ((true && decide ((0 : Nat) = 0)) && decide ((0 : Nat) = 0) && decide ((0 : Nat) = 0)) k (by omega) (by omega); rw [r4, Option.bind_some]; dsimp only; rw [d3, h7] at d4 ⊢; dsimp only at d4 ⊢; rw [List.drop_drop] at d4; have hsz : S4.size = s.size - (a + b + c + d) := by rw [← len_list, d4, List.length_drop, hls]
      have hk1 : (kL ⟨bs (last.data.toList.take m ++ t), bs v, false, ((q / 2 : Nat) : Int)⟩).length = (bs (last.data.toList.take m ++ t)).size := len_list _; rw [w64 (by omega) (by omega), show (i : Int) + 1 = ((i + 1 : Nat) : Int) from by omega, show ((true && decide ((0 : Nat) = 0)) && decide ((0 : Nat) = 0) && decide ((0 : Nat) = 0) && decide ((0 : Nat) = 0)) = true from rfl, show ((q : Int) / 2) = ((q / 2 : Nat) : Int) from by omega, ih (i + 1) k S4 _ _ (by omega) (by rw [key_form]; omega) (by rw [List.length_append, ho]; rfl) (by omega), d4, hsz, key_form]
      rfl
theorem btk_is (s : ByteArray) (k : Nat) (hs : s.size ≤ 1099511627776) (hk : 10 * s.size + 9200 ≤ k) : block_Take.f k s = some (outB (blkT s.data.toList)) := by
  have hls := len_list s
  unfold block_Take.f
  rw [check_is s k (by omega) (by omega), Option.bind_some, blkT_end]
  cases hc : chk s.data.toList
  · rw [if_neg (by decide), if_neg (fun x => by cases x.1)]; rfl
  · have h4 := chk_len _ hc; rw [if_pos rfl, w64 (by omega) (by omega), if_pos (by omega), if_pos (by omega), show ((s.size : Int) - 4).toNat = s.data.toList.length - 4 from by omega]; have hx : (s.extract 0 (s.data.toList.length - 4)).data.toList = s.data.toList.take (s.data.toList.length - 4) := by rw [extract_list, List.drop_zero]
    have hz : (s.extract 0 (s.data.toList.length - 4)).size = (s.data.toList.take (s.data.toList.length - 4)).length := by rw [← len_list, hx]
    have hz2 : (s.data.toList.take (s.data.toList.length - 4)).length ≤ s.size := by rw [List.length_take]; omega
    have hn := takeN_le (s.data.toList.take (s.data.toList.length - 4)); obtain ⟨S1, r1, d1⟩ := bnum (s.extract 0 (s.data.toList.length - 4)) true k (by omega); rw [r1, Option.bind_some, hx]; dsimp only; rw [hx] at d1; have z1 : S1.size = (s.data.toList.take (s.data.toList.length - 4)).length - (takeN (s.data.toList.take (s.data.toList.length - 4))).2.1 := by rw [← len_list, d1, List.length_drop]
    by_cases c : (takeN (s.data.toList.take (s.data.toList.length - 4))).2.2 = 0
    · rw [decide_eq_true c, show (true && true) = true from rfl, if_pos rfl]
      by_cases d : (takeN (s.data.toList.take (s.data.toList.length - 4))).1 ≤ 4096
      · rw [if_neg (by omega), if_pos ⟨rfl, c, d⟩]; have := btk_l0 (takeN (s.data.toList.take (s.data.toList.length - 4))).1 d s.size hs (takeN (s.data.toList.take (s.data.toList.length - 4))).1 0 k S1 [] (⟨#[]⟩ : ByteArray) (by omega) (by rw [z1]; exact Nat.le_trans (Nat.sub_le _ _) hz2) rfl (by omega); rw [d1, z1] at this; exact this
      · rw [if_pos (by omega), if_neg (fun x => d x.2.2)]; rfl
    · rw [decide_eq_false c, if_neg (by decide), if_neg (fun x => c x.2.1)]; rfl
theorem s36_ext {a b : S43} (h0 : a.f0 = b.f0) (h1 : a.f1 = b.f1) (h2 : a.f2 = b.f2) (h3 : a.f3 = b.f3) : a = b := by
  cases a; cases b; simp only at h0 h1 h2 h3; subst h0; subst h1; subst h2; subst h3; rfl
theorem sameE_l0 (a : List S43) (ha : a.length ≤ 4611686018427387904) : ∀ (n i k : Nat), i + n = a.length → n + 1 ≤ k → sorrelref04_Same.l0 k a a (i : Int) = some true := by
  intro n
  induction n with
  | zero =>
    intro i k h hk; obtain ⟨k, rfl⟩ : ∃ m, k = m + 1 := ⟨k - 1, by omega⟩; simp only [sorrelref04_Same.l0]; rw [if_neg (by omega)]
  | succ n ih =>
    intro i k h hk; obtain ⟨k, rfl⟩ : ∃ m, k = m + 1 := ⟨k - 1, by omega⟩; simp only [sorrelref04_Same.l0]; rw [if_pos (by omega), if_pos (by omega), if_pos (by omega), if_neg (by simp), w64 (by omega) (by omega), show (i : Int) + 1 = ((i + 1 : Nat) : Int) from by omega]; exact ih (i + 1) k (by omega) (by omega)
theorem sameE_yes (a : List S43) (k : Nat) (ha : a.length ≤ 4611686018427387904) (hk : a.length + 1 ≤ k) : sorrelref04_Same.f k a a = some true := by
  unfold sorrelref04_Same.f
  rw [if_pos rfl]
  exact sameE_l0 a ha a.length 0 k (by omega) hk
end Go.Proofs.Ytlmoafkmhenejaa.VaPT
end
section
namespace Go.Proofs.Ytlmoafkmhenejaa.XA
end Go.Proofs.Ytlmoafkmhenejaa.XA
namespace Go.Proofs.Ytlmoafkmhenejaa.VLib
end Go.Proofs.Ytlmoafkmhenejaa.VLib
namespace Go.Proofs.Ytlmoafkmhenejaa.CLib
end Go.Proofs.Ytlmoafkmhenejaa.CLib
namespace Go.Proofs.Ytlmoafkmhenejaa.XW
end Go.Proofs.Ytlmoafkmhenejaa.XW
namespace Go.Proofs.Ytlmoafkmhenejaa.VaB1
end Go.Proofs.Ytlmoafkmhenejaa.VaB1
namespace Go.Proofs.Ytlmoafkmhenejaa.VaChk
end Go.Proofs.Ytlmoafkmhenejaa.VaChk
namespace Go.Proofs.Ytlmoafkmhenejaa.VaPut
end Go.Proofs.Ytlmoafkmhenejaa.VaPut
namespace Go.Proofs.Ytlmoafkmhenejaa.VaRT
end Go.Proofs.Ytlmoafkmhenejaa.VaRT
namespace Go.Proofs.Ytlmoafkmhenejaa.VaRT2
end Go.Proofs.Ytlmoafkmhenejaa.VaRT2
namespace Go.Proofs.Ytlmoafkmhenejaa.VaPT
end Go.Proofs.Ytlmoafkmhenejaa.VaPT
namespace Go.Proofs.YtlmoafkmhenejaaW.PrintWords
end Go.Proofs.YtlmoafkmhenejaaW.PrintWords
namespace Go.Proofs.YtlmoafkmhenejaaW.PrintLast
end Go.Proofs.YtlmoafkmhenejaaW.PrintLast
namespace Go.Proofs.YtlmoafkmhenejaaW.PrintMore
end Go.Proofs.YtlmoafkmhenejaaW.PrintMore
namespace Go.Proofs.Ytlmoafkmhenejaa.VaBack
open Go.RowKit Go.Proofs.Ytlmoafkmhenejaa.XA Go.Proofs.Ytlmoafkmhenejaa.VLib Go.Proofs.Ytlmoafkmhenejaa.CLib Go.Proofs.Ytlmoafkmhenejaa.XW Go.Proofs.Ytlmoafkmhenejaa.VaB1 Go.Proofs.Ytlmoafkmhenejaa.VaChk Go.Proofs.Ytlmoafkmhenejaa.VaPut Go.Proofs.Ytlmoafkmhenejaa.VaRT Go.Proofs.Ytlmoafkmhenejaa.VaRT2 Go.Proofs.Ytlmoafkmhenejaa.VaPT Go.Proofs.YtlmoafkmhenejaaW.PrintWords Go.Proofs.YtlmoafkmhenejaaW.PrintLast Go.Proofs.YtlmoafkmhenejaaW.PrintMore
theorem lcp_rest (last k : List UInt8) : last.take (lcp last k) ++ k.drop (lcp last k) = k := by
  rw [lcp_take, List.take_append_drop]
theorem oneL_gone (last s : List UInt8) (n a : Nat) (t : List UInt8) (b q c : Nat) (h1 : takeN s = (n, a, 0)) (h2 : n ≤ last.length) (h3 : takeX (s.drop a) = (t, b, 0)) (h4 : takeN (s.drop (a + b)) = (q, c, 0))
    (h5 : lcp last (last.take n ++ t) = n) (h6 : q % 2 = 1) : oneL last s = some (⟨bs (last.take n ++ t), bs [], true, ((q / 2 : Nat) : Int)⟩, a + b + c) := by
  unfold oneL
  rw [h1]; dsimp only; rw [h3]; dsimp only; rw [h4]; dsimp only
  rw [if_pos ⟨rfl, h2⟩, if_pos rfl, if_pos ⟨rfl, h5⟩, if_pos h6]
theorem oneL_all (last s : List UInt8) (n a : Nat) (t : List UInt8) (b q c : Nat) (v : List UInt8) (d : Nat) (h1 : takeN s = (n, a, 0)) (h2 : n ≤ last.length) (h3 : takeX (s.drop a) = (t, b, 0)) (h4 : takeN (s.drop (a + b)) = (q, c, 0))
    (h5 : lcp last (last.take n ++ t) = n) (h6 : ¬ q % 2 = 1) (h7 : takeX (s.drop (a + b + c)) = (v, d, 0)) : oneL last s = some (⟨bs (last.take n ++ t), bs v, false, ((q / 2 : Nat) : Int)⟩, a + b + c + d) := by
  unfold oneL
  rw [h1]; dsimp only; rw [h3]; dsimp only; rw [h4]; dsimp only; rw [h7]; dsimp only
  rw [if_pos ⟨rfl, h2⟩, if_pos rfl, if_pos ⟨rfl, h5⟩, if_neg h6, if_pos rfl]
theorem txtL_len (t : List UInt8) : (txtL t).length = (enc t.length).length + t.length := by unfold txtL; rw [List.length_append]
theorem takeX_txt (t r : List UInt8) (h : t.length ≤ 262144) : takeX (txtL t ++ r) = (t, (txtL t).length, 0) := by
  rw [txtL_len]; unfold txtL; rw [List.append_assoc]; exact takeX_text t r h
theorem drop2 (a b r : List UInt8) : (a ++ (b ++ r)).drop (a.length + b.length) = r := by
  rw [← List.append_assoc, ← List.length_append]; exact List.drop_left
theorem drop3 (a b c r : List UInt8) : (a ++ (b ++ (c ++ r))).drop (a.length + b.length + c.length) = r := by
  rw [← List.append_assoc, ← List.append_assoc, ← List.length_append, ← List.length_append]; exact List.drop_left
theorem one_ent (last : List UInt8) (e : S43) (r : List UInt8) (hm : MayE e) : oneL last (entL last e ++ r) = some (e, (entL last e).length) := by
  obtain ⟨k1, k64, v, g, s1, sm⟩ := hm
  have hk : (kL e).length = e.f0.size := len_list e.f0
  have hv : (vL e).length = e.f1.size := len_list e.f1
  have hl := lcp_le last (kL e)
  have hd : ((kL e).drop (lcp last (kL e))).length ≤ 262144 := by rw [List.length_drop]; omega
  have hr := lcp_rest last (kL e)
  have hf : bs (last.take (lcp last (kL e)) ++ (kL e).drop (lcp last (kL e))) = e.f0 := by rw [hr]; exact bs_of e.f0
  cases h2 : e.f2
  · have he : entL last e ++ r = enc (lcp last (kL e)) ++ (txtL ((kL e).drop (lcp last (kL e))) ++ (enc (2 * e.f3.toNat) ++ (txtL (vL e) ++ r))) := by
      unfold entL; rw [h2, if_neg (by decide)]; simp only [List.append_assoc]
    have hn : (entL last e).length = (enc (lcp last (kL e))).length + (txtL ((kL e).drop (lcp last (kL e)))).length + (enc (2 * e.f3.toNat)).length + (txtL (vL e)).length := by
      unfold entL; rw [h2, if_neg (by decide)]; simp only [List.length_append]; omega
    have := oneL_all last (entL last e ++ r) (lcp last (kL e)) (enc (lcp last (kL e))).length ((kL e).drop (lcp last (kL e))) (txtL ((kL e).drop (lcp last (kL e)))).length (2 * e.f3.toNat) (enc (2 * e.f3.toNat)).length (vL e) (txtL (vL e)).length
      (by rw [he]; exact takeN_enc _ _ (by omega)) hl.1 (by rw [he, List.drop_left]; exact takeX_txt _ _ hd) (by rw [he, drop2]; exact takeN_enc _ _ (by omega)) (by rw [hr]) (by omega) (by rw [he, drop3]; exact takeX_txt _ _ (by omega))
    rw [this, hn, hf]; refine congrArg some (congrArg (Prod.mk · _) (s36_ext rfl (bs_of e.f1) h2.symm ?_))
    show (((2 * e.f3.toNat) / 2 : Nat) : Int) = e.f3
    omega
  · have he : entL last e ++ r = enc (lcp last (kL e)) ++ (txtL ((kL e).drop (lcp last (kL e))) ++ (enc (2 * e.f3.toNat + 1) ++ r)) := by
      unfold entL; rw [h2, if_pos rfl]; simp only [List.append_assoc]
    have hn : (entL last e).length = (enc (lcp last (kL e))).length + (txtL ((kL e).drop (lcp last (kL e)))).length + (enc (2 * e.f3.toNat + 1)).length := by
      unfold entL; rw [h2, if_pos rfl]; simp only [List.length_append]; omega
    have := oneL_gone last (entL last e ++ r) (lcp last (kL e)) (enc (lcp last (kL e))).length ((kL e).drop (lcp last (kL e))) (txtL ((kL e).drop (lcp last (kL e)))).length (2 * e.f3.toNat + 1) (enc (2 * e.f3.toNat + 1)).length
      (by rw [he]; exact takeN_enc _ _ (by omega)) hl.1 (by rw [he, List.drop_left]; exact takeX_txt _ _ hd) (by rw [he, drop2]; exact takeN_enc _ _ (by omega)) (by rw [hr]) (by omega)
    rw [this, hn, hf]; have g0 : e.f1 = bs [] := ext_list (by rw [bs_list]; exact List.length_eq_zero_iff.1 (by rw [len_list]; exact g h2)); refine congrArg some (congrArg (Prod.mk · _) (s36_ext rfl g0.symm h2.symm ?_))
    show (((2 * e.f3.toNat + 1) / 2 : Nat) : Int) = e.f3
    omega
theorem ents_body : ∀ (l : List S43) (last r : List UInt8), (∀ e ∈ l, MayE e) → entsL l.length last (bodyL last l ++ r) = some (l, (bodyL last l).length)
  | [], _, _, _ => rfl
  | e :: l, last, r, h => by
    have ih := ents_body l (kL e) r (fun x hx => h x (List.mem_cons_of_mem _ hx)); simp only [List.length_cons, entsL, bodyL]; rw [List.append_assoc, one_ent last e _ (h e List.mem_cons_self), Option.bind_some]; dsimp only; rw [List.drop_left, ih, Option.bind_some]; simp only [List.length_append]
theorem putL_cut (l : List S43) : (putL l).take ((putL l).length - 4) = enc l.length ++ bodyL [] l := by
  unfold putL sealL
  rw [List.length_append, fix4_len, Nat.add_sub_cancel, List.take_left]
theorem blkT_put (l : List S43) (h : okB l = true) : blkT (putL l) = some l := by
  have hb := (okB_iff l).1 h
  have hm := ok_may l none hb.2
  unfold blkT
  rw [putL_cut, takeN_enc _ _ (by omega)]
  dsimp only
  rw [if_pos ⟨chk_seal _, rfl, hb.1⟩, List.drop_left]
  have := ents_body l [] [] hm
  rw [List.append_nil] at this
  rw [this, Option.bind_some]
  dsimp only
  rw [List.length_append, if_pos ⟨rfl, h⟩]
end Go.Proofs.Ytlmoafkmhenejaa.VaBack
end
