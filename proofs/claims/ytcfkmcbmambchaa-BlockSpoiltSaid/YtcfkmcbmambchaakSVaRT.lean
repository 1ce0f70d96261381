import Derived.Test.YtcfkmcbmambchaakSXAx0
import Derived.Test.YtcfkmcbmambchaakSXAx7
import Derived.Test.YtcfkmcbmambchaakSXAx2
import Derived.Test.YtcfkmcbmambchaakSXAx3
import Derived.Test.YtcfkmcbmambchaakSXAx4
import Derived.Test.YtcfkmcbmambchaakSVLib
import Derived.Test.YtcfkmcbmambchaakSCLib
import Derived.Test.YtcfkmcbmambchaakSXW
import Derived.Test.YtcfkmcbmambchaakSVaB1
import Derived.Test.YtcfkmcbmambchaakSVaChk
import Derived.Test.YtcfkmcbmambchaakSVaPut
namespace Go.Proofs.Ytcfkmcbmambchaa.XA
end Go.Proofs.Ytcfkmcbmambchaa.XA
namespace Go.Proofs.Ytcfkmcbmambchaa.VLib
end Go.Proofs.Ytcfkmcbmambchaa.VLib
namespace Go.Proofs.Ytcfkmcbmambchaa.CLib
end Go.Proofs.Ytcfkmcbmambchaa.CLib
namespace Go.Proofs.Ytcfkmcbmambchaa.XW
end Go.Proofs.Ytcfkmcbmambchaa.XW
namespace Go.Proofs.Ytcfkmcbmambchaa.VaB1
end Go.Proofs.Ytcfkmcbmambchaa.VaB1
namespace Go.Proofs.Ytcfkmcbmambchaa.VaB2
end Go.Proofs.Ytcfkmcbmambchaa.VaB2
namespace Go.Proofs.Ytcfkmcbmambchaa.VaB3
end Go.Proofs.Ytcfkmcbmambchaa.VaB3
namespace Go.Proofs.Ytcfkmcbmambchaa.VaChk
end Go.Proofs.Ytcfkmcbmambchaa.VaChk
namespace Go.Proofs.Ytcfkmcbmambchaa.VaPut
end Go.Proofs.Ytcfkmcbmambchaa.VaPut
namespace Go.Proofs.YtcfkmcbmambchaaW.PrintWords
end Go.Proofs.YtcfkmcbmambchaaW.PrintWords
namespace Go.Proofs.YtcfkmcbmambchaaW.PrintLast
end Go.Proofs.YtcfkmcbmambchaaW.PrintLast
namespace Go.Proofs.YtcfkmcbmambchaaW.PrintMore
end Go.Proofs.YtcfkmcbmambchaaW.PrintMore
namespace Go.Proofs.Ytcfkmcbmambchaa.VaRT
open Go.RowKit Go.Proofs.Ytcfkmcbmambchaa.XA Go.Proofs.Ytcfkmcbmambchaa.VLib Go.Proofs.Ytcfkmcbmambchaa.CLib Go.Proofs.Ytcfkmcbmambchaa.XW Go.Proofs.Ytcfkmcbmambchaa.VaB1 Go.Proofs.Ytcfkmcbmambchaa.VaB2 Go.Proofs.Ytcfkmcbmambchaa.VaB3 Go.Proofs.Ytcfkmcbmambchaa.VaChk Go.Proofs.Ytcfkmcbmambchaa.VaPut Go.Proofs.YtcfkmcbmambchaaW.PrintWords Go.Proofs.YtcfkmcbmambchaaW.PrintLast Go.Proofs.YtcfkmcbmambchaaW.PrintMore
def oneL (last s : List UInt8) : Option (S36 × Nat) :=
  if (takeN s).2.2 = 0 ∧ (takeN s).1 ≤ last.length then
    (if (takeX (s.drop (takeN s).2.1)).2.2 = 0 then
      (if (takeN (s.drop ((takeN s).2.1 + (takeX (s.drop (takeN s).2.1)).2.1))).2.2 = 0 ∧ lcp last (last.take (takeN s).1 ++ (takeX (s.drop (takeN s).2.1)).1) = (takeN s).1 then
        (if (takeN (s.drop ((takeN s).2.1 + (takeX (s.drop (takeN s).2.1)).2.1))).1 % 2 = 1 then
          some (⟨bs (last.take (takeN s).1 ++ (takeX (s.drop (takeN s).2.1)).1), bs [], true, (((takeN (s.drop ((takeN s).2.1 + (takeX (s.drop (takeN s).2.1)).2.1))).1 / 2 : Nat) : Int)⟩, (takeN s).2.1 + (takeX (s.drop (takeN s).2.1)).2.1 + (takeN (s.drop ((takeN s).2.1 + (takeX (s.drop (takeN s).2.1)).2.1))).2.1)
        else
          (if (takeX (s.drop ((takeN s).2.1 + (takeX (s.drop (takeN s).2.1)).2.1 + (takeN (s.drop ((takeN s).2.1 + (takeX (s.drop (takeN s).2.1)).2.1))).2.1))).2.2 = 0 then
            some (⟨bs (last.take (takeN s).1 ++ (takeX (s.drop (takeN s).2.1)).1), bs (takeX (s.drop ((takeN s).2.1 + (takeX (s.drop (takeN s).2.1)).2.1 + (takeN (s.drop ((takeN s).2.1 + (takeX (s.drop (takeN s).2.1)).2.1))).2.1))).1, false, (((takeN (s.drop ((takeN s).2.1 + (takeX (s.drop (takeN s).2.1)).2.1))).1 / 2 : Nat) : Int)⟩,
              (takeN s).2.1 + (takeX (s.drop (takeN s).2.1)).2.1 + (takeN (s.drop ((takeN s).2.1 + (takeX (s.drop (takeN s).2.1)).2.1))).2.1 + (takeX (s.drop ((takeN s).2.1 + (takeX (s.drop (takeN s).2.1)).2.1 + (takeN (s.drop ((takeN s).2.1 + (takeX (s.drop (takeN s).2.1)).2.1))).2.1))).2.1)
          else none))
      else none)
    else none)
  else none
inductive One (last s : List UInt8) : Option (S36 × Nat) → Prop where
  | n (a : Nat) (e : Nat) (n : Nat) : takeN s = (n, a, e) → (e ≠ 0 ∨ last.length < n) → One last s none
  | t (n a : Nat) (t : List UInt8) (b f : Nat) : takeN s = (n, a, 0) → n ≤ last.length → takeX (s.drop a) = (t, b, f) → f ≠ 0 → One last s none
  | q (n a : Nat) (t : List UInt8) (b q c g : Nat) : takeN s = (n, a, 0) → n ≤ last.length → takeX (s.drop a) = (t, b, 0) → takeN (s.drop (a + b)) = (q, c, g) → (g ≠ 0 ∨ lcp last (last.take n ++ t) ≠ n) → One last s none
  | gone (n a : Nat) (t : List UInt8) (b q c : Nat) : takeN s = (n, a, 0) → n ≤ last.length → takeX (s.drop a) = (t, b, 0) → takeN (s.drop (a + b)) = (q, c, 0) → lcp last (last.take n ++ t) = n → q % 2 = 1 → One last s (some (⟨bs (last.take n ++ t), bs [], true, ((q / 2 : Nat) : Int)⟩, a + b + c))
  | v (n a : Nat) (t : List UInt8) (b q c : Nat) (v : List UInt8) (d h : Nat) : takeN s = (n, a, 0) → n ≤ last.length → takeX (s.drop a) = (t, b, 0) → takeN (s.drop (a + b)) = (q, c, 0) → lcp last (last.take n ++ t) = n → q % 2 ≠ 1 → takeX (s.drop (a + b + c)) = (v, d, h) → h ≠ 0 → One last s none
  | all (n a : Nat) (t : List UInt8) (b q c : Nat) (v : List UInt8) (d : Nat) : takeN s = (n, a, 0) → n ≤ last.length → takeX (s.drop a) = (t, b, 0) → takeN (s.drop (a + b)) = (q, c, 0) → lcp last (last.take n ++ t) = n → q % 2 ≠ 1 → takeX (s.drop (a + b + c)) = (v, d, 0) → One last s (some (⟨bs (last.take n ++ t), bs v, false, ((q / 2 : Nat) : Int)⟩, a + b + c + d))
theorem one_ways (last s : List UInt8) : One last s (oneL last s) := by
  rcases h1 : takeN s with ⟨n, a, e⟩
  rcases h2 : takeX (s.drop a) with ⟨t, b, f⟩
  rcases h3 : takeN (s.drop (a + b)) with ⟨q, c, g⟩
  rcases h4 : takeX (s.drop (a + b + c)) with ⟨v, d, h⟩
  unfold oneL
  rw [h1]; dsimp only; rw [h2]; dsimp only; rw [h3]; dsimp only; rw [h4]; dsimp only
  by_cases c1 : e = 0 ∧ n ≤ last.length
  · rw [if_pos c1]
    obtain ⟨rfl, c1⟩ := c1
    by_cases c2 : f = 0
    · rw [if_pos c2]; subst c2
      by_cases c3 : g = 0 ∧ lcp last (last.take n ++ t) = n
      · rw [if_pos c3]
        obtain ⟨rfl, c3⟩ := c3
        by_cases c4 : q % 2 = 1
        · rw [if_pos c4]; exact One.gone n a t b q c h1 c1 h2 h3 c3 c4
        · rw [if_neg c4]
          by_cases c5 : h = 0
          · rw [if_pos c5]; subst c5; exact One.all n a t b q c v d h1 c1 h2 h3 c3 c4 h4
          · rw [if_neg c5]; exact One.v n a t b q c v d h h1 c1 h2 h3 c3 c4 h4 c5
      · rw [if_neg c3]
        by_cases x : g = 0
        · exact One.q n a t b q c g h1 c1 h2 h3 (.inr (fun y => c3 ⟨x, y⟩))
        · exact One.q n a t b q c g h1 c1 h2 h3 (.inl x)
    · rw [if_neg c2]; exact One.t n a t b f h1 c1 h2 c2
  · rw [if_neg c1]
    by_cases x : e = 0
    · have y : ¬ n ≤ last.length := fun y => c1 ⟨x, y⟩
      exact One.n a e n h1 (.inr (by omega))
    · exact One.n a e n h1 (.inl x)
def entsL : Nat → List UInt8 → List UInt8 → Option (List S36 × Nat)
  | 0, _, _ => some ([], 0)
  | n + 1, last, s => (oneL last s).bind fun x => (entsL n (kL x.1) (s.drop x.2)).bind fun y => some (x.1 :: y.1, x.2 + y.2)
def blkT (s : List UInt8) : Option (List S36) :=
  if chk s = true ∧ (takeN (s.take (s.length - 4))).2.2 = 0 ∧ (takeN (s.take (s.length - 4))).1 ≤ 4096 then
    ((entsL (takeN (s.take (s.length - 4))).1 [] ((s.take (s.length - 4)).drop (takeN (s.take (s.length - 4))).2.1)).bind fun y =>
      if (takeN (s.take (s.length - 4))).2.1 + y.2 = (s.take (s.length - 4)).length ∧ okB y.1 = true then some y.1 else none)
  else none
def outB (r : Option (List S36)) : List S36 × Int := match r with | some l => (l, 0) | none => ([], 90)
theorem takeN_le (l : List UInt8) : (takeN l).2.1 ≤ l.length ∧ (takeN l).1 ≤ 4611686018427387904 := by
  by_cases h : (takeN l).2.2 = 0
  · obtain ⟨h1, h2, h3, h4, h5⟩ := takeN_back l (takeN l).1 (takeN l).2.1 (by rw [← h])
    exact ⟨h1, h5⟩
  · have := takeN_err l h
    rw [this]; simp
theorem takeX_le (l : List UInt8) : (takeX l).2.1 ≤ l.length ∧ (takeX l).1.length ≤ 262144 := by
  by_cases h : (takeX l).2.2 = 0
  · obtain ⟨h1, h2, h3, h4⟩ := takeX_back l (takeX l).1 (takeX l).2.1 (by rw [← h])
    exact ⟨h1, h2⟩
  · have := takeX_err l h
    rw [this]; simp
theorem key_form (last : ByteArray) (n : Nat) (t : List UInt8) : last.extract 0 n ++ bs t = bs (last.data.toList.take n ++ t) :=
  ext_list (by rw [list_append, extract_list, List.drop_zero, bs_list, bs_list])
theorem key_form_size (last : ByteArray) (n : Nat) : (last.extract 0 n).size ≤ last.size := by
  rw [← len_list, extract_list, List.drop_zero, List.length_take, len_list]; omega
end Go.Proofs.Ytcfkmcbmambchaa.VaRT
