import Derived.Test.YtlmoafkmhenejaakOXAx0
import Derived.Test.YtlmoafkmhenejaakOXAx3
import Derived.Test.YtlmoafkmhenejaakOXAx4
import Derived.Test.YtlmoafkmhenejaakOXAx5
import Derived.Test.YtlmoafkmhenejaakOXAx6
import Derived.Test.YtlmoafkmhenejaakOXAx7
import Derived.Test.YtlmoafkmhenejaakOXAx8
import Derived.Test.YtlmoafkmhenejaakOXAx9
import Derived.Test.YtlmoafkmhenejaakOXAx10
import Derived.Test.YtlmoafkmhenejaakOXAx11
import Derived.Test.YtlmoafkmhenejaakOXAx13
import Derived.Test.YtlmoafkmhenejaakOXAx14
import Derived.Test.YtlmoafkmhenejaakOXAx15
import Derived.Test.YtlmoafkmhenejaakOVLib
import Derived.Test.YtlmoafkmhenejaakOMTab10
import Derived.Test.YtlmoafkmhenejaakOOpn
import Derived.Test.YtlmoafkmhenejaakOVaBl
section
namespace Go.Proofs.Ytlmoafkmhenejaa.XA
end Go.Proofs.Ytlmoafkmhenejaa.XA
namespace Go.Proofs.Ytlmoafkmhenejaa.VLib
end Go.Proofs.Ytlmoafkmhenejaa.VLib
namespace Go.Proofs.Ytlmoafkmhenejaa.CLib
end Go.Proofs.Ytlmoafkmhenejaa.CLib
namespace Go.Proofs.Ytlmoafkmhenejaa.XW
end Go.Proofs.Ytlmoafkmhenejaa.XW
namespace Go.Proofs.Ytlmoafkmhenejaa.VaB1
end Go.Proofs.Ytlmoafkmhenejaa.VaB1
namespace Go.Proofs.Ytlmoafkmhenejaa.VaB2
end Go.Proofs.Ytlmoafkmhenejaa.VaB2
namespace Go.Proofs.Ytlmoafkmhenejaa.VaB3
end Go.Proofs.Ytlmoafkmhenejaa.VaB3
namespace Go.Proofs.Ytlmoafkmhenejaa.VaChk
end Go.Proofs.Ytlmoafkmhenejaa.VaChk
namespace Go.Proofs.Ytlmoafkmhenejaa.VaPut
end Go.Proofs.Ytlmoafkmhenejaa.VaPut
namespace Go.Proofs.YtlmoafkmhenejaaW.PrintWords
end Go.Proofs.YtlmoafkmhenejaaW.PrintWords
namespace Go.Proofs.YtlmoafkmhenejaaW.PrintLast
end Go.Proofs.YtlmoafkmhenejaaW.PrintLast
namespace Go.Proofs.YtlmoafkmhenejaaW.PrintMore
end Go.Proofs.YtlmoafkmhenejaaW.PrintMore
namespace Go.Proofs.Ytlmoafkmhenejaa.VaRT
open Go.RowKit Go.Proofs.Ytlmoafkmhenejaa.XA Go.Proofs.Ytlmoafkmhenejaa.VLib Go.Proofs.Ytlmoafkmhenejaa.CLib Go.Proofs.Ytlmoafkmhenejaa.XW Go.Proofs.Ytlmoafkmhenejaa.VaB1 Go.Proofs.Ytlmoafkmhenejaa.VaB2 Go.Proofs.Ytlmoafkmhenejaa.VaB3 Go.Proofs.Ytlmoafkmhenejaa.VaChk Go.Proofs.Ytlmoafkmhenejaa.VaPut Go.Proofs.YtlmoafkmhenejaaW.PrintWords Go.Proofs.YtlmoafkmhenejaaW.PrintLast Go.Proofs.YtlmoafkmhenejaaW.PrintMore
def oneL (last s : List UInt8) : Option (S43 × Nat) :=
  if (takeN s).2.2 = 0 ∧ (takeN s).1 ≤ last.length then
    (if (takeX (s.drop (takeN s).2.1)).2.2 = 0 then
      (if (takeN (s.drop ((takeN s).2.1 + (takeX (s.drop (takeN s).2.1)).2.1))).2.2 = 0 ∧ lcp last (last.take (takeN s).1 ++ (takeX (s.drop (takeN s).2.1)).1) = (takeN s).1 then
        (if (takeN (s.drop ((takeN s).2.1 + (takeX (s.drop (takeN s).2.1)).2.1))).1 % 2 = 1 then
          some (⟨bs (last.take (takeN s).1 ++ (takeX (s.drop (takeN s).2.1)).1), bs [], true, (((takeN (s.drop ((takeN s).2.1 + (takeX (s.drop (takeN s).2.1)).2.1))).1 / 2 : Nat) : Int)⟩, (takeN s).2.1 + (takeX (s.drop (takeN s).2.1)).2.1 + (takeN (s.drop ((takeN s).2.1 + (takeX (s.drop (takeN s).2.1)).2.1))).2.1)
        else
          (if (takeX (s.drop ((takeN s).2.1 + (takeX (s.drop (takeN s).2.1)).2.1 + (takeN (s.drop ((takeN s).2.1 + (takeX (s.drop (takeN s).2.1)).2.1))).2.1))).2.2 = 0 then
            some (⟨bs (last.take (takeN s).1 ++ (takeX (s.drop (takeN s).2.1)).1), bs (takeX (s.drop ((takeN s).2.1 + (takeX (s.drop (takeN s).2.1)).2.1 + (takeN (s.drop ((takeN s).2.1 + (takeX (s.drop (takeN s).2.1)).2.1))).2.1))).1, false, (((takeN (s.drop ((takeN s).2.1 + (takeX (s.drop (takeN s).2.1)).2.1))).1 / 2 : Nat) : Int)⟩,
              (takeN s).2.1 + (takeX (s.drop (takeN s).2.1)).2.1 + (takeN (s.drop ((takeN s).2.1 + (takeX (s.drop (takeN s).2.1)).2.1))).2.1 + (takeX (s.drop ((takeN s).2.1 + (takeX (s.drop (takeN s).2.1)).2.1 + (takeN (s.drop ((takeN s).2.1 + (takeX (s.drop (takeN s).2.1)).2.1))).2.1))).2.1)
          else none))
      else none)
    else none)
  else none
inductive One (last s : List UInt8) : Option (S43 × Nat) → Prop where
  | n (a : Nat) (e : Nat) (n : Nat) : takeN s = (n, a, e) → (e ≠ 0 ∨ last.length < n) → One last s none
  | t (n a : Nat) (t : List UInt8) (b f : Nat) : takeN s = (n, a, 0) → n ≤ last.length → takeX (s.drop a) = (t, b, f) → f ≠ 0 → One last s none
  | q (n a : Nat) (t : List UInt8) (b q c g : Nat) : takeN s = (n, a, 0) → n ≤ last.length → takeX (s.drop a) = (t, b, 0) → takeN (s.drop (a + b)) = (q, c, g) → (g ≠ 0 ∨ lcp last (last.take n ++ t) ≠ n) → One last s none
  | gone (n a : Nat) (t : List UInt8) (b q c : Nat) : takeN s = (n, a, 0) → n ≤ last.length → takeX (s.drop a) = (t, b, 0) → takeN (s.drop (a + b)) = (q, c, 0) → lcp last (last.take n ++ t) = n → q % 2 = 1 → One last s (some (⟨bs (last.take n ++ t), bs [], true, ((q / 2 : Nat) : Int)⟩, a + b + c))
  | v (n a : Nat) (t : List UInt8) (b q c : Nat) (v : List UInt8) (d h : Nat) : takeN s = (n, a, 0) → n ≤ last.length → takeX (s.drop a) = (t, b, 0) → takeN (s.drop (a + b)) = (q, c, 0) → lcp last (last.take n ++ t) = n → q % 2 ≠ 1 → takeX (s.drop (a + b + c)) = (v, d, h) → h ≠ 0 → One last s none
  | all (n a : Nat) (t : List UInt8) (b q c : Nat) (v : List UInt8) (d : Nat) : takeN s = (n, a, 0) → n ≤ last.length → takeX (s.drop a) = (t, b, 0) → takeN (s.drop (a + b)) = (q, c, 0) → lcp last (last.take n ++ t) = n → q % 2 ≠ 1 → takeX (s.drop (a + b + c)) = (v, d, 0) → One last s (some (⟨bs (last.take n ++ t), bs v, false, ((q / 2 : Nat) : Int)⟩, a + b + c + d))
theorem one_ways (last s : List UInt8) : One last s (oneL last s) := by
  rcases h1 : takeN s with ⟨n, a, e⟩
  rcases h2 : takeX (s.drop a) with ⟨t, b, f⟩
  rcases h3 : takeN (s.drop (a + b)) with ⟨q, c, g⟩
  rcases h4 : takeX (s.drop (a + b + c)) with ⟨v, d, h⟩
  unfold oneL
  rw [h1]; dsimp only; rw [h2]; dsimp only; rw [h3]; dsimp only; rw [h4]; dsimp only
  by_cases c1 : e = 0 ∧ n ≤ last.length
  · rw [if_pos c1]; obtain ⟨rfl, c1⟩ := c1
    by_cases c2 : f = 0
    · rw [if_pos c2]; subst c2
      by_cases c3 : g = 0 ∧ lcp last (last.take n ++ t) = n
      · rw [if_pos c3]; obtain ⟨rfl, c3⟩ := c3
        by_cases c4 : q % 2 = 1
        · rw [if_pos c4]; exact One.gone n a t b q c h1 c1 h2 h3 c3 c4
        · rw [if_neg c4]
          by_cases c5 : h = 0
          · rw [if_pos c5]; subst c5; exact One.all n a t b q c v d h1 c1 h2 h3 c3 c4 h4
          · rw [if_neg c5]; exact One.v n a t b q c v d h h1 c1 h2 h3 c3 c4 h4 c5
      · rw [if_neg c3]
        by_cases x : g = 0
        · exact One.q n a t b q c g h1 c1 h2 h3 (.inr (fun y => c3 ⟨x, y⟩))
        · exact One.q n a t b q c g h1 c1 h2 h3 (.inl x)
    · rw [if_neg c2]; exact One.t n a t b f h1 c1 h2 c2
  · rw [if_neg c1]
    by_cases x : e = 0
    · have y : ¬ n ≤ last.length := fun y => c1 ⟨x, y⟩
      exact One.n a e n h1 (.inr (by omega))
    · exact One.n a e n h1 (.inl x)
def entsL : Nat → List UInt8 → List UInt8 → Option (List S43 × Nat)
  | 0, _, _ => some ([], 0)
  | n + 1, last, s => (oneL last s).bind fun x => (entsL n (kL x.1) (s.drop x.2)).bind fun y => some (x.1 :: y.1, x.2 + y.2)
def blkT (s : List UInt8) : Option (List S43) :=
  if chk s = true ∧ (takeN (s.take (s.length - 4))).2.2 = 0 ∧ (takeN (s.take (s.length - 4))).1 ≤ 4096 then
    ((entsL (takeN (s.take (s.length - 4))).1 [] ((s.take (s.length - 4)).drop (takeN (s.take (s.length - 4))).2.1)).bind fun y =>
      if (takeN (s.take (s.length - 4))).2.1 + y.2 = (s.take (s.length - 4)).length ∧ okB y.1 = true then some y.1 else none)
  else none
def outB (r : Option (List S43)) : List S43 × Int := match r with | some l => (l, 0) | none => ([], 90)
theorem takeN_le (l : List UInt8) : (takeN l).2.1 ≤ l.length ∧ (takeN l).1 ≤ 4611686018427387904 := by
  by_cases h : (takeN l).2.2 = 0
  · obtain ⟨h1, h2, h3, h4, h5⟩ := takeN_back l (takeN l).1 (takeN l).2.1 (by rw [← h]); exact ⟨h1, h5⟩
  · have := takeN_err l h; rw [this]; simp
theorem takeX_le (l : List UInt8) : (takeX l).2.1 ≤ l.length ∧ (takeX l).1.length ≤ 262144 := by
  by_cases h : (takeX l).2.2 = 0
  · obtain ⟨h1, h2, h3, h4⟩ := takeX_back l (takeX l).1 (takeX l).2.1 (by rw [← h]); exact ⟨h1, h2⟩
  · have := takeX_err l h; rw [this]; simp
theorem key_form (last : ByteArray) (n : Nat) (t : List UInt8) : last.extract 0 n ++ bs t = bs (last.data.toList.take n ++ t) :=
  ext_list (by rw [list_append, extract_list, List.drop_zero, bs_list, bs_list])
theorem key_form_size (last : ByteArray) (n : Nat) : (last.extract 0 n).size ≤ last.size := by
  rw [← len_list, extract_list, List.drop_zero, List.length_take, len_list]; omega
theorem rone_is (s last : ByteArray) (k : Nat) (hs : s.size ≤ 1099511627776) (hl : last.size ≤ 1099511627776) (hk : last.size + 20 ≤ k) :
    ∃ r : ByteArray × ByteArray × Bool × Int × Int × Bool, sorrelref09_one.f k s last = some r ∧ (match oneL last.data.toList s.data.toList with | some x => r = (x.1.f0, x.1.f1, x.1.f2, x.1.f3, (x.2 : Int), true) | none => r.2.2.2.2.2 = false) := by
  have hls := len_list s
  have hll := len_list last
  have hx : ∀ n : Nat, (s.extract n s.size).data.toList = s.data.toList.drop n := fun n => ext_drop s n
  have hz : ∀ n : Nat, (s.extract n s.size).size ≤ s.size := fun n => by rw [← len_list, hx, List.length_drop]; omega
  have tn := fun l => takeN_le l
  have tx := fun l => takeX_le l
  unfold sorrelref09_one.f
  have h := one_ways last.data.toList s.data.toList
  generalize oneL last.data.toList s.data.toList = o at h ⊢
  have t1 := rtake_is s k (by omega)
  have step : ∀ (n a : Nat), takeN s.data.toList = (n, a, 0) → a ≤ s.size ∧ n ≤ 4611686018427387904 := fun n a e => by
    have := tn s.data.toList; rw [e] at this; exact ⟨by have := this.1; dsimp only at this; omega, this.2⟩
  have step2 : ∀ (a : Nat) (t : List UInt8) (b : Nat), takeX (s.data.toList.drop a) = (t, b, 0) → b ≤ s.size - a ∧ t.length ≤ 262144 := fun a t b e => by
    have := tx (s.data.toList.drop a); rw [e] at this; dsimp only at this; rw [List.length_drop] at this; exact ⟨by omega, this.2⟩
  have step3 : ∀ (a q c : Nat), takeN (s.data.toList.drop a) = (q, c, 0) → c ≤ s.size - a ∧ q ≤ 4611686018427387904 := fun a q c e => by
    have := tn (s.data.toList.drop a); rw [e] at this; dsimp only at this; rw [List.length_drop] at this; exact ⟨by omega, this.2⟩
  have ct := fun (n : Nat) (t : List UInt8) => rcom_is last (last.extract 0 n ++ bs t) k (by omega) (by omega)
  cases h with
  | n a e n h1 h2 =>
    rw [t1, h1]; rw [Option.bind_some]; dsimp only [outI]
    by_cases c : (e : Int) = 0
    · rw [if_pos c, if_neg (by omega)]; exact ⟨_, rfl, rfl⟩
    · rw [if_neg c]; exact ⟨_, rfl, rfl⟩
  | t n a t b f h1 h2 h3 h4 =>
    obtain ⟨b1, b2⟩ := step n a h1; rw [t1, h1]; rw [Option.bind_some]; dsimp only [outI]; rw [if_pos (by omega), if_pos (by omega), if_pos (by omega), if_pos (by omega), Int.toNat_natCast, rttext_is _ k (by have := hz a; omega) (by omega), hx, h3]; rw [Option.bind_some]; dsimp only [outT]; rw [if_neg (by omega)]; exact ⟨_, rfl, rfl⟩
  | q n a t b q c g h1 h2 h3 h4 h5 =>
    obtain ⟨b1, b2⟩ := step n a h1; obtain ⟨b3, b4⟩ := step2 a t b h3; rw [t1, h1]; rw [Option.bind_some]; dsimp only [outI]; rw [if_pos (by omega), if_pos (by omega), if_pos (by omega), if_pos (by omega), Int.toNat_natCast, rttext_is _ k (by have := hz a; omega) (by omega), hx, h3]; rw [Option.bind_some]; dsimp only [outT]; rw [if_pos (by omega), w64 (by omega) (by omega), show (a : Int) + (b : Int) = ((a + b : Nat) : Int) from by omega, if_pos (by omega), if_pos (by omega), Int.toNat_natCast, rtake_is _ k (by omega), hx, h4]; rw [Option.bind_some]; dsimp only [outI]
    by_cases cg : (g : Int) = 0
    · rw [if_pos cg, if_pos (by omega), Int.toNat_natCast, if_pos (by have := key_form_size last n; rw [bs_size]; omega), ct n t]; rw [Option.bind_some]; rw [key_form, bs_list, if_neg (by omega)]; exact ⟨_, rfl, rfl⟩
    · rw [if_neg cg]; exact ⟨_, rfl, rfl⟩
  | gone n a t b q c h1 h2 h3 h4 h5 h6 =>
    obtain ⟨b1, b2⟩ := step n a h1; obtain ⟨b3, b4⟩ := step2 a t b h3; obtain ⟨b5, b6⟩ := step3 (a + b) q c h4; rw [t1, h1]; rw [Option.bind_some]; dsimp only [outI]; rw [if_pos (by omega), if_pos (by omega), if_pos (by omega), if_pos (by omega), Int.toNat_natCast, rttext_is _ k (by have := hz a; omega) (by omega), hx, h3]; rw [Option.bind_some]; dsimp only [outT]; rw [if_pos (by omega), w64 (n := (a : Int) + (b : Int)) (by omega) (by omega), show (a : Int) + (b : Int) = ((a + b : Nat) : Int) from by omega, if_pos (by omega), if_pos (by omega), Int.toNat_natCast, rtake_is _ k (by omega), hx, h4]; rw [Option.bind_some]; dsimp only [outI]; rw [if_pos (by omega), if_pos (by omega), Int.toNat_natCast, if_pos (by have := key_form_size last n; rw [bs_size]; omega), ct n t]; rw [Option.bind_some]; rw [key_form, bs_list, h5, if_pos (by omega), if_pos (by rw [show (2 : Int) = ((2 : Nat) : Int) from rfl, ← Int.ofNat_tmod, h6]; rfl), w64 (n := ((a + b : Nat) : Int) + (c : Int)) (by omega) (by omega), w64 (by rw [show (2 : Int) = ((2 : Nat) : Int) from rfl, ← Int.ofNat_tdiv]; omega) (by rw [show (2 : Int) = ((2 : Nat) : Int) from rfl, ← Int.ofNat_tdiv]; omega)]; refine ⟨_, rfl, ?_⟩; rw [show (2 : Int) = ((2 : Nat) : Int) from rfl, ← Int.ofNat_tdiv]; rfl
  | v n a t b q c v d h h1 h2 h3 h4 h5 h6 h7 h8 =>
    obtain ⟨b1, b2⟩ := step n a h1; obtain ⟨b3, b4⟩ := step2 a t b h3; obtain ⟨b5, b6⟩ := step3 (a + b) q c h4; rw [t1, h1]; rw [Option.bind_some]; dsimp only [outI]; rw [if_pos (by omega), if_pos (by omega), if_pos (by omega), if_pos (by omega), Int.toNat_natCast, rttext_is _ k (by have := hz a; omega) (by omega), hx, h3]; rw [Option.bind_some]; dsimp only [outT]; rw [if_pos (by omega), w64 (n := (a : Int) + (b : Int)) (by omega) (by omega), show (a : Int) + (b : Int) = ((a + b : Nat) : Int) from by omega, if_pos (by omega), if_pos (by omega), Int.toNat_natCast, rtake_is _ k (by omega), hx, h4]; rw [Option.bind_some]; dsimp only [outI]; rw [if_pos (by omega), if_pos (by omega), Int.toNat_natCast, if_pos (by have := key_form_size last n; rw [bs_size]; omega), ct n t]; rw [Option.bind_some]; rw [key_form, bs_list, h5, if_pos (by omega), if_neg (by rw [show (2 : Int) = ((2 : Nat) : Int) from rfl, ← Int.ofNat_tmod]; omega), w64 (n := ((a + b : Nat) : Int) + (c : Int)) (by omega) (by omega), show ((a + b : Nat) : Int) + (c : Int) = ((a + b + c : Nat) : Int) from by omega, if_pos (by omega), if_pos (by omega), Int.toNat_natCast, rttext_is _ k (by have := hz (a + b + c); omega) (by omega), hx, h7]; rw [Option.bind_some]; dsimp only [outT]; refine ⟨_, rfl, ?_⟩
    show (((h : Nat) : Int) == 0) = false
    rw [beq_eq_false_iff_ne]; omega
  | all n a t b q c v d h1 h2 h3 h4 h5 h6 h7 =>
    obtain ⟨b1, b2⟩ := step n a h1; obtain ⟨b3, b4⟩ := step2 a t b h3; obtain ⟨b5, b6⟩ := step3 (a + b) q c h4; obtain ⟨b7, b8⟩ := step2 (a + b + c) v d h7; rw [t1, h1]; rw [Option.bind_some]; dsimp only [outI]; rw [if_pos (by omega), if_pos (by omega), if_pos (by omega), if_pos (by omega), Int.toNat_natCast, rttext_is _ k (by have := hz a; omega) (by omega), hx, h3]; rw [Option.bind_some]; dsimp only [outT]; rw [if_pos (by omega), w64 (n := (a : Int) + (b : Int)) (by omega) (by omega), show (a : Int) + (b : Int) = ((a + b : Nat) : Int) from by omega, if_pos (by omega), if_pos (by omega), Int.toNat_natCast, rtake_is _ k (by omega), hx, h4]; rw [Option.bind_some]; dsimp only [outI]; rw [if_pos (by omega), if_pos (by omega), Int.toNat_natCast, if_pos (by have := key_form_size last n; rw [bs_size]; omega), ct n t]; rw [Option.bind_some]; rw [key_form, bs_list, h5, if_pos (by omega), if_neg (by rw [show (2 : Int) = ((2 : Nat) : Int) from rfl, ← Int.ofNat_tmod]; omega), w64 (n := ((a + b : Nat) : Int) + (c : Int)) (by omega) (by omega), show ((a + b : Nat) : Int) + (c : Int) = ((a + b + c : Nat) : Int) from by omega, if_pos (by omega), if_pos (by omega), Int.toNat_natCast, rttext_is _ k (by have := hz (a + b + c); omega) (by omega), hx, h7]; rw [Option.bind_some]; dsimp only [outT]; refine ⟨_, rfl, ?_⟩; rw [show (2 : Int) = ((2 : Nat) : Int) from rfl, ← Int.ofNat_tdiv, w64 (n := ((a + b + c : Nat) : Int) + (d : Int)) (by omega) (by omega), w64 (by omega) (by omega), show ((a + b + c : Nat) : Int) + (d : Int) = ((a + b + c + d : Nat) : Int) from by omega]; rfl
end Go.Proofs.Ytlmoafkmhenejaa.VaRT
end
section
namespace Go.Proofs.Ytlmoafkmhenejaa.XA
end Go.Proofs.Ytlmoafkmhenejaa.XA
namespace Go.Proofs.Ytlmoafkmhenejaa.VLib
end Go.Proofs.Ytlmoafkmhenejaa.VLib
namespace Go.Proofs.Ytlmoafkmhenejaa.CLib
end Go.Proofs.Ytlmoafkmhenejaa.CLib
namespace Go.Proofs.Ytlmoafkmhenejaa.XW
end Go.Proofs.Ytlmoafkmhenejaa.XW
namespace Go.Proofs.Ytlmoafkmhenejaa.VaB1
end Go.Proofs.Ytlmoafkmhenejaa.VaB1
namespace Go.Proofs.Ytlmoafkmhenejaa.VaB2
end Go.Proofs.Ytlmoafkmhenejaa.VaB2
namespace Go.Proofs.Ytlmoafkmhenejaa.VaB3
end Go.Proofs.Ytlmoafkmhenejaa.VaB3
namespace Go.Proofs.Ytlmoafkmhenejaa.VaChk
end Go.Proofs.Ytlmoafkmhenejaa.VaChk
namespace Go.Proofs.Ytlmoafkmhenejaa.VaPut
end Go.Proofs.Ytlmoafkmhenejaa.VaPut
namespace Go.Proofs.Ytlmoafkmhenejaa.VaRT
end Go.Proofs.Ytlmoafkmhenejaa.VaRT
namespace Go.Proofs.YtlmoafkmhenejaaW.PrintWords
end Go.Proofs.YtlmoafkmhenejaaW.PrintWords
namespace Go.Proofs.YtlmoafkmhenejaaW.PrintLast
end Go.Proofs.YtlmoafkmhenejaaW.PrintLast
namespace Go.Proofs.YtlmoafkmhenejaaW.PrintMore
end Go.Proofs.YtlmoafkmhenejaaW.PrintMore
namespace Go.Proofs.Ytlmoafkmhenejaa.VaRT2
open Go.RowKit Go.Proofs.Ytlmoafkmhenejaa.XA Go.Proofs.Ytlmoafkmhenejaa.VLib Go.Proofs.Ytlmoafkmhenejaa.CLib Go.Proofs.Ytlmoafkmhenejaa.XW Go.Proofs.Ytlmoafkmhenejaa.VaB1 Go.Proofs.Ytlmoafkmhenejaa.VaB2 Go.Proofs.Ytlmoafkmhenejaa.VaB3 Go.Proofs.Ytlmoafkmhenejaa.VaChk Go.Proofs.Ytlmoafkmhenejaa.VaPut Go.Proofs.Ytlmoafkmhenejaa.VaRT Go.Proofs.YtlmoafkmhenejaaW.PrintWords Go.Proofs.YtlmoafkmhenejaaW.PrintLast Go.Proofs.YtlmoafkmhenejaaW.PrintMore
theorem one_len (last s : List UInt8) (e : S43) (m : Nat) (h : oneL last s = some (e, m)) : (kL e).length ≤ last.length + m ∧ m ≤ s.length := by
  have hw := one_ways last s
  rw [h] at hw
  have tn := fun l => takeN_le l
  have tb : ∀ (l t : List UInt8) (b : Nat), takeX l = (t, b, 0) → t.length ≤ b ∧ b ≤ l.length := fun l t b e => by
    obtain ⟨h1, h2, h3, h4⟩ := takeX_back l t b e; have := congrArg List.length h3; rw [List.length_append, List.length_take] at this
    omega
  generalize ho : some (e, m) = o at hw
  cases hw with
  | n => cases ho
  | t => cases ho
  | q => cases ho
  | v => cases ho
  | gone n a t b q c h1 h2 h3 h4 h5 h6 =>
    obtain ⟨rfl, rfl⟩ := Prod.mk.inj (Option.some.inj ho); obtain ⟨b1, b2⟩ := tb _ _ _ h3; have n1 := tn s; have n2 := tn (s.drop (a + b)); rw [h1] at n1; rw [h4] at n2; dsimp only at n1 n2; rw [List.length_drop] at b2 n2; refine ⟨?_, by omega⟩
    show (last.take n ++ t).length ≤ _
    rw [List.length_append, List.length_take]; omega
  | all n a t b q c v d h1 h2 h3 h4 h5 h6 h7 =>
    obtain ⟨rfl, rfl⟩ := Prod.mk.inj (Option.some.inj ho); obtain ⟨b1, b2⟩ := tb _ _ _ h3; obtain ⟨b3, b4⟩ := tb _ _ _ h7; have n1 := tn s; have n2 := tn (s.drop (a + b)); rw [h1] at n1; rw [h4] at n2; dsimp only at n1 n2; rw [List.length_drop] at b2 n2 b4; refine ⟨?_, by omega⟩
    show (last.take n ++ t).length ≤ _
    rw [List.length_append, List.length_take]; omega
def endB (out : List S43) (left : Nat) (y : Option (List S43 × Nat)) : Option (List S43) := y.bind fun y => if y.2 = left ∧ okB (out ++ y.1) = true then some (out ++ y.1) else none
theorem endB_step (out : List S43) (left : Nat) (n : Nat) (last s : List UInt8) (e : S43) (m : Nat) (h : oneL last s = some (e, m)) (hm : m ≤ left) :
    endB out left (entsL (n + 1) last s) = endB (out ++ [e]) (left - m) (entsL n (kL e) (s.drop m)) := by
  unfold endB
  simp only [entsL]
  rw [h, Option.bind_some]
  cases hy : entsL n (kL e) (s.drop m) with
  | none => rfl
  | some y =>
    simp only [Option.bind_some, List.append_assoc, List.cons_append, List.nil_append]
    by_cases c : y.2 = left - m ∧ okB (out ++ e :: y.1) = true
    · rw [if_pos c, if_pos ⟨by omega, c.2⟩]
    · rw [if_neg c, if_neg (fun x => c ⟨by omega, x.2⟩)]
theorem endB_none (out : List S43) (left : Nat) (n : Nat) (last s : List UInt8) (h : oneL last s = none) : endB out left (entsL (n + 1) last s) = none := by
  unfold endB
  simp only [entsL]
  rw [h]; rfl
theorem rtk_l0 (S : ByteArray) (hS : S.size ≤ 1099511627776) (N : Nat) (hN : N ≤ 4096) : ∀ (n i k p : Nat) (out : List S43) (last : ByteArray), i + n = N → p ≤ S.size → last.size ≤ p → out.length = i → n + S.size + 5000 ≤ k →
    sorrelref09_Take.l0 k S (N : Int) (p : Int) out last (i : Int) = some (outB (endB out (S.size - p) (entsL n last.data.toList (S.data.toList.drop p)))) := by
  have hlS := len_list S
  intro n
  induction n with
  | zero =>
    intro i k p out last h hp hl ho hk; obtain ⟨k, rfl⟩ : ∃ m, k = m + 1 := ⟨k - 1, by omega⟩; simp only [sorrelref09_Take.l0]; rw [if_neg (by omega)]
    unfold endB
    simp only [entsL, Option.bind_some, List.append_nil]
    by_cases c : p = S.size
    · rw [if_pos (by omega), rcheck_is_ out k (by omega), Option.bind_some]
      cases hb : okB out
      · rw [if_neg (show ¬ (false = true) by decide), if_neg (show ¬ ((1 : Int) = 0) by decide), if_neg (show ¬ (0 = S.size - p ∧ false = true) from fun x => by cases x.2)]; rfl
      · rw [if_pos (show true = true from rfl), if_pos (show (0 : Int) = 0 from rfl), if_pos (show 0 = S.size - p ∧ true = true from ⟨by omega, rfl⟩)]; rfl
    · rw [if_neg (by omega), if_neg (fun x => c (by omega))]; rfl
  | succ n ih =>
    intro i k p out last h hp hl ho hk; obtain ⟨k, rfl⟩ : ∃ m, k = m + 1 := ⟨k - 1, by omega⟩; have hx : (S.extract p S.size).data.toList = S.data.toList.drop p := ext_drop S p; have hz : (S.extract p S.size).size ≤ S.size := by rw [← len_list, hx, List.length_drop]; omega
    obtain ⟨r, hr, hm⟩ := rone_is (S.extract p S.size) last k (by omega) (by omega) (by omega); rw [hx] at hm; simp only [sorrelref09_Take.l0]; rw [if_pos (by omega), if_pos (by omega), if_pos (by omega), Int.toNat_natCast, hr, Option.bind_some]
    cases ho1 : oneL last.data.toList (S.data.toList.drop p) with
    | none =>
      rw [ho1] at hm; dsimp only at hm; rw [hm, if_neg (by decide), endB_none _ _ _ _ _ ho1]; rfl
    | some x =>
      obtain ⟨e, m⟩ := x; rw [ho1] at hm; dsimp only at hm; subst hm; obtain ⟨l1, l2⟩ := one_len _ _ e m ho1; rw [List.length_drop] at l2; rw [len_list] at l1; dsimp only
      rw [if_pos rfl, if_pos (by omega), w64 (by omega) (by omega), w64 (by omega) (by omega), show (p : Int) + (m : Int) = ((p + m : Nat) : Int) from by omega, show (i : Int) + 1 = ((i + 1 : Nat) : Int) from by omega,
        ih (i + 1) k (p + m) _ e.f0 (by omega) (by omega) (by have : (kL e).length = e.f0.size := len_list _; omega) (by rw [List.length_append, ho]; rfl) (by omega), endB_step _ _ _ _ _ e m ho1 (by omega), List.drop_drop, Nat.sub_sub]
      rfl
theorem blkT_end (s : List UInt8) : blkT s = if chk s = true ∧ (takeN (s.take (s.length - 4))).2.2 = 0 ∧ (takeN (s.take (s.length - 4))).1 ≤ 4096 then
    endB [] ((s.take (s.length - 4)).length - (takeN (s.take (s.length - 4))).2.1) (entsL (takeN (s.take (s.length - 4))).1 [] ((s.take (s.length - 4)).drop (takeN (s.take (s.length - 4))).2.1)) else none := by
  have hn := (takeN_le (s.take (s.length - 4))).1
  unfold blkT endB
  by_cases c : chk s = true ∧ (takeN (s.take (s.length - 4))).2.2 = 0 ∧ (takeN (s.take (s.length - 4))).1 ≤ 4096
  · rw [if_pos c, if_pos c]
    cases entsL (takeN (s.take (s.length - 4))).1 [] ((s.take (s.length - 4)).drop (takeN (s.take (s.length - 4))).2.1) with
    | none => rfl
    | some y =>
      simp only [Option.bind_some, List.nil_append]
      by_cases d : y.2 = (s.take (s.length - 4)).length - (takeN (s.take (s.length - 4))).2.1 ∧ okB y.1 = true
      · rw [if_pos d, if_pos ⟨by omega, d.2⟩]
      · rw [if_neg d, if_neg (fun x => d ⟨by omega, x.2⟩)]
  · rw [if_neg c, if_neg c]
theorem chk_len (s : List UInt8) (h : chk s = true) : 4 ≤ s.length := by
  unfold chk at h
  rw [Bool.and_eq_true, decide_eq_true_eq] at h
  exact h.1
theorem rtk_is (s : ByteArray) (k : Nat) (hs : s.size ≤ 1099511627776) (hk : 10 * s.size + 9200 ≤ k) : sorrelref09_Take.f k s = some (outB (blkT s.data.toList)) := by
  have hls := len_list s
  unfold sorrelref09_Take.f
  rw [rcheck_is s k (by omega) (by omega), Option.bind_some, blkT_end]
  cases hc : chk s.data.toList
  · rw [if_neg (by decide), if_neg (fun x => by cases x.1)]; rfl
  · have h4 := chk_len _ hc; rw [if_pos rfl, w64 (by omega) (by omega), if_pos (by omega), if_pos (by omega), show ((s.size : Int) - 4).toNat = s.data.toList.length - 4 from by omega]; have hx : (s.extract 0 (s.data.toList.length - 4)).data.toList = s.data.toList.take (s.data.toList.length - 4) := by rw [extract_list, List.drop_zero]
    have hz : (s.extract 0 (s.data.toList.length - 4)).size = (s.data.toList.take (s.data.toList.length - 4)).length := by rw [← len_list, hx]
    have hz2 : (s.data.toList.take (s.data.toList.length - 4)).length ≤ s.size := by rw [List.length_take]; omega
    have hn := takeN_le (s.data.toList.take (s.data.toList.length - 4)); rw [rtake_is _ k (by omega), hx, Option.bind_some]; dsimp only [outI]
    by_cases c : (takeN (s.data.toList.take (s.data.toList.length - 4))).2.2 = 0
    · rw [if_pos (by omega)]
      by_cases d : (takeN (s.data.toList.take (s.data.toList.length - 4))).1 ≤ 4096
      · rw [if_neg (by omega), if_pos ⟨rfl, c, d⟩]; have := rtk_l0 (s.extract 0 (s.data.toList.length - 4)) (by omega) (takeN (s.data.toList.take (s.data.toList.length - 4))).1 d (takeN (s.data.toList.take (s.data.toList.length - 4))).1 0 k (takeN (s.data.toList.take (s.data.toList.length - 4))).2.1 [] (⟨#[]⟩ : ByteArray) (by omega) (by omega) (Nat.zero_le _) rfl (by omega); rw [hx, hz] at this; exact this
      · rw [if_pos (by omega), if_neg (fun x => d x.2.2)]; rfl
    · rw [if_neg (by omega), if_neg (fun x => c x.2.1)]; rfl
end Go.Proofs.Ytlmoafkmhenejaa.VaRT2
end
