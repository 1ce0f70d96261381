import Derived.Test.YtlmoafkmhenejaakPXAx2
import Derived.Test.YtlmoafkmhenejaakPXAx3
import Derived.Test.YtlmoafkmhenejaakPXAx4
import Derived.Test.YtlmoafkmhenejaakPXAx5
import Derived.Test.YtlmoafkmhenejaakPXAx6
import Derived.Test.YtlmoafkmhenejaakPXAx7
import Derived.Test.YtlmoafkmhenejaakPXAx8
import Derived.Test.YtlmoafkmhenejaakPXAx9
import Derived.Test.YtlmoafkmhenejaakPXAx0
import Derived.Test.YtlmoafkmhenejaakPXAx12
import Derived.Test.YtlmoafkmhenejaakPXAx13
import Derived.Test.YtlmoafkmhenejaakPVLib
import Derived.Test.YtlmoafkmhenejaakPOpn
import Derived.Test.YtlmoafkmhenejaakPVaChk
import Derived.Test.YtlmoafkmhenejaakPMTab8
import Derived.Test.YtlmoafkmhenejaakPVaBits
import Derived.Test.YtlmoafkmhenejaakPVaBack
section
namespace Go.Proofs.Ytlmoafkmhenejaa.XA
end Go.Proofs.Ytlmoafkmhenejaa.XA
namespace Go.Proofs.Ytlmoafkmhenejaa.VLib
end Go.Proofs.Ytlmoafkmhenejaa.VLib
namespace Go.Proofs.Ytlmoafkmhenejaa.XW
end Go.Proofs.Ytlmoafkmhenejaa.XW
namespace Go.Proofs.Ytlmoafkmhenejaa.VaChk
end Go.Proofs.Ytlmoafkmhenejaa.VaChk
namespace Go.Proofs.YtlmoafkmhenejaaW.PrintWords
end Go.Proofs.YtlmoafkmhenejaaW.PrintWords
namespace Go.Proofs.YtlmoafkmhenejaaW.PrintLast
end Go.Proofs.YtlmoafkmhenejaaW.PrintLast
namespace Go.Proofs.YtlmoafkmhenejaaW.PrintMore
end Go.Proofs.YtlmoafkmhenejaaW.PrintMore
namespace Go.Proofs.Ytlmoafkmhenejaa.VaMade
open Go.RowKit Go.Proofs.Ytlmoafkmhenejaa.XA Go.Proofs.Ytlmoafkmhenejaa.VLib Go.Proofs.Ytlmoafkmhenejaa.XW Go.Proofs.Ytlmoafkmhenejaa.VaChk Go.Proofs.YtlmoafkmhenejaaW.PrintWords Go.Proofs.YtlmoafkmhenejaaW.PrintLast Go.Proofs.YtlmoafkmhenejaaW.PrintMore
def ins (x : S43) : List S43 → List S43
  | [] => [x]
  | h :: t => if LE h x = true then h :: ins x t else if LE x h = true then x :: h :: t else x :: t
theorem LE_eqv {x h : S43} (h1 : LE h x = false) (h2 : LE x h = false) (b : S43) : LE x b = LE h b := by
  have e : h.f0.toList = x.f0.toList ∧ h.f3 = x.f3 := by
    rcases LE_tri h x with g | g | g
    · rw [h1] at g; cases g
    · exact g
    · rw [h2] at g; cases g
  unfold VaChk.LE
  rw [e.1, e.2, toList_inj.1 e.1]
theorem ins_ok (x : S43) (hx : mayE x = true) : ∀ (l : List S43) (p : Option S43), okFrom p l = true → (∀ a, p = some a → LE a x = true) → okFrom p (ins x l) = true := by
  have one : ∀ (p : Option S43) (e : S43) (r : List S43), okFrom p (e :: r) = true ↔ mayE e = true ∧ (∀ a, p = some a → LE a e = true) ∧ okFrom (some e) r = true := by
    intro p e r
    cases p with
    | none => simp [okFrom]
    | some a => simp [okFrom, and_assoc]
  intro l
  induction l with
  | nil => intro p _ hp; exact (one p x []).2 ⟨hx, hp, rfl⟩
  | cons h t ih =>
    intro p ho hp
    obtain ⟨o1, o2, o3⟩ := (one p h t).1 ho
    unfold ins
    by_cases c1 : LE h x = true
    · rw [if_pos c1]
      exact (one p h _).2 ⟨o1, o2, ih (some h) o3 (fun a e => by cases e; exact c1)⟩
    · rw [if_neg c1]
      by_cases c2 : LE x h = true
      · rw [if_pos c2]
        exact (one p x _).2 ⟨hx, hp, (one (some x) h t).2 ⟨o1, fun a e => by cases e; exact c2, o3⟩⟩
      · rw [if_neg c2]
        refine (one p x _).2 ⟨hx, hp, ?_⟩
        cases t with
        | nil => rfl
        | cons b t =>
          obtain ⟨p1, p2, p3⟩ := (one (some h) b t).1 o3
          refine (one (some x) b t).2 ⟨p1, fun a e => ?_, p3⟩
          cases e
          rw [LE_eqv (Bool.eq_false_iff.2 c1) (Bool.eq_false_iff.2 c2)]
          exact p2 h rfl
theorem ins_cons (x h : S43) (t : List S43) : ins x (h :: t) = if LE h x = true then h :: ins x t else if LE x h = true then x :: h :: t else x :: t := rfl
theorem ins_len (x : S43) : ∀ l : List S43, (ins x l).length ≤ l.length + 1
  | [] => Nat.le_refl _
  | h :: t => by
    have := ins_len x t
    unfold ins
    split
    · simp only [List.length_cons]; omega
    · split <;> simp only [List.length_cons] <;> omega
theorem put1_l0 (x : S43) (m : List S43) (hm : m.length ≤ 4096) : ∀ (n i k : Nat), i + n = m.length → n + 1 ≤ k → sorrelref09_Put1.l0 k m (i : Int) x.f0 x.f1 x.f2 x.f3 = some (m.take i ++ ins x (m.drop i)) := by
  intro n
  induction n with
  | zero =>
    intro i k h hk
    obtain ⟨k, rfl⟩ : ∃ m, k = m + 1 := ⟨k - 1, by omega⟩
    simp only [sorrelref09_Put1.l0]
    have ht : (m.take i).length ≤ m.length := by rw [List.length_take]; omega
    have hd : m.drop i = [] := List.drop_eq_nil_of_le (by omega)
    rw [if_neg (by omega), if_pos (by omega), if_pos (by omega), Int.toNat_natCast, hd, Option.bind_some, if_pos (by rw [List.length_nil]; omega), Option.bind_some, List.nil_append, if_pos (by omega), Option.bind_some, Option.bind_some,
      if_pos (by rw [List.length_append, List.length_singleton, List.length_nil]; omega), List.append_nil]
    rfl
  | succ n ih =>
    intro i k h hk
    obtain ⟨k, rfl⟩ : ∃ m, k = m + 1 := ⟨k - 1, by omega⟩
    have hi : i < m.length := by omega
    have ht : (m.take i).length ≤ m.length := by rw [List.length_take]; omega
    have hd : m.drop i = m[i] :: m.drop (i + 1) := (List.getElem_cons_drop hi).symm
    have hn : (m.drop i).length ≤ m.length := by rw [List.length_drop]; omega
    have hn2 : (m.drop (i + 1)).length ≤ m.length := by rw [List.length_drop]; omega
    simp only [sorrelref09_Put1.l0]
    rw [if_pos (by omega), if_pos (by omega), rdT m i hi, rless_is, Option.bind_some]
    by_cases c1 : LE m[i] x = true
    · rw [if_pos c1, w64 (by omega) (by omega), show (i : Int) + 1 = ((i + 1 : Nat) : Int) from by omega, ih (i + 1) k (by omega) (by omega), hd]
      rw [ins_cons, if_pos c1, List.take_succ_eq_append_getElem hi, List.append_assoc]
      rfl
    · rw [if_neg c1, if_pos (by omega), Int.toNat_natCast, Option.bind_some, if_pos (by rw [List.length_nil]; omega), Option.bind_some, List.nil_append, if_pos (by omega), Option.bind_some, rless_is, Option.bind_some]
      by_cases c2 : LE x m[i] = true
      · rw [if_pos c2, Option.bind_some, if_pos (by rw [List.length_append, List.length_singleton]; omega), hd]
        rw [ins_cons, if_neg c1, if_pos c2, List.append_assoc]
        rfl
      · rw [if_neg c2, w64 (by omega) (by omega), if_pos (by omega), if_pos (by omega), show ((i : Int) + 1).toNat = i + 1 from by omega, Option.bind_some, if_pos (by rw [List.length_append, List.length_singleton]; omega), hd]
        rw [ins_cons, if_neg c1, if_neg c2, List.append_assoc]
        rfl
theorem put1_is (x : S43) (m : List S43) (k : Nat) (hm : m.length ≤ 4096) (hk : m.length + 1 ≤ k) : sorrelref09_Put1.f k m x.f0 x.f1 x.f2 x.f3 = some (if mayE x = true then ins x m else m) := by
  unfold sorrelref09_Put1.f
  rw [rmay_is, Option.bind_some]
  split
  · have := put1_l0 x m hm m.length 0 k (by omega) hk
    exact this
  · rfl
theorem okM_iff (l : List S43) : okB l = true ↔ l.length ≤ 4096 ∧ okFrom none l = true := by unfold okB; rw [Bool.and_eq_true, decide_eq_true_eq]
theorem made_l0 (l : List S43) (hl : l.length ≤ 1000) : ∀ (n i k : Nat) (m : List S43), i + n = l.length → okB m = true → m.length ≤ i → n + 1 + 1100 ≤ k → ∃ r, sorrellaw10_made.l0 k l m (i : Int) = some r ∧ okB r = true ∧ r.length ≤ l.length := by
  intro n
  induction n with
  | zero =>
    intro i k m h ho hm hk
    obtain ⟨k, rfl⟩ : ∃ m, k = m + 1 := ⟨k - 1, by omega⟩
    simp only [sorrellaw10_made.l0]
    rw [if_neg (by omega)]; exact ⟨m, rfl, ho, by omega⟩
  | succ n ih =>
    intro i k m h ho hm hk
    obtain ⟨k, rfl⟩ : ∃ m, k = m + 1 := ⟨k - 1, by omega⟩
    simp only [sorrellaw10_made.l0]
    rw [if_pos (by omega), if_pos (by omega), put1_is _ m k (by omega) (by omega), Option.bind_some, w64 (by omega) (by omega), show (i : Int) + 1 = ((i + 1 : Nat) : Int) from by omega]
    have hb := (okM_iff m).1 ho
    refine ih (i + 1) k _ (by omega) ?_ ?_ (by omega)
    · split
      · next hx =>
        have := ins_len (rd_T43 l (i : Int)) m
        exact (okM_iff _).2 ⟨by omega, ins_ok _ hx m none hb.2 (fun a e => by cases e)⟩
      · exact ho
    · split
      · have := ins_len (rd_T43 l (i : Int)) m; omega
      · omega
theorem made_is (l : List S43) (hl : l.length ≤ 1000) (k : Nat) (hk : 2200 ≤ k) : ∃ r, sorrellaw10_made.f k l = some r ∧ okB r = true ∧ r.length ≤ l.length :=
  made_l0 l hl l.length 0 k [] (by omega) rfl (Nat.zero_le _) (by omega)
theorem light_l0 (l : List S43) : ∀ (n i k : Nat), i + n = 81 → n + 1 ≤ k → ∃ b, sorrellaw10_light.l0 k l (i : Int) = some b ∧ (b = true → l.length ≤ 80) := by
  intro n
  induction n with
  | zero =>
    intro i k h hk
    obtain ⟨k, rfl⟩ : ∃ m, k = m + 1 := ⟨k - 1, by omega⟩
    simp only [sorrellaw10_light.l0]
    by_cases c : i < l.length
    · rw [if_pos (by omega), if_neg (by omega)]; exact ⟨_, rfl, fun h => by have := of_decide_eq_true h; omega⟩
    · rw [if_neg (by omega)]; exact ⟨_, rfl, fun h => by have := of_decide_eq_true h; omega⟩
  | succ n ih =>
    intro i k h hk
    obtain ⟨k, rfl⟩ : ∃ m, k = m + 1 := ⟨k - 1, by omega⟩
    simp only [sorrellaw10_light.l0]
    by_cases c : i < l.length
    · rw [if_pos (by omega)]
      by_cases c2 : i < 80
      · rw [if_pos (by omega), if_pos (by omega)]
        split
        · exact ⟨_, rfl, fun h => by cases h⟩
        · split
          · exact ⟨_, rfl, fun h => by cases h⟩
          · rw [w64 (by omega) (by omega), show (i : Int) + 1 = ((i + 1 : Nat) : Int) from by omega]
            exact ih (i + 1) k (by omega) (by omega)
      · rw [if_neg (by omega)]; exact ⟨_, rfl, fun h => by have := of_decide_eq_true h; omega⟩
    · rw [if_neg (by omega)]; exact ⟨_, rfl, fun h => by have := of_decide_eq_true h; omega⟩
theorem light_is (l : List S43) (k : Nat) (hk : 82 ≤ k) : ∃ b, sorrellaw10_light.f k l = some b ∧ (b = true → l.length ≤ 80) := light_l0 l 81 0 k (by omega) hk
end Go.Proofs.Ytlmoafkmhenejaa.VaMade
end
section
namespace Go.Proofs.Ytlmoafkmhenejaa.XA
end Go.Proofs.Ytlmoafkmhenejaa.XA
namespace Go.Proofs.Ytlmoafkmhenejaa.VLib
end Go.Proofs.Ytlmoafkmhenejaa.VLib
namespace Go.Proofs.Ytlmoafkmhenejaa.XW
end Go.Proofs.Ytlmoafkmhenejaa.XW
namespace Go.Proofs.Ytlmoafkmhenejaa.VaChk
end Go.Proofs.Ytlmoafkmhenejaa.VaChk
namespace Go.Proofs.Ytlmoafkmhenejaa.VaMade
end Go.Proofs.Ytlmoafkmhenejaa.VaMade
namespace Go.Proofs.YtlmoafkmhenejaaW.PrintWords
end Go.Proofs.YtlmoafkmhenejaaW.PrintWords
namespace Go.Proofs.YtlmoafkmhenejaaW.PrintLast
end Go.Proofs.YtlmoafkmhenejaaW.PrintLast
namespace Go.Proofs.YtlmoafkmhenejaaW.PrintMore
end Go.Proofs.YtlmoafkmhenejaaW.PrintMore
namespace Go.Proofs.Ytlmoafkmhenejaa.VaFnd
open Go.RowKit Go.Proofs.Ytlmoafkmhenejaa.XA Go.Proofs.Ytlmoafkmhenejaa.VLib Go.Proofs.Ytlmoafkmhenejaa.XW Go.Proofs.Ytlmoafkmhenejaa.VaChk Go.Proofs.Ytlmoafkmhenejaa.VaMade Go.Proofs.YtlmoafkmhenejaaW.PrintWords Go.Proofs.YtlmoafkmhenejaaW.PrintLast Go.Proofs.YtlmoafkmhenejaaW.PrintMore
theorem ok_cons (p : Option S43) (e : S43) (r : List S43) : okFrom p (e :: r) = true ↔ mayE e = true ∧ (∀ a, p = some a → LE a e = true) ∧ okFrom (some e) r = true := by
  cases p with
  | none => simp [okFrom]
  | some a => simp [okFrom, and_assoc]
theorem ok_pw : ∀ (l : List S43) (p : Option S43), okFrom p l = true → (∀ a, p = some a → ∀ e ∈ l, LE a e = true) ∧ l.Pairwise (fun a b => LE a b = true) ∧ ∀ e ∈ l, mayE e = true := by
  intro l
  induction l with
  | nil => intro p _; exact ⟨fun a _ e h => (List.not_mem_nil h).elim, List.Pairwise.nil, fun e h => (List.not_mem_nil h).elim⟩
  | cons e t ih =>
    intro p h
    obtain ⟨h1, h2, h3⟩ := (ok_cons p e t).1 h
    obtain ⟨g1, g2, g3⟩ := ih (some e) h3
    refine ⟨fun a ha x hx => ?_, List.Pairwise.cons (fun x hx => g1 e rfl x hx) g2, fun x hx => ?_⟩
    · cases hx with
      | head => exact h2 a ha
      | tail _ hx => exact LE_trans (h2 a ha) (g1 e rfl x hx)
    · cases hx with
      | head => exact h1
      | tail _ hx => exact g3 x hx
end Go.Proofs.Ytlmoafkmhenejaa.VaFnd
end
section
namespace Go.Proofs.Ytlmoafkmhenejaa.XA
end Go.Proofs.Ytlmoafkmhenejaa.XA
namespace Go.Proofs.Ytlmoafkmhenejaa.VLib
end Go.Proofs.Ytlmoafkmhenejaa.VLib
namespace Go.Proofs.Ytlmoafkmhenejaa.CLib
end Go.Proofs.Ytlmoafkmhenejaa.CLib
namespace Go.Proofs.Ytlmoafkmhenejaa.XW
end Go.Proofs.Ytlmoafkmhenejaa.XW
namespace Go.Proofs.Ytlmoafkmhenejaa.VaB1
end Go.Proofs.Ytlmoafkmhenejaa.VaB1
namespace Go.Proofs.Ytlmoafkmhenejaa.VaChk
end Go.Proofs.Ytlmoafkmhenejaa.VaChk
namespace Go.Proofs.Ytlmoafkmhenejaa.VaPut
end Go.Proofs.Ytlmoafkmhenejaa.VaPut
namespace Go.Proofs.Ytlmoafkmhenejaa.VaBl
end Go.Proofs.Ytlmoafkmhenejaa.VaBl
namespace Go.Proofs.Ytlmoafkmhenejaa.VaHas
end Go.Proofs.Ytlmoafkmhenejaa.VaHas
namespace Go.Proofs.Ytlmoafkmhenejaa.VaBits
end Go.Proofs.Ytlmoafkmhenejaa.VaBits
namespace Go.Proofs.Ytlmoafkmhenejaa.VaFnd
end Go.Proofs.Ytlmoafkmhenejaa.VaFnd
namespace Go.Proofs.Ytlmoafkmhenejaa.VaTb
end Go.Proofs.Ytlmoafkmhenejaa.VaTb
namespace Go.Proofs.YtlmoafkmhenejaaW.PrintWords
end Go.Proofs.YtlmoafkmhenejaaW.PrintWords
namespace Go.Proofs.YtlmoafkmhenejaaW.PrintLast
end Go.Proofs.YtlmoafkmhenejaaW.PrintLast
namespace Go.Proofs.YtlmoafkmhenejaaW.PrintMore
end Go.Proofs.YtlmoafkmhenejaaW.PrintMore
namespace Go.Proofs.Ytlmoafkmhenejaa.VaTbO
open Go.RowKit Go.Proofs.Ytlmoafkmhenejaa.XA Go.Proofs.Ytlmoafkmhenejaa.VLib Go.Proofs.Ytlmoafkmhenejaa.CLib Go.Proofs.Ytlmoafkmhenejaa.XW Go.Proofs.Ytlmoafkmhenejaa.VaB1 Go.Proofs.Ytlmoafkmhenejaa.VaChk Go.Proofs.Ytlmoafkmhenejaa.VaPut Go.Proofs.Ytlmoafkmhenejaa.VaBl Go.Proofs.Ytlmoafkmhenejaa.VaHas Go.Proofs.Ytlmoafkmhenejaa.VaBits Go.Proofs.Ytlmoafkmhenejaa.VaFnd Go.Proofs.Ytlmoafkmhenejaa.VaTb Go.Proofs.YtlmoafkmhenejaaW.PrintWords Go.Proofs.YtlmoafkmhenejaaW.PrintLast Go.Proofs.YtlmoafkmhenejaaW.PrintMore
theorem pw_of (l : List S43) (h : okB l = true) : l.Pairwise (fun a b => LE a b = true) := (ok_pw l none ((okB_iff l).1 h).2).2.1
theorem LE_le {a b : S43} (h : LE a b = true) : lt b.f0 a.f0 = false := by
  by_cases c : a.f0.toList = b.f0.toList
  · rw [toList_inj.1 c]; exact lt_irrefl _
  · rw [LE_key c] at h; exact lt_asymm h
end Go.Proofs.Ytlmoafkmhenejaa.VaTbO
end
section
namespace Go.Proofs.Ytlmoafkmhenejaa.XA
end Go.Proofs.Ytlmoafkmhenejaa.XA
namespace Go.Proofs.Ytlmoafkmhenejaa.VLib
end Go.Proofs.Ytlmoafkmhenejaa.VLib
namespace Go.Proofs.Ytlmoafkmhenejaa.CLib
end Go.Proofs.Ytlmoafkmhenejaa.CLib
namespace Go.Proofs.Ytlmoafkmhenejaa.XW
end Go.Proofs.Ytlmoafkmhenejaa.XW
namespace Go.Proofs.YtlmoafkmhenejaaW.PrintWords
end Go.Proofs.YtlmoafkmhenejaaW.PrintWords
namespace Go.Proofs.YtlmoafkmhenejaaW.PrintLast
end Go.Proofs.YtlmoafkmhenejaaW.PrintLast
namespace Go.Proofs.YtlmoafkmhenejaaW.PrintMore
end Go.Proofs.YtlmoafkmhenejaaW.PrintMore
namespace Go.Proofs.Ytlmoafkmhenejaa.VaSp
open Go.RowKit Go.Proofs.Ytlmoafkmhenejaa.XA Go.Proofs.Ytlmoafkmhenejaa.VLib Go.Proofs.Ytlmoafkmhenejaa.CLib Go.Proofs.Ytlmoafkmhenejaa.XW Go.Proofs.YtlmoafkmhenejaaW.PrintWords Go.Proofs.YtlmoafkmhenejaaW.PrintLast Go.Proofs.YtlmoafkmhenejaaW.PrintMore
theorem less_irrefl : ∀ a : List UInt8, Op.bytesLess a a = false
  | [] => rfl
  | x :: a => by
    have := less_irrefl a
    simp only [Op.bytesLess, this, Bool.and_false, Bool.or_false, decide_eq_false_iff_not, UInt8.lt_iff_toNat_lt]
    omega
theorem less_trans : ∀ a b c : List UInt8, Op.bytesLess a b = true → Op.bytesLess b c = true → Op.bytesLess a c = true
  | [], [], _, h, _ => by simp [Op.bytesLess] at h
  | [], _ :: _, [], _, h => by simp [Op.bytesLess] at h
  | [], _ :: _, _ :: _, _, _ => rfl
  | _ :: _, [], _, h, _ => by simp [Op.bytesLess] at h
  | _ :: _, _ :: _, [], _, h => by simp [Op.bytesLess] at h
  | x :: a, y :: b, z :: c, h1, h2 => by
    have ih := less_trans a b c
    simp only [Op.bytesLess, Bool.or_eq_true, Bool.and_eq_true, decide_eq_true_eq, beq_iff_eq, UInt8.lt_iff_toNat_lt] at h1 h2 ⊢
    rcases h1 with h1 | ⟨rfl, h1⟩
    · rcases h2 with h2 | ⟨rfl, h2⟩
      · exact .inl (by omega)
      · exact .inl h1
    · rcases h2 with h2 | ⟨rfl, h2⟩
      · exact .inl h2
      · exact .inr ⟨rfl, ih h1 h2⟩
def lt (a b : ByteArray) : Bool := Op.bytesLess a.toList b.toList
theorem lt_irrefl (a : ByteArray) : lt a a = false := less_irrefl _
theorem lt_trans {a b c : ByteArray} (h1 : lt a b = true) (h2 : lt b c = true) : lt a c = true := less_trans _ _ _ h1 h2
theorem lt_tri (a b : ByteArray) : lt a b = true ∨ a = b ∨ lt b a = true := by
  have h := less_total a.toList b.toList
  cases h1 : lt a b
  · cases h2 : lt b a
    · refine .inr (.inl ?_)
      have e1 : Op.bytesLess a.toList b.toList = false := h1
      have e2 : Op.bytesLess b.toList a.toList = false := h2
      rw [e1, e2] at h
      simp only [Bool.false_or, Bool.not_false, beq_iff_eq] at h
      exact toList_inj.1 h
    · exact .inr (.inr rfl)
  · exact .inl rfl
theorem lt_asymm {a b : ByteArray} (h : lt a b = true) : lt b a = false := by
  cases h2 : lt b a
  · rfl
  · have := lt_trans h h2; rw [lt_irrefl] at this; cases this
theorem nlt_trans {a b c : ByteArray} (h1 : lt a b = true) (h2 : lt c b = false) : lt c a = false := by
  cases h : lt c a
  · rfl
  · have := lt_trans h h1; rw [this] at h2; cases h2
theorem le_lt {a b c : ByteArray} (h1 : lt b a = false) (h2 : lt b c = true) : lt a c = true := by
  rcases lt_tri a b with h | rfl | h
  · exact lt_trans h h2
  · exact h2
  · rw [h] at h1; cases h1
def emp (a : ByteArray) : Bool := a.toList == []
theorem emp_iff {a : ByteArray} : emp a = true ↔ a.toList = [] := by unfold emp; exact beq_iff_eq
theorem emp_size (a : ByteArray) : emp a = decide (a.size = 0) := by
  rw [Bool.eq_iff_iff, emp_iff, toList_data, decide_eq_true_eq, ← len_list, List.length_eq_zero_iff]
theorem lt_emp {a b : ByteArray} (h : emp b = true) : lt a b = false := by
  unfold lt; rw [emp_iff.1 h]; cases a.toList <;> rfl
def keyB (s : ByteArray) : Bool := !emp s && decide (s.size ≤ 64)
def aheadB (s hi : ByteArray) : Bool := emp hi || lt s hi
def mayB (lo hi : ByteArray) : Bool := decide (lo.size ≤ 64) && decide (hi.size ≤ 64) && aheadB lo hi
def hasB (lo hi key : ByteArray) : Bool := mayB lo hi && keyB key && !lt key lo && aheadB key hi
theorem key_is (s : ByteArray) : span_Key.f s = some (keyB s) := by
  unfold span_Key.f keyB
  by_cases h : s.toList = []
  · rw [if_pos h, emp_iff.2 h]; rfl
  · have e : emp s = false := by cases h2 : emp s; rfl; exact absurd (emp_iff.1 h2) h
    rw [if_neg h, e]
    simp only [Bool.not_false, Bool.true_and, Option.some.injEq]
    exact decide_eq_decide.2 (by omega)
theorem ahead_is (s hi : ByteArray) : span_ahead.f s hi = some (aheadB s hi) := by
  unfold span_ahead.f aheadB
  by_cases h : hi.toList = []
  · rw [if_pos h, emp_iff.2 h]; rfl
  · have e : emp hi = false := by cases h2 : emp hi; rfl; exact absurd (emp_iff.1 h2) h
    rw [if_neg h, e]; rfl
theorem may_is (lo hi : ByteArray) : span_may.f lo hi = some (mayB lo hi) := by
  unfold span_may.f mayB
  rw [ahead_is]
  by_cases h1 : lo.size ≤ 64
  · rw [if_pos (by omega), decide_eq_true h1]
    by_cases h2 : hi.size ≤ 64
    · rw [if_pos (by omega), decide_eq_true h2]; rfl
    · rw [if_neg (by omega), decide_eq_false h2]; rfl
  · rw [if_neg (by omega), decide_eq_false h1]; rfl
theorem has_is (lo hi key : ByteArray) : span_Has.f lo hi key = some (hasB lo hi key) := by
  unfold span_Has.f hasB
  rw [may_is, key_is, ahead_is]
  have e : Op.bytesLess key.toList lo.toList = lt key lo := rfl
  simp only [Option.bind_some, e]
  cases mayB lo hi <;> cases keyB key <;> cases lt key lo <;> simp
theorem rkey_is (s : ByteArray) : sorrelref04_Key.f s = some (keyB s) := by
  unfold sorrelref04_Key.f keyB
  rw [emp_size]
  by_cases h : s.size = 0
  · rw [if_neg (by omega), decide_eq_true h]; rfl
  · rw [if_pos (by omega), decide_eq_false h]
    simp only [Bool.not_false, Bool.true_and, Option.some.injEq]
    exact decide_eq_decide.2 (by omega)
theorem rmay_is (lo hi : ByteArray) : sorrelref04_May.f lo hi = some (mayB lo hi) := by
  have h := may_is lo hi
  unfold span_may.f at h
  rw [← h]
  unfold sorrelref04_May.f span_ahead.f
  split
  · split
    · split <;> rfl
    · rfl
  · rfl
theorem hasB_iff {lo hi key : ByteArray} : hasB lo hi key = true ↔ mayB lo hi = true ∧ keyB key = true ∧ lt key lo = false ∧ aheadB key hi = true := by
  unfold hasB; simp [and_assoc]
theorem aheadB_iff {s hi : ByteArray} : aheadB s hi = true ↔ emp hi = true ∨ lt s hi = true := by unfold aheadB; simp
theorem mayB_iff {lo hi : ByteArray} : mayB lo hi = true ↔ lo.size ≤ 64 ∧ hi.size ≤ 64 ∧ aheadB lo hi = true := by unfold mayB; simp [and_assoc]
theorem keyB_iff {s : ByteArray} : keyB s = true ↔ emp s = false ∧ s.size ≤ 64 := by unfold keyB; simp
theorem ahead_trans {a b c : ByteArray} (h : lt a b = true) (h2 : aheadB b c = true) : aheadB a c = true := by
  rcases aheadB_iff.1 h2 with h3 | h3
  · exact aheadB_iff.2 (.inl h3)
  · exact aheadB_iff.2 (.inr (lt_trans h h3))
structure CutOk (lo hi key : ByteArray) : Prop where
  low : lt lo key = true
  full : emp key = false
  size : key.size ≤ 64
  losize : lo.size ≤ 64
  hisize : hi.size ≤ 64
  up : aheadB key hi = true
theorem CutOk.left {lo hi key : ByteArray} (h : CutOk lo hi key) : mayB lo key = true := mayB_iff.2 ⟨h.losize, h.size, aheadB_iff.2 (.inr h.low)⟩
theorem CutOk.right {lo hi key : ByteArray} (h : CutOk lo hi key) : mayB key hi = true := mayB_iff.2 ⟨h.size, h.hisize, h.up⟩
theorem CutOk.whole {lo hi key : ByteArray} (h : CutOk lo hi key) : mayB lo hi = true := mayB_iff.2 ⟨h.losize, h.hisize, ahead_trans h.low h.up⟩
theorem CutOk.has {lo hi key : ByteArray} (h : CutOk lo hi key) (o : ByteArray) : hasB lo hi o = (hasB lo key o || hasB key hi o) ∧ (hasB lo key o && hasB key hi o) = false := by
  have e : aheadB o key = lt o key := by unfold aheadB; rw [h.full]; rfl
  unfold hasB
  rw [h.left, h.right, h.whole, e]
  cases hl : lt o key
  · have h1 : lt o lo = false := nlt_trans h.low hl
    rw [h1]; cases keyB o <;> cases aheadB o hi <;> simp
  · have h1 : aheadB o hi = true := ahead_trans hl h.up
    rw [h1]; cases keyB o <;> cases lt o lo <;> simp
def inR (lo hi : ByteArray) (l : List S43) : List S43 := l.filter (fun e => hasB lo hi e.f0)
theorem inR_cons (lo hi : ByteArray) (e : S43) (t : List S43) : inR lo hi (e :: t) = if hasB lo hi e.f0 = true then e :: inR lo hi t else inR lo hi t := by
  unfold inR; rw [List.filter_cons]
theorem inR_len (lo hi : ByteArray) (l : List S43) : (inR lo hi l).length ≤ l.length := List.length_filter_le _ _
theorem clip_l0 (lo hi : ByteArray) : ∀ l : List S43, span_Clip.l0 lo hi l = some (inR lo hi l)
  | [] => rfl
  | e :: t => by
    rw [span_Clip.l0, has_is, Option.bind_some, clip_l0 lo hi t, Option.bind_some, inR_cons]
    split <;> rfl
theorem clip_is (lo hi : ByteArray) (l : List S43) (h : l.length < 2932031007402) : span_Clip.f l lo hi = some (inR lo hi l) := by
  unfold span_Clip.f; rw [if_pos h, clip_l0]
theorem sameE_l0 (a : List S43) (ha : a.length ≤ 4611686018427387904) : ∀ (n i k : Nat), i + n = a.length → n + 1 ≤ k → sorrelref04_Same.l0 k a a (i : Int) = some true := by
  intro n
  induction n with
  | zero =>
    intro i k h hk
    obtain ⟨k, rfl⟩ : ∃ m, k = m + 1 := ⟨k - 1, by omega⟩
    simp only [sorrelref04_Same.l0]
    rw [if_neg (by omega)]
  | succ n ih =>
    intro i k h hk
    obtain ⟨k, rfl⟩ : ∃ m, k = m + 1 := ⟨k - 1, by omega⟩
    simp only [sorrelref04_Same.l0]
    rw [if_pos (by omega), if_pos (by omega), if_pos (by omega), if_neg (by simp), w64 (by omega) (by omega), show (i : Int) + 1 = ((i + 1 : Nat) : Int) from by omega]
    exact ih (i + 1) k (by omega) (by omega)
theorem sameE_yes (a : List S43) (k : Nat) (ha : a.length ≤ 4611686018427387904) (hk : a.length + 1 ≤ k) : sorrelref04_Same.f k a a = some true := by
  unfold sorrelref04_Same.f
  rw [if_pos rfl]
  exact sameE_l0 a ha a.length 0 k (by omega) hk
end Go.Proofs.Ytlmoafkmhenejaa.VaSp
end
section
namespace Go.Proofs.Ytlmoafkmhenejaa.VLib
end Go.Proofs.Ytlmoafkmhenejaa.VLib
namespace Go.Proofs.Ytlmoafkmhenejaa.Bld
end Go.Proofs.Ytlmoafkmhenejaa.Bld
namespace Go.Proofs.YtlmoafkmhenejaaW.PrintWords
end Go.Proofs.YtlmoafkmhenejaaW.PrintWords
namespace Go.Proofs.YtlmoafkmhenejaaW.PrintLast
end Go.Proofs.YtlmoafkmhenejaaW.PrintLast
namespace Go.Proofs.YtlmoafkmhenejaaW.PrintMore
end Go.Proofs.YtlmoafkmhenejaaW.PrintMore
namespace Go.Proofs.Ytlmoafkmhenejaa.XW
end Go.Proofs.Ytlmoafkmhenejaa.XW
namespace Go.Proofs.Ytlmoafkmhenejaa.XA
open Go.Proofs.Ytlmoafkmhenejaa.VLib Go.Proofs.Ytlmoafkmhenejaa.Bld Go.RowKit Go.Proofs.YtlmoafkmhenejaaW.PrintWords Go.Proofs.YtlmoafkmhenejaaW.PrintLast Go.Proofs.YtlmoafkmhenejaaW.PrintMore Go.Proofs.Ytlmoafkmhenejaa.XW
set_option linter.unusedVariables false
set_option linter.unusedSimpArgs false
def OkB (m : List S43) : Prop := VaChk.okB m = true
theorem OkB.len {m : List S43} (h : OkB m) : m.length ≤ 4096 := ((VaPut.okB_iff m).1 h).1
theorem table_put (kk : Nat) (hk : 10000000 ≤ kk) (m : List S43) (h : OkB m) (hl : 0 < m.length) : ∃ s bits, buildF kk 300 m = some (s, 0) ∧ s.size ≤ 140737488355328 ∧ openF kk 300 s = some (some (m, bits)) ∧ bits = VaTb.bitsT m := by
  have hf := VaTb.footL_le m h
  have hs := VaTb.sfoot_len m
  have ht := VaTbB.tabL_len m
  exact ⟨bs (VaTb.tabL m), VaTb.bitsT m, VaTb.build_ok m kk hk (by omega) h, by rw [bs_size]; omega, VaTbB.open_put m kk hk (by omega) h, rfl⟩
def OpenOk (l m : List S43) : Prop := OkB m ∧ m.length ≤ l.length ∧ ((m = [] ∧ ∀ (A : Option Addr) (c : Nat) (w : World), Kd.C k43 w A l.length l → l.length ≤ c →
    Calls Try.prog 21 #[.slice A l.length c] w fun e w' => e = .returned (.tuple #[.pointer none, .slice none 0 0, .bool true]) ∧ Below w.heap.size w w') ∨
  (0 < m.length ∧ ∀ (A : Option Addr) (c : Nat) (w : World), Kd.C k43 w A l.length l → l.length ≤ c →
    Calls Try.prog 21 #[.slice A l.length c] w fun e w' => ∃ p A2 c2, e = .returned (.tuple #[.pointer (some p), .slice A2 m.length c2, .bool true]) ∧ TabAt w' (.pointer (some p)) m (VaTb.bitsT m) ∧ Kd.C k43 w' A2 m.length m ∧ m.length ≤ c2 ∧ Below w.heap.size w w'))
theorem open_any_ (kk : Nat) (hk : 10000000 ≤ kk) (l : List S43) (hl : l.length ≤ 80) : ∃ m, OpenOk l m := by
  obtain ⟨m, h1, h2, h3⟩ := VaMade.made_is l (by omega) kk (by omega)
  refine ⟨m, h2, h3, ?_⟩
  rcases Nat.eq_zero_or_pos m.length with h0 | h0
  · have e := List.length_eq_zero_iff.1 h0
    subst e
    exact .inl ⟨rfl, fun A c w hC hc => opened_none kk kk 300 A c l w hC hc h1 (VaTb.build_no [] kk hk (.inl rfl))⟩
  · obtain ⟨s, bits, g1, g2, g3, rfl⟩ := table_put kk hk m h2 h0
    exact .inr ⟨h0, fun A c w hC hc => opened_some kk kk 300 A c l m s _ w hC hc h1 h0 g1 g2 g3⟩
theorem open_any (l : List S43) (hl : l.length ≤ 80) : ∃ m, OpenOk l m := open_any_ 10000000 (Nat.le_refl _) l hl
theorem light_any (l : List S43) : ∃ b, (b = true → l.length ≤ 80) ∧ sorrellaw10_light.f 82 l = some b := by
  obtain ⟨b, h1, h2⟩ := VaMade.light_is l 82 (Nat.le_refl _)
  exact ⟨b, h2, h1⟩
theorem range_ok (p : Value) (m : List S43) (bits lo hi : ByteArray) (w : World) (h : TabAt w p m bits) (hm : m.length ≤ 4096) :
    Calls Try.prog 20 #[p, .agg #[.string lo, .string hi]] w fun e w' => ∃ v, e = .returned v ∧ Kd.R k43 43 w' w.heap.size (fun _ => True) v (VaSp.inR lo hi m) ∧ Below w.heap.size w w' :=
  range_calls p m _ bits lo hi w h (VaSp.clip_is lo hi m (by omega))
theorem same_yes (A1 : Option Addr) (c1 : Nat) (A2 : Option Addr) (c2 : Nat) (a b : List S43) (w : World) (hab : a = b) (ha : a.length ≤ 1000000) (h1 : Kd.C k43 w A1 a.length a) (hc1 : a.length ≤ c1) (h2 : Kd.C k43 w A2 b.length b) (hc2 : b.length ≤ c2) :
    Calls Try.prog 19 #[.slice A1 a.length c1, .slice A2 b.length c2] w fun e w' => e = .returned (.bool true) ∧ Below w.heap.size w w' := by
  subst hab
  refine (sorrelref04_Same.calls (a.length + 1) A1 c1 a A2 c2 a true w h1 hc1 h2 hc2 (VaSp.sameE_yes a _ (by omega) (Nat.le_refl _))).mono ?_
  rintro e w' ⟨rfl, m1, e1⟩
  exact ⟨rfl, by rw [e1]; exact pw_below_drewN (Below.refl _ _) _⟩
theorem parts_eq {lo hi key : ByteArray} (h : VaSp.CutOk lo hi key) : ∀ l : List S43, l.Pairwise (fun a b => VaSp.lt b.f0 a.f0 = false) → VaSp.inR lo key l ++ VaSp.inR key hi l = VaSp.inR lo hi l
  | [], _ => rfl
  | e :: t, hp => by
    obtain ⟨p1, p2⟩ := List.pairwise_cons.1 hp
    have ih := parts_eq h t p2
    obtain ⟨h1, h2⟩ := h.has e.f0
    rw [VaSp.inR_cons, VaSp.inR_cons, VaSp.inR_cons, h1]
    cases h3 : VaSp.hasB lo key e.f0 <;> cases h4 : VaSp.hasB key hi e.f0
    · exact ih
    · have e0 : VaSp.inR lo key t = [] := by
        unfold VaSp.inR
        rw [List.filter_eq_nil_iff]
        intro a ha g
        obtain ⟨-, -, -, g1⟩ := VaSp.hasB_iff.1 g
        obtain ⟨-, -, g2, -⟩ := VaSp.hasB_iff.1 h4
        rcases VaSp.aheadB_iff.1 g1 with g1 | g1
        · rw [h.full] at g1; cases g1
        · rw [VaSp.le_lt (p1 a ha) g1] at g2; cases g2
      rw [e0, List.nil_append] at ih
      rw [e0]
      show e :: VaSp.inR key hi t = e :: VaSp.inR lo hi t
      rw [ih]
    · show e :: (VaSp.inR lo key t ++ VaSp.inR key hi t) = e :: VaSp.inR lo hi t
      rw [ih]
    · rw [h3, h4] at h2; cases h2
theorem OkB.rise {m : List S43} (h : OkB m) : m.Pairwise (fun a b => VaSp.lt b.f0 a.f0 = false) := (VaTbO.pw_of m h).imp (fun g => VaTbO.LE_le g)
theorem OkB.may {m : List S43} (h : OkB m) : ∀ e ∈ m, 1 ≤ e.f0.size ∧ e.f0.size ≤ 64 := fun e he => by
  have := VaPut.ok_may m none ((VaPut.okB_iff m).1 h).2 e he
  exact ⟨this.k1, this.k64⟩
theorem OkB.all {m : List S43} (h : OkB m) : VaSp.inR ⟨#[]⟩ ⟨#[]⟩ m = m := by
  unfold VaSp.inR
  rw [List.filter_eq_self]
  intro a ha
  obtain ⟨h1, h2⟩ := h.may a ha
  have e0 : VaSp.emp ⟨#[]⟩ = true := by rw [VaSp.emp_size]; rfl
  refine VaSp.hasB_iff.2 ⟨VaSp.mayB_iff.2 ⟨Nat.zero_le _, Nat.zero_le _, VaSp.aheadB_iff.2 (.inl e0)⟩, VaSp.keyB_iff.2 ⟨?_, h2⟩, ?_, VaSp.aheadB_iff.2 (.inl e0)⟩
  · rw [VaSp.emp_size, decide_eq_false (by omega)]
  · exact VaSp.lt_emp e0
end Go.Proofs.Ytlmoafkmhenejaa.XA
end
