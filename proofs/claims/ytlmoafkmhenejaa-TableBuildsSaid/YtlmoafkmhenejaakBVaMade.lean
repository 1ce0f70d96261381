import Derived.Test.YtlmoafkmhenejaakBXAx2
import Derived.Test.YtlmoafkmhenejaakBXAx3
import Derived.Test.YtlmoafkmhenejaakBXAx4
import Derived.Test.YtlmoafkmhenejaakBXAx5
import Derived.Test.YtlmoafkmhenejaakBXAx6
import Derived.Test.YtlmoafkmhenejaakBXAx7
import Derived.Test.YtlmoafkmhenejaakBXAx8
import Derived.Test.YtlmoafkmhenejaakBXAx9
import Derived.Test.YtlmoafkmhenejaakBXAx10
import Derived.Test.YtlmoafkmhenejaakBXAx11
import Derived.Test.YtlmoafkmhenejaakBXAx12
import Derived.Test.YtlmoafkmhenejaakBXAx13
import Derived.Test.YtlmoafkmhenejaakBXAx0
import Derived.Test.YtlmoafkmhenejaakBXAx15
import Derived.Test.YtlmoafkmhenejaakBVLib
import Derived.Test.YtlmoafkmhenejaakBOpn
import Derived.Test.YtlmoafkmhenejaakBMTab4
import Derived.Test.YtlmoafkmhenejaakBVaBl
section
namespace Go.Proofs.Ytlmoafkmhenejaa.XA
end Go.Proofs.Ytlmoafkmhenejaa.XA
namespace Go.Proofs.Ytlmoafkmhenejaa.VLib
end Go.Proofs.Ytlmoafkmhenejaa.VLib
namespace Go.Proofs.Ytlmoafkmhenejaa.XW
end Go.Proofs.Ytlmoafkmhenejaa.XW
namespace Go.Proofs.Ytlmoafkmhenejaa.VaChk
end Go.Proofs.Ytlmoafkmhenejaa.VaChk
namespace Go.Proofs.YtlmoafkmhenejaaW.PrintWords
end Go.Proofs.YtlmoafkmhenejaaW.PrintWords
namespace Go.Proofs.YtlmoafkmhenejaaW.PrintLast
end Go.Proofs.YtlmoafkmhenejaaW.PrintLast
namespace Go.Proofs.YtlmoafkmhenejaaW.PrintMore
end Go.Proofs.YtlmoafkmhenejaaW.PrintMore
namespace Go.Proofs.Ytlmoafkmhenejaa.VaMade
open Go.RowKit Go.Proofs.Ytlmoafkmhenejaa.XA Go.Proofs.Ytlmoafkmhenejaa.VLib Go.Proofs.Ytlmoafkmhenejaa.XW Go.Proofs.Ytlmoafkmhenejaa.VaChk Go.Proofs.YtlmoafkmhenejaaW.PrintWords Go.Proofs.YtlmoafkmhenejaaW.PrintLast Go.Proofs.YtlmoafkmhenejaaW.PrintMore
def ins (x : S43) : List S43 → List S43
  | [] => [x]
  | h :: t => if LE h x = true then h :: ins x t else if LE x h = true then x :: h :: t else x :: t
theorem LE_eqv {x h : S43} (h1 : LE h x = false) (h2 : LE x h = false) (b : S43) : LE x b = LE h b := by
  have e : h.f0.toList = x.f0.toList ∧ h.f3 = x.f3 := by
    rcases LE_tri h x with g | g | g
    · rw [h1] at g; cases g
    · exact g
    · rw [h2] at g; cases g
  unfold VaChk.LE
  rw [e.1, e.2, toList_inj.1 e.1]
theorem ins_ok (x : S43) (hx : mayE x = true) : ∀ (l : List S43) (p : Option S43), okFrom p l = true → (∀ a, p = some a → LE a x = true) → okFrom p (ins x l) = true := by
  have one : ∀ (p : Option S43) (e : S43) (r : List S43), okFrom p (e :: r) = true ↔ mayE e = true ∧ (∀ a, p = some a → LE a e = true) ∧ okFrom (some e) r = true := by
    intro p e r
    cases p with
    | none => simp [okFrom]
    | some a => simp [okFrom, and_assoc]
  intro l
  induction l with
  | nil => intro p _ hp; exact (one p x []).2 ⟨hx, hp, rfl⟩
  | cons h t ih =>
    intro p ho hp; obtain ⟨o1, o2, o3⟩ := (one p h t).1 ho
    unfold ins
    by_cases c1 : LE h x = true
    · rw [if_pos c1]; exact (one p h _).2 ⟨o1, o2, ih (some h) o3 (fun a e => by cases e; exact c1)⟩
    · rw [if_neg c1]
      by_cases c2 : LE x h = true
      · rw [if_pos c2]; exact (one p x _).2 ⟨hx, hp, (one (some x) h t).2 ⟨o1, fun a e => by cases e; exact c2, o3⟩⟩
      · rw [if_neg c2]; refine (one p x _).2 ⟨hx, hp, ?_⟩
        cases t with
        | nil => rfl
        | cons b t =>
          obtain ⟨p1, p2, p3⟩ := (one (some h) b t).1 o3; refine (one (some x) b t).2 ⟨p1, fun a e => ?_, p3⟩; cases e; rw [LE_eqv (Bool.eq_false_iff.2 c1) (Bool.eq_false_iff.2 c2)]; exact p2 h rfl
theorem ins_cons (x h : S43) (t : List S43) : ins x (h :: t) = if LE h x = true then h :: ins x t else if LE x h = true then x :: h :: t else x :: t := rfl
theorem ins_len (x : S43) : ∀ l : List S43, (ins x l).length ≤ l.length + 1
  | [] => Nat.le_refl _
  | h :: t => by
    have := ins_len x t
    unfold ins
    split
    · simp only [List.length_cons]; omega
    · split <;> simp only [List.length_cons] <;> omega
theorem put1_l0 (x : S43) (m : List S43) (hm : m.length ≤ 4096) : ∀ (n i k : Nat), i + n = m.length → n + 1 ≤ k → sorrelref09_Put1.l0 k m (i : Int) x.f0 x.f1 x.f2 x.f3 = some (m.take i ++ ins x (m.drop i)) := by
  intro n
  induction n with
  | zero =>
    intro i k h hk; obtain ⟨k, rfl⟩ : ∃ m, k = m + 1 := ⟨k - 1, by omega⟩; simp only [sorrelref09_Put1.l0]; have ht : (m.take i).length ≤ m.length := by rw [List.length_take]; omega
    have hd : m.drop i = [] := List.drop_eq_nil_of_le (by omega)
    rw [if_neg (by omega), if_pos (by omega), if_pos (by omega), Int.toNat_natCast, hd, Option.bind_some, if_pos (by rw [List.length_nil]; omega), Option.bind_some, List.nil_append, if_pos (by omega), Option.bind_some, Option.bind_some,
      if_pos (by rw [List.length_append, List.length_singleton, List.length_nil]; omega), List.append_nil]
    rfl
  | succ n ih =>
    intro i k h hk; obtain ⟨k, rfl⟩ : ∃ m, k = m + 1 := ⟨k - 1, by omega⟩; have hi : i < m.length := by omega
    have ht : (m.take i).length ≤ m.length := by rw [List.length_take]; omega
    have hd : m.drop i = m[i] :: m.drop (i + 1) := (List.getElem_cons_drop hi).symm; have hn : (m.drop i).length ≤ m.length := by rw [List.length_drop]; omega
    have hn2 : (m.drop (i + 1)).length ≤ m.length := by rw [List.length_drop]; omega
    simp only [sorrelref09_Put1.l0]; rw [if_pos (by omega), if_pos (by omega), rdT m i hi, rless_is, Option.bind_some]
    by_cases c1 : LE m[i] x = true
    · rw [if_pos c1, w64 (by omega) (by omega), show (i : Int) + 1 = ((i + 1 : Nat) : Int) from by omega, ih (i + 1) k (by omega) (by omega), hd]; rw [ins_cons, if_pos c1, List.take_succ_eq_append_getElem hi, List.append_assoc]
      rfl
    · rw [if_neg c1, if_pos (by omega), Int.toNat_natCast, Option.bind_some, if_pos (by rw [List.length_nil]; omega), Option.bind_some, List.nil_append, if_pos (by omega), Option.bind_some, rless_is, Option.bind_some]
      by_cases c2 : LE x m[i] = true
      · rw [if_pos c2, Option.bind_some, if_pos (by rw [List.length_append, List.length_singleton]; omega), hd]; rw [ins_cons, if_neg c1, if_pos c2, List.append_assoc]
        rfl
      · rw [if_neg c2, w64 (by omega) (by omega), if_pos (by omega), if_pos (by omega), show ((i : Int) + 1).toNat = i + 1 from by omega, Option.bind_some, if_pos (by rw [List.length_append, List.length_singleton]; omega), hd]; rw [ins_cons, if_neg c1, if_neg c2, List.append_assoc]
        rfl
theorem put1_is (x : S43) (m : List S43) (k : Nat) (hm : m.length ≤ 4096) (hk : m.length + 1 ≤ k) : sorrelref09_Put1.f k m x.f0 x.f1 x.f2 x.f3 = some (if mayE x = true then ins x m else m) := by
  unfold sorrelref09_Put1.f
  rw [rmay_is, Option.bind_some]
  split
  · have := put1_l0 x m hm m.length 0 k (by omega) hk; exact this
  · rfl
theorem okM_iff (l : List S43) : okB l = true ↔ l.length ≤ 4096 ∧ okFrom none l = true := by unfold okB; rw [Bool.and_eq_true, decide_eq_true_eq]
theorem made_l0 (l : List S43) (hl : l.length ≤ 1000) : ∀ (n i k : Nat) (m : List S43), i + n = l.length → okB m = true → m.length ≤ i → n + 1 + 1100 ≤ k → ∃ r, sorrellaw10_made.l0 k l m (i : Int) = some r ∧ okB r = true ∧ r.length ≤ l.length := by
  intro n
  induction n with
  | zero =>
    intro i k m h ho hm hk; obtain ⟨k, rfl⟩ : ∃ m, k = m + 1 := ⟨k - 1, by omega⟩; simp only [sorrellaw10_made.l0]; rw [if_neg (by omega)]; exact ⟨m, rfl, ho, by omega⟩
  | succ n ih =>
    intro i k m h ho hm hk; obtain ⟨k, rfl⟩ : ∃ m, k = m + 1 := ⟨k - 1, by omega⟩; simp only [sorrellaw10_made.l0]; rw [if_pos (by omega), if_pos (by omega), put1_is _ m k (by omega) (by omega), Option.bind_some, w64 (by omega) (by omega), show (i : Int) + 1 = ((i + 1 : Nat) : Int) from by omega]; have hb := (okM_iff m).1 ho; refine ih (i + 1) k _ (by omega) ?_ ?_ (by omega)
    · split
      · next hx =>
        have := ins_len (rd_T43 l (i : Int)) m; exact (okM_iff _).2 ⟨by omega, ins_ok _ hx m none hb.2 (fun a e => by cases e)⟩
      · exact ho
    · split
      · have := ins_len (rd_T43 l (i : Int)) m; omega
      · omega
theorem made_is (l : List S43) (hl : l.length ≤ 1000) (k : Nat) (hk : 2200 ≤ k) : ∃ r, sorrellaw10_made.f k l = some r ∧ okB r = true ∧ r.length ≤ l.length :=
  made_l0 l hl l.length 0 k [] (by omega) rfl (Nat.zero_le _) (by omega)
theorem light_l0 (l : List S43) : ∀ (n i k : Nat), i + n = 81 → n + 1 ≤ k → ∃ b, sorrellaw10_light.l0 k l (i : Int) = some b ∧ (b = true → l.length ≤ 80) := by
  intro n
  induction n with
  | zero =>
    intro i k h hk; obtain ⟨k, rfl⟩ : ∃ m, k = m + 1 := ⟨k - 1, by omega⟩; simp only [sorrellaw10_light.l0]
    by_cases c : i < l.length
    · rw [if_pos (by omega), if_neg (by omega)]; exact ⟨_, rfl, fun h => by have := of_decide_eq_true h; omega⟩
    · rw [if_neg (by omega)]; exact ⟨_, rfl, fun h => by have := of_decide_eq_true h; omega⟩
  | succ n ih =>
    intro i k h hk; obtain ⟨k, rfl⟩ : ∃ m, k = m + 1 := ⟨k - 1, by omega⟩; simp only [sorrellaw10_light.l0]
    by_cases c : i < l.length
    · rw [if_pos (by omega)]
      by_cases c2 : i < 80
      · rw [if_pos (by omega), if_pos (by omega)]
        split
        · exact ⟨_, rfl, fun h => by cases h⟩
        · split
          · exact ⟨_, rfl, fun h => by cases h⟩
          · rw [w64 (by omega) (by omega), show (i : Int) + 1 = ((i + 1 : Nat) : Int) from by omega]; exact ih (i + 1) k (by omega) (by omega)
      · rw [if_neg (by omega)]; exact ⟨_, rfl, fun h => by have := of_decide_eq_true h; omega⟩
    · rw [if_neg (by omega)]; exact ⟨_, rfl, fun h => by have := of_decide_eq_true h; omega⟩
theorem light_is (l : List S43) (k : Nat) (hk : 82 ≤ k) : ∃ b, sorrellaw10_light.f k l = some b ∧ (b = true → l.length ≤ 80) := light_l0 l 81 0 k (by omega) hk
end Go.Proofs.Ytlmoafkmhenejaa.VaMade
end
section
namespace Go.Proofs.Ytlmoafkmhenejaa.XA
end Go.Proofs.Ytlmoafkmhenejaa.XA
namespace Go.Proofs.Ytlmoafkmhenejaa.VLib
end Go.Proofs.Ytlmoafkmhenejaa.VLib
namespace Go.Proofs.Ytlmoafkmhenejaa.CLib
end Go.Proofs.Ytlmoafkmhenejaa.CLib
namespace Go.Proofs.Ytlmoafkmhenejaa.XW
end Go.Proofs.Ytlmoafkmhenejaa.XW
namespace Go.Proofs.YtlmoafkmhenejaaW.PrintWords
end Go.Proofs.YtlmoafkmhenejaaW.PrintWords
namespace Go.Proofs.YtlmoafkmhenejaaW.PrintLast
end Go.Proofs.YtlmoafkmhenejaaW.PrintLast
namespace Go.Proofs.YtlmoafkmhenejaaW.PrintMore
end Go.Proofs.YtlmoafkmhenejaaW.PrintMore
namespace Go.Proofs.Ytlmoafkmhenejaa.VaSp
open Go.RowKit Go.Proofs.Ytlmoafkmhenejaa.XA Go.Proofs.Ytlmoafkmhenejaa.VLib Go.Proofs.Ytlmoafkmhenejaa.CLib Go.Proofs.Ytlmoafkmhenejaa.XW Go.Proofs.YtlmoafkmhenejaaW.PrintWords Go.Proofs.YtlmoafkmhenejaaW.PrintLast Go.Proofs.YtlmoafkmhenejaaW.PrintMore
theorem less_irrefl : ∀ a : List UInt8, Op.bytesLess a a = false
  | [] => rfl
  | x :: a => by
    have := less_irrefl a; simp only [Op.bytesLess, this, Bool.and_false, Bool.or_false, decide_eq_false_iff_not, UInt8.lt_iff_toNat_lt]
    omega
def lt (a b : ByteArray) : Bool := Op.bytesLess a.toList b.toList
theorem lt_irrefl (a : ByteArray) : lt a a = false := less_irrefl _
theorem lt_tri (a b : ByteArray) : lt a b = true ∨ a = b ∨ lt b a = true := by
  have h := less_total a.toList b.toList
  cases h1 : lt a b
  · cases h2 : lt b a
    · refine .inr (.inl ?_); have e1 : Op.bytesLess a.toList b.toList = false := h1; have e2 : Op.bytesLess b.toList a.toList = false := h2; rw [e1, e2] at h; simp only [Bool.false_or, Bool.not_false, beq_iff_eq] at h; exact toList_inj.1 h
    · exact .inr (.inr rfl)
  · exact .inl rfl
def emp (a : ByteArray) : Bool := a.toList == []
theorem emp_iff {a : ByteArray} : emp a = true ↔ a.toList = [] := by unfold emp; exact beq_iff_eq
theorem emp_size (a : ByteArray) : emp a = decide (a.size = 0) := by
  rw [Bool.eq_iff_iff, emp_iff, toList_data, decide_eq_true_eq, ← len_list, List.length_eq_zero_iff]
theorem lt_emp {a b : ByteArray} (h : emp b = true) : lt a b = false := by
  unfold lt; rw [emp_iff.1 h]; cases a.toList <;> rfl
def keyB (s : ByteArray) : Bool := !emp s && decide (s.size ≤ 64)
def aheadB (s hi : ByteArray) : Bool := emp hi || lt s hi
def mayB (lo hi : ByteArray) : Bool := decide (lo.size ≤ 64) && decide (hi.size ≤ 64) && aheadB lo hi
def hasB (lo hi key : ByteArray) : Bool := mayB lo hi && keyB key && !lt key lo && aheadB key hi
theorem key_is (s : ByteArray) : span_Key.f s = some (keyB s) := by
  unfold span_Key.f keyB
  by_cases h : s.toList = []
  · rw [if_pos h, emp_iff.2 h]; rfl
  · have e : emp s = false := by cases h2 : emp s; rfl; exact absurd (emp_iff.1 h2) h
    rw [if_neg h, e]; simp only [Bool.not_false, Bool.true_and, Option.some.injEq]; exact decide_eq_decide.2 (by omega)
theorem ahead_is (s hi : ByteArray) : span_ahead.f s hi = some (aheadB s hi) := by
  unfold span_ahead.f aheadB
  by_cases h : hi.toList = []
  · rw [if_pos h, emp_iff.2 h]; rfl
  · have e : emp hi = false := by cases h2 : emp hi; rfl; exact absurd (emp_iff.1 h2) h
    rw [if_neg h, e]; rfl
theorem may_is (lo hi : ByteArray) : span_may.f lo hi = some (mayB lo hi) := by
  unfold span_may.f mayB
  rw [ahead_is]
  by_cases h1 : lo.size ≤ 64
  · rw [if_pos (by omega), decide_eq_true h1]
    by_cases h2 : hi.size ≤ 64
    · rw [if_pos (by omega), decide_eq_true h2]; rfl
    · rw [if_neg (by omega), decide_eq_false h2]; rfl
  · rw [if_neg (by omega), decide_eq_false h1]; rfl
theorem rkey_is (s : ByteArray) : sorrelref04_Key.f s = some (keyB s) := by
  unfold sorrelref04_Key.f keyB
  rw [emp_size]
  by_cases h : s.size = 0
  · rw [if_neg (by omega), decide_eq_true h]; rfl
  · rw [if_pos (by omega), decide_eq_false h]; simp only [Bool.not_false, Bool.true_and, Option.some.injEq]; exact decide_eq_decide.2 (by omega)
theorem rmay_is (lo hi : ByteArray) : sorrelref04_May.f lo hi = some (mayB lo hi) := by
  have h := may_is lo hi
  unfold span_may.f at h
  rw [← h]
  unfold sorrelref04_May.f span_ahead.f
  split
  · split
    · split <;> rfl
    · rfl
  · rfl
theorem hasB_iff {lo hi key : ByteArray} : hasB lo hi key = true ↔ mayB lo hi = true ∧ keyB key = true ∧ lt key lo = false ∧ aheadB key hi = true := by
  unfold hasB; simp [and_assoc]
theorem aheadB_iff {s hi : ByteArray} : aheadB s hi = true ↔ emp hi = true ∨ lt s hi = true := by unfold aheadB; simp
theorem mayB_iff {lo hi : ByteArray} : mayB lo hi = true ↔ lo.size ≤ 64 ∧ hi.size ≤ 64 ∧ aheadB lo hi = true := by unfold mayB; simp [and_assoc]
theorem keyB_iff {s : ByteArray} : keyB s = true ↔ emp s = false ∧ s.size ≤ 64 := by unfold keyB; simp
def inR (lo hi : ByteArray) (l : List S43) : List S43 := l.filter (fun e => hasB lo hi e.f0)
end Go.Proofs.Ytlmoafkmhenejaa.VaSp
end
section
namespace Go.Proofs.Ytlmoafkmhenejaa.VLib
end Go.Proofs.Ytlmoafkmhenejaa.VLib
namespace Go.Proofs.Ytlmoafkmhenejaa.Bld
end Go.Proofs.Ytlmoafkmhenejaa.Bld
namespace Go.Proofs.YtlmoafkmhenejaaW.PrintWords
end Go.Proofs.YtlmoafkmhenejaaW.PrintWords
namespace Go.Proofs.YtlmoafkmhenejaaW.PrintLast
end Go.Proofs.YtlmoafkmhenejaaW.PrintLast
namespace Go.Proofs.YtlmoafkmhenejaaW.PrintMore
end Go.Proofs.YtlmoafkmhenejaaW.PrintMore
namespace Go.Proofs.Ytlmoafkmhenejaa.XW
end Go.Proofs.Ytlmoafkmhenejaa.XW
namespace Go.Proofs.Ytlmoafkmhenejaa.XA
open Go.Proofs.Ytlmoafkmhenejaa.VLib Go.Proofs.Ytlmoafkmhenejaa.Bld Go.RowKit Go.Proofs.YtlmoafkmhenejaaW.PrintWords Go.Proofs.YtlmoafkmhenejaaW.PrintLast Go.Proofs.YtlmoafkmhenejaaW.PrintMore Go.Proofs.Ytlmoafkmhenejaa.XW
set_option linter.unusedVariables false
set_option linter.unusedSimpArgs false
def OkB (m : List S43) : Prop := VaChk.okB m = true
theorem OkB.len {m : List S43} (h : OkB m) : m.length ≤ 4096 := ((VaPut.okB_iff m).1 h).1
theorem light_any (l : List S43) : ∃ b, (b = true → l.length ≤ 80) ∧ sorrellaw10_light.f 82 l = some b := by
  obtain ⟨b, h1, h2⟩ := VaMade.light_is l 82 (Nat.le_refl _)
  exact ⟨b, h2, h1⟩
theorem OkB.may {m : List S43} (h : OkB m) : ∀ e ∈ m, 1 ≤ e.f0.size ∧ e.f0.size ≤ 64 := fun e he => by
  have := VaPut.ok_may m none ((VaPut.okB_iff m).1 h).2 e he
  exact ⟨this.k1, this.k64⟩
theorem OkB.all {m : List S43} (h : OkB m) : VaSp.inR ⟨#[]⟩ ⟨#[]⟩ m = m := by
  unfold VaSp.inR
  rw [List.filter_eq_self]
  intro a ha
  obtain ⟨h1, h2⟩ := h.may a ha
  have e0 : VaSp.emp ⟨#[]⟩ = true := by rw [VaSp.emp_size]; rfl
  refine VaSp.hasB_iff.2 ⟨VaSp.mayB_iff.2 ⟨Nat.zero_le _, Nat.zero_le _, VaSp.aheadB_iff.2 (.inl e0)⟩, VaSp.keyB_iff.2 ⟨?_, h2⟩, ?_, VaSp.aheadB_iff.2 (.inl e0)⟩
  · rw [VaSp.emp_size, decide_eq_false (by omega)]
  · exact VaSp.lt_emp e0
end Go.Proofs.Ytlmoafkmhenejaa.XA
end
section
namespace Go.Proofs.Ytlmoafkmhenejaa.XA
end Go.Proofs.Ytlmoafkmhenejaa.XA
namespace Go.Proofs.Ytlmoafkmhenejaa.VLib
end Go.Proofs.Ytlmoafkmhenejaa.VLib
namespace Go.Proofs.Ytlmoafkmhenejaa.CLib
end Go.Proofs.Ytlmoafkmhenejaa.CLib
namespace Go.Proofs.Ytlmoafkmhenejaa.VaBl
end Go.Proofs.Ytlmoafkmhenejaa.VaBl
namespace Go.Proofs.Ytlmoafkmhenejaa.VaHas
end Go.Proofs.Ytlmoafkmhenejaa.VaHas
namespace Go.Proofs.Ytlmoafkmhenejaa.VaBits
end Go.Proofs.Ytlmoafkmhenejaa.VaBits
namespace Go.Proofs.Ytlmoafkmhenejaa.VaChk
end Go.Proofs.Ytlmoafkmhenejaa.VaChk
namespace Go.Proofs.YtlmoafkmhenejaaW.PrintWords
end Go.Proofs.YtlmoafkmhenejaaW.PrintWords
namespace Go.Proofs.YtlmoafkmhenejaaW.PrintLast
end Go.Proofs.YtlmoafkmhenejaaW.PrintLast
namespace Go.Proofs.YtlmoafkmhenejaaW.PrintMore
end Go.Proofs.YtlmoafkmhenejaaW.PrintMore
namespace Go.Proofs.Ytlmoafkmhenejaa.VaRf
open Go.RowKit Go.Proofs.Ytlmoafkmhenejaa.XA Go.Proofs.Ytlmoafkmhenejaa.VLib Go.Proofs.Ytlmoafkmhenejaa.CLib Go.Proofs.Ytlmoafkmhenejaa.VaBl Go.Proofs.Ytlmoafkmhenejaa.VaHas Go.Proofs.Ytlmoafkmhenejaa.VaBits Go.Proofs.Ytlmoafkmhenejaa.VaChk Go.Proofs.YtlmoafkmhenejaaW.PrintWords Go.Proofs.YtlmoafkmhenejaaW.PrintLast Go.Proofs.YtlmoafkmhenejaaW.PrintMore
theorem rmore_l1 : ∀ (d K j : Nat) (s : ByteArray) (c : BitVec 32) (i : Int), j + d = 8 → sorrelref02_More.l1 (K + d + 1) s (c.toNat : Int) i (j : Int) = sorrelref02_More.l0 K s ((bsteps d c).toNat : Int) (wrap64 (i + 1)) := by
  intro d
  induction d with
  | zero =>
    intro K j s c i h; simp only [sorrelref02_More.l1]; rw [if_neg (by omega)]; rfl
  | succ d ih =>
    intro K j s c i h; have hc := c.isLt; rw [show K + (d + 1) + 1 = (K + d + 1) + 1 from by omega]; simp only [sorrelref02_More.l1]; rw [if_pos (by omega), and1_i64 _ (by omega), w64 (n := (j : Int) + 1) (by omega) (by omega), ← half, poly_toNat, xor_i64_bv]
    by_cases b : c.toNat % 2 = 1
    · rw [if_pos (by omega), ← bstep_one c b]; exact ih K (j + 1) s (bstep c) i (by omega)
    · rw [if_neg (by omega), ← bstep_zero c b]; exact ih K (j + 1) s (bstep c) i (by omega)
theorem rmore_l0 : ∀ (n K i : Nat) (s : ByteArray) (c : BitVec 32), i + n = s.data.toList.length → s.size ≤ 4611686018427387904 →
    sorrelref02_More.l0 (10 * n + (K + 1)) s (c.toNat : Int) (i : Int) = some ((~~~ crcL c (s.data.toList.drop i)).toNat : Int) := by
  intro n
  induction n with
  | zero =>
    intro K i s c h hs; have hl := len_list s; rw [Nat.mul_zero, Nat.zero_add]; simp only [sorrelref02_More.l0]; rw [if_neg (by omega), List.drop_eq_nil_of_le (by omega), ones_xor64]
    rfl
  | succ n ih =>
    intro K i s c h hs; have hl := len_list s; have hlt : i < s.data.toList.length := by omega
    rw [show 10 * (n + 1) + (K + 1) = (10 * n + (K + 1) + 9) + 1 from by omega]; simp only [sorrelref02_More.l0]; have hw := (wide (s.data.toList[i]'hlt)).isLt; rw [if_pos (by omega), if_pos (by omega), wide_bt s i hlt, w64 (by omega) (by omega), xor_i64_bv]; have h1 := rmore_l1 8 (10 * n + (K + 1)) 0 s (c ^^^ wide (s.data.toList[i]'hlt)) (i : Int) rfl; rw [show 10 * n + (K + 1) + 9 = 10 * n + (K + 1) + 8 + 1 from rfl]; refine h1.trans ?_; rw [w64 (by omega) (by omega), drop_cons s i hlt]; exact ih K (i + 1) s (cbyte c (s.data.toList[i]'hlt)) (by omega) hs
theorem rmore_is (x : Int) (s : ByteArray) (k : Nat) (hk : 10 * s.size + 1 ≤ k) (hs : s.size ≤ 4611686018427387904) :
    sorrelref02_More.f k x s = some ((crcM (BitVec.ofInt 32 x) s.data.toList).toNat : Int) := by
  obtain ⟨K, rfl⟩ : ∃ K, k = 10 * s.size + (K + 1) := ⟨k - 10 * s.size - 1, by omega⟩
  unfold sorrelref02_More.f
  rw [low32, ones_xor64]
  have h := rmore_l0 s.size K 0 s (~~~ BitVec.ofInt 32 x) (by rw [len_list]; omega) hs
  exact h
theorem rsum_is (s : ByteArray) (k : Nat) (hk : 10 * s.size + 1 ≤ k) (hs : s.size ≤ 4611686018427387904) :
    sorrelref02_Sum.f k s = some ((crcM 0#32 s.data.toList).toNat : Int) := by
  unfold sorrelref02_Sum.f
  rw [rmore_is _ s k hk hs]
  rfl
theorem rsum_key (s : ByteArray) (k M : Nat) (hs : s.size ≤ M) (hM : M ≤ 1000000) (hk : 10 * M + 12 ≤ k) : sorrelref02_Sum.f k s = some ((sm (tx s) : Nat) : Int) ∧ sorrelref02_Sum.f k (s ++ (⟨#[35]⟩ : ByteArray)) = some ((sm (tx s ++ [35]) : Nat) : Int) := by
  have hz : (s ++ (⟨#[35]⟩ : ByteArray)).size = s.size + 1 := by rw [size_append]; rfl
  refine ⟨rsum_is s k (by omega) (by omega), ?_⟩
  rw [rsum_is _ k (by omega) (by omega), list_append]; rfl
theorem place_is (s : ByteArray) (n i k M : Nat) (hi : i < 6) (hn : 0 < n) (hs : s.size ≤ M) (hM : M ≤ 1000000) (hk : 10 * M + 12 ≤ k) : sorrelref08_place.f k s (i : Int) (n : Int) = some ((pl (tx s) n i : Nat) : Int) := by
  obtain ⟨h1, h2⟩ := rsum_key s k M hs hM hk
  unfold sorrelref08_place.f
  rw [h1, Option.bind_some, if_pos (by omega), h2, Option.bind_some, if_neg (by omega), or1 _ (sm_lt _), pl_int _ n i hi]
theorem rmake_l1 (ks : List ByteArray) (idx : Nat) (hi0 : idx < ks.length) (n M : Nat) (hn : 0 < n) (hm : n ≤ 1099511627776) (hM : M ≤ 1000000) (hs : (ks[idx]).size ≤ M) : ∀ (d i K : Nat) (xs : List Int), i + d = 6 → 10 * M + 12 ≤ K → n ≤ 8 * xs.length →
    sorrelref08_Make.l1 (K + d + 1) ks (n : Int) xs (idx : Int) (i : Int) = sorrelref08_Make.l0 K ks (n : Int) (keyFrom (tx ks[idx]) n d i xs) (wrap64 ((idx : Int) + 1)) := by
  intro d
  induction d with
  | zero =>
    intro i K xs h hk hx; simp only [sorrelref08_Make.l1]; rw [if_neg (by omega)]; rfl
  | succ d ih =>
    intro i K xs h hk hx; have hp := pl_lt (tx ks[idx]) n i hn
    rw [show K + (d + 1) + 1 = (K + d + 1) + 1 from by omega, sorrelref08_Make.l1, if_pos (by omega), if_pos (by omega), if_pos (by omega), rdS ks idx hi0, place_is _ n i (K + d + 1) M (by omega) hn hs hM (by omega), Option.bind_some,
      div8 _ (by omega), mod8, if_pos (by omega), if_pos (by omega), if_pos (by omega), w64 (n := (i : Int) + 1) (by omega) (by omega), Int.toNat_natCast]
    exact ih (i + 1) K (putp xs (pl (tx ks[idx]) n i)) (by omega) hk (by rw [putp_len]; exact hx)
theorem rmake_l0 (ks : List ByteArray) (n M : Nat) (hn : 0 < n) (hm : n ≤ 1099511627776) (hM : M ≤ 1000000) (hl : ks.length ≤ 4611686018427387904) (hs : ∀ t ∈ ks, t.size ≤ M) : ∀ (d i k : Nat) (xs : List Int), i + d = ks.length → n ≤ 8 * xs.length → 10 * M + 13 + 8 * d ≤ k →
    sorrelref08_Make.l0 k ks (n : Int) xs (i : Int) = some (strOfNums (keysP n (ks.drop i) xs), 0) := by
  intro d
  induction d with
  | zero =>
    intro i k xs h hx hk; obtain ⟨k, rfl⟩ : ∃ m, k = m + 1 := ⟨k - 1, by omega⟩; simp only [sorrelref08_Make.l0]; rw [if_neg (by omega), List.drop_eq_nil_of_le (by omega)]; rfl
  | succ d ih =>
    intro i k xs h hx hk; obtain ⟨k, rfl⟩ : ∃ m, k = (m + 6 + 1) + 1 := ⟨k - 8, by omega⟩; have hi : i < ks.length := by omega
    have e : ks.drop i = ks[i] :: ks.drop (i + 1) := (List.getElem_cons_drop hi).symm; rw [sorrelref08_Make.l0, if_pos (by omega)]; have := rmake_l1 ks i hi n M hn hm hM (hs _ (List.getElem_mem hi)) 6 0 k xs (by omega) (by omega) hx; rw [show ((0 : Nat) : Int) = 0 from rfl] at this; rw [this, w64 (by omega) (by omega), e]; exact ih (i + 1) k _ (by omega) (by rw [keyFrom_len]; exact hx) (by omega)
theorem rsize_is (x : Int) : sorrelref08_Size.f x = some ((8 * bytesN x.toNat : Nat) : Int) := by
  unfold sorrelref08_Size.f bytesN mx mn
  congr 1
  split <;> split <;> split <;> omega
theorem rmake_is (ks : List ByteArray) (k M : Nat) (hl : ks.length ≤ 4096) (hM : M ≤ 1000000) (hs : ∀ t ∈ ks, t.size ≤ M) (hk : 10 * M + 14 + 8 * ks.length ≤ k) :
    sorrelref08_Make.f k ks = some (strOfNums (keysP (8 * bytesN ks.length) ks (List.replicate (bytesN ks.length) 0)), 0) := by
  unfold sorrelref08_Make.f
  have hb : 8 ≤ bytesN ks.length ∧ bytesN ks.length ≤ 6000 := by unfold bytesN; omega
  rw [if_neg (by omega), rsize_is, Int.toNat_natCast, Option.bind_some, div8 _ (by omega), show 8 * bytesN ks.length / 8 = bytesN ks.length from by omega, if_pos (by omega), Int.toNat_natCast, if_pos (by omega)]
  exact rmake_l0 ks _ M (by omega) (by omega) hM (by omega) hs ks.length 0 k _ (by omega) (by rw [List.length_replicate]; omega) (by omega)
theorem rmake_bits (ks : List ByteArray) (k M : Nat) (hl : ks.length ≤ 4096) (hM : M ≤ 1000000) (hs : ∀ t ∈ ks, t.size ≤ M) (hk : 10 * M + 14 + 8 * ks.length ≤ k) : sorrelref08_Make.f k ks = some (bitsOf ks, 0) := by
  rw [rmake_is ks k M hl hM hs hk]
  have := make_is ks (10 * M + 14 + 8 * ks.length) M hl hM hs (by omega)
  rw [make_bits ks (10 * M + 14 + 8 * ks.length) M hl hM hs (by omega)] at this
  exact this.symm
theorem cmp_snoc (x : ByteArray) : ∀ (xs : List ByteArray) (y : ByteArray), cmpL (xs ++ [y] ++ [x]) = if y = x then cmpL (xs ++ [y]) else cmpL (xs ++ [y]) ++ [x] := by
  intro xs
  induction xs with
  | nil =>
    intro y
    by_cases c : y = x
    · rw [if_pos c, c]; simp [cmpL]
    · rw [if_neg c]; simp [cmpL, c]
  | cons a t ih =>
    intro y; have h := ih y
    cases t with
    | nil =>
      by_cases c : a = y
      · simp only [List.cons_append, List.nil_append, cmpL, if_pos c] at h ⊢; exact h
      · simp only [List.cons_append, List.nil_append, cmpL, if_neg c] at h ⊢; rw [h]; split <;> rfl
    | cons b t =>
      by_cases c : a = b
      · simp only [List.cons_append, cmpL, if_pos c] at h ⊢; exact h
      · simp only [List.cons_append, cmpL, if_neg c] at h ⊢; rw [h]; split <;> rfl
theorem rkeys_l0 (l : List S43) (hl : l.length ≤ 4096) : ∀ (n i k : Nat) (out : List ByteArray), i + n = l.length → n + 1 ≤ k → out = cmpL ((l.map (·.f0)).take i) → out.length ≤ i → sorrelref10_Keys.l0 k l out (i : Int) = some (cmpL (l.map (·.f0))) := by
  intro n
  induction n with
  | zero =>
    intro i k out h hk ho hle; obtain ⟨k, rfl⟩ : ∃ m, k = m + 1 := ⟨k - 1, by omega⟩; simp only [sorrelref10_Keys.l0]; rw [if_neg (by omega), ho, List.take_of_length_le (by rw [List.length_map]; omega)]
  | succ n ih =>
    intro i k out h hk ho hle; obtain ⟨k, rfl⟩ : ∃ m, k = m + 1 := ⟨k - 1, by omega⟩; have hi : i < l.length := by omega
    have hn : wrap64 ((i : Int) + 1) = ((i + 1 : Nat) : Int) := by rw [w64 (by omega) (by omega)]; rfl
    have hti : (l.map (·.f0)).take (i + 1) = (l.map (·.f0)).take i ++ [l[i].f0] := by
      rw [List.take_succ_eq_append_getElem (by rw [List.length_map]; exact hi), List.getElem_map]
    simp only [sorrelref10_Keys.l0]; rw [if_pos (by omega), rdT l i hi, hn]
    by_cases c0 : i = 0
    · subst c0; rw [if_pos (by omega), if_pos (by omega), if_pos (by omega)]; refine ih 1 k _ (by omega) (by omega) ?_ (by rw [List.length_append, List.length_singleton]; omega); rw [hti, ho, List.take_zero]; rfl
    · have hp : wrap64 ((i : Int) - 1) = ((i - 1 : Nat) : Int) := by rw [w64 (by omega) (by omega)]; omega
      have hpi : (l.map (·.f0)).take i = (l.map (·.f0)).take (i - 1) ++ [l[i - 1].f0] := by
        have e := List.take_succ_eq_append_getElem (l := l.map (·.f0)) (i := i - 1) (by rw [List.length_map]; omega); rw [show i - 1 + 1 = i from by omega, List.getElem_map] at e; exact e
      have hs := cmp_snoc l[i].f0 ((l.map (·.f0)).take (i - 1)) l[i - 1].f0; rw [← hpi, ← hti, ← ho] at hs; rw [if_neg (by omega), if_pos (by omega), hp, if_pos (by omega), if_pos (by omega), rdT l (i - 1) (by omega)]
      by_cases c : l[i - 1].f0 = l[i].f0
      · rw [if_pos c] at hs; rw [if_pos (toList_inj.2 c.symm)]; exact ih (i + 1) k _ (by omega) (by omega) hs.symm (by omega)
      · rw [if_neg c] at hs; rw [if_neg (fun e => c (toList_inj.1 e).symm), if_pos (by omega)]; exact ih (i + 1) k _ (by omega) (by omega) hs.symm (by rw [List.length_append, List.length_singleton]; omega)
theorem rkeys_is (l : List S43) (k : Nat) (hl : l.length ≤ 4096) (hk : 4098 ≤ k) : sorrelref10_Keys.f k l = some (keysL l) :=
  rkeys_l0 l hl l.length 0 k [] (by omega) (by omega) (by rw [List.take_zero]; rfl) (Nat.le_refl _)
end Go.Proofs.Ytlmoafkmhenejaa.VaRf
end
section
namespace Go.Proofs.Ytlmoafkmhenejaa.VLib
end Go.Proofs.Ytlmoafkmhenejaa.VLib
namespace Go.Proofs.Ytlmoafkmhenejaa.Bld
end Go.Proofs.Ytlmoafkmhenejaa.Bld
namespace Go.Proofs.YtlmoafkmhenejaaW.PrintWords
end Go.Proofs.YtlmoafkmhenejaaW.PrintWords
namespace Go.Proofs.YtlmoafkmhenejaaW.PrintLast
end Go.Proofs.YtlmoafkmhenejaaW.PrintLast
namespace Go.Proofs.YtlmoafkmhenejaaW.PrintMore
end Go.Proofs.YtlmoafkmhenejaaW.PrintMore
namespace Go.Proofs.Ytlmoafkmhenejaa.XW
end Go.Proofs.Ytlmoafkmhenejaa.XW
namespace Go.Proofs.Ytlmoafkmhenejaa.XA
open Go.Proofs.Ytlmoafkmhenejaa.VLib Go.Proofs.Ytlmoafkmhenejaa.Bld Go.RowKit Go.Proofs.YtlmoafkmhenejaaW.PrintWords Go.Proofs.YtlmoafkmhenejaaW.PrintLast Go.Proofs.YtlmoafkmhenejaaW.PrintMore Go.Proofs.Ytlmoafkmhenejaa.XW
set_option linter.unusedVariables false
set_option linter.unusedSimpArgs false
theorem rkeys_calls (A : Option Addr) (c : Nat) (m : List S43) (w : World) (hC : Kd.C k43 w A m.length m) (hc : m.length ≤ c) (hm : OkB m) :
    Calls Try.prog 28 #[.slice A m.length c] w fun e w' => ∃ v, e = .returned v ∧ Kd.R Kd.string 9 w' w.heap.size (fun _ => True) v (keysL m) ∧ Below w.heap.size w w' :=
  sorrelref10_Keys.calls 5000 A c m _ w hC hc (VaRf.rkeys_is m 5000 hm.len (by omega))
theorem rmake_calls (A : Option Addr) (c : Nat) (m : List S43) (w : World) (hC : Kd.C Kd.string w A (keysL m).length (keysL m)) (hc : (keysL m).length ≤ c) (hm : OkB m) :
    Calls Try.prog 27 #[.slice A (keysL m).length c] w fun e w' => e = .returned (.tuple #[.string (VaTb.bitsT m), .int .i64 0]) ∧ Below w.heap.size w w' := by
  refine sorrelref08_Make.calls 80000 A c (keysL m) _ _ w hC hc ?_
  have h1 := VaTb.keys_len m
  have h2 := hm.len
  exact VaRf.rmake_bits (keysL m) 80000 64 (by omega) (by omega) (fun t ht => by
    obtain ⟨e, he, rfl⟩ := (VaTb.keys_mem m t).1 ht; exact (hm.may e he).2) (by omega)
end Go.Proofs.Ytlmoafkmhenejaa.XA
end
section
namespace Go.Proofs.Ytlmoafkmhenejaa.XA
end Go.Proofs.Ytlmoafkmhenejaa.XA
namespace Go.Proofs.Ytlmoafkmhenejaa.VLib
end Go.Proofs.Ytlmoafkmhenejaa.VLib
namespace Go.Proofs.Ytlmoafkmhenejaa.CLib
end Go.Proofs.Ytlmoafkmhenejaa.CLib
namespace Go.Proofs.Ytlmoafkmhenejaa.XW
end Go.Proofs.Ytlmoafkmhenejaa.XW
namespace Go.Proofs.Ytlmoafkmhenejaa.VaB1
end Go.Proofs.Ytlmoafkmhenejaa.VaB1
namespace Go.Proofs.Ytlmoafkmhenejaa.VaChk
end Go.Proofs.Ytlmoafkmhenejaa.VaChk
namespace Go.Proofs.Ytlmoafkmhenejaa.VaPut
end Go.Proofs.Ytlmoafkmhenejaa.VaPut
namespace Go.Proofs.Ytlmoafkmhenejaa.VaB2
end Go.Proofs.Ytlmoafkmhenejaa.VaB2
namespace Go.Proofs.YtlmoafkmhenejaaW.PrintWords
end Go.Proofs.YtlmoafkmhenejaaW.PrintWords
namespace Go.Proofs.YtlmoafkmhenejaaW.PrintLast
end Go.Proofs.YtlmoafkmhenejaaW.PrintLast
namespace Go.Proofs.YtlmoafkmhenejaaW.PrintMore
end Go.Proofs.YtlmoafkmhenejaaW.PrintMore
namespace Go.Proofs.Ytlmoafkmhenejaa.VaRPut
open Go.RowKit Go.Proofs.Ytlmoafkmhenejaa.XA Go.Proofs.Ytlmoafkmhenejaa.VLib Go.Proofs.Ytlmoafkmhenejaa.CLib Go.Proofs.Ytlmoafkmhenejaa.XW Go.Proofs.Ytlmoafkmhenejaa.VaB1 Go.Proofs.Ytlmoafkmhenejaa.VaChk Go.Proofs.Ytlmoafkmhenejaa.VaPut Go.Proofs.Ytlmoafkmhenejaa.VaB2 Go.Proofs.YtlmoafkmhenejaaW.PrintWords Go.Proofs.YtlmoafkmhenejaaW.PrintLast Go.Proofs.YtlmoafkmhenejaaW.PrintMore
def nat8 (l : List UInt8) : List Int := List.map (fun (b : UInt8) => ((b.toNat : Nat) : Int)) l
theorem nat8_app (a b : List UInt8) : nat8 (a ++ b) = nat8 a ++ nat8 b := List.map_append
theorem nat8_len (a : List UInt8) : (nat8 a).length = a.length := List.length_map _
theorem nat8_bs (a : List UInt8) : bytesOf (bs a) = nat8 a := rfl
theorem nat8_text (l : List UInt8) : strOfNums (nat8 l) = bs l := by
  rw [nums_bs]; unfold nat8
  rw [List.map_map]
  refine congrArg bs ((List.map_congr_left (fun b _ => ?_)).trans (List.map_id l))
  show UInt8.ofNat (((b.toNat : Nat) : Int).toNat) = b
  rw [Int.toNat_natCast, u8_eta]
theorem rnum_ok (n k : Nat) (h : n ≤ 4611686018427387904) (hk : 11 ≤ k) : sorrelref09_number.f k (n : Int) = some (bs (enc n)) := by
  unfold sorrelref09_number.f; rw [rput_ok n k h hk]; rfl
theorem rtxt_ok (s : ByteArray) (k : Nat) (h : s.size ≤ 262144) (hk : 11 ≤ k) : sorrelref09_text.f k s = some (bs (enc s.data.toList.length ++ s.data.toList)) := by
  unfold sorrelref09_text.f; rw [rtext_ok s k h hk]; rfl
theorem rbput_l0 (l : List S43) (hm : ∀ e ∈ l, MayE e) (hl : l.length ≤ 4096) : ∀ (n i k : Nat) (acc : List UInt8) (last : ByteArray), i + n = l.length → last.size ≤ 64 → acc.length ≤ 400 * i + 9 → 10 * (400 * l.length + 9) + n + 400 ≤ k →
    sorrelref09_Put.l0 k l (nat8 acc) last (i : Int) = some (bs (sealL (acc ++ bodyL last.data.toList (l.drop i))), 0) := by
  intro n
  induction n with
  | zero =>
    intro i k acc last h hz hb hk; obtain ⟨k, rfl⟩ : ∃ m, k = m + 1 := ⟨k - 1, by omega⟩; simp only [sorrelref09_Put.l0]; rw [if_neg (by omega), List.drop_eq_nil_of_le (by omega), nat8_text, rseal_is _ k (by rw [bs_size]; omega) (by rw [bs_size]; omega)]; simp only [Option.bind_some, bodyL, List.append_nil]; rfl
  | succ n ih =>
    intro i k acc last h hz hb hk; obtain ⟨k, rfl⟩ : ∃ m, k = m + 1 := ⟨k - 1, by omega⟩; have hi : i < l.length := by omega
    obtain ⟨m1, m2, m3, m4, m5, m6⟩ := hm l[i] (List.getElem_mem hi); have hle := entL_le last.data.toList l[i] (hm l[i] (List.getElem_mem hi)); have hk0 : (kL l[i]).length = (l[i]).f0.size := len_list _; have hcl := lcp_le last.data.toList (kL l[i]); have hdl : ((kL l[i]).drop (lcp last.data.toList (kL l[i]))).length = (kL l[i]).length - lcp last.data.toList (kL l[i]) := List.length_drop; have e0 : l.drop i = l[i] :: l.drop (i + 1) := (List.getElem_cons_drop hi).symm; have hxd : ((l[i]).f0.extract (lcp last.data.toList (kL l[i])) (l[i]).f0.size).data.toList = (kL l[i]).drop (lcp last.data.toList (kL l[i])) := ext_drop _ _; have hxs : ((l[i]).f0.extract (lcp last.data.toList (kL l[i])) (l[i]).f0.size).size ≤ 64 := by rw [← len_list, hxd]; omega
    have hn1 : lcp last.data.toList (kL l[i]) ≤ 4611686018427387904 := by omega
    have s1 : (enc (lcp last.data.toList (kL l[i]))).length ≤ 9 := enc9 hn1; have s2 : (enc ((kL l[i]).drop (lcp last.data.toList (kL l[i]))).length).length ≤ 9 := enc9 (by omega); simp only [sorrelref09_Put.l0]; rw [if_pos (by omega), if_pos (by omega), rdT l i hi, rcom_is last (l[i]).f0 k (by omega) (by omega)]; simp only [Option.bind_some]; rw [show (l[i]).f0.data.toList = kL l[i] from rfl, rnum_ok _ k hn1 (by omega)]; simp only [Option.bind_some]; rw [if_pos (by rw [nat8_len, bs_size]; omega), if_pos (by omega), if_pos (by omega), Int.toNat_natCast, rtxt_ok _ k (by omega) (by omega)]; simp only [Option.bind_some]; rw [hxd, nat8_bs, ← nat8_app, if_pos (by rw [nat8_len, bs_size, List.length_append, List.length_append]; omega), nat8_bs, ← nat8_app]
    by_cases hg : (l[i]).f2 = true
    · have s3 : (enc (2 * (l[i]).f3.toNat + 1)).length ≤ 9 := enc9 (by omega); rw [if_pos hg, w64 (n := 2 * (l[i]).f3) (by omega) (by omega), w64 (n := 2 * (l[i]).f3 + 1) (by omega) (by omega), show 2 * (l[i]).f3 + 1 = ((2 * (l[i]).f3.toNat + 1 : Nat) : Int) from by omega, rnum_ok _ k (by omega) (by omega)]; simp only [Option.bind_some]; rw [if_pos (by rw [nat8_len, bs_size]; simp only [List.length_append]; omega), nat8_bs, ← nat8_app, w64 (by omega) (by omega), show (i : Int) + 1 = ((i + 1 : Nat) : Int) from by omega]; have hel : entL last.data.toList l[i] = enc (lcp last.data.toList (kL l[i])) ++ ((enc ((kL l[i]).drop (lcp last.data.toList (kL l[i]))).length ++ (kL l[i]).drop (lcp last.data.toList (kL l[i]))) ++ enc (2 * (l[i]).f3.toNat + 1)) := by unfold entL txtL; rw [if_pos hg]
      rw [ih (i + 1) k _ _ (by omega) m2 (by rw [hel] at hle; simp only [List.length_append] at hle ⊢; omega) (by omega), e0, bodyL, hel]; simp only [List.append_assoc]; rfl
    · have s3 : (enc (2 * (l[i]).f3.toNat)).length ≤ 9 := enc9 (by omega); have hv0 : (l[i]).f1.data.toList.length = (l[i]).f1.size := len_list _; have s4 : (enc (l[i]).f1.data.toList.length).length ≤ 9 := enc9 (by omega); rw [if_neg hg, w64 (n := 2 * (l[i]).f3) (by omega) (by omega), show 2 * (l[i]).f3 = ((2 * (l[i]).f3.toNat : Nat) : Int) from by omega, rnum_ok _ k (by omega) (by omega)]; simp only [Option.bind_some]; rw [if_pos (by rw [nat8_len, bs_size]; simp only [List.length_append]; omega), nat8_bs, ← nat8_app, rtxt_ok _ k (by omega) (by omega)]; simp only [Option.bind_some]; rw [if_pos (by rw [nat8_len, bs_size]; simp only [List.length_append]; omega), nat8_bs, ← nat8_app, w64 (by omega) (by omega), show (i : Int) + 1 = ((i + 1 : Nat) : Int) from by omega]; have hel : entL last.data.toList l[i] = enc (lcp last.data.toList (kL l[i])) ++ ((enc ((kL l[i]).drop (lcp last.data.toList (kL l[i]))).length ++ (kL l[i]).drop (lcp last.data.toList (kL l[i]))) ++ (enc (2 * (l[i]).f3.toNat) ++ (enc (l[i]).f1.data.toList.length ++ (l[i]).f1.data.toList))) := by unfold entL txtL; rw [if_neg hg]; rfl
      rw [ih (i + 1) k _ _ (by omega) m2 (by rw [hel] at hle; simp only [List.length_append] at hle ⊢; omega) (by omega), e0, bodyL, hel]; simp only [List.append_assoc]; rfl
theorem rbput_ok (l : List S43) (k : Nat) (h : okB l = true) (hk : 4000 * l.length + 9000 ≤ k) : sorrelref09_Put.f k l = some (bs (putL l), 0) := by
  obtain ⟨h1, h2⟩ := (okB_iff l).1 h
  have s1 : (enc l.length).length ≤ 9 := enc9 (by omega)
  unfold sorrelref09_Put.f
  rw [rcheck_is_ l k (by omega), Option.bind_some, h, if_pos rfl, if_pos rfl, rnum_ok _ k (by omega) (by omega)]
  simp only [Option.bind_some]
  rw [if_pos (by rw [bs_size]; simp only [List.length_nil]; omega), List.nil_append, nat8_bs]
  have := rbput_l0 l (ok_may l none h2) h1 l.length 0 k (enc l.length) (⟨#[]⟩ : ByteArray) (by omega) (by decide) (by omega) (by omega)
  rw [List.drop_zero] at this
  exact this
end Go.Proofs.Ytlmoafkmhenejaa.VaRPut
end
