import Derived.Test.YtcfkmcbmambchaakSXAx14
import Derived.Test.YtcfkmcbmambchaakSVLib
import Derived.Test.YtcfkmcbmambchaakSXW
import Derived.Test.YtcfkmcbmambchaakSVaChk
namespace Go.Proofs.Ytcfkmcbmambchaa.XA
end Go.Proofs.Ytcfkmcbmambchaa.XA
namespace Go.Proofs.Ytcfkmcbmambchaa.VLib
end Go.Proofs.Ytcfkmcbmambchaa.VLib
namespace Go.Proofs.Ytcfkmcbmambchaa.XW
end Go.Proofs.Ytcfkmcbmambchaa.XW
namespace Go.Proofs.Ytcfkmcbmambchaa.VaChk
end Go.Proofs.Ytcfkmcbmambchaa.VaChk
namespace Go.Proofs.YtcfkmcbmambchaaW.PrintWords
end Go.Proofs.YtcfkmcbmambchaaW.PrintWords
namespace Go.Proofs.YtcfkmcbmambchaaW.PrintLast
end Go.Proofs.YtcfkmcbmambchaaW.PrintLast
namespace Go.Proofs.YtcfkmcbmambchaaW.PrintMore
end Go.Proofs.YtcfkmcbmambchaaW.PrintMore
namespace Go.Proofs.Ytcfkmcbmambchaa.VaMade
open Go.RowKit Go.Proofs.Ytcfkmcbmambchaa.XA Go.Proofs.Ytcfkmcbmambchaa.VLib Go.Proofs.Ytcfkmcbmambchaa.XW Go.Proofs.Ytcfkmcbmambchaa.VaChk Go.Proofs.YtcfkmcbmambchaaW.PrintWords Go.Proofs.YtcfkmcbmambchaaW.PrintLast Go.Proofs.YtcfkmcbmambchaaW.PrintMore
def ins (x : S36) : List S36 → List S36
  | [] => [x]
  | h :: t => if LE h x = true then h :: ins x t else if LE x h = true then x :: h :: t else x :: t
theorem LE_eqv {x h : S36} (h1 : LE h x = false) (h2 : LE x h = false) (b : S36) : LE x b = LE h b := by
  have e : h.f0.toList = x.f0.toList ∧ h.f3 = x.f3 := by
    rcases LE_tri h x with g | g | g
    · rw [h1] at g; cases g
    · exact g
    · rw [h2] at g; cases g
  unfold VaChk.LE
  rw [e.1, e.2, toList_inj.1 e.1]
theorem ins_ok (x : S36) (hx : mayE x = true) : ∀ (l : List S36) (p : Option S36), okFrom p l = true → (∀ a, p = some a → LE a x = true) → okFrom p (ins x l) = true := by
  have one : ∀ (p : Option S36) (e : S36) (r : List S36), okFrom p (e :: r) = true ↔ mayE e = true ∧ (∀ a, p = some a → LE a e = true) ∧ okFrom (some e) r = true := by
    intro p e r
    cases p with
    | none => simp [okFrom]
    | some a => simp [okFrom, and_assoc]
  intro l
  induction l with
  | nil => intro p _ hp; exact (one p x []).2 ⟨hx, hp, rfl⟩
  | cons h t ih =>
    intro p ho hp
    obtain ⟨o1, o2, o3⟩ := (one p h t).1 ho
    unfold ins
    by_cases c1 : LE h x = true
    · rw [if_pos c1]
      exact (one p h _).2 ⟨o1, o2, ih (some h) o3 (fun a e => by cases e; exact c1)⟩
    · rw [if_neg c1]
      by_cases c2 : LE x h = true
      · rw [if_pos c2]
        exact (one p x _).2 ⟨hx, hp, (one (some x) h t).2 ⟨o1, fun a e => by cases e; exact c2, o3⟩⟩
      · rw [if_neg c2]
        refine (one p x _).2 ⟨hx, hp, ?_⟩
        cases t with
        | nil => rfl
        | cons b t =>
          obtain ⟨p1, p2, p3⟩ := (one (some h) b t).1 o3
          refine (one (some x) b t).2 ⟨p1, fun a e => ?_, p3⟩
          cases e
          rw [LE_eqv (Bool.eq_false_iff.2 c1) (Bool.eq_false_iff.2 c2)]
          exact p2 h rfl
theorem ins_cons (x h : S36) (t : List S36) : ins x (h :: t) = if LE h x = true then h :: ins x t else if LE x h = true then x :: h :: t else x :: t := rfl
theorem ins_len (x : S36) : ∀ l : List S36, (ins x l).length ≤ l.length + 1
  | [] => Nat.le_refl _
  | h :: t => by
    have := ins_len x t
    unfold ins
    split
    · simp only [List.length_cons]; omega
    · split <;> simp only [List.length_cons] <;> omega
theorem put1_l0 (x : S36) (m : List S36) (hm : m.length ≤ 4096) : ∀ (n i k : Nat), i + n = m.length → n + 1 ≤ k → sorrelref09_Put1.l0 k m (i : Int) x.f0 x.f1 x.f2 x.f3 = some (m.take i ++ ins x (m.drop i)) := by
  intro n
  induction n with
  | zero =>
    intro i k h hk
    obtain ⟨k, rfl⟩ : ∃ m, k = m + 1 := ⟨k - 1, by omega⟩
    simp only [sorrelref09_Put1.l0]
    have ht : (m.take i).length ≤ m.length := by rw [List.length_take]; omega
    have hd : m.drop i = [] := List.drop_eq_nil_of_le (by omega)
    rw [if_neg (by omega), if_pos (by omega), if_pos (by omega), Int.toNat_natCast, hd, Option.bind_some, if_pos (by rw [List.length_nil]; omega), Option.bind_some, List.nil_append, if_pos (by omega), Option.bind_some, Option.bind_some,
      if_pos (by rw [List.length_append, List.length_singleton, List.length_nil]; omega), List.append_nil]
    rfl
  | succ n ih =>
    intro i k h hk
    obtain ⟨k, rfl⟩ : ∃ m, k = m + 1 := ⟨k - 1, by omega⟩
    have hi : i < m.length := by omega
    have ht : (m.take i).length ≤ m.length := by rw [List.length_take]; omega
    have hd : m.drop i = m[i] :: m.drop (i + 1) := (List.getElem_cons_drop hi).symm
    have hn : (m.drop i).length ≤ m.length := by rw [List.length_drop]; omega
    have hn2 : (m.drop (i + 1)).length ≤ m.length := by rw [List.length_drop]; omega
    simp only [sorrelref09_Put1.l0]
    rw [if_pos (by omega), if_pos (by omega), rdT m i hi, rless_is, Option.bind_some]
    by_cases c1 : LE m[i] x = true
    · rw [if_pos c1, w64 (by omega) (by omega), show (i : Int) + 1 = ((i + 1 : Nat) : Int) from by omega, ih (i + 1) k (by omega) (by omega), hd]
      rw [ins_cons, if_pos c1, List.take_succ_eq_append_getElem hi, List.append_assoc]
      rfl
    · rw [if_neg c1, if_pos (by omega), Int.toNat_natCast, Option.bind_some, if_pos (by rw [List.length_nil]; omega), Option.bind_some, List.nil_append, if_pos (by omega), Option.bind_some, rless_is, Option.bind_some]
      by_cases c2 : LE x m[i] = true
      · rw [if_pos c2, Option.bind_some, if_pos (by rw [List.length_append, List.length_singleton]; omega), hd]
        rw [ins_cons, if_neg c1, if_pos c2, List.append_assoc]
        rfl
      · rw [if_neg c2, w64 (by omega) (by omega), if_pos (by omega), if_pos (by omega), show ((i : Int) + 1).toNat = i + 1 from by omega, Option.bind_some, if_pos (by rw [List.length_append, List.length_singleton]; omega), hd]
        rw [ins_cons, if_neg c1, if_neg c2, List.append_assoc]
        rfl
theorem put1_is (x : S36) (m : List S36) (k : Nat) (hm : m.length ≤ 4096) (hk : m.length + 1 ≤ k) : sorrelref09_Put1.f k m x.f0 x.f1 x.f2 x.f3 = some (if mayE x = true then ins x m else m) := by
  unfold sorrelref09_Put1.f
  rw [rmay_is, Option.bind_some]
  split
  · have := put1_l0 x m hm m.length 0 k (by omega) hk
    exact this
  · rfl
theorem okM_iff (l : List S36) : okB l = true ↔ l.length ≤ 4096 ∧ okFrom none l = true := by unfold okB; rw [Bool.and_eq_true, decide_eq_true_eq]
theorem made_l0 (l : List S36) : ∀ (n i k : Nat) (m : List S36), i + n = 60 → okB m = true → m.length ≤ i → n + 1 + 70 ≤ k → ∃ r, sorrellaw09_made.l0 k l m (i : Int) = some r ∧ okB r = true ∧ r.length ≤ 60 := by
  intro n
  induction n with
  | zero =>
    intro i k m h ho hm hk
    obtain ⟨k, rfl⟩ : ∃ m, k = m + 1 := ⟨k - 1, by omega⟩
    simp only [sorrellaw09_made.l0]
    by_cases c : i < l.length
    · rw [if_pos (by omega), if_neg (by omega)]; exact ⟨m, rfl, ho, by omega⟩
    · rw [if_neg (by omega)]; exact ⟨m, rfl, ho, by omega⟩
  | succ n ih =>
    intro i k m h ho hm hk
    obtain ⟨k, rfl⟩ : ∃ m, k = m + 1 := ⟨k - 1, by omega⟩
    simp only [sorrellaw09_made.l0]
    by_cases c : i < l.length
    · rw [if_pos (by omega), if_pos (by omega), if_pos (by omega), put1_is _ m k (by omega) (by omega), Option.bind_some, w64 (by omega) (by omega), show (i : Int) + 1 = ((i + 1 : Nat) : Int) from by omega]
      have hb := (okM_iff m).1 ho
      refine ih (i + 1) k _ (by omega) ?_ ?_ (by omega)
      · split
        · next hx =>
          have := ins_len (rd_T36 l (i : Int)) m
          exact (okM_iff _).2 ⟨by omega, ins_ok _ hx m none hb.2 (fun a e => by cases e)⟩
        · exact ho
      · split
        · have := ins_len (rd_T36 l (i : Int)) m; omega
        · omega
    · rw [if_neg (by omega)]; exact ⟨m, rfl, ho, by omega⟩
theorem made_is (l : List S36) (k : Nat) (hk : 140 ≤ k) : ∃ r, sorrellaw09_made.f k l = some r ∧ okB r = true ∧ r.length ≤ 60 :=
  made_l0 l 60 0 k [] (by omega) rfl (Nat.zero_le _) (by omega)
end Go.Proofs.Ytcfkmcbmambchaa.VaMade
