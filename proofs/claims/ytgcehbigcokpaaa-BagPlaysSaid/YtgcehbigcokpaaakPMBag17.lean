import Derived.Test.YtgcehbigcokpaaakPMBag16
import Derived.Test.YtgcehbigcokpaaakPXAx1
import Derived.Test.YtgcehbigcokpaaakPXAx2
import Derived.Test.YtgcehbigcokpaaakPXAx3
namespace Go.Proofs.YtgcehbigcokpaaaW.PrintWords
end Go.Proofs.YtgcehbigcokpaaaW.PrintWords
namespace Go.Proofs.YtgcehbigcokpaaaW.PrintLast
end Go.Proofs.YtgcehbigcokpaaaW.PrintLast
namespace Go.Proofs.YtgcehbigcokpaaaW.PrintMore
end Go.Proofs.YtgcehbigcokpaaaW.PrintMore
namespace Go.Proofs.Ytgcehbigcokpaaa.XW
end Go.Proofs.Ytgcehbigcokpaaa.XW
namespace Go.Proofs.Ytgcehbigcokpaaa.XA
open Go.RowKit Go.Proofs.YtgcehbigcokpaaaW.PrintWords Go.Proofs.YtgcehbigcokpaaaW.PrintLast Go.Proofs.YtgcehbigcokpaaaW.PrintMore Go.Proofs.Ytgcehbigcokpaaa.XW
attribute [local go_sem high] max2_str unary_xor_u32 leq_str geq_str gtr_str
attribute [local go_sem] max2_int min2_int max_two min_two max_three min_three max_four min_four
set_option linter.unusedVariables false
set_option linter.unusedSimpArgs false
def mL (L : List S30) : Int → List S30 := fun p => L.filter (fun x => decide (x.f1 = p))
theorem mL_nil (p : Int) : mL [] p = [] := rfl
theorem mL_yes {x : S30} {p : Int} (h : x.f1 = p) (L : List S30) : mL (x :: L) p = x :: mL L p := by
  unfold mL; rw [List.filter_cons_of_pos (by simpa using h)]
theorem mL_no {x : S30} {p : Int} (h : x.f1 ≠ p) (L : List S30) : mL (x :: L) p = mL L p := by
  unfold mL; rw [List.filter_cons_of_neg (by simpa using h)]
theorem mL_app (A B : List S30) (p : Int) : mL (A ++ B) p = mL A p ++ mL B p := by
  unfold mL; rw [List.filter_append]
theorem mL_le (L : List S30) (p : Int) : (mL L p).length ≤ L.length := List.length_filter_le _ _
theorem mL_put (L : List S30) (x : S30) : upd (mL L) x.f1 (mL L x.f1 ++ [x]) = mL (L ++ [x]) := by
  funext p
  rw [mL_app]
  by_cases e : p = x.f1
  · subst e; rw [upd_same, mL_yes rfl, mL_nil]
  · rw [upd_other _ _ e, mL_no (fun h => e h.symm), mL_nil, List.append_nil]
theorem mL_take (A B : List S30) (x : S30) : upd (mL (A ++ x :: B)) x.f1 ((mL (A ++ x :: B) x.f1).take (mL A x.f1).length ++ (mL (A ++ x :: B) x.f1).drop ((mL A x.f1).length + 1)) = mL (A ++ B) := by
  funext p
  by_cases e : p = x.f1
  · subst e
    have hd : (mL A x.f1 ++ x :: mL B x.f1).drop ((mL A x.f1).length + 1) = mL B x.f1 := by rw [show mL A x.f1 ++ x :: mL B x.f1 = (mL A x.f1 ++ [x]) ++ mL B x.f1 from by simp, List.drop_left' (by simp)]
    rw [upd_same, mL_app, mL_yes rfl, List.take_left, hd, mL_app]
  · rw [upd_other _ _ e, mL_app, mL_no (fun h => e h.symm), mL_app]
theorem mL_at (A B : List S30) (x : S30) : (mL (A ++ x :: B) x.f1).length = (mL A x.f1).length + 1 + (mL B x.f1).length ∧ rd_T30 (mL (A ++ x :: B) x.f1) ((mL A x.f1).length : Int) = x := by
  rw [mL_app, mL_yes rfl]
  refine ⟨by rw [List.length_append, List.length_cons]; omega, ?_⟩
  unfold rd_T30
  rw [Int.toNat_natCast, List.getD_eq_getElem?_getD, List.getElem?_append_right (Nat.le_refl _), Nat.sub_self]
  rfl
theorem mL_clear (L : List S30) (p : Int) : upd (mL L) p [] = mL (L.filter (fun x => decide (x.f1 ≠ p))) := by
  funext r
  unfold mL
  rw [List.filter_filter]
  by_cases e : r = p
  · subst e
    rw [upd_same]
    symm
    rw [List.filter_eq_nil_iff]
    intro x _
    simp
  · rw [upd_other _ _ e]
    refine (List.filter_congr ?_)
    intro x _
    by_cases h : x.f1 = r
    · simp [h, e]
    · simp [h]
theorem rd_mid (A B : List S30) (x : S30) : rd_T30 (A ++ x :: B) (A.length : Int) = x := by
  unfold rd_T30
  rw [Int.toNat_natCast, List.getD_eq_getElem?_getD, List.getElem?_append_right (Nat.le_refl _), Nat.sub_self]
  rfl
theorem w1 (i : Nat) (h : i < 1000) : wrap64 ((i : Int) + 1) = ((i + 1 : Nat) : Int) := by unfold wrap64; omega
theorem waits_l (n c p : Int) : ∀ (B A : List S30) (k cnt : Nat), (A ++ B).length < 500 → B.length < k → cnt ≤ A.length → sorrelref15_Waits.l0 k p (cnt : Int) (A.length : Int) n c (A ++ B) = some (((cnt + (mL B p).length : Nat)) : Int)
  | [], A, k, cnt, hl, hk, hc => by
    obtain ⟨k, rfl⟩ : ∃ j, k = j + 1 := ⟨k - 1, by omega⟩
    rw [List.append_nil]
    unfold sorrelref15_Waits.l0
    rw [if_neg (by omega), mL_nil]
    rfl
  | x :: B, A, k, cnt, hl, hk, hc => by
    obtain ⟨k, rfl⟩ : ∃ j, k = j + 1 := ⟨k - 1, by omega⟩
    rw [List.length_append, List.length_cons] at hl
    rw [List.length_cons] at hk
    have e : A ++ x :: B = (A ++ [x]) ++ B := by simp
    have ih := fun cnt h => waits_l n c p B (A ++ [x]) k cnt (by simp; omega) (by omega) h
    rw [List.length_append, List.length_singleton] at ih
    unfold sorrelref15_Waits.l0
    rw [if_pos (by rw [List.length_append, List.length_cons]; omega), if_pos (by omega), rd_mid]
    by_cases h : x.f1 = p
    · rw [if_pos h, w1 cnt (by omega), w1 A.length (by omega), e, ih _ (by omega), mL_yes h, List.length_cons, show cnt + 1 + (mL B p).length = cnt + ((mL B p).length + 1) from by omega]
    · rw [if_neg h, w1 A.length (by omega), e, ih _ (by omega), mL_no h]
theorem waits_is (n c p : Int) (L : List S30) (k : Nat) (hl : L.length < 199) (hk : 200 ≤ k) : sorrelref15_Waits.f k n c L p = some ((mL L p).length : Int) := by
  have := waits_l n c p L [] k 0 (by simpa using (show L.length < 500 by omega)) (by omega) (Nat.le_refl _)
  rw [Nat.zero_add] at this
  exact this
theorem find_l (n c p : Int) : ∀ (B A : List S30) (k : Nat) (a : Int), (A ++ B).length < 500 → B.length < k → -9223372036854775808 ≤ a → a ≤ 9223372036854775807 → ∃ r, sorrelref15_find.l0 k p a (A.length : Int) n c (A ++ B) = some r ∧ (0 ≤ a → (r = -1 ∧ ((mL B p).length : Int) ≤ a) ∨ ∃ B1 x B2, B = B1 ++ x :: B2 ∧ r = ((A.length + B1.length : Nat) : Int) ∧ x.f1 = p ∧ ((mL B1 p).length : Int) = a)
  | [], A, k, a, hl, hk, h1, h2 => by
    obtain ⟨k, rfl⟩ : ∃ j, k = j + 1 := ⟨k - 1, by omega⟩
    rw [List.append_nil]
    unfold sorrelref15_find.l0
    rw [if_neg (by omega)]
    exact ⟨_, rfl, fun h => .inl ⟨rfl, by rw [mL_nil]; exact h⟩⟩
  | x :: B, A, k, a, hl, hk, h1, h2 => by
    obtain ⟨k, rfl⟩ : ∃ j, k = j + 1 := ⟨k - 1, by omega⟩
    rw [List.length_append, List.length_cons] at hl
    rw [List.length_cons] at hk
    have e : A ++ x :: B = (A ++ [x]) ++ B := by simp
    have ih := fun a h h' => find_l n c p B (A ++ [x]) k a (by simp; omega) (by omega) h h'
    rw [List.length_append, List.length_singleton] at ih
    unfold sorrelref15_find.l0
    rw [if_pos (by rw [List.length_append, List.length_cons]; omega), if_pos (by omega), rd_mid]
    by_cases h : x.f1 = p
    · rw [if_pos h]
      by_cases h0 : a = 0
      · rw [if_pos h0]
        exact ⟨_, rfl, fun _ => .inr ⟨[], x, B, rfl, by simp, h, by rw [mL_nil, h0]; rfl⟩⟩
      · rw [if_neg h0, w1 A.length (by omega), e]
        have hw : -9223372036854775808 ≤ wrap64 (a - 1) ∧ wrap64 (a - 1) ≤ 9223372036854775807 := by unfold wrap64; omega
        obtain ⟨r, hr, hx⟩ := ih (wrap64 (a - 1)) hw.1 hw.2
        refine ⟨r, hr, fun ha => ?_⟩
        have hw2 : wrap64 (a - 1) = a - 1 := by unfold wrap64; omega
        rw [hw2] at hx
        rcases hx (by omega) with ⟨e1, e2⟩ | ⟨B1, y, B2, e1, e2, e3, e4⟩
        · exact .inl ⟨e1, by rw [mL_yes h, List.length_cons]; omega⟩
        · exact .inr ⟨x :: B1, y, B2, by rw [e1]; rfl, by rw [e2, List.length_cons]; omega, e3, by rw [mL_yes h, List.length_cons]; omega⟩
    · rw [if_neg h, w1 A.length (by omega), e]
      obtain ⟨r, hr, hx⟩ := ih a h1 h2
      refine ⟨r, hr, fun ha => ?_⟩
      rcases hx ha with ⟨e1, e2⟩ | ⟨B1, y, B2, e1, e2, e3, e4⟩
      · exact .inl ⟨e1, by rw [mL_no h]; exact e2⟩
      · exact .inr ⟨x :: B1, y, B2, by rw [e1]; rfl, by rw [e2, List.length_cons]; omega, e3, by rw [mL_no h]; exact e4⟩
theorem find_is (n c p : Int) (L : List S30) (k : Nat) (a : Int) (hl : L.length < 199) (hk : 200 ≤ k) (h1 : -9223372036854775808 ≤ a) (h2 : a ≤ 9223372036854775807) : ∃ r, sorrelref15_find.f k n c L p a = some r ∧ (0 ≤ a → (r = -1 ∧ ((mL L p).length : Int) ≤ a) ∨ ∃ A x B, L = A ++ x :: B ∧ r = (A.length : Int) ∧ x.f1 = p ∧ ((mL A p).length : Int) = a) := by
  obtain ⟨r, hr, hx⟩ := find_l n c p L [] k a (by simpa using (show L.length < 500 by omega)) (by omega) h1 h2
  refine ⟨r, hr, fun h => ?_⟩
  rcases hx h with hx | ⟨B1, y, B2, e1, e2, e3, e4⟩
  · exact .inl hx
  · exact .inr ⟨B1, y, B2, e1, by rw [e2]; simp, e3, e4⟩
theorem hasL_iff (ps : List Int) (a : Int) : hasL ps [a] = decide (a ∈ ps) := by simp [hasL]
theorem hasL_two (ps : List Int) (a b : Int) : hasL ps [a, b] = (hasL ps [a] && hasL ps [b]) := by simp [hasL]
theorem mem_places (n c : Nat) (a : Int) : a ∈ placesL n c ↔ a = -1 ∨ (0 ≤ a ∧ a < n) ∨ (100 ≤ a ∧ a - 100 < c) := by
  unfold placesL nodesL clientsL
  simp only [List.mem_append, List.mem_cons, List.not_mem_nil, or_false, List.mem_map, List.mem_range]
  constructor
  · rintro ((h | ⟨j, hj, rfl⟩) | ⟨j, hj, rfl⟩)
    · exact .inl h
    · exact .inr (.inl ⟨by omega, by omega⟩)
    · exact .inr (.inr ⟨by omega, by omega⟩)
  · rintro (h | ⟨h1, h2⟩ | ⟨h1, h2⟩)
    · exact .inl (.inl h)
    · exact .inl (.inr ⟨a.toNat, by omega, by omega⟩)
    · exact .inr ⟨(a - 100).toNat, by omega, by omega⟩
theorem place_is (n c : Nat) (hn : n ≤ 6) (L : List S30) (a : Int) (h2 : a ≤ 9223372036854775807) : sorrelref15_place.f n c L a = some (hasL (placesL n c) [a]) := by
  rw [hasL_iff]
  unfold sorrelref15_place.f
  have hm := mem_places n c a
  by_cases c1 : a = -1
  · rw [if_pos c1, decide_eq_true (hm.2 (.inl c1))]
  · rw [if_neg c1]
    have hw : 100 ≤ a → wrap64 (a - 100) = a - 100 := fun h => by unfold wrap64; omega
    by_cases c3 : a ≥ 100
    · have e : some (decide (wrap64 (a - 100) < (c : Int))) = some (decide (a ∈ placesL n c)) := by
        rw [hw c3]
        congr 1
        rw [decide_eq_decide, hm]
        omega
      rw [if_pos (by omega), if_neg (by omega), if_pos c3, e]
    · by_cases c2 : a ≥ 0
      · rw [if_pos c2]
        by_cases c4 : a < n
        · rw [if_pos c4, decide_eq_true (hm.2 (.inr (.inl ⟨by omega, c4⟩)))]
        · rw [if_neg c4, if_neg c3, decide_eq_false (fun h => by have := hm.1 h; omega)]
      · rw [if_neg c2, if_neg c3, decide_eq_false (fun h => by have := hm.1 h; omega)]
theorem with_is (n c : Int) (L : List S30) (x : S30) (hl : L.length < 199) : sorrelref15_with.f n c L x.f0 x.f1 x.f2 = some (n, c, L ++ [x]) := by
  unfold sorrelref15_with.f
  rw [if_pos (by rw [List.length_nil]; omega), Option.bind_some, if_pos (by rw [List.nil_append]; omega), List.nil_append]
theorem put_is (n c : Nat) (hn : n ≤ 6) (L : List S30) (x : S30) (k : Nat) (hl : L.length < 199) (hk : 200 ≤ k) (h0 : x.f0 ≤ 9223372036854775807) (h1 : x.f1 ≤ 9223372036854775807) :
    sorrelref15_Put.f k n c L x.f0 x.f1 x.f2 = if hasL (placesL n c) [x.f0, x.f1] = true ∧ x.f2.size ≤ 262144 then some ((n : Int), (c : Int), L ++ [x], 0) else some ((n : Int), (c : Int), L, 1) := by
  obtain ⟨k, rfl⟩ : ∃ j, k = j + 1 := ⟨k - 1, by omega⟩
  have hj : ∀ b : Bool, sorrelref15_Put.j0 (k + 1) b n c L x.f0 x.f1 x.f2 = if b = true then some ((n : Int), (c : Int), L, 1) else some ((n : Int), (c : Int), L ++ [x], 0) := by
    intro b
    rw [sorrelref15_Put.j0]
    cases b with
    | true => rw [if_pos rfl, if_pos rfl]
    | false =>
      have hm := mL_le L x.f1
      rw [if_neg (by decide), if_neg (by decide)]
      have hw : sorrelref15_Waits.f k n c L x.f1 = some ((mL L x.f1).length : Int) := by
        have := waits_l n c x.f1 L [] k 0 (by simpa using (show L.length < 500 by omega)) (by omega) (Nat.le_refl _)
        rw [Nat.zero_add] at this
        exact this
      rw [hw, Option.bind_some, if_neg (by omega), with_is n c L x hl]
      rfl
  unfold sorrelref15_Put.f
  rw [place_is n c hn L _ h0, Option.bind_some, place_is n c hn L _ h1, hasL_two]
  cases ha : hasL (placesL n c) [x.f0] with
  | false => rw [if_neg (by decide), hj, if_pos rfl, if_neg (by simp)]
  | true =>
    rw [if_pos rfl, Option.bind_some]
    cases hb : hasL (placesL n c) [x.f1] with
    | false => rw [if_neg (by decide), hj, if_pos rfl, if_neg (by simp)]
    | true =>
      rw [if_pos rfl, hj]
      by_cases hs : x.f2.size ≤ 262144
      · rw [decide_eq_false (by omega), if_neg (by decide), if_pos ⟨rfl, hs⟩]
      · rw [decide_eq_true (by omega), if_pos rfl, if_neg (fun h => hs h.2)]
theorem take_is (n c : Nat) (hn : n ≤ 6) (L : List S30) (p a : Int) (k : Nat) (hl : L.length < 199) (hk : 200 ≤ k) (hp : p ≤ 9223372036854775807) (h1 : -9223372036854775808 ≤ a) (h2 : a ≤ 9223372036854775807) :
    (findE (placesL n c) (mL L) p a ≠ 0 ∧ findL (placesL n c) (mL L) p a = ⟨0, 0, ⟨#[]⟩⟩ ∧ sorrelref15_Take.f k n c L p a = some ((n : Int), (c : Int), L, 0, 0, ⟨#[]⟩, findE (placesL n c) (mL L) p a)) ∨
    ∃ A x B, L = A ++ x :: B ∧ x.f1 = p ∧ a = ((mL A p).length : Int) ∧ findE (placesL n c) (mL L) p a = 0 ∧ findL (placesL n c) (mL L) p a = x ∧ sorrelref15_Take.f k n c L p a = some ((n : Int), (c : Int), A ++ B, x.f0, x.f1, x.f2, 0) := by
  unfold sorrelref15_Take.f
  rw [place_is n c hn L _ hp, Option.bind_some]
  cases hh : hasL (placesL n c) [p] with
  | false =>
    have e : findE (placesL n c) (mL L) p a = 1 := by unfold findE; rw [if_pos hh]
    rw [e]
    exact .inl ⟨by decide, by unfold findL; rw [e, if_neg (by decide)]; rfl, by rw [if_neg (by decide)]⟩
  | true =>
    rw [if_pos rfl]
    obtain ⟨r, hr, hx⟩ := find_is n c p L k a hl hk h1 h2
    rw [hr, Option.bind_some]
    have none : a < 0 ∨ ((mL L p).length : Int) ≤ a → findE (placesL n c) (mL L) p a = 3 := fun h => by unfold findE; rw [if_neg (by rw [hh]; decide), if_pos h]
    by_cases ha : a < 0
    · rw [none (.inl ha), if_pos ha]
      exact .inl ⟨by decide, by unfold findL; rw [none (.inl ha), if_neg (by decide)]; rfl, rfl⟩
    · rw [if_neg ha]
      rcases hx (by omega) with ⟨e1, e2⟩ | ⟨A, x, B, e1, e2, e3, e4⟩
      · rw [none (.inr e2), e1, if_pos (by decide)]
        exact .inl ⟨by decide, by unfold findL; rw [none (.inr e2), if_neg (by decide)]; rfl, rfl⟩
      · subst e2 e1 e3
        rw [List.length_append, List.length_cons] at hl
        have hm := mL_at A B x
        have e : findE (placesL n c) (mL (A ++ x :: B)) x.f1 a = 0 := by unfold findE; rw [if_neg (by rw [hh]; decide), if_neg (by rw [hm.1]; omega)]
        refine .inr ⟨A, x, B, rfl, rfl, e4.symm, e, by unfold findL; rw [if_pos e, ← e4]; exact hm.2, ?_⟩
        have hd : (A ++ x :: B).drop (A.length + 1) = B := by rw [show A ++ x :: B = (A ++ [x]) ++ B from by simp, List.drop_left' (by simp)]
        rw [if_neg (by omega), if_pos (by omega), if_pos (by rw [List.length_append, List.length_cons]; omega), if_pos (by rw [List.length_append, List.length_cons]; omega), Option.bind_some, Int.toNat_natCast, List.take_left, if_pos (by rw [List.length_nil]; omega), Option.bind_some, w1 A.length (by omega), if_pos (by omega), if_pos (by rw [List.length_append, List.length_cons]; omega), Option.bind_some, Int.toNat_natCast, hd, if_pos (by rw [List.nil_append]; omega), List.nil_append, rd_mid]
theorem twice_is (n c : Nat) (hn : n ≤ 6) (L : List S30) (p a : Int) (k : Nat) (hl : L.length < 199) (hk : 201 ≤ k) (hp : p ≤ 9223372036854775807) (h1 : -9223372036854775808 ≤ a) (h2 : a ≤ 9223372036854775807) :
    (findE (placesL n c) (mL L) p a ≠ 0 ∧ sorrelref15_Twice.f k n c L p a = some ((n : Int), (c : Int), L, findE (placesL n c) (mL L) p a)) ∨
    (findE (placesL n c) (mL L) p a = 0 ∧ (findL (placesL n c) (mL L) p a).f1 = p ∧ sorrelref15_Twice.f k n c L p a = some ((n : Int), (c : Int), L ++ [findL (placesL n c) (mL L) p a], 0)) := by
  obtain ⟨k, rfl⟩ : ∃ j, k = j + 1 := ⟨k - 1, by omega⟩
  unfold sorrelref15_Twice.f
  rw [place_is n c hn L _ hp, Option.bind_some]
  cases hh : hasL (placesL n c) [p] with
  | false =>
    have e : findE (placesL n c) (mL L) p a = 1 := by unfold findE; rw [if_pos hh]
    rw [e]
    exact .inl ⟨by decide, by rw [if_neg (by decide)]⟩
  | true =>
    rw [if_pos rfl]
    obtain ⟨r, hr, hx⟩ := find_is n c p L (k + 1) a hl (by omega) h1 h2
    rw [hr, Option.bind_some]
    have none : a < 0 ∨ ((mL L p).length : Int) ≤ a → findE (placesL n c) (mL L) p a = 3 := fun h => by unfold findE; rw [if_neg (by rw [hh]; decide), if_pos h]
    have hj : ∀ b : Bool, b = true → sorrelref15_Twice.j0 (k + 1) p r b n c L = some ((n : Int), (c : Int), L, 3) := fun b hb => by subst hb; rw [sorrelref15_Twice.j0]; rw [if_pos rfl]
    by_cases ha : a < 0
    · rw [none (.inl ha), if_pos ha, hj true rfl]
      exact .inl ⟨by decide, rfl⟩
    · rw [if_neg ha]
      rcases hx (by omega) with ⟨e1, e2⟩ | ⟨A, x, B, e1, e2, e3, e4⟩
      · rw [none (.inr e2), hj _ (decide_eq_true (by omega))]
        exact .inl ⟨by decide, rfl⟩
      · subst e2 e1 e3
        have hl' := hl
        rw [List.length_append, List.length_cons] at hl
        have hm := mL_at A B x
        have e : findE (placesL n c) (mL (A ++ x :: B)) x.f1 a = 0 := by unfold findE; rw [if_neg (by rw [hh]; decide), if_neg (by rw [hm.1]; omega)]
        have f : findL (placesL n c) (mL (A ++ x :: B)) x.f1 a = x := by unfold findL; rw [if_pos e, ← e4]; exact hm.2
        rw [f]
        refine .inr ⟨e, rfl, ?_⟩
        rw [decide_eq_false (by omega)]
        rw [sorrelref15_Twice.j0]
        have hq := mL_le (A ++ x :: B) x.f1
        rw [List.length_append, List.length_cons] at hq
        rw [if_neg (by decide), waits_is n c x.f1 _ k hl' (by omega), Option.bind_some, if_neg (by omega), if_pos (by omega), if_pos (by rw [List.length_append, List.length_cons]; omega), rd_mid, with_is n c _ x hl']
        rfl
theorem clear_l (n c p : Int) : ∀ (B A acc : List S30) (k : Nat), (A ++ B).length < 500 → B.length < k → acc.length ≤ A.length → sorrelref15_Clear.l0 k p acc (A.length : Int) n c (A ++ B) = some (n, c, acc ++ B.filter (fun x => decide (x.f1 ≠ p)), 0)
  | [], A, acc, k, hl, hk, hc => by
    obtain ⟨k, rfl⟩ : ∃ j, k = j + 1 := ⟨k - 1, by omega⟩
    rw [List.append_nil]
    unfold sorrelref15_Clear.l0
    rw [if_neg (by omega), List.filter_nil, List.append_nil]
  | x :: B, A, acc, k, hl, hk, hc => by
    obtain ⟨k, rfl⟩ : ∃ j, k = j + 1 := ⟨k - 1, by omega⟩
    rw [List.length_append, List.length_cons] at hl
    rw [List.length_cons] at hk
    have e : A ++ x :: B = (A ++ [x]) ++ B := by simp
    have ih := fun acc h => clear_l n c p B (A ++ [x]) acc k (by simp; omega) (by omega) h
    rw [List.length_append, List.length_singleton] at ih
    unfold sorrelref15_Clear.l0
    rw [if_pos (by rw [List.length_append, List.length_cons]; omega), if_pos (by omega), rd_mid]
    by_cases h : x.f1 = p
    · rw [if_pos h, w1 A.length (by omega), e, ih _ (by omega), List.filter_cons_of_neg (by simpa using h)]
    · rw [if_neg h, if_pos (by omega), w1 A.length (by omega), e, ih _ (by rw [List.length_append, List.length_singleton]; omega), List.filter_cons_of_pos (by simpa using h), List.append_assoc]
      rfl
theorem clear_is (n c : Nat) (hn : n ≤ 6) (L : List S30) (p : Int) (k : Nat) (hl : L.length < 199) (hk : 200 ≤ k) (hp : p ≤ 9223372036854775807) :
    sorrelref15_Clear.f k n c L p = if hasL (placesL n c) [p] = true then some ((n : Int), (c : Int), L.filter (fun x => decide (x.f1 ≠ p)), 0) else some ((n : Int), (c : Int), L, 1) := by
  unfold sorrelref15_Clear.f
  rw [place_is n c hn L _ hp, Option.bind_some]
  cases hh : hasL (placesL n c) [p] with
  | false => rw [if_neg (by decide), if_neg (by decide)]
  | true =>
    rw [if_pos rfl, if_pos rfl]
    exact clear_l n c p L [] [] k (by simpa using (show L.length < 500 by omega)) (by omega) (Nat.le_refl _)
theorem places_is (n c : Nat) (hn : n ≤ 6) (hc : c ≤ 8) : sorrelref15_Places.f 201 n c [] = some (placesL n c) ∧ sorrelref01_SameInts.f 201 (placesL n c) (placesL n c) = some true := by
  have : ∀ n : Fin 7, ∀ c : Fin 9, sorrelref15_Places.f 201 (n.val : Int) (c.val : Int) [] = some (placesL n.val c.val) ∧ sorrelref01_SameInts.f 201 (placesL n.val c.val) (placesL n.val c.val) = some true := by decide +kernel
  exact this ⟨n, by omega⟩ ⟨c, by omega⟩
theorem refnew_no (n c : Int) (h : n < 1 ∨ 6 < n ∨ c < 1 ∨ 8 < c) : sorrelref15_New.f n c = some (0, 0, [], 1) := by
  unfold sorrelref15_New.f
  by_cases h1 : n < 1
  · rw [if_pos h1]
  · by_cases h2 : n > 6
    · rw [if_neg h1, if_pos h2]
    · by_cases h3 : c < 1
      · rw [if_neg h1, if_neg h2, if_pos h3]
      · rw [if_neg h1, if_neg h2, if_neg h3, if_pos (by omega)]
theorem refnew_ok (n c : Nat) (h1 : 1 ≤ n) (h2 : n ≤ 6) (h3 : 1 ≤ c) (h4 : c ≤ 8) : sorrelref15_New.f n c = some ((n : Int), (c : Int), [], 0) := by
  unfold sorrelref15_New.f
  rw [if_neg (by omega), if_neg (by omega), if_neg (by omega), if_neg (by omega)]
end Go.Proofs.Ytgcehbigcokpaaa.XA
