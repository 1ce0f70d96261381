import Derived.Test.YtcfkmcbmambchaakFXStatBlockFinds
import Derived.Test.YtcfkmcbmambchaakFVLib
import Derived.Test.YtcfkmcbmambchaakFXW
import Derived.Test.YtcfkmcbmambchaakFVaChk
import Derived.Test.YtcfkmcbmambchaakFVaMade
namespace Go.Proofs.Ytcfkmcbmambchaa.XA
end Go.Proofs.Ytcfkmcbmambchaa.XA
namespace Go.Proofs.Ytcfkmcbmambchaa.VLib
end Go.Proofs.Ytcfkmcbmambchaa.VLib
namespace Go.Proofs.Ytcfkmcbmambchaa.XW
end Go.Proofs.Ytcfkmcbmambchaa.XW
namespace Go.Proofs.Ytcfkmcbmambchaa.VaChk
end Go.Proofs.Ytcfkmcbmambchaa.VaChk
namespace Go.Proofs.Ytcfkmcbmambchaa.VaMade
end Go.Proofs.Ytcfkmcbmambchaa.VaMade
namespace Go.Proofs.YtcfkmcbmambchaaW.PrintWords
end Go.Proofs.YtcfkmcbmambchaaW.PrintWords
namespace Go.Proofs.YtcfkmcbmambchaaW.PrintLast
end Go.Proofs.YtcfkmcbmambchaaW.PrintLast
namespace Go.Proofs.YtcfkmcbmambchaaW.PrintMore
end Go.Proofs.YtcfkmcbmambchaaW.PrintMore
namespace Go.Proofs.Ytcfkmcbmambchaa.VaFinds
open Go.RowKit Go.Proofs.Ytcfkmcbmambchaa.XA Go.Proofs.Ytcfkmcbmambchaa.VLib Go.Proofs.Ytcfkmcbmambchaa.XW Go.Proofs.Ytcfkmcbmambchaa.VaChk Go.Proofs.Ytcfkmcbmambchaa.VaMade Go.Proofs.YtcfkmcbmambchaaW.PrintWords Go.Proofs.YtcfkmcbmambchaaW.PrintLast Go.Proofs.YtcfkmcbmambchaaW.PrintMore
theorem light_l0 (l : List S36) : ∀ (n i k : Nat), i + n = 61 → n + 1 ≤ k → ∃ b, sorrellaw09_light.l0 k l (i : Int) = some b ∧ (b = true → l.length ≤ 60) := by
  intro n
  induction n with
  | zero =>
    intro i k h hk
    obtain ⟨k, rfl⟩ : ∃ m, k = m + 1 := ⟨k - 1, by omega⟩
    simp only [sorrellaw09_light.l0]
    by_cases c : i < l.length
    · rw [if_pos (by omega), if_neg (by omega)]; exact ⟨_, rfl, fun h => by have := of_decide_eq_true h; omega⟩
    · rw [if_neg (by omega)]; exact ⟨_, rfl, fun h => by have := of_decide_eq_true h; omega⟩
  | succ n ih =>
    intro i k h hk
    obtain ⟨k, rfl⟩ : ∃ m, k = m + 1 := ⟨k - 1, by omega⟩
    simp only [sorrellaw09_light.l0]
    by_cases c : i < l.length
    · rw [if_pos (by omega)]
      by_cases c2 : i < 60
      · rw [if_pos (by omega), if_pos (by omega)]
        split
        · exact ⟨_, rfl, fun h => by cases h⟩
        · split
          · exact ⟨_, rfl, fun h => by cases h⟩
          · rw [w64 (by omega) (by omega), show (i : Int) + 1 = ((i + 1 : Nat) : Int) from by omega]
            exact ih (i + 1) k (by omega) (by omega)
      · rw [if_neg (by omega)]; exact ⟨_, rfl, fun h => by have := of_decide_eq_true h; omega⟩
    · rw [if_neg (by omega)]; exact ⟨_, rfl, fun h => by have := of_decide_eq_true h; omega⟩
theorem light_is (l : List S36) (k : Nat) (hk : 62 ≤ k) : ∃ b, sorrellaw09_light.f k l = some b ∧ (b = true → l.length ≤ 60) := light_l0 l 61 0 k (by omega) hk
theorem awake_300 : sorrellaw09_awake.f 300 = some true := by kernel_rfl
theorem awake_is (k : Nat) (hk : 300 ≤ k) : sorrellaw09_awake.f k = some true := at_rounds (g := fun k => sorrellaw09_awake.f k) sorrellaw09_awake.mono hk awake_300
def outF : Option S36 → ByteArray × ByteArray × Bool × Int × Bool
  | none => ((⟨#[]⟩ : ByteArray), (⟨#[]⟩ : ByteArray), false, 0, false)
  | some e => (e.f0, e.f1, e.f2, e.f3, true)
def fnd (key : ByteArray) (q : Int) : List S36 → Option S36
  | [] => none
  | e :: t => if e.f0.toList = key.toList ∧ e.f3 ≤ q then some e else fnd key q t
theorem fnd_cons (key : ByteArray) (q : Int) (e : S36) (t : List S36) : fnd key q (e :: t) = if e.f0.toList = key.toList ∧ e.f3 ≤ q then some e else fnd key q t := rfl
theorem rfind_l0 (l : List S36) (key : ByteArray) (q : Int) (hl : l.length ≤ 4096) : ∀ (n i k : Nat), i + n = l.length → n + 1 ≤ k → sorrelref09_Find.l0 k l key q (i : Int) = some (outF (fnd key q (l.drop i))) := by
  intro n
  induction n with
  | zero =>
    intro i k h hk
    obtain ⟨k, rfl⟩ : ∃ m, k = m + 1 := ⟨k - 1, by omega⟩
    simp only [sorrelref09_Find.l0]
    rw [if_neg (by omega), List.drop_eq_nil_of_le (by omega)]; rfl
  | succ n ih =>
    intro i k h hk
    obtain ⟨k, rfl⟩ : ∃ m, k = m + 1 := ⟨k - 1, by omega⟩
    have hi : i < l.length := by omega
    have e : l.drop i = l[i] :: l.drop (i + 1) := (List.getElem_cons_drop hi).symm
    have hn : sorrelref09_Find.l0 k l key q (wrap64 ((i : Int) + 1)) = some (outF (fnd key q (l.drop (i + 1)))) := by
      rw [w64 (by omega) (by omega), show (i : Int) + 1 = ((i + 1 : Nat) : Int) from by omega]; exact ih (i + 1) k (by omega) (by omega)
    simp only [sorrelref09_Find.l0]
    rw [if_pos (by omega), if_pos (by omega), rdT l i hi, e, fnd_cons, hn]
    by_cases c1 : l[i].f0.toList = key.toList
    · rw [if_pos c1]
      by_cases c2 : l[i].f3 ≤ q
      · rw [if_pos c2, if_pos ⟨c1, c2⟩]; rfl
      · rw [if_neg c2, if_neg (fun x => c2 x.2)]
    · rw [if_neg c1, if_neg (fun x => c1 x.1)]
theorem rfind_is (l : List S36) (key : ByteArray) (q : Int) (k : Nat) (hk : 4098 ≤ k) : sorrelref09_Find.f k l key q = some (outF (if okB l = true then fnd key q l else none)) := by
  unfold sorrelref09_Find.f
  rw [rcheck_is_ l k hk, Option.bind_some]
  by_cases h : okB l = true
  · have hl := ((okM_iff l).1 h).1
    rw [if_pos h, if_pos h, if_pos rfl]
    exact rfind_l0 l key q hl l.length 0 k (by omega) (by omega)
  · rw [if_neg h, if_neg h, if_neg (by decide)]; rfl
theorem ok_cons (p : Option S36) (e : S36) (r : List S36) : okFrom p (e :: r) = true ↔ mayE e = true ∧ (∀ a, p = some a → LE a e = true) ∧ okFrom (some e) r = true := by
  cases p with
  | none => simp [okFrom]
  | some a => simp [okFrom, and_assoc]
theorem ok_pw : ∀ (l : List S36) (p : Option S36), okFrom p l = true → (∀ a, p = some a → ∀ e ∈ l, LE a e = true) ∧ l.Pairwise (fun a b => LE a b = true) ∧ ∀ e ∈ l, mayE e = true := by
  intro l
  induction l with
  | nil => intro p _; exact ⟨fun a _ e h => (List.not_mem_nil h).elim, List.Pairwise.nil, fun e h => (List.not_mem_nil h).elim⟩
  | cons e t ih =>
    intro p h
    obtain ⟨h1, h2, h3⟩ := (ok_cons p e t).1 h
    obtain ⟨g1, g2, g3⟩ := ih (some e) h3
    refine ⟨fun a ha x hx => ?_, List.Pairwise.cons (fun x hx => g1 e rfl x hx) g2, fun x hx => ?_⟩
    · cases hx with
      | head => exact h2 a ha
      | tail _ hx => exact LE_trans (h2 a ha) (g1 e rfl x hx)
    · cases hx with
      | head => exact h1
      | tail _ hx => exact g3 x hx
def prb (key : ByteArray) (q : Int) : S36 := ⟨key, (⟨#[]⟩ : ByteArray), false, q⟩
theorem prb_f0 (key : ByteArray) (q : Int) : (prb key q).f0 = key := rfl
theorem prb_f3 (key : ByteArray) (q : Int) : (prb key q).f3 = q := rfl
theorem s0_is (l : List S36) (key : ByteArray) (q : Int) (hs : ∀ (a b : Nat) (ha : a < l.length) (hb : b < l.length), a < b → LE l[a] l[b] = true) : ∀ (n i j k : Nat), j - i ≤ n → i ≤ j → j ≤ l.length → n + 1 ≤ k →
    (∀ (a : Nat) (h : a < l.length), a < i → LE l[a] (prb key q) = true) → (∀ (a : Nat) (h : a < l.length), j ≤ a → LE l[a] (prb key q) = false) →
    ∃ r : Nat, block_Find.s0 k l key q (i : Int) (j : Int) = some (r : Int) ∧ r ≤ l.length ∧ (∀ (a : Nat) (h : a < l.length), a < r → LE l[a] (prb key q) = true) ∧ (∀ (a : Nat) (h : a < l.length), r ≤ a → LE l[a] (prb key q) = false) := by
  intro n
  induction n with
  | zero =>
    intro i j k h hij hj hk h1 h2
    obtain ⟨k, rfl⟩ : ∃ m, k = m + 1 := ⟨k - 1, by omega⟩
    simp only [block_Find.s0]
    rw [if_neg (by omega)]
    exact ⟨i, rfl, by omega, h1, fun a ha hh => h2 a ha (by omega)⟩
  | succ n ih =>
    intro i j k h hij hj hk h1 h2
    obtain ⟨k, rfl⟩ : ∃ m, k = m + 1 := ⟨k - 1, by omega⟩
    simp only [block_Find.s0]
    by_cases c : i < j
    · have hm : (i + j) / 2 < l.length := by omega
      have em : ((i : Int) + j) / 2 = (((i + j) / 2 : Nat) : Int) := by omega
      rw [if_pos (by omega), if_pos (by omega), if_pos (by omega), em, rdT l _ hm]
      have eb : block_Less.f l[(i + j) / 2].f0 l[(i + j) / 2].f1 l[(i + j) / 2].f2 l[(i + j) / 2].f3 key (⟨#[]⟩ : ByteArray) false q = some (LE l[(i + j) / 2] (prb key q)) := less_is _ (prb key q)
      rw [eb, Option.bind_some]
      by_cases g : LE l[(i + j) / 2] (prb key q) = true
      · rw [if_pos g, show (((i + j) / 2 : Nat) : Int) + 1 = (((i + j) / 2 + 1 : Nat) : Int) from by omega]
        refine ih ((i + j) / 2 + 1) j k (by omega) (by omega) hj (by omega) (fun a ha hh => ?_) h2
        by_cases x : a = (i + j) / 2
        · subst x; exact g
        · exact LE_trans (hs a _ ha hm (by omega)) g
      · rw [if_neg g]
        refine ih i ((i + j) / 2) k (by omega) (by omega) (by omega) (by omega) h1 (fun a ha hh => ?_)
        by_cases x : a = (i + j) / 2
        · subst x; exact Bool.eq_false_iff.2 g
        · refine Bool.eq_false_iff.2 (fun y => g (LE_trans (hs _ a hm ha (by omega)) y))
    · rw [if_neg (by omega)]
      exact ⟨i, rfl, by omega, h1, fun a ha hh => h2 a ha (by omega)⟩
theorem fnd_skip (key : ByteArray) (q : Int) (ys : List S36) : ∀ xs : List S36, (∀ x ∈ xs, LE x (prb key q) = true) → fnd key q (xs ++ ys) = fnd key q ys
  | [], _ => rfl
  | x :: xs, h => by
    rw [List.cons_append, fnd_cons, if_neg, fnd_skip key q ys xs (fun a ha => h a (List.mem_cons_of_mem _ ha))]
    intro g
    have h1 := h x List.mem_cons_self
    rw [LE_same (b := prb key q) g.1, prb_f3] at h1
    have := of_decide_eq_true h1; omega
theorem fnd_no (key : ByteArray) (q : Int) : ∀ ys : List S36, (∀ y ∈ ys, ¬ y.f0.toList = key.toList) → fnd key q ys = none
  | [], _ => rfl
  | y :: ys, h => by
    rw [fnd_cons, if_neg (fun g => h y List.mem_cons_self g.1)]
    exact fnd_no key q ys (fun a ha => h a (List.mem_cons_of_mem _ ha))
theorem fnd_at (key : ByteArray) (q : Int) (y : S36) (ys : List S36) (h1 : LE y (prb key q) = false) (h2 : ∀ z ∈ ys, LE y z = true) : fnd key q (y :: ys) = if y.f0.toList = key.toList then some y else none := by
  by_cases c : y.f0.toList = key.toList
  · rw [LE_same (b := prb key q) c, prb_f3] at h1
    have := of_decide_eq_false h1
    rw [fnd_cons, if_pos ⟨c, by omega⟩, if_pos c]
  · rw [if_neg c]
    refine fnd_no key q _ (fun z hz => ?_)
    cases hz with
    | head => exact c
    | tail _ hz =>
      intro e
      have g := h2 z hz
      have e2 : z.f0 = key := toList_inj.1 e
      rw [LE_key (b := prb key q) c, prb_f0] at h1
      rw [LE_key (fun x => c (x.trans e)), e2, h1] at g
      cases g
theorem pfind_is (l : List S36) (key : ByteArray) (q : Int) (k : Nat) (hk : 4098 ≤ k) : block_Find.f k l key q = some (outF (if okB l = true then fnd key q l else none)) := by
  unfold block_Find.f
  rw [check_is_ l k hk, Option.bind_some]
  by_cases h : okB l = true
  · obtain ⟨hl, ho⟩ := (okM_iff l).1 h
    obtain ⟨-, hp, -⟩ := ok_pw l none ho
    have hs : ∀ (a b : Nat) (ha : a < l.length) (hb : b < l.length), a < b → LE l[a] l[b] = true := List.pairwise_iff_getElem.1 hp
    obtain ⟨r, e, h1, h2, h3⟩ := s0_is l key q hs l.length 0 l.length k (by omega) (by omega) (by omega) (by omega) (fun a _ h => by omega) (fun a h1 h2 => by omega)
    have e0 : block_Find.s0 k l key q 0 (l.length : Int) = some (r : Int) := e
    have hd : l = l.take r ++ l.drop r := (List.take_append_drop r l).symm
    have hf : fnd key q l = fnd key q (l.drop r) := by
      conv => lhs; rw [hd]
      refine fnd_skip key q _ _ (fun x hx => ?_)
      obtain ⟨a, ha, rfl⟩ := List.getElem_of_mem hx
      rw [List.length_take] at ha
      rw [List.getElem_take]
      exact h2 a (by omega) (by omega)
    rw [if_pos h, if_pos h, if_pos rfl, if_pos hl, e0, Option.bind_some, hf]
    by_cases c : r = l.length
    · rw [if_pos (by omega), List.drop_eq_nil_of_le (by omega)]; rfl
    · have hr : r < l.length := by omega
      have ed : l.drop r = l[r] :: l.drop (r + 1) := (List.getElem_cons_drop hr).symm
      rw [if_neg (by omega), if_pos (by omega), if_pos (by omega), rdT l r hr, ed, fnd_at key q _ _ (h3 r hr (Nat.le_refl _)) (fun z hz => by
        obtain ⟨a, ha, rfl⟩ := List.getElem_of_mem hz
        rw [List.length_drop] at ha
        rw [List.getElem_drop]
        exact hs r (r + 1 + a) hr (by omega) (by omega))]
      by_cases g : l[r].f0.toList = key.toList
      · rw [if_pos g, if_pos g]; rfl
      · rw [if_neg g, if_neg g]; rfl
  · rw [if_neg h, if_neg h, if_neg (by decide)]; rfl
def seqF : Option S36 → Int
  | none => 0
  | some e => e.f3
theorem fl_found (m : List S36) (x1 : ByteArray) (x2 N : Int) (a b : ByteArray) (c : Bool) (hN : 0 < N) (hm : m.length ≤ 60) : ∀ (n i k : Nat), i + n = m.length → n + 302 ≤ k → (∀ (j : Nat) (h : j < m.length), i ≤ j → m[j].f0.toList = x1.toList → m[j].f3 < N) → sorrellaw09_BlockFinds.l0 k x1 x2 m true N (i : Int) a b c N = some true := by
  intro n
  induction n with
  | zero =>
    intro i k h hk hh
    obtain ⟨k, rfl⟩ : ∃ m, k = m + 1 := ⟨k - 1, by omega⟩
    simp only [sorrellaw09_BlockFinds.l0]
    rw [if_neg (by omega), decide_eq_true (show N > 0 from hN), if_pos (by decide), if_pos trivial, awake_is k (by omega)]; rfl
  | succ n ih =>
    intro i k h hk hh
    obtain ⟨k, rfl⟩ : ∃ m, k = m + 1 := ⟨k - 1, by omega⟩
    have hi : i < m.length := by omega
    have hn : sorrellaw09_BlockFinds.l0 k x1 x2 m true N (wrap64 ((i : Int) + 1)) a b c N = some true := by
      rw [w64 (by omega) (by omega), show (i : Int) + 1 = ((i + 1 : Nat) : Int) from by omega]; exact ih (i + 1) k (by omega) (by omega) (fun j hj hij e => hh j hj (by omega) e)
    simp only [sorrellaw09_BlockFinds.l0]
    rw [if_pos (by omega), if_pos (by omega), rdT m i hi]
    by_cases c1 : m[i].f0.toList = x1.toList
    · have := hh i hi (Nat.le_refl _) c1
      rw [if_pos c1]
      by_cases c2 : m[i].f3 ≤ x2
      · rw [if_pos c2, if_neg (by omega)]; exact hn
      · rw [if_neg c2]; exact hn
    · rw [if_neg c1]; exact hn
theorem fl_seek (m : List S36) (x1 : ByteArray) (x2 : Int) (a b : ByteArray) (c : Bool) (hm : m.length ≤ 60) (hs : ∀ (a b : Nat) (ha : a < m.length) (hb : b < m.length), a < b → LE m[a] m[b] = true) (hy : ∀ e ∈ m, mayE e = true) : ∀ (n i k : Nat), i + n = m.length → n + 302 ≤ k → sorrellaw09_BlockFinds.l0 k x1 x2 m (fnd x1 x2 (m.drop i)).isSome 0 (i : Int) a b c (seqF (fnd x1 x2 (m.drop i))) = some true := by
  intro n
  induction n with
  | zero =>
    intro i k h hk
    obtain ⟨k, rfl⟩ : ∃ m, k = m + 1 := ⟨k - 1, by omega⟩
    rw [List.drop_eq_nil_of_le (by omega)]
    simp only [sorrellaw09_BlockFinds.l0]
    rw [if_neg (by omega), decide_eq_false (by omega), if_pos (show ((fnd x1 x2 []).isSome == false) = true from rfl), if_pos (show seqF (fnd x1 x2 []) = 0 from rfl), awake_is k (by omega)]; rfl
  | succ n ih =>
    intro i k h hk
    obtain ⟨k, rfl⟩ : ∃ m, k = m + 1 := ⟨k - 1, by omega⟩
    have hi : i < m.length := by omega
    have ed : m.drop i = m[i] :: m.drop (i + 1) := (List.getElem_cons_drop hi).symm
    have hn : sorrellaw09_BlockFinds.l0 k x1 x2 m (fnd x1 x2 (m.drop (i + 1))).isSome 0 (wrap64 ((i : Int) + 1)) a b c (seqF (fnd x1 x2 (m.drop (i + 1)))) = some true := by
      rw [w64 (by omega) (by omega), show (i : Int) + 1 = ((i + 1 : Nat) : Int) from by omega]; exact ih (i + 1) k (by omega) (by omega)
    simp only [sorrellaw09_BlockFinds.l0]
    rw [if_pos (by omega), if_pos (by omega), rdT m i hi, ed, fnd_cons]
    by_cases c1 : m[i].f0.toList = x1.toList
    · rw [if_pos c1]
      by_cases c2 : m[i].f3 ≤ x2
      · have h1 : 1 ≤ m[i].f3 := by
          have := hy _ (List.getElem_mem hi)
          unfold mayE at this
          simp only [Bool.and_eq_true, decide_eq_true_eq] at this
          exact this.1.2
        rw [if_pos c2, if_pos (by omega), if_pos ⟨c1, c2⟩, w64 (by omega) (by omega), show (i : Int) + 1 = ((i + 1 : Nat) : Int) from by omega]
        refine fl_found m x1 x2 m[i].f3 a b c (by omega) hm n (i + 1) k (by omega) (by omega) (fun j hj hij e => ?_)
        have g := hs i j hi hj (by omega)
        rw [LE_same (c1.trans e.symm)] at g
        have := of_decide_eq_true g; omega
      · rw [if_neg c2, if_neg (fun x => c2 x.2)]; exact hn
    · rw [if_neg c1, if_neg (fun x => c1 x.1)]; exact hn
theorem outF_ok (o : Option S36) : (outF o).2.2.2.2 = o.isSome := by cases o <;> rfl
theorem outF_seq (o : Option S36) : (outF o).2.2.2.1 = seqF o := by cases o <;> rfl
theorem beq_ba (a : ByteArray) : (a.toList == a.toList) = true := beq_self_eq_true _
theorem finds_is (l : List S36) (key : ByteArray) (q : Int) (K : Nat) (hK : 10010 ≤ K) : sorrellaw09_BlockFinds.f K l key q = some true := by
  obtain ⟨b, hb, -⟩ := light_is l K (by omega)
  unfold sorrellaw09_BlockFinds.f
  rw [hb, Option.bind_some]
  obtain ⟨K, rfl⟩ : ∃ m, K = m + 1 := ⟨K - 1, by omega⟩
  have no : sorrellaw09_BlockFinds.j0 (K + 1) l key q true = some true := by
    simp only [sorrellaw09_BlockFinds.j0]
    rw [if_pos trivial, awake_is K (by omega)]; rfl
  cases b
  · rw [if_neg (by decide)]; exact no
  · rw [if_pos rfl]
    by_cases c : (key.size : Int) > 100
    · rw [decide_eq_true c]; exact no
    · rw [decide_eq_false c]
      obtain ⟨m, h1, h2, h3⟩ := made_is l K (by omega)
      obtain ⟨-, hp, hy⟩ := ok_pw m none ((okM_iff m).1 h2).2
      have hs : ∀ (a b : Nat) (ha : a < m.length) (hb : b < m.length), a < b → LE m[a] m[b] = true := List.pairwise_iff_getElem.1 hp
      simp only [sorrellaw09_BlockFinds.j0]
      rw [if_neg (by decide), h1, Option.bind_some, pfind_is m key q K (by omega), Option.bind_some, rfind_is m key q K (by omega), Option.bind_some, pfind_is l key q K (by omega), Option.bind_some, rfind_is l key q K (by omega), Option.bind_some]
      have nn : ∀ o : Option S36, ¬ (!((outF o).1.toList == (outF o).1.toList) || (!((outF o).2.1.toList == (outF o).2.1.toList) || (!((outF o).2.2.1 == (outF o).2.2.1) || (!((outF o).2.2.2.1 == (outF o).2.2.2.1))))) = true := by
        intro o
        rw [beq_ba, beq_ba, beq_self_eq_true, beq_self_eq_true]; decide
      have n2 : ∀ x : Bool, (x != x) = false := fun x => by cases x <;> rfl
      rw [if_neg (nn _), if_neg (by rw [n2]; decide), if_neg (nn _), n2, if_pos h2, outF_ok, outF_seq]
      obtain ⟨K, rfl⟩ : ∃ m, K = m + 1 := ⟨K - 1, by omega⟩
      simp only [sorrellaw09_BlockFinds.j1]
      rw [if_neg (by decide)]
      exact fl_seek m key q _ _ _ h3 hs hy m.length 0 K (by omega) (by omega)
theorem law_finds : sorrellaw09_BlockFinds.Pure := fun l key q _ _ _ => ⟨10010, finds_is l key q _ (Nat.le_refl _)⟩
end Go.Proofs.Ytcfkmcbmambchaa.VaFinds
