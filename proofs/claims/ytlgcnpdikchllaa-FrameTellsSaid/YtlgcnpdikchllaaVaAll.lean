/- Plain laws on what the functions written out for this seat come to. -/
import Derived.Test.YtlgcnpdikchllaaXAx5
import Derived.Test.YtlgcnpdikchllaaVLib
import Derived.Test.YtlgcnpdikchllaaCLib
import Derived.Test.YtlgcnpdikchllaaVaFrm
namespace Go.Proofs.Ytlgcnpdikchllaa.VaAll
open Go.RowKit Go.Proofs.Ytlgcnpdikchllaa.XA Go.Proofs.Ytlgcnpdikchllaa.VLib Go.Proofs.Ytlgcnpdikchllaa.CLib Go.Proofs.Ytlgcnpdikchllaa.VaFrm Go.Proofs.YtlgcnpdikchllaaW.PrintWords Go.Proofs.YtlgcnpdikchllaaW.PrintLast Go.Proofs.YtlgcnpdikchllaaW.PrintMore
/-! ### the frames of some texts, one behind the other -/
def tx (s : ByteArray) : List UInt8 := s.data.toList
theorem tx_bs (l : List ByteArray) : (l.map tx).map bs = l := by
  rw [List.map_map]
  exact (List.map_congr_left (fun s _ => bs_of s)).trans (List.map_id l)
def endsF : Nat → List (List UInt8) → List Int
  | _, [] => []
  | a, t :: ts => ((a + (frm t).length : Nat) : Int) :: endsF (a + (frm t).length) ts
theorem endsF_len : ∀ (ts : List (List UInt8)) (a : Nat), (endsF a ts).length = ts.length
  | [], _ => rfl
  | t :: ts, a => by simp only [endsF, List.length_cons, endsF_len ts]
theorem endsF_at : ∀ (ts : List (List UInt8)) (a w : Nat), w < ts.length → (endsF a ts).getD w 0 = ((a + (flat (ts.take (w + 1))).length : Nat) : Int)
  | [], _, w, h => by simp at h
  | t :: ts, a, 0, h => by simp [endsF, flat_cons, flat_nil]
  | t :: ts, a, w + 1, h => by
    rw [List.take_succ_cons, flat_cons, List.length_append, endsF, List.getD_cons_succ, endsF_at ts _ w (by simpa using h), Nat.add_assoc]
theorem flat_le (n : Nat) : ∀ ts : List (List UInt8), (∀ t ∈ ts, t.length ≤ n) → n ≤ 262144 → (flat ts).length ≤ ts.length * (n + 13) := by
  intro ts
  induction ts with
  | nil => intro _ _; simp [flat_nil]
  | cons t ts ih =>
    intro h hn
    have h1 := h t (by simp)
    have h2 := frm_le t (by omega)
    have h3 := ih (fun x hx => h x (by simp [hx])) hn
    rw [flat_cons, List.length_append, List.length_cons, Nat.add_mul]; omega
abbrev okL (l : List ByteArray) : Prop := l.length ≤ 12 ∧ ∀ t ∈ l, t.size ≤ 300
theorem all_j1_bad (k : Nat) (l : List ByteArray) (x5 : ByteArray) (x6 : List Int) (i : Int) : sorrellaw03_all.j1 (k + 1) l x5 x6 i true = some (bs [], [], false) := by
  simp only [sorrellaw03_all.j1]; rw [if_pos trivial]; rfl
theorem all_j1_ok (k : Nat) (l : List ByteArray) (x5 : ByteArray) (x6 : List Int) (i : Nat) (hi : i < l.length) (h12 : i < 12) (hs : (l[i]).size ≤ 300) (h5 : x5.size ≤ 313 * i) (h6 : x6.length = i) (hk : 3200 ≤ k) :
    sorrellaw03_all.j1 (k + 1) l x5 x6 (i : Int) false = sorrellaw03_all.l0 k l (x5 ++ bs (frm (tx l[i]))) (x6 ++ [((x5.size + (frm (tx l[i])).length : Nat) : Int)]) ((i + 1 : Nat) : Int) := by
  have hf := frm_le (tx l[i]) (by unfold tx; rw [len_list]; omega)
  have hl : (tx l[i]).length = (l[i]).size := len_list _
  simp only [sorrellaw03_all.j1]
  rw [if_neg (by decide), if_pos (by omega), if_pos (by omega), rdS l i hi, fput_ok _ k (by omega) (by omega)]
  simp only [Option.bind_some]
  rw [if_pos trivial, bs_size, if_pos (by unfold tx at *; omega), if_pos (by omega), w64 (by omega) (by omega)]
  rfl
theorem all_l0 (l : List ByteArray) : ∀ (d i k : Nat) (x5 : ByteArray) (x6 : List Int), i + d = 12 → i ≤ l.length → x6.length = i → x5.size ≤ 313 * i → 2 * d + 3300 ≤ k →
    ((l.length ≤ 12 → (∀ t ∈ l.drop i, t.size ≤ 300) → sorrellaw03_all.l0 k l x5 x6 (i : Int) = some (x5 ++ bs (flat ((l.drop i).map tx)), x6 ++ endsF x5.size ((l.drop i).map tx), true)) ∧
     (¬ (l.length ≤ 12 ∧ ∀ t ∈ l.drop i, t.size ≤ 300) → sorrellaw03_all.l0 k l x5 x6 (i : Int) = some (bs [], [], false))) := by
  intro d
  induction d with
  | zero =>
    intro i k x5 x6 h1 h2 h6 h5 hk
    obtain ⟨k, rfl⟩ : ∃ m, k = m + 2 := ⟨k - 2, by omega⟩
    simp only [sorrellaw03_all.l0]
    by_cases c : i < l.length
    · rw [if_pos (by omega), if_pos (by omega), all_j1_bad]
      exact ⟨fun h => absurd h (by omega), fun _ => rfl⟩
    · rw [if_neg (by omega), List.drop_eq_nil_of_le (by omega)]
      refine ⟨fun _ _ => ?_, fun h => absurd ⟨by omega, by simp⟩ h⟩
      rw [List.map_nil, flat_nil, endsF, List.append_nil]
      congr 2; exact ext_list (by rw [list_append, bs_list, List.append_nil])
  | succ d ih =>
    intro i k x5 x6 h1 h2 h6 h5 hk
    obtain ⟨k, rfl⟩ : ∃ m, k = m + 2 := ⟨k - 2, by omega⟩
    by_cases c : i < l.length
    · have e : l.drop i = l[i] :: l.drop (i + 1) := (List.getElem_cons_drop c).symm
      have e0 : sorrellaw03_all.l0 (k + 2) l x5 x6 (i : Int) = sorrellaw03_all.j1 (k + 1) l x5 x6 (i : Int) (decide (((l[i]).size : Int) > 300)) := by
        simp only [sorrellaw03_all.l0]
        rw [if_pos (by omega), if_neg (by omega), if_pos (by omega), rdS l i c]
      rw [e0]
      by_cases g : (l[i]).size ≤ 300
      · have hf := frm_le (tx l[i]) (by unfold tx; rw [len_list]; omega)
        have hl : (tx l[i]).length = (l[i]).size := len_list _
        rw [decide_eq_false (by omega), all_j1_ok k l x5 x6 i c (by omega) g h5 h6 (by omega)]
        obtain ⟨i1, i2⟩ := ih (i + 1) k (x5 ++ bs (frm (tx l[i]))) (x6 ++ [((x5.size + (frm (tx l[i])).length : Nat) : Int)]) (by omega) (by omega) (by rw [List.length_append, h6]; rfl) (by rw [size_append, bs_size]; omega) (by omega)
        refine ⟨fun q1 q2 => ?_, fun q => i2 (fun z => q ⟨z.1, fun t ht => ?_⟩)⟩
        · rw [i1 q1 (fun t ht => q2 t (by rw [e]; exact List.mem_cons_of_mem _ ht)), e, List.map_cons, flat_cons, endsF, size_append, bs_size]
          rw [show x5 ++ bs (frm (tx l[i])) ++ bs (flat ((l.drop (i + 1)).map tx)) = x5 ++ bs (frm (tx l[i]) ++ flat ((l.drop (i + 1)).map tx)) from ext_list (by rw [list_append, list_append, list_append, bs_list, bs_list, bs_list, List.append_assoc]), List.append_assoc]
          rfl
        · rw [e] at ht
          rcases List.mem_cons.1 ht with rfl | ht
          · exact g
          · exact z.2 t ht
      · rw [decide_eq_true (by omega), all_j1_bad]
        exact ⟨fun _ q => absurd (q l[i] (by rw [e]; exact List.mem_cons_self)) g, fun _ => rfl⟩
    · simp only [sorrellaw03_all.l0]
      rw [if_neg (by omega), List.drop_eq_nil_of_le (by omega)]
      refine ⟨fun _ _ => ?_, fun h => absurd ⟨by omega, by simp⟩ h⟩
      rw [List.map_nil, flat_nil, endsF, List.append_nil]
      congr 2; exact ext_list (by rw [list_append, bs_list, List.append_nil])
theorem all_ok (l : List ByteArray) (k : Nat) (h : okL l) (hk : 4000 ≤ k) : sorrellaw03_all.f k l = some (bs (flat (l.map tx)), endsF 0 (l.map tx), true) := by
  unfold sorrellaw03_all.f
  have := (all_l0 l 12 0 k (⟨#[]⟩ : ByteArray) [] (by omega) (by omega) rfl (by decide) (by omega)).1 h.1 (by simpa using h.2)
  rw [show ((0 : Nat) : Int) = 0 from rfl] at this
  rw [this, List.drop_zero, List.nil_append]
  rw [show (⟨#[]⟩ : ByteArray) ++ bs (flat (l.map tx)) = bs (flat (l.map tx)) from ext_list (by rw [list_append, bs_list]; rfl)]
  rfl
theorem all_bad (l : List ByteArray) (k : Nat) (h : ¬ okL l) (hk : 4000 ≤ k) : sorrellaw03_all.f k l = some (bs [], [], false) := by
  unfold sorrellaw03_all.f
  exact (all_l0 l 12 0 k (⟨#[]⟩ : ByteArray) [] (by omega) (by omega) rfl (by decide) (by omega)).2 (by simpa using h)
theorem ok_flat (l : List ByteArray) (h : okL l) : (flat (l.map tx)).length ≤ 3756 ∧ ∀ t ∈ l.map tx, t.length ≤ 262144 := by
  have h1 : ∀ t ∈ l.map tx, t.length ≤ 300 := by
    intro t ht
    obtain ⟨s, hs, rfl⟩ := List.mem_map.1 ht
    have := h.2 s hs
    unfold tx; rw [len_list]; omega
  have := flat_le 300 (l.map tx) h1 (by omega)
  rw [List.length_map] at this
  exact ⟨by have := h.1; omega, fun t ht => by have := h1 t ht; omega⟩
theorem allL_cut (pre post : List (List UInt8)) (c : Nat) (h : ∀ t ∈ pre ++ post, t.length ≤ 262144) (h1 : (flat pre).length ≤ c) (h2 : ∀ t r, post = t :: r → c < (flat pre).length + (frm t).length) :
    allL ((flat (pre ++ post)).take c) = (pre, (flat pre).length) := by
  have hn : allL ((flat post).take (c - (flat pre).length)) = ([], 0) := by
    apply allL_none
    cases post with
    | nil => rw [flat_nil, List.take_nil]; exact takeF_nil
    | cons t r =>
      have := h2 t r rfl
      rw [flat_cons, List.take_append_of_le_length (by omega)]
      exact takeF_cut t _ (h t (by simp)) (by omega)
  rw [flat_app, List.take_append, List.take_of_length_le h1, allL_flat _ pre (fun t ht => h t (by simp [ht])), hn]
  simp
end Go.Proofs.Ytlgcnpdikchllaa.VaAll
