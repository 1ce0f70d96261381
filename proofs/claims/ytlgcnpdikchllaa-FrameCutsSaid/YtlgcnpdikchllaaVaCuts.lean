/- Plain laws on what the functions written out for this seat come to. -/
import Derived.Test.YtlgcnpdikchllaaXStatFrameCuts
import Derived.Test.YtlgcnpdikchllaaVLib
import Derived.Test.YtlgcnpdikchllaaCLib
import Derived.Test.YtlgcnpdikchllaaVaFrm
import Derived.Test.YtlgcnpdikchllaaVaAll
namespace Go.Proofs.Ytlgcnpdikchllaa.VaCuts
open Go.RowKit Go.Proofs.Ytlgcnpdikchllaa.XA Go.Proofs.Ytlgcnpdikchllaa.VLib Go.Proofs.Ytlgcnpdikchllaa.CLib Go.Proofs.Ytlgcnpdikchllaa.VaFrm Go.Proofs.Ytlgcnpdikchllaa.VaAll Go.Proofs.YtlgcnpdikchllaaW.PrintWords Go.Proofs.YtlgcnpdikchllaaW.PrintLast Go.Proofs.YtlgcnpdikchllaaW.PrintMore
theorem rd_at (l : List Int) (i : Nat) : rd l (i : Int) = l.getD i 0 := by unfold rd; rw [Int.toNat_natCast]
theorem cuts_j1 (l : List ByteArray) (h : okL l) (c w k : Nat) (hw : w ≤ l.length) (hc : c ≤ (flat (l.map tx)).length) (h1 : (flat ((l.map tx).take w)).length ≤ c)
    (h2 : ∀ t r, (l.map tx).drop w = t :: r → c < (flat ((l.map tx).take w)).length + (frm t).length) (hk : 50000 ≤ k) :
    sorrellaw03_FrameCuts.j1 (k + 1) l (bs (flat (l.map tx))) (endsF 0 (l.map tx)) (c : Int) (w : Int) = some true := by
  obtain ⟨hf, hs⟩ := ok_flat l h
  have hx : ((bs (flat (l.map tx))).extract 0 (c : Int).toNat).data.toList = (flat (l.map tx)).take c := by
    rw [extract_list, List.drop_zero, bs_list, Int.toNat_natCast]
  have hz : ((bs (flat (l.map tx))).extract 0 (c : Int).toNat).size ≤ 3756 := by rw [← len_list, hx, List.length_take]; omega
  have he := allL_cut ((l.map tx).take w) ((l.map tx).drop w) c (by rw [List.take_append_drop]; exact hs) h1 h2
  rw [List.take_append_drop] at he
  have hm : ((l.map tx).take w).map bs = l.take w := by rw [← List.map_take]; exact tx_bs _
  simp only [sorrellaw03_FrameCuts.j1]
  rw [if_pos (by omega), if_pos (by rw [bs_size]; omega), fall_is _ k (by omega) (by omega), hx, he]
  simp only [Option.bind_some]
  rw [hm]
  have hsm : sorrelref01_Same.f k (l.take w) (l.take (w : Int).toNat) = some true := by
    have := h.1
    rw [Int.toNat_natCast]; exact same_yes _ _ k rfl (by rw [List.length_take]; omega) (by rw [List.length_take]; omega)
  have hl := endsF_len (l.map tx) 0
  rw [List.length_map] at hl
  cases w with
  | zero =>
    rw [if_neg (by omega), if_pos (by omega), if_pos (by omega), hsm]
    simp only [Option.bind_some, if_true]
    rw [if_pos (by rw [List.take_zero, flat_nil]; rfl), awake_is _ (by omega)]; rfl
  | succ w =>
    have h12 := h.1
    rw [if_pos (by omega), w64 (by omega) (by omega), show ((w + 1 : Nat) : Int) - 1 = (w : Int) from by omega, if_pos (by omega), if_pos (by omega), if_pos (by omega), if_pos (by omega), hsm]
    simp only [Option.bind_some, if_true]
    rw [rd_at, endsF_at _ 0 w (by rw [List.length_map]; omega), Nat.zero_add, if_pos rfl, awake_is _ (by omega)]; rfl
theorem cuts_l0 (l : List ByteArray) (h : okL l) (c : Nat) (hc : c ≤ (flat (l.map tx)).length) : ∀ (d w k : Nat), w + d = l.length → (flat ((l.map tx).take w)).length ≤ c → d + 50002 ≤ k →
    sorrellaw03_FrameCuts.l0 k l (bs (flat (l.map tx))) (endsF 0 (l.map tx)) (c : Int) (w : Int) = some true := by
  have hl := endsF_len (l.map tx) 0
  rw [List.length_map] at hl
  have h12 := h.1
  intro d
  induction d with
  | zero =>
    intro w k h1 h2 hk
    obtain ⟨k, rfl⟩ : ∃ m, k = m + 2 := ⟨k - 2, by omega⟩
    simp only [sorrellaw03_FrameCuts.l0]
    rw [if_neg (by omega)]
    exact cuts_j1 l h c w k (by omega) hc h2 (fun t r e => by rw [List.drop_eq_nil_of_le (by rw [List.length_map]; omega)] at e; cases e) (by omega)
  | succ d ih =>
    intro w k h1 h2 hk
    obtain ⟨k, rfl⟩ : ∃ m, k = m + 2 := ⟨k - 2, by omega⟩
    simp only [sorrellaw03_FrameCuts.l0]
    have hw : w < (l.map tx).length := by rw [List.length_map]; omega
    have ht : (flat ((l.map tx).take (w + 1))).length = (flat ((l.map tx).take w)).length + (frm (l.map tx)[w]).length := by
      rw [List.take_succ_eq_append_getElem hw, flat_app, List.length_append, flat_cons, flat_nil, List.append_nil]
    rw [if_pos (by omega), if_pos (by omega), rd_at, endsF_at _ 0 w hw, Nat.zero_add]
    by_cases g : (flat ((l.map tx).take (w + 1))).length ≤ c
    · rw [if_pos (by omega), w64 (by omega) (by omega)]
      exact ih (w + 1) (k + 1) (by omega) g (by omega)
    · rw [if_neg (by omega)]
      exact cuts_j1 l h c w k (by omega) hc h2 (fun t r e => by
        rw [← List.getElem_cons_drop hw] at e
        obtain ⟨e1, _⟩ := List.cons.inj e
        rw [← e1]; omega) (by omega)
theorem cuts_is (l : List ByteArray) (left : Int) (K : Nat) (hK : 60000 ≤ K) : sorrellaw03_FrameCuts.f K l left = some true := by
  unfold sorrellaw03_FrameCuts.f
  by_cases h : okL l
  · obtain ⟨hf, hs⟩ := ok_flat l h
    obtain ⟨r, hr, e⟩ := and_small left 65535 (by decide)
    have e' : Go.bits .and .i64 left 65535 = (r : Int) := e
    have w1 : wrap64 (((bs (flat (l.map tx))).size : Int) + 1) = (((flat (l.map tx)).length + 1 : Nat) : Int) := by rw [bs_size, w64 (by omega) (by omega)]; exact (Int.natCast_add _ _).symm
    have hm : Int.tmod (r : Int) (((flat (l.map tx)).length + 1 : Nat) : Int) = ((r % ((flat (l.map tx)).length + 1) : Nat) : Int) := by rw [Int.tmod_eq_emod_of_nonneg (by omega)]; exact (Int.natCast_emod _ _).symm
    have hlt := Nat.mod_lt r (show 0 < (flat (l.map tx)).length + 1 from by omega)
    rw [all_ok l _ h (by omega), Option.bind_some, if_pos rfl, w1, if_neg (by omega), e', hm]
    exact cuts_l0 l h _ (by omega) l.length 0 _ (by omega) (by rw [List.take_zero, flat_nil]; exact Nat.zero_le _) (by have := h.1; omega)
  · rw [all_bad l _ h (by omega), Option.bind_some, if_neg (by decide), awake_is _ (by omega), Option.bind_some]
theorem law_cuts : sorrellaw03_FrameCuts.Pure := fun l left _ _ => ⟨60000, cuts_is l left _ (Nat.le_refl _)⟩
end Go.Proofs.Ytlgcnpdikchllaa.VaCuts
