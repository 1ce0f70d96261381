/- Plain laws on what the functions written out for this seat come to. -/
import Derived.Test.YtlgcnpdikchllaaXStatFrameMore
import Derived.Test.YtlgcnpdikchllaaVLib
import Derived.Test.YtlgcnpdikchllaaCLib
import Derived.Test.YtlgcnpdikchllaaVaFrm
import Derived.Test.YtlgcnpdikchllaaVaAll
namespace Go.Proofs.Ytlgcnpdikchllaa.VaMore
open Go.RowKit Go.Proofs.Ytlgcnpdikchllaa.XA Go.Proofs.Ytlgcnpdikchllaa.VLib Go.Proofs.Ytlgcnpdikchllaa.CLib Go.Proofs.Ytlgcnpdikchllaa.VaFrm Go.Proofs.Ytlgcnpdikchllaa.VaAll Go.Proofs.YtlgcnpdikchllaaW.PrintWords Go.Proofs.YtlgcnpdikchllaaW.PrintLast Go.Proofs.YtlgcnpdikchllaaW.PrintMore
theorem more_awake (k : Nat) (l0 l1 : List ByteArray) (x s t : ByteArray) (hk : 500 ≤ k) : sorrellaw03_FrameMore.j0 (k + 1) l0 l1 x s t true = some true := by
  simp only [sorrellaw03_FrameMore.j0]
  rw [if_pos trivial, awake_is _ hk]; rfl
theorem more_j0 (a b : List ByteArray) (x : ByteArray) (k : Nat) (hk : 100000 ≤ k) (ha : okL a) (hb : okL b) (hx : x.size ≤ 300) : sorrellaw03_FrameMore.j0 (k + 1) a b x (bs (flat (a.map tx))) (bs (flat (b.map tx))) false = some true := by
  obtain ⟨fa, sa⟩ := ok_flat a ha
  obtain ⟨fb, sb⟩ := ok_flat b hb
  have la := ha.1
  have lb := hb.1
  have hl := len_list x
  have hx1 := allL_le _ x.data.toList (Nat.le_refl _)
  have e1 : allL (flat (a.map tx) ++ flat (b.map tx)) = (a.map tx ++ b.map tx, (flat (a.map tx)).length + (flat (b.map tx)).length) := by
    have := allL_flat [] (a.map tx ++ b.map tx) (fun t ht => (List.mem_append.1 ht).elim (sa t) (sb t))
    rw [List.append_nil, allL_none takeF_nil, flat_app] at this
    simpa using this
  have e2 := allL_flat x.data.toList (a.map tx) sa
  have ab : (a ++ b).length = a.length + b.length := List.length_append
  have ax : (a ++ (allL x.data.toList).1.map bs).length = a.length + (allL x.data.toList).1.length := by rw [List.length_append, List.length_map]
  have sx := len_list x
  simp only [sorrellaw03_FrameMore.j0]
  rw [if_neg (by decide), bs_size, bs_size, if_pos (by omega), fall_is _ _ (by rw [size_append, bs_size, bs_size]; omega) (by rw [size_append, bs_size, bs_size]; omega), list_append, bs_list, bs_list, e1, Option.bind_some, List.nil_append, List.length_nil,
    if_pos (by omega), Option.bind_some, if_pos (by omega), fall_is x _ (by omega) (by omega), Option.bind_some,
    if_pos (by omega), fall_is _ _ (by rw [size_append, bs_size]; omega) (by rw [size_append, bs_size]; omega), list_append, bs_list, e2, Option.bind_some, Option.bind_some,
    if_pos (by rw [List.length_map]; omega), List.map_append, List.map_append, tx_bs, tx_bs, same_yes _ _ _ rfl (by rw [ab]; omega) (by rw [ab]; omega), Option.bind_some, if_pos rfl,
    if_pos (by rw [w64 (by omega) (by omega)]; exact Int.natCast_add _ _), same_yes _ _ _ rfl (by rw [ax]; omega) (by rw [ax]; omega), Option.bind_some, if_pos rfl, if_pos (by rw [w64 (by omega) (by omega)]; exact Int.natCast_add _ _), awake_is _ (by omega), Option.bind_some]
theorem more_is (a b : List ByteArray) (x : ByteArray) (K : Nat) (hK : 100000 ≤ K) : sorrellaw03_FrameMore.f (K + 1) a b x = some true := by
  unfold sorrellaw03_FrameMore.f
  by_cases ha : okL a
  · by_cases hb : okL b
    · rw [all_ok a _ ha (by omega), Option.bind_some, all_ok b _ hb (by omega), Option.bind_some, if_pos rfl, if_pos rfl]
      by_cases hx : x.size ≤ 300
      · rw [decide_eq_false (by omega)]
        exact more_j0 a b x K hK ha hb hx
      · rw [decide_eq_true (by omega)]
        exact more_awake _ _ _ _ _ _ (by omega)
    · rw [all_ok a _ ha (by omega), Option.bind_some, all_bad b _ hb (by omega), Option.bind_some, if_pos rfl, if_neg (by decide)]
      exact more_awake _ _ _ _ _ _ (by omega)
  · by_cases hb : okL b
    · rw [all_bad a _ ha (by omega), Option.bind_some, all_ok b _ hb (by omega), Option.bind_some, if_neg (by decide)]
      exact more_awake _ _ _ _ _ _ (by omega)
    · rw [all_bad a _ ha (by omega), Option.bind_some, all_bad b _ hb (by omega), Option.bind_some, if_neg (by decide)]
      exact more_awake _ _ _ _ _ _ (by omega)
theorem law_more : sorrellaw03_FrameMore.Pure := fun a b x _ _ _ => ⟨100000 + 1, more_is a b x _ (Nat.le_refl _)⟩
end Go.Proofs.Ytlgcnpdikchllaa.VaMore
