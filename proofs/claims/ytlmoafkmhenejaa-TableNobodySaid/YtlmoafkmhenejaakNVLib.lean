import Derived.Test.YtlmoafkmhenejaakNWWords
import Derived.Test.YtlmoafkmhenejaakNWMore
import Derived.Laws.BitsLemmas
namespace Go.Proofs.YtlmoafkmhenejaaW.PrintWords
end Go.Proofs.YtlmoafkmhenejaaW.PrintWords
namespace Go.Proofs.YtlmoafkmhenejaaW.PrintLast
end Go.Proofs.YtlmoafkmhenejaaW.PrintLast
namespace Go.Proofs.YtlmoafkmhenejaaW.PrintMore
end Go.Proofs.YtlmoafkmhenejaaW.PrintMore
namespace Go.Proofs.Ytlmoafkmhenejaa.VLib
open Go.RowKit Go.Proofs.YtlmoafkmhenejaaW.PrintWords Go.Proofs.YtlmoafkmhenejaaW.PrintLast Go.Proofs.YtlmoafkmhenejaaW.PrintMore
def bs (l : List UInt8) : ByteArray := ⟨l.toArray⟩
theorem bs_of (s : ByteArray) : bs s.data.toList = s := by cases s; rfl
theorem ext_list {a b : ByteArray} (h : a.data.toList = b.data.toList) : a = b := by rw [← bs_of a, ← bs_of b, h]
theorem len_list (s : ByteArray) : s.data.toList.length = s.size := data_length s
theorem toList_data (s : ByteArray) : s.toList = s.data.toList := by
  have : ∀ (n i : Nat) (r : List UInt8), s.size - i = n → i ≤ s.size → ByteArray.toList.loop s i r = r.reverse ++ s.data.toList.drop i := by
    intro n
    induction n with
    | zero =>
      intro i r h hi
      have : s.data.toList.drop i = [] := List.drop_eq_nil_of_le (by rw [len_list]; omega)
      rw [ByteArray.toList.loop, if_neg (by omega), this, List.append_nil]
    | succ n ih =>
      intro i r h hi
      have hlt : i < s.size := by omega
      rw [ByteArray.toList.loop, if_pos hlt, ih (i + 1) _ (by omega) (by omega)]
      have hd : s.data.toList.drop i = s.data.toList[i]'(by rw [len_list]; exact hlt) :: s.data.toList.drop (i + 1) := (List.getElem_cons_drop (by rw [len_list]; exact hlt)).symm
      rw [hd, List.reverse_cons, List.append_assoc]
      congr 1
      simp only [List.cons_append, List.nil_append, List.cons.injEq, and_true]
      show s.data[i]! = _
      rw [getElem!_pos s.data i hlt]
      simp
  have h := this s.size 0 [] (by omega) (by omega)
  unfold ByteArray.toList
  rw [h]; rfl
theorem toList_inj {a b : ByteArray} : a.toList = b.toList ↔ a = b := by
  rw [toList_data, toList_data]; exact ⟨ext_list, fun h => by rw [h]⟩
def enc (n : Nat) : List UInt8 := if _h : n < 128 then [UInt8.ofNat n] else UInt8.ofNat (n % 128 + 128) :: enc (n / 128)
end Go.Proofs.Ytlmoafkmhenejaa.VLib
