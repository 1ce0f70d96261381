import Derived.Test.YtcfkmcbmambchaakSWMore
import Derived.WalkKit
import Derived.Lib.ConvBytes
namespace Go.Proofs.YtcfkmcbmambchaaW.PrintWords
end Go.Proofs.YtcfkmcbmambchaaW.PrintWords
namespace Go.Proofs.Ytcfkmcbmambchaa.BytesRow
open Go.RowKit Go.Proofs.YtcfkmcbmambchaaW.PrintWords
def Bl (w : World) (e g : Nat) (xs : List Int) : Prop := ∃ (cur : Array Value) (m : Nat), w.heap[g]? = some (.cells cur e (m, m + 1)) ∧ cur.size = m ∧ xs.length ≤ m ∧ ∀ j, j < xs.length → cur[j]? = some (.int .u8 (rd xs (j : Int)))
theorem Bl.new (W : World) (e : TypeId) (s : ByteArray) : Bl (Lib.bytesWorld W e s) e W.heap.size (bytesOf s) := by
  refine ⟨_, _, Lib.bytesWorld_at_new W e s, rfl, ?_, fun j hj => ?_⟩
  · rw [bytesOf_length]; unfold Lib.bytesCells; simp
  · rw [bytesOf_length] at hj
    have h := Lib.bytesWorld_cell W e s j hj
    rw [cell_of_row _ _ _ _ _ _ (Lib.bytesWorld_at_new W e s)] at h
    rw [h, rd_bytesOf]
    have h' : j < s.data.toList.length := by rw [data_length]; exact hj
    unfold bt
    rw [dif_pos (by rw [Int.toNat_natCast]; exact hj), List.getD_eq_getElem?_getD, List.getElem?_eq_getElem h']
    rfl
theorem Bl.cell {w : World} {e g : Nat} {xs : List Int} (h : Bl w e g xs) (j : Nat) (hj : j < xs.length) : w.cell? ⟨g, j, none⟩ = some (.int .u8 (rd xs (j : Int))) ∧ w.frozen? ⟨g, j, none⟩ = false := by
  obtain ⟨cur, m, h1, h2, h3, h4⟩ := h
  refine ⟨(cell_of_row w g j cur e _ h1).trans (h4 j hj), ?_⟩
  simp only [World.frozen?, h1]
  have : ¬ m ≤ j := by omega
  simp [this]
theorem Bl.put {w : World} {e g : Nat} {xs : List Int} (h : Bl w e g xs) (j : Nat) (x : Int) (hj : j < xs.length) : Bl (w.setCell ⟨g, j, none⟩ (.int .u8 x)) e g (xs.set j x) := by
  obtain ⟨cur, m, h1, h2, h3, h4⟩ := h
  refine ⟨cur.setIfInBounds j (.int .u8 x), m, by simp [World.setCell, Array.getElem?_modify, h1], by simp [h2], by simpa using h3, fun i hi => ?_⟩
  rw [List.length_set] at hi
  rw [Array.getElem?_setIfInBounds]
  unfold rd
  rw [Int.toNat_natCast, List.getD_eq_getElem?_getD, List.getElem?_set]
  by_cases c : j = i
  · subst c
    rw [if_pos rfl, if_pos (by omega), if_pos rfl, if_pos hi]; rfl
  · rw [if_neg c, if_neg c, h4 i hi]
    unfold rd
    rw [Int.toNat_natCast, List.getD_eq_getElem?_getD]
theorem Bl.keep {w w' : World} {e g : Nat} {xs : List Int} (h : Bl w e g xs) (hw : w'.heap[g]? = w.heap[g]?) : Bl w' e g xs := by
  obtain ⟨cur, m, h1, r⟩ := h
  exact ⟨cur, m, hw.trans h1, r⟩
theorem Bl.below {w w' : World} {e g : Nat} {xs : List Int} (h : Bl w e g xs) (hb : Below w.heap.size w w') : Bl w' e g xs := by
  obtain ⟨cur, m, h1, r⟩ := h
  exact ⟨cur, m, blk_below h1 hb, r⟩
theorem Bl.text {P : Program} {w : World} {e g : Nat} {xs : List Int} (h : Bl w e g xs) (src : TypeId) (hs : P.underlying src = some (.slice e)) (he : P.underlying e = some (.int .u8)) (dst : TypeId) (hd : P.underlying dst = some .string) (n c : Nat) (hn : xs.length = n) :
    (convert src dst (.slice (some ⟨g, 0, none⟩) n c)).run P w = .ok (.string (strOfNums xs)) w := by
  refine run_convert_bytes_arg w src e hs he g 0 n c xs hn (fun i hi => ?_) dst hd
  rw [Nat.zero_add, (h.cell i (by omega)).1]
  unfold rd
  rw [Int.toNat_natCast]
end Go.Proofs.Ytcfkmcbmambchaa.BytesRow
