import Derived.Test.YtcfkmcbmambchaakSMSpoilt
import Derived.Test.YtcfkmcbmambchaakSVLib
import Derived.Test.YtcfkmcbmambchaakSCLib
import Derived.Test.YtcfkmcbmambchaakSBytesRow
import Derived.Test.YtcfkmcbmambchaakSXW
import Derived.Test.YtcfkmcbmambchaakSVaB1
import Derived.Test.YtcfkmcbmambchaakSVaChk
import Derived.Test.YtcfkmcbmambchaakSVaPut
import Derived.Test.YtcfkmcbmambchaakSVaRT
import Derived.Test.YtcfkmcbmambchaakSVaRT2
import Derived.Test.YtcfkmcbmambchaakSVaPT
import Derived.Test.YtcfkmcbmambchaakSVaMade
namespace Go.Proofs.Ytcfkmcbmambchaa.XA
end Go.Proofs.Ytcfkmcbmambchaa.XA
namespace Go.Proofs.Ytcfkmcbmambchaa.VLib
end Go.Proofs.Ytcfkmcbmambchaa.VLib
namespace Go.Proofs.Ytcfkmcbmambchaa.CLib
end Go.Proofs.Ytcfkmcbmambchaa.CLib
namespace Go.Proofs.Ytcfkmcbmambchaa.BytesRow
end Go.Proofs.Ytcfkmcbmambchaa.BytesRow
namespace Go.Proofs.Ytcfkmcbmambchaa.XW
end Go.Proofs.Ytcfkmcbmambchaa.XW
namespace Go.Proofs.Ytcfkmcbmambchaa.VaB1
end Go.Proofs.Ytcfkmcbmambchaa.VaB1
namespace Go.Proofs.Ytcfkmcbmambchaa.VaChk
end Go.Proofs.Ytcfkmcbmambchaa.VaChk
namespace Go.Proofs.Ytcfkmcbmambchaa.VaPut
end Go.Proofs.Ytcfkmcbmambchaa.VaPut
namespace Go.Proofs.Ytcfkmcbmambchaa.VaRT
end Go.Proofs.Ytcfkmcbmambchaa.VaRT
namespace Go.Proofs.Ytcfkmcbmambchaa.VaRT2
end Go.Proofs.Ytcfkmcbmambchaa.VaRT2
namespace Go.Proofs.Ytcfkmcbmambchaa.VaPT
end Go.Proofs.Ytcfkmcbmambchaa.VaPT
namespace Go.Proofs.Ytcfkmcbmambchaa.VaMade
end Go.Proofs.Ytcfkmcbmambchaa.VaMade
namespace Go.Proofs.YtcfkmcbmambchaaW.PrintWords
end Go.Proofs.YtcfkmcbmambchaaW.PrintWords
namespace Go.Proofs.YtcfkmcbmambchaaW.PrintLast
end Go.Proofs.YtcfkmcbmambchaaW.PrintLast
namespace Go.Proofs.YtcfkmcbmambchaaW.PrintMore
end Go.Proofs.YtcfkmcbmambchaaW.PrintMore
namespace Go.Proofs.Ytcfkmcbmambchaa.VaSpoilt
open Go.RowKit Go.Proofs.Ytcfkmcbmambchaa.XA Go.Proofs.Ytcfkmcbmambchaa.VLib Go.Proofs.Ytcfkmcbmambchaa.CLib Go.Proofs.Ytcfkmcbmambchaa.BytesRow Go.Proofs.Ytcfkmcbmambchaa.XW Go.Proofs.Ytcfkmcbmambchaa.VaB1 Go.Proofs.Ytcfkmcbmambchaa.VaChk Go.Proofs.Ytcfkmcbmambchaa.VaPut Go.Proofs.Ytcfkmcbmambchaa.VaRT Go.Proofs.Ytcfkmcbmambchaa.VaRT2 Go.Proofs.Ytcfkmcbmambchaa.VaPT Go.Proofs.Ytcfkmcbmambchaa.VaMade Go.Proofs.YtcfkmcbmambchaaW.PrintWords Go.Proofs.YtcfkmcbmambchaaW.PrintLast Go.Proofs.YtcfkmcbmambchaaW.PrintMore
def nat8 (l : List UInt8) : List Int := List.map (fun (b : UInt8) => ((b.toNat : Nat) : Int)) l
theorem xor8 (a b : UInt8) : Go.bits .xor .u8 ((a.toNat : Nat) : Int) ((b.toNat : Nat) : Int) = (((a ^^^ b).toNat : Nat) : Int) := by
  have h : Go.bits .xor .u8 ((a.toNat : Nat) : Int) ((b.toNat : Nat) : Int) = IntKind.u8.wrap (((BitVec.ofInt 8 ((a.toNat : Nat) : Int)) ^^^ (BitVec.ofInt 8 ((b.toNat : Nat) : Int))).toNat : Int) := rfl
  have e1 : BitVec.ofInt 8 ((a.toNat : Nat) : Int) = a.toBitVec := by apply BitVec.eq_of_toNat_eq; simp
  have e2 : BitVec.ofInt 8 ((b.toNat : Nat) : Int) = b.toBitVec := by apply BitVec.eq_of_toNat_eq; simp
  rw [h, e1, e2, ← UInt8.toBitVec_xor]
  have := (a ^^^ b).toNat_lt
  show IntKind.u8.wrap (((a ^^^ b).toNat : Nat) : Int) = _
  rw [IntKind.wrap_u8]; omega
def turned (by4 l : List UInt8) (K i : Nat) : List UInt8 := l.take K ++ (xs2 ((l.drop K).take i) (by4.take i) ++ l.drop (K + i))
theorem turned_len (by4 l : List UInt8) (hb : by4.length = 4) (K i : Nat) (hi : i ≤ 4) (hl : K + i ≤ l.length) : (xs2 ((l.drop K).take i) (by4.take i)).length = i := by
  rw [xs2_len _ _ (by simp; omega)]; simp; omega
theorem cur_form (by4 l : List UInt8) (hb : by4.length = 4) (K : Nat) : ∀ i, i ≤ 4 → K + i ≤ l.length → curT (nat8 by4) K i (nat8 l) = nat8 (turned by4 l K i)
  | 0, _, _ => by
    rw [curT]; unfold turned
    rw [show xs2 ((l.drop K).take 0) (by4.take 0) = [] from rfl, List.nil_append, Nat.add_zero, List.take_append_drop]
  | i + 1, h1, h2 => by
    have hx := turned_len by4 l hb K i (by omega) (by omega)
    have hK : (l.take K).length = K := by rw [List.length_take]; omega
    have hi : K + i < l.length := by omega
    have hbi : i < by4.length := by omega
    have ed : l.drop (K + i) = l[K + i] :: l.drop (K + (i + 1)) := (List.getElem_cons_drop hi).symm
    have eg : (turned by4 l K i).getD (K + i) 0 = l[K + i] := by
      unfold turned
      rw [List.getD_eq_getElem?_getD, List.getElem?_append_right (by omega), List.getElem?_append_right (by omega), hK, hx, Nat.add_sub_cancel_left, Nat.sub_self, ed]; rfl
    have er : rd (nat8 (turned by4 l K i)) ((K + i : Nat) : Int) = ((l[K + i].toNat : Nat) : Int) := by
      rw [← eg]; unfold rd nat8
      rw [Int.toNat_natCast, List.getD_eq_getElem?_getD, List.getD_eq_getElem?_getD, List.getElem?_map]
      cases (turned by4 l K i)[K + i]? <;> rfl
    have eb : (nat8 by4).getD i 0 = ((by4[i].toNat : Nat) : Int) := by
      unfold nat8; rw [List.getD_eq_getElem?_getD, List.getElem?_map, List.getElem?_eq_getElem hbi]; rfl
    rw [curT, cur_form by4 l hb K i (by omega) (by omega), er, eb, xor8]
    unfold nat8
    rw [← List.map_set]
    refine congrArg _ ?_
    unfold turned
    rw [List.set_append_right _ _ (by omega), List.set_append_right _ _ (by omega), hK, hx, Nat.add_sub_cancel_left, Nat.sub_self, ed, List.set_cons_zero]
    have e3 : (l.drop K).take (i + 1) = (l.drop K).take i ++ [l[K + i]] := by
      rw [List.take_succ_eq_append_getElem (by rw [List.length_drop]; omega), List.getElem_drop]
    have e4 : by4.take (i + 1) = by4.take i ++ [by4[i]] := List.take_succ_eq_append_getElem hbi
    rw [e3, e4]
    unfold xs2
    rw [List.zipWith_append (by simp; omega)]
    simp
theorem xs2_self : ∀ l : List UInt8, xs2 l l = List.replicate l.length 0
  | [] => rfl
  | a :: l => by
    show (a ^^^ a) :: xs2 l l = _
    rw [xs2_self l, UInt8.xor_self]; rfl
theorem xs2_back : ∀ a b : List UInt8, a.length = b.length → xs2 (xs2 a b) a = b
  | [], [], _ => rfl
  | a :: l, b :: m, h => by
    show ((a ^^^ b) ^^^ a) :: xs2 (xs2 l m) l = _
    rw [xs2_back l m (by simpa using h), UInt8.xor_comm a b, UInt8.xor_assoc, UInt8.xor_self, UInt8.xor_zero]
  | [], _ :: _, h => by simp at h
  | _ :: _, [], h => by simp at h
theorem fix4_inj (m n : Nat) (hm : m < 4294967296) (hn : n < 4294967296) (h : fix4 m = fix4 n) : m = n := by
  have h1 := fix4_val m hm
  have h2 := fix4_val n hn
  unfold fix4 at h
  simp only [List.cons.injEq, and_true] at h
  obtain ⟨a, b, c, d⟩ := h
  rw [a, b, c, d] at h1
  omega
theorem turned_seal (by4 t f : List UInt8) (K n : Nat) (h : K + n ≤ t.length) : turned by4 (t ++ f) K n = turned by4 t K n ++ f := by
  unfold turned
  rw [List.take_append_of_le_length (by omega), List.drop_append_of_le_length (by omega), List.drop_append_of_le_length h, List.take_append_of_le_length (by rw [List.length_drop]; omega)]
  simp only [List.append_assoc]
theorem turned_total (by4 t : List UInt8) (hb : by4.length = 4) (K n : Nat) (hn : n ≤ 4) (h : K + n ≤ t.length) : (turned by4 t K n).length = t.length := by
  have := turned_len by4 t hb K n hn h
  unfold turned
  rw [List.length_append, List.length_append, this, List.length_take, List.length_drop]; omega
theorem turned_diff (by4 t : List UInt8) (hb : by4.length = 4) (K n : Nat) (hn : n ≤ 4) (h : K + n ≤ t.length) : xs2 (turned by4 t K n) t = List.replicate K 0 ++ by4.take n ++ List.replicate (t.length - (K + n)) 0 := by
  have hx := turned_len by4 t hb K n hn h
  have e : t = t.take K ++ ((t.drop K).take n ++ t.drop (K + n)) := by
    rw [← List.drop_drop, List.take_append_drop, List.take_append_drop]
  have l1 : ((t.drop K).take n).length = n := by rw [List.length_take, List.length_drop]; omega
  have l2 : (by4.take n).length = n := by rw [List.length_take]; omega
  have l3 : (t.take K).length = K := by rw [List.length_take]; omega
  have z1 : xs2 (t.take K) (t.take K) = List.replicate K 0 := by rw [xs2_self, l3]
  have z2 : xs2 (xs2 ((t.drop K).take n) (by4.take n)) ((t.drop K).take n) = by4.take n := xs2_back _ _ (by rw [l1, l2])
  have z3 : xs2 (t.drop (K + n)) (t.drop (K + n)) = List.replicate (t.length - (K + n)) 0 := by rw [xs2_self, List.length_drop]
  have : xs2 (turned by4 t K n) t = xs2 (t.take K ++ (xs2 ((t.drop K).take n) (by4.take n) ++ t.drop (K + n))) (t.take K ++ ((t.drop K).take n ++ t.drop (K + n))) := by
    rw [← e]; rfl
  rw [this]
  show List.zipWith _ _ _ = _
  rw [List.zipWith_append rfl, List.zipWith_append (by rw [hx, l1])]
  show xs2 _ _ ++ (xs2 _ _ ++ xs2 _ _) = _
  rw [z1, z2, z3, List.append_assoc]
theorem chk_turned (by4 t : List UInt8) (hb : by4.length = 4) (K n : Nat) (hn : n ≤ 4) (h : K + n ≤ t.length) : chk (turned by4 (sealL t) K n) = true ↔ ∀ b ∈ by4.take n, b = 0 := by
  have hl := turned_total by4 t hb K n hn h
  unfold sealL
  rw [turned_seal by4 t _ K n h]
  have hz : (turned by4 t K n ++ fix4 (crcM 0#32 t).toNat).length - 4 = (turned by4 t K n).length := by rw [List.length_append, fix4_len]; omega
  unfold chk
  rw [hz, List.drop_left, List.take_left, decide_eq_true (by rw [List.length_append, fix4_len]; omega), Bool.true_and, beq_iff_eq]
  have e1 : fix4 (crcM 0#32 t).toNat = fix4 (crcM 0#32 (turned by4 t K n)).toNat ↔ crcM 0#32 (turned by4 t K n) = crcM 0#32 t :=
    ⟨fun e => BitVec.eq_of_toNat_eq (fix4_inj _ _ (crcM 0#32 t).isLt (crcM 0#32 (turned by4 t K n)).isLt e).symm, fun e => by rw [e]⟩
  rw [e1, crcM_diff _ _ hl, turned_diff by4 t hb K n hn h]
  constructor
  · intro e; exact crcL_burst K _ _ (by rw [List.length_take]; omega) e
  · intro e
    have hr : by4.take n = List.replicate n 0 := by
      refine List.eq_replicate_iff.2 ⟨by rw [List.length_take]; omega, e⟩
    rw [hr, List.replicate_append_replicate, List.replicate_append_replicate]
    exact crcL_nulls _
theorem nat8_text (l : List UInt8) : strOfNums (nat8 l) = bs l := by
  rw [nums_bs]; unfold nat8
  rw [List.map_map]
  refine congrArg bs ((List.map_congr_left (fun b _ => ?_)).trans (List.map_id l))
  show UInt8.ofNat (((b.toNat : Nat) : Int).toNat) = b
  rw [Int.toNat_natCast, u8_eta]
theorem turT_is (by4 : List UInt8) (hb : by4.length = 4) : ∀ n, n ≤ 4 → (turT (nat8 by4) n = false ↔ ∀ b ∈ by4.take n, b = 0)
  | 0, _ => by simp [turT]
  | n + 1, h => by
    have hbi : n < by4.length := by omega
    have eb : (nat8 by4).getD n 0 = ((by4[n].toNat : Nat) : Int) := by
      unfold nat8; rw [List.getD_eq_getElem?_getD, List.getElem?_map, List.getElem?_eq_getElem hbi]; rfl
    rw [turT, Bool.or_eq_false_iff, turT_is by4 hb n (by omega), eb, List.take_succ_eq_append_getElem hbi]
    have e1 : (((by4[n].toNat : Nat) : Int) != 0) = false ↔ by4[n] = 0 := by
      rw [bne_eq_false_iff_eq]
      exact ⟨fun e => UInt8.toNat_inj.1 (by simpa using e), fun e => by rw [e]; rfl⟩
    rw [e1]
    constructor
    · rintro ⟨a, b⟩ x hx
      rcases List.mem_append.1 hx with hx | hx
      · exact a x hx
      · rw [List.mem_singleton.1 hx]; exact b
    · intro a
      exact ⟨fun x hx => a x (List.mem_append.2 (.inl hx)), a _ (List.mem_append.2 (.inr (List.mem_singleton.2 rfl)))⟩
theorem byte_nat (a : Int) (h : 0 ≤ a ∧ a ≤ 255) : (((UInt8.ofNat a.toNat).toNat : Nat) : Int) = a := by
  rw [u8_ofNat (by omega)]; omega
theorem xs2_null : ∀ (a b : List UInt8), a.length = b.length → (∀ x ∈ b, x = 0) → xs2 a b = a
  | [], [], _, _ => rfl
  | a :: l, b :: m, h, z => by
    show (a ^^^ b) :: xs2 l m = _
    rw [xs2_null l m (by simpa using h) (fun x hx => z x (List.mem_cons_of_mem _ hx)), z b List.mem_cons_self, UInt8.xor_zero]
  | [], _ :: _, h, _ => by simp at h
  | _ :: _, [], h, _ => by simp at h
theorem turned_null (by4 t : List UInt8) (p n : Nat) (h : p + n ≤ t.length) (hn : n ≤ by4.length) (z : ∀ b ∈ by4.take n, b = 0) : turned by4 t p n = t := by
  unfold turned
  rw [xs2_null _ _ (by simp only [List.length_take, List.length_drop]; omega) z, ← List.drop_drop, List.take_append_drop, List.take_append_drop]
theorem light_l0 (l : List S36) : ∀ (n i k : Nat), i + n = 61 → n + 1 ≤ k → ∃ b, sorrellaw09_light.l0 k l (i : Int) = some b ∧ (b = true → l.length ≤ 60) := by
  intro n
  induction n with
  | zero =>
    intro i k h hk
    obtain ⟨k, rfl⟩ : ∃ m, k = m + 1 := ⟨k - 1, by omega⟩
    simp only [sorrellaw09_light.l0]
    by_cases c : i < l.length
    · rw [if_pos (by omega), if_neg (by omega)]; exact ⟨_, rfl, fun h => by have := of_decide_eq_true h; omega⟩
    · rw [if_neg (by omega)]; exact ⟨_, rfl, fun h => by have := of_decide_eq_true h; omega⟩
  | succ n ih =>
    intro i k h hk
    obtain ⟨k, rfl⟩ : ∃ m, k = m + 1 := ⟨k - 1, by omega⟩
    simp only [sorrellaw09_light.l0]
    by_cases c : i < l.length
    · rw [if_pos (by omega)]
      by_cases c2 : i < 60
      · rw [if_pos (by omega), if_pos (by omega)]
        split
        · exact ⟨_, rfl, fun h => by cases h⟩
        · split
          · exact ⟨_, rfl, fun h => by cases h⟩
          · rw [w64 (by omega) (by omega), show (i : Int) + 1 = ((i + 1 : Nat) : Int) from by omega]
            exact ih (i + 1) k (by omega) (by omega)
      · rw [if_neg (by omega)]; exact ⟨_, rfl, fun h => by have := of_decide_eq_true h; omega⟩
    · rw [if_neg (by omega)]; exact ⟨_, rfl, fun h => by have := of_decide_eq_true h; omega⟩
theorem light_is (l : List S36) (k : Nat) (hk : 62 ≤ k) : ∃ b, sorrellaw09_light.f k l = some b ∧ (b = true → l.length ≤ 60) := light_l0 l 61 0 k (by omega) hk
theorem awake_300 : sorrellaw09_awake.f 300 = some true := by kernel_rfl
theorem awake_is (k : Nat) (hk : 300 ≤ k) : sorrellaw09_awake.f k = some true := at_rounds (g := fun k => sorrellaw09_awake.f k) sorrellaw09_awake.mono hk awake_300
theorem lcp_rest (last k : List UInt8) : last.take (lcp last k) ++ k.drop (lcp last k) = k := by
  rw [lcp_take, List.take_append_drop]
theorem oneL_gone (last s : List UInt8) (n a : Nat) (t : List UInt8) (b q c : Nat) (h1 : takeN s = (n, a, 0)) (h2 : n ≤ last.length) (h3 : takeX (s.drop a) = (t, b, 0)) (h4 : takeN (s.drop (a + b)) = (q, c, 0))
    (h5 : lcp last (last.take n ++ t) = n) (h6 : q % 2 = 1) : oneL last s = some (⟨bs (last.take n ++ t), bs [], true, ((q / 2 : Nat) : Int)⟩, a + b + c) := by
  unfold oneL
  rw [h1]; dsimp only; rw [h3]; dsimp only; rw [h4]; dsimp only
  rw [if_pos ⟨rfl, h2⟩, if_pos rfl, if_pos ⟨rfl, h5⟩, if_pos h6]
theorem oneL_all (last s : List UInt8) (n a : Nat) (t : List UInt8) (b q c : Nat) (v : List UInt8) (d : Nat) (h1 : takeN s = (n, a, 0)) (h2 : n ≤ last.length) (h3 : takeX (s.drop a) = (t, b, 0)) (h4 : takeN (s.drop (a + b)) = (q, c, 0))
    (h5 : lcp last (last.take n ++ t) = n) (h6 : ¬ q % 2 = 1) (h7 : takeX (s.drop (a + b + c)) = (v, d, 0)) : oneL last s = some (⟨bs (last.take n ++ t), bs v, false, ((q / 2 : Nat) : Int)⟩, a + b + c + d) := by
  unfold oneL
  rw [h1]; dsimp only; rw [h3]; dsimp only; rw [h4]; dsimp only; rw [h7]; dsimp only
  rw [if_pos ⟨rfl, h2⟩, if_pos rfl, if_pos ⟨rfl, h5⟩, if_neg h6, if_pos rfl]
theorem txtL_len (t : List UInt8) : (txtL t).length = (enc t.length).length + t.length := by unfold txtL; rw [List.length_append]
theorem takeX_txt (t r : List UInt8) (h : t.length ≤ 262144) : takeX (txtL t ++ r) = (t, (txtL t).length, 0) := by
  rw [txtL_len]; unfold txtL; rw [List.append_assoc]; exact takeX_text t r h
theorem drop2 (a b r : List UInt8) : (a ++ (b ++ r)).drop (a.length + b.length) = r := by
  rw [← List.append_assoc, ← List.length_append]; exact List.drop_left
theorem drop3 (a b c r : List UInt8) : (a ++ (b ++ (c ++ r))).drop (a.length + b.length + c.length) = r := by
  rw [← List.append_assoc, ← List.append_assoc, ← List.length_append, ← List.length_append]; exact List.drop_left
theorem one_ent (last : List UInt8) (e : S36) (r : List UInt8) (hm : MayE e) : oneL last (entL last e ++ r) = some (e, (entL last e).length) := by
  obtain ⟨k1, k64, v, g, s1, sm⟩ := hm
  have hk : (kL e).length = e.f0.size := len_list e.f0
  have hv : (vL e).length = e.f1.size := len_list e.f1
  have hl := lcp_le last (kL e)
  have hd : ((kL e).drop (lcp last (kL e))).length ≤ 262144 := by rw [List.length_drop]; omega
  have hr := lcp_rest last (kL e)
  have hf : bs (last.take (lcp last (kL e)) ++ (kL e).drop (lcp last (kL e))) = e.f0 := by rw [hr]; exact bs_of e.f0
  cases h2 : e.f2
  · have he : entL last e ++ r = enc (lcp last (kL e)) ++ (txtL ((kL e).drop (lcp last (kL e))) ++ (enc (2 * e.f3.toNat) ++ (txtL (vL e) ++ r))) := by
      unfold entL; rw [h2, if_neg (by decide)]; simp only [List.append_assoc]
    have hn : (entL last e).length = (enc (lcp last (kL e))).length + (txtL ((kL e).drop (lcp last (kL e)))).length + (enc (2 * e.f3.toNat)).length + (txtL (vL e)).length := by
      unfold entL; rw [h2, if_neg (by decide)]; simp only [List.length_append]; omega
    have := oneL_all last (entL last e ++ r) (lcp last (kL e)) (enc (lcp last (kL e))).length ((kL e).drop (lcp last (kL e))) (txtL ((kL e).drop (lcp last (kL e)))).length (2 * e.f3.toNat) (enc (2 * e.f3.toNat)).length (vL e) (txtL (vL e)).length
      (by rw [he]; exact takeN_enc _ _ (by omega)) hl.1 (by rw [he, List.drop_left]; exact takeX_txt _ _ hd) (by rw [he, drop2]; exact takeN_enc _ _ (by omega)) (by rw [hr]) (by omega) (by rw [he, drop3]; exact takeX_txt _ _ (by omega))
    rw [this, hn, hf]
    refine congrArg some (congrArg (Prod.mk · _) (s36_ext rfl (bs_of e.f1) h2.symm ?_))
    show (((2 * e.f3.toNat) / 2 : Nat) : Int) = e.f3
    omega
  · have he : entL last e ++ r = enc (lcp last (kL e)) ++ (txtL ((kL e).drop (lcp last (kL e))) ++ (enc (2 * e.f3.toNat + 1) ++ r)) := by
      unfold entL; rw [h2, if_pos rfl]; simp only [List.append_assoc]
    have hn : (entL last e).length = (enc (lcp last (kL e))).length + (txtL ((kL e).drop (lcp last (kL e)))).length + (enc (2 * e.f3.toNat + 1)).length := by
      unfold entL; rw [h2, if_pos rfl]; simp only [List.length_append]; omega
    have := oneL_gone last (entL last e ++ r) (lcp last (kL e)) (enc (lcp last (kL e))).length ((kL e).drop (lcp last (kL e))) (txtL ((kL e).drop (lcp last (kL e)))).length (2 * e.f3.toNat + 1) (enc (2 * e.f3.toNat + 1)).length
      (by rw [he]; exact takeN_enc _ _ (by omega)) hl.1 (by rw [he, List.drop_left]; exact takeX_txt _ _ hd) (by rw [he, drop2]; exact takeN_enc _ _ (by omega)) (by rw [hr]) (by omega)
    rw [this, hn, hf]
    have g0 : e.f1 = bs [] := ext_list (by rw [bs_list]; exact List.length_eq_zero_iff.1 (by rw [len_list]; exact g h2))
    refine congrArg some (congrArg (Prod.mk · _) (s36_ext rfl g0.symm h2.symm ?_))
    show (((2 * e.f3.toNat + 1) / 2 : Nat) : Int) = e.f3
    omega
theorem ents_body : ∀ (l : List S36) (last r : List UInt8), (∀ e ∈ l, MayE e) → entsL l.length last (bodyL last l ++ r) = some (l, (bodyL last l).length)
  | [], _, _, _ => rfl
  | e :: l, last, r, h => by
    have ih := ents_body l (kL e) r (fun x hx => h x (List.mem_cons_of_mem _ hx))
    simp only [List.length_cons, entsL, bodyL]
    rw [List.append_assoc, one_ent last e _ (h e List.mem_cons_self), Option.bind_some]
    dsimp only
    rw [List.drop_left, ih, Option.bind_some]
    simp only [List.length_append]
theorem putL_cut (l : List S36) : (putL l).take ((putL l).length - 4) = enc l.length ++ bodyL [] l := by
  unfold putL sealL
  rw [List.length_append, fix4_len, Nat.add_sub_cancel, List.take_left]
theorem blkT_put (l : List S36) (h : okB l = true) : blkT (putL l) = some l := by
  have hb := (okB_iff l).1 h
  have hm := ok_may l none hb.2
  unfold blkT
  rw [putL_cut, takeN_enc _ _ (by omega)]
  dsimp only
  rw [if_pos ⟨chk_seal _, rfl, hb.1⟩, List.drop_left]
  have := ents_body l [] [] hm
  rw [List.append_nil] at this
  rw [this, Option.bind_some]
  dsimp only
  rw [List.length_append, if_pos ⟨rfl, h⟩]
theorem putL_len (l : List S36) (h : okB l = true) : (putL l).length ≤ 400 * l.length + 13 := by
  have hb := (okB_iff l).1 h
  have h1 := bodyL_le l [] (ok_may l none hb.2)
  have h2 := enc9 (n := l.length) (by omega)
  unfold putL sealL
  rw [List.length_append, List.length_append, fix4_len]; omega
theorem blkT_turned (m : List S36) (by4 t : List UInt8) (hb : by4.length = 4) (he : putL m = sealL t) (K n : Nat) (hn : n ≤ 4) (h : K + n ≤ t.length) (hz : ¬ ∀ b ∈ by4.take n, b = 0) : blkT (turned by4 (putL m) K n) = none := by
  unfold blkT
  rw [if_neg]
  intro g
  rw [he] at g
  exact hz ((chk_turned by4 t hb K n hn h).1 g.1)
theorem law_spoilt {P Q : Prop} (A0 : Option Addr) (c0 : Nat) (l0 : List S36) (x a0 a1 a2 a3 : Int) {w : World} (hr0 : Kd.C k36 w A0 l0.length l0) (hc0 : l0.length ≤ c0) (_ : P) (_ : Q) (h0 : 0 ≤ a0 ∧ a0 ≤ 255) (h1 : 0 ≤ a1 ∧ a1 ≤ 255) (h2 : 0 ≤ a2 ∧ a2 ≤ 255) (h3 : 0 ≤ a3 ∧ a3 ≤ 255) :
    Calls Try.prog 7 #[.slice A0 l0.length c0, .int .i64 x, .agg #[.int .u8 a0, .int .u8 a1, .int .u8 a2, .int .u8 a3]] w fun e w' => e = .returned (.bool true) ∧ Below w.heap.size w w' := by
  obtain ⟨b, hb, -⟩ := light_is l0 20000000 (by omega)
  cases b with
  | false => exact spoilt_awake 20000000 A0 c0 l0 x a0 a1 a2 a3 w hr0 hc0 hb (awake_is _ (by omega))
  | true =>
    obtain ⟨m, m1, m2, m3⟩ := made_is l0 20000000 (by omega)
    have hl := putL_len m m2
    obtain ⟨t, ht⟩ : ∃ t, t = enc m.length ++ bodyL [] m := ⟨_, rfl⟩
    have he : putL m = sealL t := by rw [ht]; rfl
    have htl : (putL m).length = t.length + 4 := by rw [he]; unfold sealL; rw [List.length_append, fix4_len]
    have ht1 : 1 ≤ t.length := by rw [ht, List.length_append]; have := enc_pos m.length; omega
    obtain ⟨r, hr, e⟩ := and_small x 65535 (by decide)
    have e' : Go.bits .and .i64 x 65535 = (r : Int) := e
    have hlt := Nat.mod_lt r (show 0 < t.length from by omega)
    have hK : Int.tmod (Go.bits .and .i64 x 65535) (t.length : Int) = ((r % t.length : Nat) : Int) := by rw [e']; exact (Int.ofNat_tmod _ _).symm
    obtain ⟨Kn, hKe⟩ : ∃ Kn, Kn = r % t.length := ⟨_, rfl⟩
    rw [← hKe] at hK hlt
    clear hKe e e' hr ht
    obtain ⟨by4, hby⟩ : ∃ l : List UInt8, l = [UInt8.ofNat a0.toNat, UInt8.ofNat a1.toNat, UInt8.ofNat a2.toNat, UInt8.ofNat a3.toNat] := ⟨_, rfl⟩
    have hb4 : by4.length = 4 := by rw [hby]; rfl
    have hn8 : [a0, a1, a2, a3] = nat8 by4 := by
      rw [hby]; unfold nat8
      simp only [List.map_cons, List.map_nil]
      rw [byte_nat a0 h0, byte_nat a1 h1, byte_nat a2 h2, byte_nat a3 h3]
    obtain ⟨n, hn⟩ : ∃ n, n = min 4 (t.length - Kn) := ⟨_, rfl⟩
    have hn1 : n ≤ 4 ∧ Kn + n ≤ t.length := by omega
    have hbz : bytesOf (bs (putL m)) = nat8 (putL m) := by unfold bytesOf; rfl
    have hcur : strOfNums (curT [a0, a1, a2, a3] Kn n (bytesOf (bs (putL m)))) = bs (turned by4 (putL m) Kn n) := by
      rw [hn8, hbz, cur_form by4 _ hb4 _ n (by omega) (by omega), nat8_text]
    have htot := turned_total by4 (putL m) hb4 Kn n (by omega) (by omega)
    have hT := turT_is by4 hb4 n (by omega)
    have htake := btk_is (bs (turned by4 (putL m) Kn n)) 20000000 (by rw [bs_size]; omega) (by rw [bs_size]; omega)
    rw [bs_list] at htake
    refine spoilt_calls 20000000 A0 c0 l0 x a0 a1 a2 a3 m (bs (putL m)) t.length Kn (t.length - Kn) n _ _ w hr0 hc0 hb m1 (bput_ok m _ m2 (by omega)) (by rw [bs_size]; omega) ht1 (by rw [bs_size]; omega) hK (by omega) hn (by rw [hcur]; exact htake) ?_ ?_ (awake_is _ (by omega))
    · intro hyes
      rw [hn8] at hyes
      have hz : ¬ ∀ b ∈ by4.take n, b = 0 := fun z => by rw [hT.2 z] at hyes; exact absurd hyes (by decide)
      rw [blkT_turned m by4 t hb4 he Kn n (by omega) (by omega) hz]
      exact ⟨rfl, rfl⟩
    · intro hno
      rw [hn8] at hno
      rw [turned_null by4 (putL m) Kn n (by omega) (by omega) (hT.1 hno), blkT_put m m2]
      exact ⟨rfl, sameE_yes m 20000000 (by omega) (by omega)⟩
end Go.Proofs.Ytcfkmcbmambchaa.VaSpoilt
