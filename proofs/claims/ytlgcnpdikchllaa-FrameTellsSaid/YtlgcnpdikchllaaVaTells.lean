/- Plain laws on what the functions written out for this seat come to. -/
import Derived.Test.YtlgcnpdikchllaaMTells
import Derived.Test.YtlgcnpdikchllaaMTells2
import Derived.Test.YtlgcnpdikchllaaVLib
import Derived.Test.YtlgcnpdikchllaaCLib
import Derived.Test.YtlgcnpdikchllaaBytesRow
import Derived.Test.YtlgcnpdikchllaaVaFrm
import Derived.Test.YtlgcnpdikchllaaVaAll
namespace Go.Proofs.Ytlgcnpdikchllaa.VaTells
open Go.RowKit Go.Proofs.Ytlgcnpdikchllaa.XA Go.Proofs.Ytlgcnpdikchllaa.VLib Go.Proofs.Ytlgcnpdikchllaa.CLib Go.Proofs.Ytlgcnpdikchllaa.BytesRow Go.Proofs.Ytlgcnpdikchllaa.VaFrm Go.Proofs.Ytlgcnpdikchllaa.VaAll Go.Proofs.YtlgcnpdikchllaaW.PrintWords Go.Proofs.YtlgcnpdikchllaaW.PrintLast Go.Proofs.YtlgcnpdikchllaaW.PrintMore
/-! ### bytes turned -/
def nat8 (l : List UInt8) : List Int := List.map (fun (b : UInt8) => ((b.toNat : Nat) : Int)) l
theorem xor8 (a b : UInt8) : Go.bits .xor .u8 ((a.toNat : Nat) : Int) ((b.toNat : Nat) : Int) = (((a ^^^ b).toNat : Nat) : Int) := by
  have h : Go.bits .xor .u8 ((a.toNat : Nat) : Int) ((b.toNat : Nat) : Int) = IntKind.u8.wrap (((BitVec.ofInt 8 ((a.toNat : Nat) : Int)) ^^^ (BitVec.ofInt 8 ((b.toNat : Nat) : Int))).toNat : Int) := rfl
  have e1 : BitVec.ofInt 8 ((a.toNat : Nat) : Int) = a.toBitVec := by apply BitVec.eq_of_toNat_eq; simp
  have e2 : BitVec.ofInt 8 ((b.toNat : Nat) : Int) = b.toBitVec := by apply BitVec.eq_of_toNat_eq; simp
  rw [h, e1, e2, ← UInt8.toBitVec_xor]
  have := (a ^^^ b).toNat_lt
  show IntKind.u8.wrap (((a ^^^ b).toNat : Nat) : Int) = _
  rw [IntKind.wrap_u8]; omega
def turned (by4 l : List UInt8) (K i : Nat) : List UInt8 := l.take K ++ (xs2 ((l.drop K).take i) (by4.take i) ++ l.drop (K + i))
theorem turned_len (by4 l : List UInt8) (hb : by4.length = 4) (K i : Nat) (hi : i ≤ 4) (hl : K + i ≤ l.length) : (xs2 ((l.drop K).take i) (by4.take i)).length = i := by
  rw [xs2_len _ _ (by simp; omega)]; simp; omega
theorem cur_form (by4 l : List UInt8) (hb : by4.length = 4) (K : Nat) : ∀ i, i ≤ 4 → K + i ≤ l.length → curT (nat8 by4) K i (nat8 l) = nat8 (turned by4 l K i)
  | 0, _, _ => by
    rw [curT]; unfold turned
    rw [show xs2 ((l.drop K).take 0) (by4.take 0) = [] from rfl, List.nil_append, Nat.add_zero, List.take_append_drop]
  | i + 1, h1, h2 => by
    have hx := turned_len by4 l hb K i (by omega) (by omega)
    have hK : (l.take K).length = K := by rw [List.length_take]; omega
    have hi : K + i < l.length := by omega
    have hbi : i < by4.length := by omega
    have ed : l.drop (K + i) = l[K + i] :: l.drop (K + (i + 1)) := (List.getElem_cons_drop hi).symm
    have eg : (turned by4 l K i).getD (K + i) 0 = l[K + i] := by
      unfold turned
      rw [List.getD_eq_getElem?_getD, List.getElem?_append_right (by omega), List.getElem?_append_right (by omega), hK, hx, Nat.add_sub_cancel_left, Nat.sub_self, ed]; rfl
    have er : rd (nat8 (turned by4 l K i)) ((K + i : Nat) : Int) = ((l[K + i].toNat : Nat) : Int) := by
      rw [← eg]; unfold rd nat8
      rw [Int.toNat_natCast, List.getD_eq_getElem?_getD, List.getD_eq_getElem?_getD, List.getElem?_map]
      cases (turned by4 l K i)[K + i]? <;> rfl
    have eb : (nat8 by4).getD i 0 = ((by4[i].toNat : Nat) : Int) := by
      unfold nat8; rw [List.getD_eq_getElem?_getD, List.getElem?_map, List.getElem?_eq_getElem hbi]; rfl
    rw [curT, cur_form by4 l hb K i (by omega) (by omega), er, eb, xor8]
    unfold nat8
    rw [← List.map_set]
    refine congrArg _ ?_
    unfold turned
    rw [List.set_append_right _ _ (by omega), List.set_append_right _ _ (by omega), hK, hx, Nat.add_sub_cancel_left, Nat.sub_self, ed, List.set_cons_zero]
    have e3 : (l.drop K).take (i + 1) = (l.drop K).take i ++ [l[K + i]] := by
      rw [List.take_succ_eq_append_getElem (by rw [List.length_drop]; omega), List.getElem_drop]
    have e4 : by4.take (i + 1) = by4.take i ++ [by4[i]] := List.take_succ_eq_append_getElem hbi
    rw [e3, e4]
    unfold xs2
    rw [List.zipWith_append (by simp; omega)]
    simp
theorem xs2_self : ∀ l : List UInt8, xs2 l l = List.replicate l.length 0
  | [] => rfl
  | a :: l => by
    show (a ^^^ a) :: xs2 l l = _
    rw [xs2_self l, UInt8.xor_self]; rfl
theorem xs2_back : ∀ a b : List UInt8, a.length = b.length → xs2 (xs2 a b) a = b
  | [], [], _ => rfl
  | a :: l, b :: m, h => by
    show ((a ^^^ b) ^^^ a) :: xs2 (xs2 l m) l = _
    rw [xs2_back l m (by simpa using h), UInt8.xor_comm a b, UInt8.xor_assoc, UInt8.xor_self, UInt8.xor_zero]
  | [], _ :: _, h => by simp at h
  | _ :: _, [], h => by simp at h
theorem fix4_inj (m n : Nat) (hm : m < 4294967296) (hn : n < 4294967296) (h : fix4 m = fix4 n) : m = n := by
  have h1 := fix4_val m hm
  have h2 := fix4_val n hn
  unfold fix4 at h
  simp only [List.cons.injEq, and_true] at h
  obtain ⟨a, b, c, d⟩ := h
  rw [a, b, c, d] at h1
  omega
theorem turned_seal (by4 t f : List UInt8) (K n : Nat) (h : K + n ≤ t.length) : turned by4 (t ++ f) K n = turned by4 t K n ++ f := by
  unfold turned
  rw [List.take_append_of_le_length (by omega), List.drop_append_of_le_length (by omega), List.drop_append_of_le_length h, List.take_append_of_le_length (by rw [List.length_drop]; omega)]
  simp only [List.append_assoc]
theorem turned_total (by4 t : List UInt8) (hb : by4.length = 4) (K n : Nat) (hn : n ≤ 4) (h : K + n ≤ t.length) : (turned by4 t K n).length = t.length := by
  have := turned_len by4 t hb K n hn h
  unfold turned
  rw [List.length_append, List.length_append, this, List.length_take, List.length_drop]; omega
theorem turned_diff (by4 t : List UInt8) (hb : by4.length = 4) (K n : Nat) (hn : n ≤ 4) (h : K + n ≤ t.length) : xs2 (turned by4 t K n) t = List.replicate K 0 ++ by4.take n ++ List.replicate (t.length - (K + n)) 0 := by
  have hx := turned_len by4 t hb K n hn h
  have e : t = t.take K ++ ((t.drop K).take n ++ t.drop (K + n)) := by
    rw [← List.drop_drop, List.take_append_drop, List.take_append_drop]
  have l1 : ((t.drop K).take n).length = n := by rw [List.length_take, List.length_drop]; omega
  have l2 : (by4.take n).length = n := by rw [List.length_take]; omega
  have l3 : (t.take K).length = K := by rw [List.length_take]; omega
  have z1 : xs2 (t.take K) (t.take K) = List.replicate K 0 := by rw [xs2_self, l3]
  have z2 : xs2 (xs2 ((t.drop K).take n) (by4.take n)) ((t.drop K).take n) = by4.take n := xs2_back _ _ (by rw [l1, l2])
  have z3 : xs2 (t.drop (K + n)) (t.drop (K + n)) = List.replicate (t.length - (K + n)) 0 := by rw [xs2_self, List.length_drop]
  have : xs2 (turned by4 t K n) t = xs2 (t.take K ++ (xs2 ((t.drop K).take n) (by4.take n) ++ t.drop (K + n))) (t.take K ++ ((t.drop K).take n ++ t.drop (K + n))) := by
    rw [← e]; rfl
  rw [this]
  show List.zipWith _ _ _ = _
  rw [List.zipWith_append rfl, List.zipWith_append (by rw [hx, l1])]
  show xs2 _ _ ++ (xs2 _ _ ++ xs2 _ _) = _
  rw [z1, z2, z3, List.append_assoc]
theorem chk_turned (by4 t : List UInt8) (hb : by4.length = 4) (K n : Nat) (hn : n ≤ 4) (h : K + n ≤ t.length) : chk (turned by4 (sealL t) K n) = true ↔ ∀ b ∈ by4.take n, b = 0 := by
  have hl := turned_total by4 t hb K n hn h
  unfold sealL
  rw [turned_seal by4 t _ K n h]
  have hz : (turned by4 t K n ++ fix4 (crcM 0#32 t).toNat).length - 4 = (turned by4 t K n).length := by rw [List.length_append, fix4_len]; omega
  unfold chk
  rw [hz, List.drop_left, List.take_left, decide_eq_true (by rw [List.length_append, fix4_len]; omega), Bool.true_and, beq_iff_eq]
  have e1 : fix4 (crcM 0#32 t).toNat = fix4 (crcM 0#32 (turned by4 t K n)).toNat ↔ crcM 0#32 (turned by4 t K n) = crcM 0#32 t :=
    ⟨fun e => BitVec.eq_of_toNat_eq (fix4_inj _ _ (crcM 0#32 t).isLt (crcM 0#32 (turned by4 t K n)).isLt e).symm, fun e => by rw [e]⟩
  rw [e1, crcM_diff _ _ hl, turned_diff by4 t hb K n hn h]
  constructor
  · intro e; exact crcL_burst K _ _ (by rw [List.length_take]; omega) e
  · intro e
    have hr : by4.take n = List.replicate n 0 := by
      refine List.eq_replicate_iff.2 ⟨by rw [List.length_take]; omega, e⟩
    rw [hr, List.replicate_append_replicate, List.replicate_append_replicate]
    exact crcL_nulls _
theorem rd_at (l : List Int) (i : Nat) : rd l (i : Int) = l.getD i 0 := by unfold rd; rw [Int.toNat_natCast]
theorem nat8_text (l : List UInt8) : strOfNums (nat8 l) = bs l := by
  rw [nums_bs]; unfold nat8
  rw [List.map_map]
  refine congrArg bs ((List.map_congr_left (fun b _ => ?_)).trans (List.map_id l))
  show UInt8.ofNat (((b.toNat : Nat) : Int).toNat) = b
  rw [Int.toNat_natCast, u8_eta]
theorem turT_is (by4 : List UInt8) (hb : by4.length = 4) : ∀ n, n ≤ 4 → (turT (nat8 by4) n = false ↔ ∀ b ∈ by4.take n, b = 0)
  | 0, _ => by simp [turT]
  | n + 1, h => by
    have hbi : n < by4.length := by omega
    have eb : (nat8 by4).getD n 0 = ((by4[n].toNat : Nat) : Int) := by
      unfold nat8; rw [List.getD_eq_getElem?_getD, List.getElem?_map, List.getElem?_eq_getElem hbi]; rfl
    rw [turT, Bool.or_eq_false_iff, turT_is by4 hb n (by omega), eb, List.take_succ_eq_append_getElem hbi]
    have e1 : (((by4[n].toNat : Nat) : Int) != 0) = false ↔ by4[n] = 0 := by
      rw [bne_eq_false_iff_eq]
      exact ⟨fun e => UInt8.toNat_inj.1 (by simpa using e), fun e => by rw [e]; rfl⟩
    rw [e1]
    constructor
    · rintro ⟨a, b⟩ x hx
      rcases List.mem_append.1 hx with hx | hx
      · exact a x hx
      · rw [List.mem_singleton.1 hx]; exact b
    · intro a
      exact ⟨fun x hx => a x (List.mem_append.2 (.inl hx)), a _ (List.mem_append.2 (.inr (List.mem_singleton.2 rfl)))⟩
theorem byte_nat (a : Int) (h : 0 ≤ a ∧ a ≤ 255) : (((UInt8.ofNat a.toNat).toNat : Nat) : Int) = a := by
  rw [u8_ofNat (by omega)]; omega
theorem turned_ahead (by4 A t : List UInt8) (p n : Nat) : turned by4 (A ++ t) (A.length + p) n = A ++ turned by4 t p n := by
  unfold turned
  rw [List.take_length_add_append, Nat.add_assoc, List.drop_length_add_append, List.drop_length_add_append, List.append_assoc]
theorem xs2_null : ∀ (a b : List UInt8), a.length = b.length → (∀ x ∈ b, x = 0) → xs2 a b = a
  | [], [], _, _ => rfl
  | a :: l, b :: m, h, z => by
    show (a ^^^ b) :: xs2 l m = _
    rw [xs2_null l m (by simpa using h) (fun x hx => z x (List.mem_cons_of_mem _ hx)), z b List.mem_cons_self, UInt8.xor_zero]
  | [], _ :: _, h, _ => by simp at h
  | _ :: _, [], h, _ => by simp at h
theorem turned_null (by4 t : List UInt8) (p n : Nat) (h : p + n ≤ t.length) (hn : n ≤ by4.length) (z : ∀ b ∈ by4.take n, b = 0) : turned by4 t p n = t := by
  unfold turned
  rw [xs2_null _ _ (by simp only [List.length_take, List.length_drop]; omega) z, ← List.drop_drop, List.take_append_drop, List.take_append_drop]
/-- A frame of which some bytes of the text are others is none. -/
theorem takeF_turned (by4 t rest : List UInt8) (hb : by4.length = 4) (h : t.length ≤ 262144) (q n : Nat) (hn : n ≤ 4) (hq : q + n ≤ t.length) (hz : ¬ ∀ b ∈ by4.take n, b = 0) :
    takeF (turned by4 (frm t) ((enc t.length).length + q) n ++ rest) = ([], 0, 30) := by
  have hu : (enc t.length).length + q + n ≤ (enc t.length ++ t).length := by rw [List.length_append]; omega
  have hk := fun g => hz ((chk_turned by4 (enc t.length ++ t) hb ((enc t.length).length + q) n hn hu).1 g)
  have hX : turned by4 (frm t) ((enc t.length).length + q) n = enc t.length ++ (turned by4 t q n ++ fix4 (crcM 0#32 (enc t.length ++ t)).toNat) := by
    rw [frm_is, turned_ahead, turned_seal by4 t _ q n hq]
  have ht : (turned by4 t q n).length = t.length := turned_total by4 t hb q n hn hq
  have e : takeX (turned by4 (frm t) ((enc t.length).length + q) n ++ rest) = (turned by4 t q n, (enc t.length).length + t.length, 0) := by
    rw [hX, List.append_assoc, List.append_assoc]
    have := takeX_text (turned by4 t q n) (fix4 (crcM 0#32 (enc t.length ++ t)).toNat ++ rest) (by omega)
    rw [ht] at this
    exact this
  have hl : (turned by4 (frm t) ((enc t.length).length + q) n).length = (enc t.length).length + t.length + 4 := by
    rw [hX]; simp only [List.length_append, fix4_len, ht]; omega
  unfold takeF
  rw [e, if_neg]
  intro g
  have g3 := g.2.2
  dsimp only at g3
  rw [← hl, List.take_left] at g3
  exact hk g3
theorem law_ftells {P Q : Prop} (A0 : Option Addr) (c0 : Nat) (l0 : List ByteArray) (x a0 a1 a2 a3 : Int) {w : World} (hr0 : Kd.C Kd.string w A0 l0.length l0) (hc0 : l0.length ≤ c0) (_ : P) (_ : Q) (h0 : 0 ≤ a0 ∧ a0 ≤ 255) (h1 : 0 ≤ a1 ∧ a1 ≤ 255) (h2 : 0 ≤ a2 ∧ a2 ≤ 255) (h3 : 0 ≤ a3 ∧ a3 ≤ 255) :
    Calls Try.prog 6 #[.slice A0 l0.length c0, .int .i64 x, .agg #[.int .u8 a0, .int .u8 a1, .int .u8 a2, .int .u8 a3]] w fun e w' => e = .returned (.bool true) ∧ Below w.heap.size w w' := by
  by_cases h : okL l0
  · by_cases c : l0.length = 0
    · exact ftells_awake2 100000 A0 c0 l0 x a0 a1 a2 a3 _ _ w hr0 hc0 (all_ok l0 _ h (by omega)) (by omega) (awake_is _ (by omega))
    · obtain ⟨hf, hs⟩ := ok_flat l0 h
      obtain ⟨r, hr, e⟩ := and_small x 255 (by decide)
      have e' : Go.bits .and .i64 x 255 = (r : Int) := e
      have hlt := Nat.mod_lt r (show 0 < l0.length from by omega)
      have hK : Int.tmod (Go.bits .and .i64 x 255) (l0.length : Int) = ((r % l0.length : Nat) : Int) := by rw [e']; exact (Int.ofNat_tmod _ _).symm
      obtain ⟨Kn, hKe⟩ : ∃ Kn, Kn = r % l0.length := ⟨_, rfl⟩
      rw [← hKe] at hK hlt
      clear hKe e e' hr
      obtain ⟨t, ht⟩ : ∃ t, t = l0[Kn] := ⟨_, rfl⟩
      have hts : t.size ≤ 300 := by rw [ht]; exact h.2 _ (List.getElem_mem hlt)
      have htl : (tx t).length = t.size := len_list t
      have hen := endsF_len (l0.map tx) 0
      rw [List.length_map] at hen
      have hsplit : l0.map tx = (l0.map tx).take Kn ++ tx t :: (l0.map tx).drop (Kn + 1) := by
        have : (l0.map tx)[Kn]'(by rw [List.length_map]; exact hlt) = tx t := by rw [ht, List.getElem_map]
        rw [← this, List.getElem_cons_drop, List.take_append_drop]
      obtain ⟨pre, hpre⟩ : ∃ p, p = (l0.map tx).take Kn := ⟨_, rfl⟩
      obtain ⟨post, hpost⟩ : ∃ p, p = (l0.map tx).drop (Kn + 1) := ⟨_, rfl⟩
      rw [← hpre, ← hpost] at hsplit
      have hflat : flat (l0.map tx) = flat pre ++ (frm (tx t) ++ flat post) := by rw [hsplit, flat_app, flat_cons]
      have hpl : ∀ y ∈ pre, y.length ≤ 262144 := fun y hy => hs y (by rw [hsplit]; exact List.mem_append.2 (.inl hy))
      have hql : ∀ y ∈ post, y.length ≤ 262144 := fun y hy => hs y (by rw [hsplit]; exact List.mem_append.2 (.inr (List.mem_cons_of_mem _ hy)))
      have hprem : pre.map bs = l0.take Kn := by rw [hpre, ← List.map_take]; exact tx_bs _
      have hallm : (pre ++ tx t :: post).map bs = l0 := by rw [← hsplit]; exact tx_bs _
      have hE : rd (endsF 0 (l0.map tx)) (Kn : Int) = (((flat pre).length + (frm (tx t)).length : Nat) : Int) := by
        rw [rd_at, endsF_at _ 0 Kn (by rw [List.length_map]; exact hlt), Nat.zero_add, List.take_succ_eq_append_getElem (by rw [List.length_map]; exact hlt), flat_app, List.length_append, flat_cons, flat_nil, List.append_nil, ← hpre, List.getElem_map, ← ht]
      have hfl := frm_len (tx t)
      rw [List.length_append, htl] at hfl
      have hfs : (flat (l0.map tx)).length = (flat pre).length + ((frm (tx t)).length + (flat post).length) := by rw [hflat, List.length_append, List.length_append]
      obtain ⟨r2, hr2, e2⟩ := and_small (x / 256) 65535 (by decide)
      have e2' : Go.bits .and .i64 (x / 256) 65535 = (r2 : Int) := e2
      obtain ⟨q, hq⟩ : ∃ q, q = if t.size = 0 then 0 else r2 % t.size := ⟨_, rfl⟩
      have hq1 : t.size ≠ 0 → Int.tmod (Go.bits .and .i64 (x / 256) 65535) (t.size : Int) = (q : Int) := by
        intro z; rw [hq, if_neg z, e2']; exact (Int.ofNat_tmod _ _).symm
      have hq2 : q ≤ t.size ∧ (t.size ≠ 0 → q < t.size) := by
        by_cases z : t.size = 0
        · rw [hq, if_pos z]; omega
        · rw [hq, if_neg z]; have := Nat.mod_lt r2 (show 0 < t.size from by omega); omega
      clear hq e2 e2' hr2
      obtain ⟨by4, hby⟩ : ∃ l : List UInt8, l = [UInt8.ofNat a0.toNat, UInt8.ofNat a1.toNat, UInt8.ofNat a2.toNat, UInt8.ofNat a3.toNat] := ⟨_, rfl⟩
      have hb : by4.length = 4 := by rw [hby]; rfl
      have hn8 : [a0, a1, a2, a3] = nat8 by4 := by
        rw [hby]; unfold nat8
        simp only [List.map_cons, List.map_nil]
        rw [byte_nat a0 h0, byte_nat a1 h1, byte_nat a2 h2, byte_nat a3 h3]
      obtain ⟨n, hn⟩ : ∃ n, n = min (min 4 t.size) (t.size - q) := ⟨_, rfl⟩
      have hn1 : n ≤ 4 ∧ q + n ≤ t.size := by omega
      have hbz : bytesOf (bs (flat (l0.map tx))) = nat8 (flat (l0.map tx)) := rfl
      have hcur : strOfNums (curT [a0, a1, a2, a3] ((flat pre).length + ((enc t.size).length + q)) n (bytesOf (bs (flat (l0.map tx))))) = bs (flat pre ++ (turned by4 (frm (tx t)) ((enc t.size).length + q) n ++ flat post)) := by
        rw [hn8, hbz, cur_form by4 _ hb _ n (by omega) (by omega), nat8_text, hflat, turned_ahead, turned_seal by4 (frm (tx t)) (flat post) _ n (by omega)]
      have htot := turned_total by4 (frm (tx t)) hb ((enc t.size).length + q) n (by omega) (by omega)
      have hall := fall_is (bs (flat pre ++ (turned by4 (frm (tx t)) ((enc t.size).length + q) n ++ flat post))) 100000 (by rw [bs_size, List.length_append, List.length_append]; omega) (by rw [bs_size, List.length_append, List.length_append]; omega)
      rw [bs_list, allL_flat _ pre hpl] at hall
      have hT := turT_is by4 hb n (by omega)
      refine ftells_calls 100000 A0 c0 l0 x a0 a1 a2 a3 _ _ Kn _ _ _ (q : Int) t ((flat pre).length + ((enc t.size).length + q)) ((flat pre).length + (enc t.size).length + t.size) (t.size - q) (min 4 t.size) _ _ w hr0 hc0 (all_ok l0 _ h (by omega)) (by omega) hK hlt (by omega) (by rw [rdS l0 Kn hlt, ht]) hE rfl rfl (by omega) (by rw [bs_size]; omega) (by rw [bs_size]; omega) hq1 (by omega) (by omega) (by omega) rfl (by rw [← hn, hcur]; exact hall) ?_ ?_ (awake_is _ (by omega))
      · intro hyes
        rw [← hn, hn8] at hyes
        have hz : ¬ ∀ b ∈ by4.take n, b = 0 := fun z => by rw [hT.2 z] at hyes; exact absurd hyes (by decide)
        have hno := allL_none (takeF_turned by4 (tx t) (flat post) hb (by omega) q n (by omega) (by omega) hz)
        rw [htl] at hno
        rw [hno, List.append_nil, hprem]
        exact same_yes _ _ _ rfl (by rw [List.length_take]; have := h.1; omega) (by rw [List.length_take]; have := h.1; omega)
      · intro hno
        rw [← hn, hn8] at hno
        have hz := hT.1 hno
        rw [turned_null by4 (frm (tx t)) _ n (by omega) (by omega) hz]
        have hx := allL_flat [] (tx t :: post) (fun y hy => by
          rcases List.mem_cons.1 hy with rfl | hy
          · omega
          · exact hql y hy)
        rw [List.append_nil, flat_cons, allL_none takeF_nil, List.append_nil] at hx
        rw [hx, hallm]
        exact same_yes _ _ _ rfl (by have := h.1; omega) (by have := h.1; omega)
  · exact ftells_awake1 100000 A0 c0 l0 x a0 a1 a2 a3 _ _ w hr0 hc0 (all_bad l0 _ h (by omega)) (awake_is _ (by omega))
end Go.Proofs.Ytlgcnpdikchllaa.VaTells
