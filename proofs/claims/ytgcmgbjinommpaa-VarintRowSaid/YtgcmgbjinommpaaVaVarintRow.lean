/- Plain laws on what the printed functions of the varint form come to. -/
import Derived.Test.YtgcmgbjinommpaaPVarintRowx2
import Derived.Test.YtgcmgbjinommpaaVLib
namespace Go.Proofs.Ytgcmgbjinommpaa.VaVarintRow
open Go.RowKit Go.Proofs.Ytgcmgbjinommpaa.PVarintRow Go.Proofs.Ytgcmgbjinommpaa.VLib Go.Proofs.YtgcmgbjinommpaaW.PrintWords Go.Proofs.YtgcmgbjinommpaaW.PrintLast Go.Proofs.YtgcmgbjinommpaaW.PrintMore
/-! ### varint_Put -/
theorem put_digit (n : Nat) (hb : n < 9223372036854775808) : UInt8.ofNat (Go.bits .or .u8 ((n : Int) % 256) 128).toNat = UInt8.ofNat (n % 128 + 128) := by
  have e : (Go.bits .or .u8 ((n : Int) % 256) 128) = ((n % 128 + 128 : Nat) : Int) := by
    have := hb; rw [or128 _ (by omega) (by omega)]; omega
  rw [e, Int.toNat_natCast]
theorem put_loop : ∀ (f k n : Nat) (xs : List Int), n < 9223372036854775808 → n < 128 ^ (f + 1) → xs.length + f < 1000 → f < k →
    varint_Put.l0 k (n : Int) xs = some (bs ((xs.map fun n => UInt8.ofNat n.toNat) ++ enc n), 0) := by
  have last : ∀ (k n : Nat) (xs : List Int), n < 128 → xs.length < 1000 → 0 < k → varint_Put.l0 k (n : Int) xs = some (bs ((xs.map fun n => UInt8.ofNat n.toNat) ++ enc n), 0) := by
    intro k n xs hn hl hk
    obtain ⟨k, rfl⟩ : ∃ m, k = m + 1 := ⟨k - 1, by omega⟩
    simp only [varint_Put.l0]
    rw [if_neg (by omega), if_pos (by omega), nums_bs, List.map_append, enc_lt hn]
    simp only [List.map_cons, List.map_nil]
    rw [show ((n : Int) % 256).toNat = n from by omega]
  intro f
  induction f with
  | zero => intro k n xs _ h hl hk; exact last k n xs (by simpa using h) (by omega) (by omega)
  | succ f ih =>
    intro k n xs hb h hl hk
    by_cases c : n < 128
    · exact last k n xs c (by omega) (by omega)
    · obtain ⟨k, rfl⟩ : ∃ m, k = m + 1 := ⟨k - 1, by omega⟩
      simp only [varint_Put.l0]
      rw [if_pos (by omega), if_pos (by omega), show (n : Int) / 128 = ((n / 128 : Nat) : Int) from by omega]
      have hn : n / 128 < 128 ^ (f + 1) := by
        rw [Nat.div_lt_iff_lt_mul (by decide)]
        rwa [Nat.pow_succ] at h
      rw [ih k (n / 128) _ (by omega) hn (by simp only [List.length_append, List.length_cons, List.length_nil]; omega) (by omega)]
      simp only [List.map_append, List.map_cons, List.map_nil, List.append_assoc, List.cons_append, List.nil_append]
      rw [put_digit n hb, ← enc_ge c]
theorem put_ok (n k : Nat) (h : n ≤ 4611686018427387904) (hk : 11 ≤ k) : varint_Put.f k (n : Int) = some (bs (enc n), 0) := by
  obtain ⟨k, rfl⟩ : ∃ m, k = m + 1 := ⟨k - 1, by omega⟩
  unfold varint_Put.f
  rw [if_neg (by omega), show decide ((n : Int) > 4611686018427387904) = false from decide_eq_false (by omega)]
  simp only [varint_Put.j0]
  rw [if_neg (by simp), put_loop 8 k n [] (by omega) (by omega) (by simp) (by omega)]
  rfl
theorem put_no (n : Int) (k : Nat) (h : n < 0 ∨ 4611686018427387904 < n) (hk : 1 ≤ k) : varint_Put.f k n = some (bs [], 1) := by
  obtain ⟨k, rfl⟩ : ∃ m, k = m + 1 := ⟨k - 1, by omega⟩
  unfold varint_Put.f
  by_cases c : n < 0
  · rw [if_pos c]; simp only [varint_Put.j0]; rw [if_pos trivial]; rfl
  · rw [if_neg c, show decide (n > 4611686018427387904) = true from decide_eq_true (by omega)]
    simp only [varint_Put.j0]; rw [if_pos trivial]; rfl
/-! ### varint_Take -/
theorem take_loop : ∀ (f k i : Nat) (s : ByteArray) (x : Int), f + i = 9 → i ≤ s.data.toList.length → 0 ≤ x → x < 2 ^ (7 * i) → f < k →
    varint_Take.l0 k s x (i : Int) = some (fromI x i (dcd f (decide (i = 0)) (s.data.toList.drop i))) := by
  intro f
  induction f with
  | zero =>
    intro k i s x hf hi h0 h1 hk
    obtain ⟨k, rfl⟩ : ∃ m, k = m + 1 := ⟨k - 1, by omega⟩
    simp only [varint_Take.l0]
    rw [if_neg (by omega)]
    rfl
  | succ f ih =>
    intro k i s x hf hi h0 h1 hk
    obtain ⟨k, rfl⟩ : ∃ m, k = m + 1 := ⟨k - 1, by omega⟩
    have hsz := len_list s
    simp only [varint_Take.l0]
    rw [if_pos (by omega)]
    by_cases he : i = s.data.toList.length
    · rw [if_pos (by omega), List.drop_eq_nil_of_le (by omega)]
      rfl
    · have hlt : i < s.data.toList.length := by omega
      have hb := s.data.toList[i].toNat_lt
      have hs := step_lt x (s.data.toList[i].toNat : Int) i h0 h1
      rw [if_neg (by omega), if_pos (by omega), if_pos (by omega), w64 (by omega) (by omega), if_pos (by omega)]
      rw [← w64 (n := 7 * (i : Int)) (by omega) (by omega), bt_list s i hlt, step_or x _ i (by omega) h0 h1 (by omega) (by omega), drop_cons s i hlt, w64 (n := (i : Int) + 1) (by omega) (by omega)]
      by_cases c : 128 ≤ s.data.toList[i].toNat
      · rw [if_pos (by omega), fromI_more x _ i f _ _ c]
        exact ih k (i + 1) s _ (by omega) (by omega) hs.1 hs.2 (by omega)
      · rw [if_neg (by omega), fromI_last x _ i f _ _ c]
        by_cases p : i = 0
        · rw [if_neg (by omega), if_neg (show ¬ (decide (i = 0) = false ∧ s.data.toList[i].toNat = 0) by simp [p])]
          split <;> rfl
        · rw [if_pos (by omega)]
          by_cases z : s.data.toList[i].toNat = 0
          · rw [if_pos (by omega), if_pos ⟨by simp [p], z⟩]
          · rw [if_neg (by omega), if_neg (show ¬ (decide (i = 0) = false ∧ s.data.toList[i].toNat = 0) by rintro ⟨_, h⟩; exact z h)]
            split <;> rfl
theorem take_is (s : ByteArray) (k : Nat) (hk : 10 ≤ k) : varint_Take.f k s = some (outI (takeN s.data.toList)) := by
  unfold varint_Take.f
  have := take_loop 9 k 0 s 0 rfl (by omega) (by decide) (by decide) (by omega)
  rw [← fromI_zero]
  exact this
/-! ### the document's bytes -/
theorem enc300 : enc 300 = [172, 2] := by rw [enc_ge (by decide), enc_lt (by decide)]; rfl
theorem numbers_is (k : Nat) (hk : 11 ≤ k) : sorrellaw01_numbers.f k = some true := by
  unfold sorrellaw01_numbers.f
  have e : takeN (⟨#[172, 2, 120]⟩ : ByteArray).data.toList = (300, 2, 0) := by decide +kernel
  have h1 := put_ok 300 k (by decide) hk
  rw [show (((300 : Nat) : Int)) = (300 : Int) from rfl] at h1
  rw [h1, take_is _ k (by omega)]
  simp only [Option.bind_some, e, outI, toList_data, bs_list, enc300]
  rfl
/-- The bytes of numbers, one behind the other; those that have none are left out. -/
def okN (n : Int) : Bool := decide (0 ≤ n) && decide (n ≤ 4611686018427387904)
def encs (l : List Int) : List UInt8 := (l.map fun n => enc n.toNat).flatten
theorem encs_cons (n : Int) (l : List Int) : encs (n :: l) = enc n.toNat ++ encs l := by simp [encs]
theorem encs_snoc (n : Int) (l : List Int) : encs (l ++ [n]) = encs l ++ enc n.toNat := by simp [encs]
theorem encs_len (l : List Int) (h : ∀ x ∈ l, okN x = true) : (encs l).length ≤ 9 * l.length := by
  induction l with
  | nil => simp [encs]
  | cons n l ih =>
    have h1 := h n (by simp)
    have := ih (fun x hx => h x (by simp [hx]))
    simp only [okN, Bool.and_eq_true, decide_eq_true_eq] at h1
    have := enc9 (n := n.toNat) (by omega)
    rw [encs_cons]; simp only [List.length_append, List.length_cons]; omega
theorem row_l1 : ∀ (d k i : Nat) (l : List Int), i + d = l.length → (∀ x ∈ l, okN x = true) → l.length ≤ 30 → d + 11 ≤ k →
    sorrellaw01_VarintRow.l1 (k + 1) (bs (encs (l.drop i))) l (i : Int) = some true := by
  intro d
  induction d with
  | zero =>
    intro k i l hi ho hl hk
    simp only [sorrellaw01_VarintRow.l1]
    rw [if_neg (by omega), List.drop_eq_nil_of_le (by omega), if_pos (by rw [toList_data]; rfl), numbers_is k (by omega)]; rfl
  | succ d ih =>
    intro k i l hi ho hl hk
    obtain ⟨k, rfl⟩ : ∃ m, k = m + 1 := ⟨k - 1, by omega⟩
    simp only [sorrellaw01_VarintRow.l1]
    have hlt : i < l.length := by omega
    have hd : l.drop i = l[i] :: l.drop (i + 1) := (List.getElem_cons_drop hlt).symm
    have hr : rd l (i : Int) = l[i] := by
      unfold rd; rw [Int.toNat_natCast, List.getD_eq_getElem?_getD, List.getElem?_eq_getElem hlt]; rfl
    have h1 := ho l[i] (by simp)
    simp only [okN, Bool.and_eq_true, decide_eq_true_eq] at h1
    have hp := enc_pos l[i].toNat
    rw [if_pos (by omega), take_is _ (k + 1) (by omega)]
    simp only [Option.bind_some]
    rw [bs_list, hd, encs_cons, takeN_enc _ _ (by omega), hr]
    dsimp only
    rw [if_pos (show ((0 : Nat) : Int) = 0 from rfl), if_pos (by omega), if_pos (by omega), if_neg (by omega), bs_size, List.length_append, if_neg (by omega), if_pos (by omega), if_pos (by omega), w64 (by omega) (by omega)]
    have e : (bs (enc l[i].toNat ++ encs (l.drop (i + 1)))).extract ((enc l[i].toNat).length : Int).toNat ((enc l[i].toNat).length + (encs (l.drop (i + 1))).length) = bs (encs (l.drop (i + 1))) := by
      apply ext_list
      rw [extract_list, bs_list, bs_list, Int.toNat_natCast, List.take_of_length_le (by simp), List.drop_left]
    rw [e]
    exact ih k (i + 1) l (by omega) ho hl (by omega)
theorem row_l0 : ∀ (d k i : Nat) (l want : List Int), i + d = 30 → i ≤ l.length → (∀ x ∈ want, okN x = true) → want.length ≤ i → 2 * d + 60 ≤ k → (∀ x ∈ l, (Lit.int .i64 x).wf = true) → l.length ≤ 140737488351232 →
    sorrellaw01_VarintRow.l0 (k + 1) l (bs (encs want)) want (i : Int) = some true := by
  have fin : ∀ (k i : Nat) (l want : List Int), (∀ x ∈ want, okN x = true) → want.length ≤ 30 → 50 ≤ k → sorrellaw01_VarintRow.j1 (k + 1) l (bs (encs want)) want (i : Int) false = some true := by
    intro k i l want ho hl hk
    obtain ⟨k, rfl⟩ : ∃ m, k = m + 1 := ⟨k - 1, by omega⟩
    simp only [sorrellaw01_VarintRow.j1]
    rw [if_neg (by simp)]
    exact row_l1 want.length k 0 want (by omega) ho hl (by omega)
  intro d
  induction d with
  | zero =>
    intro k i l want hi hil ho hl hk hw hn
    obtain ⟨k, rfl⟩ : ∃ m, k = m + 1 := ⟨k - 1, by omega⟩
    simp only [sorrellaw01_VarintRow.l0]
    rw [show decide ((i : Int) < 30) = false from decide_eq_false (by omega)]
    split
    · exact fin k i l want ho (by omega) (by omega)
    · exact fin k i l want ho (by omega) (by omega)
  | succ d ih =>
    intro k i l want hi hil ho hl hk hw hn
    obtain ⟨k, rfl⟩ : ∃ m, k = m + 2 := ⟨k - 2, by omega⟩
    simp only [sorrellaw01_VarintRow.l0]
    by_cases c : i < l.length
    · rw [if_pos (by omega), show decide ((i : Int) < 30) = true from decide_eq_true (by omega)]
      simp only [sorrellaw01_VarintRow.j1]
      have hr : rd l (i : Int) = l[i] := by
        unfold rd; rw [Int.toNat_natCast, List.getD_eq_getElem?_getD, List.getElem?_eq_getElem c]; rfl
      rw [if_pos trivial, if_pos (by omega), if_pos (by omega), hr, w64 (by omega) (by omega)]
      have hel := encs_len want ho
      by_cases o : 0 ≤ l[i] ∧ l[i] ≤ 4611686018427387904
      · obtain ⟨m, hm⟩ := Int.eq_ofNat_of_zero_le o.1
        have h9 := enc9 (n := m) (by omega)
        rw [hm, put_ok m (k + 1) (by omega) (by omega)]
        simp only [Option.bind_some, if_true]
        rw [bs_size, bs_size, if_pos (by omega), if_pos (by omega), bs_append]
        have e : encs want ++ enc m = encs (want ++ [(m : Int)]) := by rw [encs_snoc]; simp
        rw [e]
        refine ih k (i + 1) l (want ++ [(m : Int)]) (by omega) (by omega) ?_ (by simp; omega) (by omega) hw hn
        intro x hx
        rcases List.mem_append.1 hx with h | h
        · exact ho x h
        · simp only [List.mem_singleton] at h
          subst h
          simp only [okN, Bool.and_eq_true, decide_eq_true_eq]; omega
      · rw [put_no l[i] (k + 1) (by omega) (by omega)]
        simp only [Option.bind_some]
        rw [if_neg (by decide)]
        have := ih k (i + 1) l want (by omega) (by omega) ho (by omega) (by omega) hw hn
        by_cases g : l[i] ≥ 0
        · rw [if_pos g, if_neg (by omega)]; exact this
        · rw [if_neg g]; exact this
    · rw [if_neg (by omega)]
      exact fin (k + 1) i l want ho (by omega) (by omega)
theorem law_row : sorrellaw01_VarintRow.Pure := by
  intro l _ hn hw
  refine ⟨201, ?_⟩
  unfold sorrellaw01_VarintRow.f
  exact row_l0 30 200 0 l [] rfl (by omega) (by simp) (by simp) (by omega) hw (by omega)
end Go.Proofs.Ytgcmgbjinommpaa.VaVarintRow
