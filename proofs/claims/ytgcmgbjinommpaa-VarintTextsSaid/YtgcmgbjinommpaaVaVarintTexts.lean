/- Plain laws on what the printed functions of the varint form come to. -/
import Derived.Test.YtgcmgbjinommpaaPVarintTextsx2
import Derived.Test.YtgcmgbjinommpaaVLib
namespace Go.Proofs.Ytgcmgbjinommpaa.VaVarintTexts
open Go.RowKit Go.Proofs.Ytgcmgbjinommpaa.PVarintTexts Go.Proofs.Ytgcmgbjinommpaa.VLib Go.Proofs.YtgcmgbjinommpaaW.PrintWords Go.Proofs.YtgcmgbjinommpaaW.PrintLast Go.Proofs.YtgcmgbjinommpaaW.PrintMore
/-! ### varint_Put -/
theorem put_digit (n : Nat) (hb : n < 9223372036854775808) : UInt8.ofNat (Go.bits .or .u8 ((n : Int) % 256) 128).toNat = UInt8.ofNat (n % 128 + 128) := by
  have e : (Go.bits .or .u8 ((n : Int) % 256) 128) = ((n % 128 + 128 : Nat) : Int) := by
    have := hb; rw [or128 _ (by omega) (by omega)]; omega
  rw [e, Int.toNat_natCast]
theorem put_loop : ∀ (f k n : Nat) (xs : List Int), n < 9223372036854775808 → n < 128 ^ (f + 1) → xs.length + f < 1000 → f < k →
    varint_Put.l0 k (n : Int) xs = some (bs ((xs.map fun n => UInt8.ofNat n.toNat) ++ enc n), 0) := by
  have last : ∀ (k n : Nat) (xs : List Int), n < 128 → xs.length < 1000 → 0 < k → varint_Put.l0 k (n : Int) xs = some (bs ((xs.map fun n => UInt8.ofNat n.toNat) ++ enc n), 0) := by
    intro k n xs hn hl hk
    obtain ⟨k, rfl⟩ : ∃ m, k = m + 1 := ⟨k - 1, by omega⟩
    simp only [varint_Put.l0]
    rw [if_neg (by omega), if_pos (by omega), nums_bs, List.map_append, enc_lt hn]
    simp only [List.map_cons, List.map_nil]
    rw [show ((n : Int) % 256).toNat = n from by omega]
  intro f
  induction f with
  | zero => intro k n xs _ h hl hk; exact last k n xs (by simpa using h) (by omega) (by omega)
  | succ f ih =>
    intro k n xs hb h hl hk
    by_cases c : n < 128
    · exact last k n xs c (by omega) (by omega)
    · obtain ⟨k, rfl⟩ : ∃ m, k = m + 1 := ⟨k - 1, by omega⟩
      simp only [varint_Put.l0]
      rw [if_pos (by omega), if_pos (by omega), show (n : Int) / 128 = ((n / 128 : Nat) : Int) from by omega]
      have hn : n / 128 < 128 ^ (f + 1) := by
        rw [Nat.div_lt_iff_lt_mul (by decide)]
        rwa [Nat.pow_succ] at h
      rw [ih k (n / 128) _ (by omega) hn (by simp only [List.length_append, List.length_cons, List.length_nil]; omega) (by omega)]
      simp only [List.map_append, List.map_cons, List.map_nil, List.append_assoc, List.cons_append, List.nil_append]
      rw [put_digit n hb, ← enc_ge c]
theorem put_ok (n k : Nat) (h : n ≤ 4611686018427387904) (hk : 11 ≤ k) : varint_Put.f k (n : Int) = some (bs (enc n), 0) := by
  obtain ⟨k, rfl⟩ : ∃ m, k = m + 1 := ⟨k - 1, by omega⟩
  unfold varint_Put.f
  rw [if_neg (by omega), show decide ((n : Int) > 4611686018427387904) = false from decide_eq_false (by omega)]
  simp only [varint_Put.j0]
  rw [if_neg (by simp), put_loop 8 k n [] (by omega) (by omega) (by simp) (by omega)]
  rfl
theorem put_no (n : Int) (k : Nat) (h : n < 0 ∨ 4611686018427387904 < n) (hk : 1 ≤ k) : varint_Put.f k n = some (bs [], 1) := by
  obtain ⟨k, rfl⟩ : ∃ m, k = m + 1 := ⟨k - 1, by omega⟩
  unfold varint_Put.f
  by_cases c : n < 0
  · rw [if_pos c]; simp only [varint_Put.j0]; rw [if_pos trivial]; rfl
  · rw [if_neg c, show decide (n > 4611686018427387904) = true from decide_eq_true (by omega)]
    simp only [varint_Put.j0]; rw [if_pos trivial]; rfl
/-! ### sorrelref01_Put -/
theorem rput_digit (n : Nat) (hb : n < 9223372036854775808) : UInt8.ofNat ((Go.bits .or .i64 (Go.bits .and .i64 (n : Int) 127) 128) % 256).toNat = UInt8.ofNat (n % 128 + 128) := by
  have e : ((Go.bits .or .i64 (Go.bits .and .i64 (n : Int) 127) 128) % 256) = ((n % 128 + 128 : Nat) : Int) := by
    rw [and127_i64 _ (by omega) (by omega), or128_i64 _ (by omega) (by omega)]; omega
  rw [e, Int.toNat_natCast]
theorem rput_loop : ∀ (f k n : Nat) (xs : List Int), n < 9223372036854775808 → n < 128 ^ (f + 1) → xs.length + f < 1000 → f < k →
    sorrelref01_Put.l0 k (n : Int) xs = some (bs ((xs.map fun n => UInt8.ofNat n.toNat) ++ enc n), 0) := by
  have last : ∀ (k n : Nat) (xs : List Int), n < 128 → xs.length < 1000 → 0 < k → sorrelref01_Put.l0 k (n : Int) xs = some (bs ((xs.map fun n => UInt8.ofNat n.toNat) ++ enc n), 0) := by
    intro k n xs hn hl hk
    obtain ⟨k, rfl⟩ : ∃ m, k = m + 1 := ⟨k - 1, by omega⟩
    simp only [sorrelref01_Put.l0]
    rw [if_neg (by omega), if_pos (by omega), nums_bs, List.map_append, enc_lt hn]
    simp only [List.map_cons, List.map_nil]
    rw [show ((n : Int) % 256).toNat = n from by omega]
  intro f
  induction f with
  | zero => intro k n xs _ h hl hk; exact last k n xs (by simpa using h) (by omega) (by omega)
  | succ f ih =>
    intro k n xs hb h hl hk
    by_cases c : n < 128
    · exact last k n xs c (by omega) (by omega)
    · obtain ⟨k, rfl⟩ : ∃ m, k = m + 1 := ⟨k - 1, by omega⟩
      simp only [sorrelref01_Put.l0]
      rw [if_pos (by omega), if_pos (by omega), show (n : Int) / 128 = ((n / 128 : Nat) : Int) from by omega]
      have hn : n / 128 < 128 ^ (f + 1) := by
        rw [Nat.div_lt_iff_lt_mul (by decide)]
        rwa [Nat.pow_succ] at h
      rw [ih k (n / 128) _ (by omega) hn (by simp only [List.length_append, List.length_cons, List.length_nil]; omega) (by omega)]
      simp only [List.map_append, List.map_cons, List.map_nil, List.append_assoc, List.cons_append, List.nil_append]
      rw [rput_digit n hb, ← enc_ge c]
theorem rput_ok (n k : Nat) (h : n ≤ 4611686018427387904) (hk : 11 ≤ k) : sorrelref01_Put.f k (n : Int) = some (bs (enc n), 0) := by
  obtain ⟨k, rfl⟩ : ∃ m, k = m + 1 := ⟨k - 1, by omega⟩
  unfold sorrelref01_Put.f
  rw [if_neg (by omega), show decide ((n : Int) > 4611686018427387904) = false from decide_eq_false (by omega)]
  simp only [sorrelref01_Put.j0]
  rw [if_neg (by simp), rput_loop 8 k n [] (by omega) (by omega) (by simp) (by omega)]
  rfl
theorem rput_no (n : Int) (k : Nat) (h : n < 0 ∨ 4611686018427387904 < n) (hk : 1 ≤ k) : sorrelref01_Put.f k n = some (bs [], 1) := by
  obtain ⟨k, rfl⟩ : ∃ m, k = m + 1 := ⟨k - 1, by omega⟩
  unfold sorrelref01_Put.f
  by_cases c : n < 0
  · rw [if_pos c]; simp only [sorrelref01_Put.j0]; rw [if_pos trivial]; rfl
  · rw [if_neg c, show decide (n > 4611686018427387904) = true from decide_eq_true (by omega)]
    simp only [sorrelref01_Put.j0]; rw [if_pos trivial]; rfl
/-! ### varint_Take -/
theorem take_loop : ∀ (f k i : Nat) (s : ByteArray) (x : Int), f + i = 9 → i ≤ s.data.toList.length → 0 ≤ x → x < 2 ^ (7 * i) → f < k →
    varint_Take.l0 k s x (i : Int) = some (fromI x i (dcd f (decide (i = 0)) (s.data.toList.drop i))) := by
  intro f
  induction f with
  | zero =>
    intro k i s x hf hi h0 h1 hk
    obtain ⟨k, rfl⟩ : ∃ m, k = m + 1 := ⟨k - 1, by omega⟩
    simp only [varint_Take.l0]
    rw [if_neg (by omega)]
    rfl
  | succ f ih =>
    intro k i s x hf hi h0 h1 hk
    obtain ⟨k, rfl⟩ : ∃ m, k = m + 1 := ⟨k - 1, by omega⟩
    have hsz := len_list s
    simp only [varint_Take.l0]
    rw [if_pos (by omega)]
    by_cases he : i = s.data.toList.length
    · rw [if_pos (by omega), List.drop_eq_nil_of_le (by omega)]
      rfl
    · have hlt : i < s.data.toList.length := by omega
      have hb := s.data.toList[i].toNat_lt
      have hs := step_lt x (s.data.toList[i].toNat : Int) i h0 h1
      rw [if_neg (by omega), if_pos (by omega), if_pos (by omega), w64 (by omega) (by omega), if_pos (by omega)]
      rw [← w64 (n := 7 * (i : Int)) (by omega) (by omega), bt_list s i hlt, step_or x _ i (by omega) h0 h1 (by omega) (by omega), drop_cons s i hlt, w64 (n := (i : Int) + 1) (by omega) (by omega)]
      by_cases c : 128 ≤ s.data.toList[i].toNat
      · rw [if_pos (by omega), fromI_more x _ i f _ _ c]
        exact ih k (i + 1) s _ (by omega) (by omega) hs.1 hs.2 (by omega)
      · rw [if_neg (by omega), fromI_last x _ i f _ _ c]
        by_cases p : i = 0
        · rw [if_neg (by omega), if_neg (show ¬ (decide (i = 0) = false ∧ s.data.toList[i].toNat = 0) by simp [p])]
          split <;> rfl
        · rw [if_pos (by omega)]
          by_cases z : s.data.toList[i].toNat = 0
          · rw [if_pos (by omega), if_pos ⟨by simp [p], z⟩]
          · rw [if_neg (by omega), if_neg (show ¬ (decide (i = 0) = false ∧ s.data.toList[i].toNat = 0) by rintro ⟨_, h⟩; exact z h)]
            split <;> rfl
theorem take_is (s : ByteArray) (k : Nat) (hk : 10 ≤ k) : varint_Take.f k s = some (outI (takeN s.data.toList)) := by
  unfold varint_Take.f
  have := take_loop 9 k 0 s 0 rfl (by omega) (by decide) (by decide) (by omega)
  rw [← fromI_zero]
  exact this
/-! ### sorrelref01_Take -/
theorem rtake_loop : ∀ (f k i : Nat) (s : ByteArray) (x : Int), f + i = 9 → i ≤ s.data.toList.length → 0 ≤ x → x < 2 ^ (7 * i) → f < k →
    sorrelref01_Take.l0 k s x (i : Int) = some (fromI x i (dcd f (decide (i = 0)) (s.data.toList.drop i))) := by
  intro f
  induction f with
  | zero =>
    intro k i s x hf hi h0 h1 hk
    obtain ⟨k, rfl⟩ : ∃ m, k = m + 1 := ⟨k - 1, by omega⟩
    simp only [sorrelref01_Take.l0]
    rw [if_neg (by omega)]
    rfl
  | succ f ih =>
    intro k i s x hf hi h0 h1 hk
    obtain ⟨k, rfl⟩ : ∃ m, k = m + 1 := ⟨k - 1, by omega⟩
    have hsz := len_list s
    simp only [sorrelref01_Take.l0]
    rw [if_pos (by omega)]
    by_cases he : i = s.data.toList.length
    · rw [if_pos (by omega), List.drop_eq_nil_of_le (by omega)]
      rfl
    · have hlt : i < s.data.toList.length := by omega
      have hb := s.data.toList[i].toNat_lt
      have hs := step_lt x (s.data.toList[i].toNat : Int) i h0 h1
      rw [if_neg (by omega), if_pos (by omega), if_pos (by omega), w64 (by omega) (by omega), if_pos (by omega)]
      rw [← w64 (n := 7 * (i : Int)) (by omega) (by omega), bt_list s i hlt, step_or x _ i (by omega) h0 h1 (by omega) (by omega), drop_cons s i hlt, w64 (n := (i : Int) + 1) (by omega) (by omega)]
      by_cases c : 128 ≤ s.data.toList[i].toNat
      · rw [if_neg (by omega), fromI_more x _ i f _ _ c]
        exact ih k (i + 1) s _ (by omega) (by omega) hs.1 hs.2 (by omega)
      · have hn : ¬ (x + (s.data.toList[i].toNat : Int) % 128 * 2 ^ (7 * i) < 0) := by omega
        rw [if_pos (by omega), fromI_last x _ i f _ _ c]
        by_cases z : s.data.toList[i].toNat = 0
        · rw [if_pos (by omega)]
          by_cases p : i = 0
          · rw [if_neg (by omega), if_neg hn, if_neg (show ¬ (decide (i = 0) = false ∧ s.data.toList[i].toNat = 0) by simp [p])]
            split <;> rfl
          · rw [if_pos (by omega), if_pos ⟨by simp [p], z⟩]
        · rw [if_neg (by omega), if_neg hn, if_neg (show ¬ (decide (i = 0) = false ∧ s.data.toList[i].toNat = 0) by rintro ⟨_, h⟩; exact z h)]
          split <;> rfl
theorem rtake_is (s : ByteArray) (k : Nat) (hk : 10 ≤ k) : sorrelref01_Take.f k s = some (outI (takeN s.data.toList)) := by
  unfold sorrelref01_Take.f
  have := rtake_loop 9 k 0 s 0 rfl (by omega) (by decide) (by decide) (by omega)
  rw [← fromI_zero]
  exact this
/-! ### varint_Text, a text with its length ahead -/
theorem text_ok (s : ByteArray) (k : Nat) (h : s.size ≤ 262144) (hk : 11 ≤ k) : varint_Text.f k s = some (bs (enc s.data.toList.length ++ s.data.toList), 0) := by
  unfold varint_Text.f
  have h9 := enc9 (n := s.size) (by omega)
  rw [if_neg (by omega), put_ok s.size k (by omega) hk]
  simp only [Option.bind_some]
  rw [if_pos (by rw [bs_size]; omega), len_list]
  rw [show bs (enc s.size) ++ s = bs (enc s.size ++ s.data.toList) from ext_list (by rw [list_append, bs_list, bs_list])]
theorem text_no (s : ByteArray) (k : Nat) (h : 262144 < s.size) : varint_Text.f k s = some (bs [], 1) := by
  unfold varint_Text.f
  rw [if_pos (by omega)]; rfl
/-! ### sorrelref01_Text, a text with its length ahead -/
theorem rtext_ok (s : ByteArray) (k : Nat) (h : s.size ≤ 262144) (hk : 11 ≤ k) : sorrelref01_Text.f k s = some (bs (enc s.data.toList.length ++ s.data.toList), 0) := by
  unfold sorrelref01_Text.f
  have h9 := enc9 (n := s.size) (by omega)
  rw [if_neg (by omega), rput_ok s.size k (by omega) hk]
  simp only [Option.bind_some]
  rw [if_pos (by rw [bs_size]; omega), len_list]
  rw [show bs (enc s.size) ++ s = bs (enc s.size ++ s.data.toList) from ext_list (by rw [list_append, bs_list, bs_list])]
theorem rtext_no (s : ByteArray) (k : Nat) (h : 262144 < s.size) : sorrelref01_Text.f k s = some (bs [], 1) := by
  unfold sorrelref01_Text.f
  rw [if_pos (by omega)]; rfl
/-! ### varint_TakeText -/
theorem ttext_is (s : ByteArray) (k : Nat) (h : s.size ≤ 4611686018427387904) (hk : 10 ≤ k) : varint_TakeText.f k s = some (outT (takeX s.data.toList)) := by
  unfold varint_TakeText.f
  rw [take_is s k hk]
  simp only [Option.bind_some]
  unfold takeX
  have hl := len_list s
  by_cases e : (takeN s.data.toList).2.2 = 0
  · obtain ⟨h1, h2, h3, h4, h5⟩ := takeN_back s.data.toList (takeN s.data.toList).1 (takeN s.data.toList).2.1 (by rw [← e])
    rw [if_pos e, if_pos (by omega)]
    by_cases g : 262144 < (takeN s.data.toList).1
    · rw [if_pos (by omega), if_pos g]; rfl
    · rw [if_neg (by omega), if_neg g, w64 (by omega) (by omega)]
      by_cases g2 : s.data.toList.length - (takeN s.data.toList).2.1 < (takeN s.data.toList).1
      · rw [if_pos (by omega), if_pos g2]; rfl
      · rw [if_neg (by omega), if_neg g2, w64 (by omega) (by omega), if_pos (by omega), if_pos (by omega), if_pos (by omega)]
        congr 2
        apply ext_list
        rw [extract_list, bs_list, Int.toNat_natCast, show (((takeN s.data.toList).2.1 : Int) + ((takeN s.data.toList).1 : Int)).toNat = (takeN s.data.toList).2.1 + (takeN s.data.toList).1 from by omega, List.drop_take, Nat.add_sub_cancel_left]
  · rw [if_neg e, if_neg (by omega)]; rfl
/-! ### sorrelref01_TakeText -/
theorem rttext_is (s : ByteArray) (k : Nat) (h : s.size ≤ 4611686018427387904) (hk : 10 ≤ k) : sorrelref01_TakeText.f k s = some (outT (takeX s.data.toList)) := by
  unfold sorrelref01_TakeText.f
  rw [rtake_is s k hk]
  simp only [Option.bind_some]
  unfold takeX
  have hl := len_list s
  by_cases e : (takeN s.data.toList).2.2 = 0
  · obtain ⟨h1, h2, h3, h4, h5⟩ := takeN_back s.data.toList (takeN s.data.toList).1 (takeN s.data.toList).2.1 (by rw [← e])
    rw [if_pos e, if_pos (by omega)]
    by_cases g : 262144 < (takeN s.data.toList).1
    · rw [if_pos (by omega), if_pos g]; rfl
    · rw [if_neg (by omega), if_neg g, w64 (by omega) (by omega)]
      by_cases g2 : s.data.toList.length - (takeN s.data.toList).2.1 < (takeN s.data.toList).1
      · rw [if_pos (by omega), if_pos g2]; rfl
      · rw [if_neg (by omega), if_neg g2, w64 (by omega) (by omega), if_pos (by omega), if_pos (by omega), if_pos (by omega)]
        congr 2
        apply ext_list
        rw [extract_list, bs_list, Int.toNat_natCast, show (((takeN s.data.toList).2.1 : Int) + ((takeN s.data.toList).1 : Int)).toNat = (takeN s.data.toList).2.1 + (takeN s.data.toList).1 from by omega, List.drop_take, Nat.add_sub_cancel_left]
  · rw [if_neg e, if_neg (by omega)]; rfl
theorem texts_is (k : Nat) (hk : 11 ≤ k) : sorrellaw01_texts.f k = some true := by
  unfold sorrellaw01_texts.f
  have e : takeX (⟨#[2, 97, 98, 99]⟩ : ByteArray).data.toList = ([97, 98], 3, 0) := by decide +kernel
  have h1 := text_ok (⟨#[97, 98]⟩ : ByteArray) k (by decide) hk
  rw [h1, ttext_is _ k (by decide) (by omega)]
  simp only [Option.bind_some, e, toList_data, bs_list]
  rw [show (⟨#[97, 98]⟩ : ByteArray).data.toList.length = 2 from rfl, enc_lt (by decide)]
  rfl
theorem texts_more (a s : ByteArray) (ha : a.size ≤ 140737488351232) (hs : s.size ≤ 140737488351232) : sorrellaw01_VarintTexts.j0 14 a s false = some true := by
  simp only [sorrellaw01_VarintTexts.j0]
  rw [if_neg (by simp), ttext_is s 13 (by omega) (by omega), rttext_is s 13 (by omega) (by omega)]
  by_cases c : a.size ≤ 262144
  · rw [text_ok a 13 c (by omega), rtext_ok a 13 c (by omega)]
    simp only [Option.bind_some, if_true, bne_self_eq_false, sorrellaw01_VarintTexts.j1]
    have h9 := enc9 (n := a.data.toList.length) (by rw [len_list]; omega)
    have hl := len_list a
    rw [if_neg (by simp), bs_size, List.length_append, if_pos (by omega), ttext_is _ 12 (by rw [size_append, bs_size, List.length_append]; omega) (by omega)]
    simp only [Option.bind_some]
    rw [list_append, bs_list, List.append_assoc, takeX_text _ _ (by omega)]
    dsimp only
    rw [if_pos (by rw [toList_data, toList_data]; rfl), if_pos rfl, if_pos (show ((0 : Nat) : Int) = 0 from rfl), texts_is 12 (by omega)]; rfl
  · rw [text_no a 13 (by omega), rtext_no a 13 (by omega)]
    simp only [Option.bind_some, if_true, bne_self_eq_false, sorrellaw01_VarintTexts.j1]
    rw [if_neg (by simp), if_neg (by decide), texts_is 12 (by omega)]; rfl
theorem texts_no (a s : ByteArray) : sorrellaw01_VarintTexts.j0 14 a s true = some true := by
  simp only [sorrellaw01_VarintTexts.j0]
  rw [if_pos trivial, texts_is 13 (by omega)]; rfl
theorem law_texts : sorrellaw01_VarintTexts.Pure := by
  intro a s ha hs
  refine ⟨14, ?_⟩
  unfold sorrellaw01_VarintTexts.f
  have h : ∀ b, sorrellaw01_VarintTexts.j0 14 a s b = some true := fun b => by
    cases b
    · exact texts_more a s ha hs
    · exact texts_no a s
  simp only [h]
  simp
end Go.Proofs.Ytgcmgbjinommpaa.VaVarintTexts
