/- Plain laws on what the functions written out for this seat come to. -/
import Derived.Test.YthjgnnldpepdfaaXAx2
import Derived.Test.YthjgnnldpepdfaaVLib
import Derived.Test.YthjgnnldpepdfaaCLib
import Derived.Test.YthjgnnldpepdfaaVaBl
namespace Go.Proofs.Ythjgnnldpepdfaa.VaHas
open Go.RowKit Go.Proofs.Ythjgnnldpepdfaa.XA Go.Proofs.Ythjgnnldpepdfaa.VLib Go.Proofs.Ythjgnnldpepdfaa.CLib Go.Proofs.Ythjgnnldpepdfaa.VaBl Go.Proofs.YthjgnnldpepdfaaW.PrintWords Go.Proofs.YthjgnnldpepdfaaW.PrintLast Go.Proofs.YthjgnnldpepdfaaW.PrintMore
/-! ### whether bits have a key; awake; few -/
def bitS (s : ByteArray) (p : Nat) : Bool := Go.bits .and .u8 (bt s ((p / 8 : Nat) : Int)) (shl .u8 1 ((p % 8 : Nat) : Int)) != 0
def hasFrom (s : ByteArray) (key : List UInt8) (n : Nat) : Nat → Nat → Bool
  | 0, _ => true
  | d + 1, i => bitS s (pl key n i) && hasFrom s key n d (i + 1)
theorem has_l0 (s : ByteArray) (key : List UInt8) (n : Nat) (hn : 0 < n) (hm : n ≤ 1099511627776) (hx : n ≤ 8 * s.size) : ∀ (d i k : Nat), i + d = 6 → d + 1 ≤ k →
    bloom_Has.l0 k s (sm key : Int) ((sm (key ++ [35]) ||| 1 : Nat) : Int) (n : Int) (i : Int) = some (hasFrom s key n d i) := by
  intro d
  induction d with
  | zero =>
    intro i k h hk
    obtain ⟨k, rfl⟩ : ∃ m, k = m + 1 := ⟨k - 1, by omega⟩
    simp only [bloom_Has.l0]
    rw [if_neg (by omega)]; rfl
  | succ d ih =>
    intro i k h hk
    obtain ⟨k, rfl⟩ : ∃ m, k = m + 1 := ⟨k - 1, by omega⟩
    have hp := pl_lt key n i hn
    simp only [bloom_Has.l0]
    rw [if_pos (by omega), if_neg (by omega), pl_int key n i (by omega), div8 _ (by omega), mod8, if_pos (by omega), if_pos (by omega), if_pos (by omega), w64 (by omega) (by omega), show (i : Int) + 1 = ((i + 1 : Nat) : Int) from rfl, ih (i + 1) k (by omega) (by omega)]
    rw [hasFrom]
    show (if bitS s (pl key n i) = true then _ else _) = _
    cases bitS s (pl key n i)
    · rw [if_neg (by decide), Bool.false_and]
    · rw [if_pos rfl, Bool.true_and]
def hasB (s : ByteArray) (key : List UInt8) : Bool := s.toList.isEmpty || hasFrom s key (8 * s.size) 6 0
theorem nil_size (s : ByteArray) : s.toList = [] ↔ s.size = 0 := by
  rw [toList_data, ← len_list]; exact List.length_eq_zero_iff.symm
theorem has_is (s key : ByteArray) (k M : Nat) (hz : s.size ≤ 1000000) (hs : key.size ≤ M) (hM : M ≤ 1000000) (hk : 10 * M + 12 ≤ k) : bloom_Has.f k s key = some (hasB s (tx key)) := by
  obtain ⟨h1, h2⟩ := sum_key key k M hs hM hk
  unfold bloom_Has.f hasB
  by_cases c : s.toList = []
  · rw [if_pos c, c]; rfl
  · have hc : s.toList.isEmpty = false := by cases h : s.toList with | nil => exact absurd h c | cons _ _ => rfl
    have c2 : s.size ≠ 0 := fun h => c ((nil_size s).2 h)
    have e : wrap64 (8 * (s.size : Int)) = ((8 * s.size : Nat) : Int) := by rw [w64 (by omega) (by omega)]; rfl
    rw [if_neg c, h1, Option.bind_some, if_pos (by omega), h2, Option.bind_some, or1 _ (sm_lt _), e, hc, Bool.false_or]
    exact has_l0 s (tx key) (8 * s.size) (by omega) (by omega) (Nat.le_refl _) 6 0 k (by omega) (by omega)
theorem aw1 : hasB (strOfNums (keysP 64 [(⟨#[97]⟩ : ByteArray)] (List.replicate 8 0))) [97] = true := by decide +kernel
theorem aw2 : hasB (strOfNums (keysP 64 [(⟨#[97]⟩ : ByteArray)] (List.replicate 8 0))) [98] = false := by decide +kernel
theorem str_size (xs : List Int) : (strOfNums xs).size = xs.length := by rw [nums_bs, bs_size, List.length_map]
theorem awake_is (k : Nat) (hk : 100 ≤ k) : sorrellaw08_awake.f k = some true := by
  unfold sorrellaw08_awake.f
  have hm := make_is [(⟨#[97]⟩ : ByteArray)] k 1 (by decide) (by decide) (by intro t ht; rw [List.mem_singleton.1 ht]; decide) (by simp only [List.length_cons, List.length_nil]; omega)
  have hz : (strOfNums (keysP 64 [(⟨#[97]⟩ : ByteArray)] (List.replicate 8 0))).size = 8 := by rw [str_size, keysP_len, List.length_replicate]
  have eb : bytesN [(⟨#[97]⟩ : ByteArray)].length = 8 := rfl
  rw [eb] at hm
  have h1 := has_is (strOfNums (keysP 64 [(⟨#[97]⟩ : ByteArray)] (List.replicate 8 0))) (⟨#[97]⟩ : ByteArray) k 1 (by omega) (by decide) (by decide) (by omega)
  have h2 := has_is (strOfNums (keysP 64 [(⟨#[97]⟩ : ByteArray)] (List.replicate 8 0))) (⟨#[98]⟩ : ByteArray) k 1 (by omega) (by decide) (by decide) (by omega)
  have t1 : tx (⟨#[97]⟩ : ByteArray) = [97] := rfl
  have t2 : tx (⟨#[98]⟩ : ByteArray) = [98] := rfl
  rw [t1, aw1] at h1
  rw [t2, aw2] at h2
  rw [hm, Option.bind_some, if_pos rfl, if_pos (by rw [show 8 * 8 = 64 from rfl, hz]; rfl)]
  rw [show 8 * 8 = 64 from rfl, h1, Option.bind_some, if_pos rfl, h2, Option.bind_some, if_neg (by decide)]
  rfl
theorem few_l0 (l : List ByteArray) : ∀ (d i k : Nat), i + d = 100 → 2 * d + 4 ≤ k → ∃ b, sorrellaw08_few.l0 k l (i : Int) = some b ∧ (b = true → l.length ≤ 100 ∧ ∀ t ∈ l.drop i, t.size ≤ 256) := by
  intro d
  induction d with
  | zero =>
    intro i k h hk
    obtain ⟨k, rfl⟩ : ∃ m, k = m + 2 := ⟨k - 2, by omega⟩
    by_cases c : i < l.length
    · refine ⟨false, ?_, fun h => by cases h⟩
      simp only [sorrellaw08_few.l0, sorrellaw08_few.j1]
      rw [if_pos (by omega), decide_eq_false (by omega), if_neg (by decide), decide_eq_false (by omega)]
    · refine ⟨true, ?_, fun _ => ⟨by omega, by rw [List.drop_eq_nil_of_le (by omega)]; simp⟩⟩
      simp only [sorrellaw08_few.l0, sorrellaw08_few.j1]
      rw [if_neg (by omega), if_neg (by decide), decide_eq_true (by omega)]
  | succ d ih =>
    intro i k h hk
    obtain ⟨k, rfl⟩ : ∃ m, k = m + 2 := ⟨k - 2, by omega⟩
    by_cases c : i < l.length
    · have e : l.drop i = l[i] :: l.drop (i + 1) := (List.getElem_cons_drop c).symm
      by_cases g : (l[i]).size ≤ 256
      · obtain ⟨b, h1, h2⟩ := ih (i + 1) k (by omega) (by omega)
        refine ⟨b, ?_, fun hb => ⟨(h2 hb).1, fun t ht => ?_⟩⟩
        · simp only [sorrellaw08_few.l0, sorrellaw08_few.j1]
          rw [if_pos (by omega), decide_eq_true (by omega), if_pos rfl, if_pos (by omega), if_pos (by omega), rdS l i c, if_neg (by omega), w64 (by omega) (by omega)]
          exact h1
        · rw [e] at ht
          rcases List.mem_cons.1 ht with rfl | ht
          · exact g
          · exact (h2 hb).2 t ht
      · refine ⟨false, ?_, fun h => by cases h⟩
        simp only [sorrellaw08_few.l0, sorrellaw08_few.j1]
        rw [if_pos (by omega), decide_eq_true (by omega), if_pos rfl, if_pos (by omega), if_pos (by omega), rdS l i c, if_pos (by omega)]
    · by_cases g : l.length ≤ 100
      · refine ⟨true, ?_, fun _ => ⟨g, by rw [List.drop_eq_nil_of_le (by omega)]; simp⟩⟩
        simp only [sorrellaw08_few.l0, sorrellaw08_few.j1]
        rw [if_neg (by omega), if_neg (by decide), decide_eq_true (by omega)]
      · omega
theorem few_is (l : List ByteArray) (k : Nat) (hk : 300 ≤ k) : ∃ b, sorrellaw08_few.f k l = some b ∧ (b = true → l.length ≤ 100 ∧ ∀ t ∈ l, t.size ≤ 256) := few_l0 l 100 0 k (by omega) (by omega)
end Go.Proofs.Ythjgnnldpepdfaa.VaHas
