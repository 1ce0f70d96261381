import Derived.Test.YtlmoafkmhenejaakNMTab9
import Derived.Test.YtlmoafkmhenejaakNVLib
import Derived.Test.YtlmoafkmhenejaakNOpn
import Derived.Test.YtlmoafkmhenejaakNVaB1
import Derived.Test.YtlmoafkmhenejaakNVaBl
import Derived.Test.YtlmoafkmhenejaakNVaRT2
import Derived.Test.YtlmoafkmhenejaakNXAx0
import Derived.Test.YtlmoafkmhenejaakNXAx3
import Derived.Test.YtlmoafkmhenejaakNXAx4
import Derived.Test.YtlmoafkmhenejaakNXAx5
import Derived.Test.YtlmoafkmhenejaakNXAx6
import Derived.Test.YtlmoafkmhenejaakNXAx7
import Derived.Test.YtlmoafkmhenejaakNXAx8
section
namespace Go.Proofs.Ytlmoafkmhenejaa.XA
end Go.Proofs.Ytlmoafkmhenejaa.XA
namespace Go.Proofs.Ytlmoafkmhenejaa.VLib
end Go.Proofs.Ytlmoafkmhenejaa.VLib
namespace Go.Proofs.Ytlmoafkmhenejaa.CLib
end Go.Proofs.Ytlmoafkmhenejaa.CLib
namespace Go.Proofs.Ytlmoafkmhenejaa.XW
end Go.Proofs.Ytlmoafkmhenejaa.XW
namespace Go.Proofs.Ytlmoafkmhenejaa.VaB1
end Go.Proofs.Ytlmoafkmhenejaa.VaB1
namespace Go.Proofs.Ytlmoafkmhenejaa.VaChk
end Go.Proofs.Ytlmoafkmhenejaa.VaChk
namespace Go.Proofs.Ytlmoafkmhenejaa.VaPut
end Go.Proofs.Ytlmoafkmhenejaa.VaPut
namespace Go.Proofs.Ytlmoafkmhenejaa.VaBl
end Go.Proofs.Ytlmoafkmhenejaa.VaBl
namespace Go.Proofs.Ytlmoafkmhenejaa.VaBits
end Go.Proofs.Ytlmoafkmhenejaa.VaBits
namespace Go.Proofs.Ytlmoafkmhenejaa.VaFix
end Go.Proofs.Ytlmoafkmhenejaa.VaFix
namespace Go.Proofs.Ytlmoafkmhenejaa.VaRT
end Go.Proofs.Ytlmoafkmhenejaa.VaRT
namespace Go.Proofs.Ytlmoafkmhenejaa.VaRT2
end Go.Proofs.Ytlmoafkmhenejaa.VaRT2
namespace Go.Proofs.Ytlmoafkmhenejaa.VaPT
end Go.Proofs.Ytlmoafkmhenejaa.VaPT
namespace Go.Proofs.Ytlmoafkmhenejaa.VaBack
end Go.Proofs.Ytlmoafkmhenejaa.VaBack
namespace Go.Proofs.Ytlmoafkmhenejaa.VaTb
end Go.Proofs.Ytlmoafkmhenejaa.VaTb
namespace Go.Proofs.YtlmoafkmhenejaaW.PrintWords
end Go.Proofs.YtlmoafkmhenejaaW.PrintWords
namespace Go.Proofs.YtlmoafkmhenejaaW.PrintLast
end Go.Proofs.YtlmoafkmhenejaaW.PrintLast
namespace Go.Proofs.YtlmoafkmhenejaaW.PrintMore
end Go.Proofs.YtlmoafkmhenejaaW.PrintMore
namespace Go.Proofs.Ytlmoafkmhenejaa.VaTbB
open Go.RowKit Go.Proofs.Ytlmoafkmhenejaa.XA Go.Proofs.Ytlmoafkmhenejaa.VLib Go.Proofs.Ytlmoafkmhenejaa.CLib Go.Proofs.Ytlmoafkmhenejaa.XW Go.Proofs.Ytlmoafkmhenejaa.VaB1 Go.Proofs.Ytlmoafkmhenejaa.VaChk Go.Proofs.Ytlmoafkmhenejaa.VaPut Go.Proofs.Ytlmoafkmhenejaa.VaBl Go.Proofs.Ytlmoafkmhenejaa.VaBits Go.Proofs.Ytlmoafkmhenejaa.VaFix Go.Proofs.Ytlmoafkmhenejaa.VaRT Go.Proofs.Ytlmoafkmhenejaa.VaRT2 Go.Proofs.Ytlmoafkmhenejaa.VaPT Go.Proofs.Ytlmoafkmhenejaa.VaBack Go.Proofs.Ytlmoafkmhenejaa.VaTb Go.Proofs.YtlmoafkmhenejaaW.PrintWords Go.Proofs.YtlmoafkmhenejaaW.PrintLast Go.Proofs.YtlmoafkmhenejaaW.PrintMore
def sizesL : Nat → List UInt8 → List Nat → Option (List Nat)
  | 0, _, acc => some acc
  | n + 1, s, acc => if (takeX s).2.2 = 0 then (if (takeN (s.drop (takeX s).2.1)).2.2 = 0 then sizesL n (s.drop ((takeX s).2.1 + (takeN (s.drop (takeX s).2.1)).2.1)) (acc ++ [(takeN (s.drop (takeX s).2.1)).1]) else none) else none
def outZ : Option (List Nat) → List Int × Bool
  | some l => (l.map (fun (x : Nat) => (x : Int)), true)
  | none => ([], false)
theorem psz_l0 (N : Nat) (hN : N ≤ 4096) : ∀ (n i k p : Nat) (x0 : ByteArray) (acc : List Nat), i + n = N → p ≤ x0.size → x0.size ≤ 1099511627776 → acc.length = i → n + 12 ≤ k → table_sizes.l0 k x0 (p : Int) (acc.map (fun (x : Nat) => (x : Int))) (N : Int) (i : Int) = some (outZ (sizesL n (x0.data.toList.drop p) acc)) := by
  intro n
  induction n with
  | zero =>
    intro i k p x0 acc h hp hs ha hk
    obtain ⟨k, rfl⟩ : ∃ m, k = m + 1 := ⟨k - 1, by omega⟩
    simp only [table_sizes.l0]
    rw [if_neg (by omega)]
    rfl
  | succ n ih =>
    intro i k p x0 acc h hp hs ha hk
    obtain ⟨k, rfl⟩ : ∃ m, k = m + 1 := ⟨k - 1, by omega⟩
    simp only [table_sizes.l0, sizesL]
    rw [if_pos (by omega), if_pos (by omega), if_pos (by omega), Int.toNat_natCast]
    obtain ⟨fs, hfs⟩ : ∃ fs, x0.extract p x0.size = fs := ⟨_, rfl⟩
    have hl : fs.data.toList = x0.data.toList.drop p := by rw [← hfs, ext_drop]
    have hz : fs.size ≤ x0.size := drop_size x0 fs p hl
    rw [hfs, ← hl, ttext_is fs k (by omega) (by omega), Option.bind_some]
    dsimp only [outT]
    have x1 := takeX_le fs.data.toList
    have ln := len_list fs
    by_cases c : (takeX fs.data.toList).2.2 = 0
    · rw [if_pos (by omega), if_pos c, if_pos (by omega), if_pos (by omega), Int.toNat_natCast]
      obtain ⟨gs, hgs⟩ : ∃ gs, fs.extract (takeX fs.data.toList).2.1 fs.size = gs := ⟨_, rfl⟩
      have hg : gs.data.toList = fs.data.toList.drop (takeX fs.data.toList).2.1 := by rw [← hgs, ext_drop]
      rw [hgs, ← hg, take_is gs k (by omega), Option.bind_some]
      dsimp only [outI]
      have x2 := takeN_le gs.data.toList
      have x3 : gs.data.toList.length = fs.data.toList.length - (takeX fs.data.toList).2.1 := by rw [hg, List.length_drop]
      by_cases d : (takeN gs.data.toList).2.2 = 0
      · rw [if_pos (by omega), if_pos d, if_pos (by rw [List.length_map]; omega), w64 (by omega) (by omega), w64 (by omega) (by omega), show (i : Int) + 1 = ((i + 1 : Nat) : Int) from by omega]
        have := ih (i + 1) k ((takeX fs.data.toList).2.1 + (takeN gs.data.toList).2.1) fs (acc ++ [(takeN gs.data.toList).1]) (by omega) (by omega) (by omega) (by rw [List.length_append, List.length_singleton, ha]) (by omega)
        rw [List.map_append, List.map_singleton, Int.natCast_add] at this
        exact this
      · rw [if_neg (by omega), if_neg d]; rfl
    · rw [if_neg (by omega), if_neg c]; rfl
def sizesO (s : List UInt8) : Option (List Nat) := if (takeN s).2.2 = 0 ∧ (takeN s).1 ≤ 4096 then sizesL (takeN s).1 (s.drop (takeN s).2.1) [] else none
theorem psz_is (s : ByteArray) (k : Nat) (hs : s.size ≤ 1099511627776) (hk : 5000 ≤ k) : table_sizes.f k s = some (outZ (sizesO s.data.toList)) := by
  unfold table_sizes.f sizesO
  have x1 := takeN_le s.data.toList
  have ln := len_list s
  rw [take_is s k (by omega), Option.bind_some]
  dsimp only [outI]
  obtain ⟨k, rfl⟩ : ∃ m, k = m + 1 := ⟨k - 1, by omega⟩
  by_cases c : (takeN s.data.toList).2.2 = 0
  · rw [if_pos (by omega)]
    simp only [table_sizes.j0]
    by_cases d : (takeN s.data.toList).1 ≤ 4096
    · rw [decide_eq_false (by omega), if_neg (by decide), if_pos ⟨c, d⟩]
      exact psz_l0 _ d (takeN s.data.toList).1 0 k (takeN s.data.toList).2.1 s [] (by omega) (by omega) hs rfl (by omega)
    · rw [decide_eq_true (by omega), if_pos rfl, if_neg (fun x => d x.2)]; rfl
  · rw [if_neg (by omega)]
    simp only [table_sizes.j0]
    rw [if_pos trivial, if_neg (fun x => c x.1)]; rfl
theorem sizes_foot : ∀ (n : Nat) (l : List S43) (r : List UInt8) (acc : List Nat), okFrom none l = true → l.length + 16 ≤ 16 * n → sizesL (szT n l).length (footT n l ++ r) acc = some (acc ++ szT n l) := by
  intro n
  induction n with
  | zero => intro l r acc _ h; omega
  | succ n ih =>
    intro l r acc ho h
    simp only [szT, footT]
    by_cases q : l.length = 0
    · rw [if_pos q, if_pos q, List.append_nil]; rfl
    · rw [if_neg q, if_neg q]
      obtain ⟨t1, t2, t3, t4⟩ := take16 l q
      have o16 := okF_take 16 l none ho
      have ok := okB_of o16 (by omega)
      have hp := putL_le _ ok
      have hh := head_le _ o16 t2
      have hd : (headK (l.take 16)).length ≤ 262144 := by unfold headK; rw [len_list]; omega
      rw [List.length_cons, sizesL, List.append_assoc, List.append_assoc, takeX_txt _ _ hd]
      dsimp only
      rw [if_pos rfl, List.drop_left, takeN_enc _ _ (by omega)]
      dsimp only
      rw [if_pos rfl, ← List.drop_drop, List.drop_left, List.drop_left, ih _ _ _ (okF_drop 16 l ho) (by omega), List.append_assoc]
      rfl
theorem sizesO_foot (l : List S43) (h : okB l = true) (r : List UInt8) : sizesO (footL l ++ r) = some (szT 300 l) := by
  have hb := (okB_iff l).1 h
  have hf := foot_le 300 l hb.2
  have e : (szT 300 l).length = (l.length + 15) / 16 := by rw [hf.2.2]; omega
  unfold sizesO footL
  rw [List.append_assoc, takeN_enc _ _ (by omega)]
  dsimp only
  rw [if_pos ⟨rfl, by omega⟩, List.drop_left, ← e, List.append_assoc, sizes_foot 300 l _ [] hb.2 (by omega), List.nil_append]
theorem openL_put (kk : Nat) (hk : 10000000 ≤ kk) (s : ByteArray) : ∀ (n : Nat) (l : List S43) (pre post : List UInt8) (acc : List S43), s.data.toList = pre ++ (bodyT n l ++ post) → okFrom none l = true → l.length + 16 ≤ 16 * n → acc.length + l.length ≤ 500000 →
    openL kk s ((szT n l).map (fun (x : Nat) => (x : Int))) pre.length acc = some (some (acc ++ l)) := by
  intro n
  induction n with
  | zero => intro l pre post acc _ _ h; omega
  | succ n ih =>
    intro l pre post acc he ho hn ha
    simp only [szT, bodyT] at he ⊢
    by_cases q : l.length = 0
    · rw [if_pos q, List.map_nil, openL, List.length_eq_zero_iff.1 q, List.append_nil]
    · rw [if_neg q] at he ⊢
      obtain ⟨t1, t2, t3, t4⟩ := take16 l q
      have ok := okB_of (okF_take 16 l none ho) (by omega)
      have hp := putL_le _ ok
      have hl : s.size = pre.length + ((putL (l.take 16)).length + (bodyT n (l.drop 16)).length + post.length) := by
        rw [← len_list, he]; simp only [List.length_append]
      rw [List.map_cons, openL, if_neg (by omega), if_pos (by omega), Int.toNat_natCast]
      have hx : s.extract pre.length (pre.length + (putL (l.take 16)).length) = bs (putL (l.take 16)) := ext_list (by
        rw [extract_list, bs_list, he, List.take_length_add_append, List.drop_left, List.append_assoc, List.take_left])
      rw [hx, btk_is _ kk (by rw [bs_size]; omega) (by rw [bs_size]; omega), Option.bind_some, bs_list, blkT_put _ ok, outB]
      dsimp only
      rw [if_pos rfl, if_pos (by omega)]
      have := ih (l.drop 16) (pre ++ putL (l.take 16)) post (acc ++ l.take 16) (by rw [he]; simp only [List.append_assoc]) (okF_drop 16 l ho) (by omega) (by rw [List.length_append]; omega)
      rw [List.length_append, List.append_assoc, List.take_append_drop] at this
      exact this
theorem tabL_len (l : List S43) : (tabL l).length = (bodyT 300 l).length + ((sfootL l).length + 4) := by unfold tabL; rw [List.length_append, List.length_append, fix4_len]
theorem open_put (l : List S43) (kk : Nat) (hk : 10000000 ≤ kk) (hl : ¬ l.length = 0) (h : okB l = true) : openF kk 300 (bs (tabL l)) = some (some (l, bitsT l)) := by
  have hb := (okB_iff l).1 h
  have hf := footL_le l h
  have hs := sfoot_len l
  have ht := tabL_len l
  have hz : (bs (tabL l)).size = (tabL l).length := bs_size _
  unfold openF
  rw [if_neg (by omega), hz]
  have hx : ((bs (tabL l)).extract ((tabL l).length - 4) (tabL l).length).data.toList = fix4 (sfootL l).length := by
    rw [extract_list, bs_list, List.take_length, ht, show (bodyT 300 l).length + ((sfootL l).length + 4) - 4 = (bodyT 300 l).length + (sfootL l).length from by omega]
    unfold tabL
    rw [← List.drop_drop, List.drop_left, List.drop_left]
  have hx2 : ((bs (tabL l)).extract ((tabL l).length - 4) (tabL l).length).size = 4 := by rw [← len_list, hx, fix4_len]
  have hv := valF_fix (sfootL l).length [] (by omega)
  rw [List.append_nil] at hv
  rw [tfix_is _ kk (by omega) (by omega), Option.bind_some, hx, hv]
  dsimp only
  rw [if_neg (by omega), if_pos (by omega), Int.toNat_natCast, show (tabL l).length - 4 - (sfootL l).length = (bodyT 300 l).length from by omega, show (tabL l).length - 4 = (bodyT 300 l).length + (sfootL l).length from by omega]
  have hy : ((bs (tabL l)).extract (bodyT 300 l).length ((bodyT 300 l).length + (sfootL l).length)).data.toList = sfootL l := by
    rw [extract_list, bs_list]
    unfold tabL
    rw [List.take_length_add_append, List.drop_left, List.take_left]
  have hy2 : ((bs (tabL l)).extract (bodyT 300 l).length ((bodyT 300 l).length + (sfootL l).length)).size = (sfootL l).length := by rw [← len_list, hy]
  rw [psz_is _ kk (by omega) (by omega), Option.bind_some, hy]
  rw [show sizesO (sfootL l) = some (szT 300 l) from sizesO_foot l h _, outZ]
  dsimp only
  have ho := openL_put kk hk (bs (tabL l)) 300 l [] (sfootL l ++ fix4 (sfootL l).length) [] rfl hb.2 (by omega) (by rw [List.length_nil]; omega)
  rw [List.length_nil, List.nil_append] at ho
  rw [if_pos rfl, ho, Option.bind_some]
  dsimp only
  rw [build_ok l kk hk hl h, Option.bind_some]
  dsimp only
  rw [if_pos rfl, if_pos rfl, bits_make l h kk (by omega), Option.bind_some, if_pos (by omega)]
end Go.Proofs.Ytlmoafkmhenejaa.VaTbB
end
section
namespace Go.Proofs.Ytlmoafkmhenejaa.XA
end Go.Proofs.Ytlmoafkmhenejaa.XA
namespace Go.Proofs.Ytlmoafkmhenejaa.VLib
end Go.Proofs.Ytlmoafkmhenejaa.VLib
namespace Go.Proofs.Ytlmoafkmhenejaa.XW
end Go.Proofs.Ytlmoafkmhenejaa.XW
namespace Go.Proofs.Ytlmoafkmhenejaa.VaChk
end Go.Proofs.Ytlmoafkmhenejaa.VaChk
namespace Go.Proofs.Ytlmoafkmhenejaa.VaMade
end Go.Proofs.Ytlmoafkmhenejaa.VaMade
namespace Go.Proofs.YtlmoafkmhenejaaW.PrintWords
end Go.Proofs.YtlmoafkmhenejaaW.PrintWords
namespace Go.Proofs.YtlmoafkmhenejaaW.PrintLast
end Go.Proofs.YtlmoafkmhenejaaW.PrintLast
namespace Go.Proofs.YtlmoafkmhenejaaW.PrintMore
end Go.Proofs.YtlmoafkmhenejaaW.PrintMore
namespace Go.Proofs.Ytlmoafkmhenejaa.VaFnd
open Go.RowKit Go.Proofs.Ytlmoafkmhenejaa.XA Go.Proofs.Ytlmoafkmhenejaa.VLib Go.Proofs.Ytlmoafkmhenejaa.XW Go.Proofs.Ytlmoafkmhenejaa.VaChk Go.Proofs.Ytlmoafkmhenejaa.VaMade Go.Proofs.YtlmoafkmhenejaaW.PrintWords Go.Proofs.YtlmoafkmhenejaaW.PrintLast Go.Proofs.YtlmoafkmhenejaaW.PrintMore
def fnd (key : ByteArray) (q : Int) : List S43 → Option S43
  | [] => none
  | e :: t => if e.f0.toList = key.toList ∧ e.f3 ≤ q then some e else fnd key q t
theorem fnd_cons (key : ByteArray) (q : Int) (e : S43) (t : List S43) : fnd key q (e :: t) = if e.f0.toList = key.toList ∧ e.f3 ≤ q then some e else fnd key q t := rfl
theorem ok_cons (p : Option S43) (e : S43) (r : List S43) : okFrom p (e :: r) = true ↔ mayE e = true ∧ (∀ a, p = some a → LE a e = true) ∧ okFrom (some e) r = true := by
  cases p with
  | none => simp [okFrom]
  | some a => simp [okFrom, and_assoc]
theorem ok_pw : ∀ (l : List S43) (p : Option S43), okFrom p l = true → (∀ a, p = some a → ∀ e ∈ l, LE a e = true) ∧ l.Pairwise (fun a b => LE a b = true) ∧ ∀ e ∈ l, mayE e = true := by
  intro l
  induction l with
  | nil => intro p _; exact ⟨fun a _ e h => (List.not_mem_nil h).elim, List.Pairwise.nil, fun e h => (List.not_mem_nil h).elim⟩
  | cons e t ih =>
    intro p h
    obtain ⟨h1, h2, h3⟩ := (ok_cons p e t).1 h
    obtain ⟨g1, g2, g3⟩ := ih (some e) h3
    refine ⟨fun a ha x hx => ?_, List.Pairwise.cons (fun x hx => g1 e rfl x hx) g2, fun x hx => ?_⟩
    · cases hx with
      | head => exact h2 a ha
      | tail _ hx => exact LE_trans (h2 a ha) (g1 e rfl x hx)
    · cases hx with
      | head => exact h1
      | tail _ hx => exact g3 x hx
theorem fnd_no (key : ByteArray) (q : Int) : ∀ ys : List S43, (∀ y ∈ ys, ¬ y.f0.toList = key.toList) → fnd key q ys = none
  | [], _ => rfl
  | y :: ys, h => by
    rw [fnd_cons, if_neg (fun g => h y List.mem_cons_self g.1)]
    exact fnd_no key q ys (fun a ha => h a (List.mem_cons_of_mem _ ha))
end Go.Proofs.Ytlmoafkmhenejaa.VaFnd
end
section
namespace Go.Proofs.Ytlmoafkmhenejaa.XA
end Go.Proofs.Ytlmoafkmhenejaa.XA
namespace Go.Proofs.Ytlmoafkmhenejaa.VLib
end Go.Proofs.Ytlmoafkmhenejaa.VLib
namespace Go.Proofs.Ytlmoafkmhenejaa.CLib
end Go.Proofs.Ytlmoafkmhenejaa.CLib
namespace Go.Proofs.Ytlmoafkmhenejaa.XW
end Go.Proofs.Ytlmoafkmhenejaa.XW
namespace Go.Proofs.Ytlmoafkmhenejaa.VaB1
end Go.Proofs.Ytlmoafkmhenejaa.VaB1
namespace Go.Proofs.Ytlmoafkmhenejaa.VaChk
end Go.Proofs.Ytlmoafkmhenejaa.VaChk
namespace Go.Proofs.Ytlmoafkmhenejaa.VaPut
end Go.Proofs.Ytlmoafkmhenejaa.VaPut
namespace Go.Proofs.Ytlmoafkmhenejaa.VaBl
end Go.Proofs.Ytlmoafkmhenejaa.VaBl
namespace Go.Proofs.Ytlmoafkmhenejaa.VaHas
end Go.Proofs.Ytlmoafkmhenejaa.VaHas
namespace Go.Proofs.Ytlmoafkmhenejaa.VaBits
end Go.Proofs.Ytlmoafkmhenejaa.VaBits
namespace Go.Proofs.Ytlmoafkmhenejaa.VaFnd
end Go.Proofs.Ytlmoafkmhenejaa.VaFnd
namespace Go.Proofs.Ytlmoafkmhenejaa.VaTb
end Go.Proofs.Ytlmoafkmhenejaa.VaTb
namespace Go.Proofs.YtlmoafkmhenejaaW.PrintWords
end Go.Proofs.YtlmoafkmhenejaaW.PrintWords
namespace Go.Proofs.YtlmoafkmhenejaaW.PrintLast
end Go.Proofs.YtlmoafkmhenejaaW.PrintLast
namespace Go.Proofs.YtlmoafkmhenejaaW.PrintMore
end Go.Proofs.YtlmoafkmhenejaaW.PrintMore
namespace Go.Proofs.Ytlmoafkmhenejaa.VaTbO
open Go.RowKit Go.Proofs.Ytlmoafkmhenejaa.XA Go.Proofs.Ytlmoafkmhenejaa.VLib Go.Proofs.Ytlmoafkmhenejaa.CLib Go.Proofs.Ytlmoafkmhenejaa.XW Go.Proofs.Ytlmoafkmhenejaa.VaB1 Go.Proofs.Ytlmoafkmhenejaa.VaChk Go.Proofs.Ytlmoafkmhenejaa.VaPut Go.Proofs.Ytlmoafkmhenejaa.VaBl Go.Proofs.Ytlmoafkmhenejaa.VaHas Go.Proofs.Ytlmoafkmhenejaa.VaBits Go.Proofs.Ytlmoafkmhenejaa.VaFnd Go.Proofs.Ytlmoafkmhenejaa.VaTb Go.Proofs.YtlmoafkmhenejaaW.PrintWords Go.Proofs.YtlmoafkmhenejaaW.PrintLast Go.Proofs.YtlmoafkmhenejaaW.PrintMore
theorem pw_of (l : List S43) (h : okB l = true) : l.Pairwise (fun a b => LE a b = true) := (ok_pw l none ((okB_iff l).1 h).2).2.1
theorem pw_at (l : List S43) (h : okB l = true) : ∀ (a b : Nat) (ha : a < l.length) (hb : b < l.length), a < b → LE l[a] l[b] = true := List.pairwise_iff_getElem.1 (pw_of l h)
theorem LE_le {a b : S43} (h : LE a b = true) : lt b.f0 a.f0 = false := by
  by_cases c : a.f0.toList = b.f0.toList
  · rw [toList_inj.1 c]; exact lt_irrefl _
  · rw [LE_key c] at h; exact lt_asymm h
theorem keyLt_is (l : List S43) (key : ByteArray) (m : Nat) (h : m < l.length) : keyLt l key (m : Int) = lt l[m].f0 key := by
  unfold keyLt
  rw [rdT l m h]
  rfl
theorem cut_any (l : List S43) (h : okB l = true) (key : ByteArray) : ∃ r, Cut l key r := by
  refine cut_exists l key (fun i j hij hj hlt => ?_)
  rw [keyLt_is l key j hj] at hlt
  rw [keyLt_is l key i (by omega)]
  rcases (show i = j ∨ i < j by omega) with rfl | c
  · exact hlt
  · exact le_lt (LE_le (pw_at l h i j (by omega) hj c)) hlt
def getO : Option S43 → S43 × Bool
  | some e => (e, true)
  | none => (⟨⟨#[]⟩, ⟨#[]⟩, false, 0⟩, false)
theorem fnd_none (key : ByteArray) (q : Int) : ∀ ys : List S43, (∀ y ∈ ys, ¬ (y.f0.toList = key.toList ∧ y.f3 ≤ q)) → fnd key q ys = none
  | [], _ => rfl
  | y :: ys, h => by
    rw [fnd_cons, if_neg (h y List.mem_cons_self)]
    exact fnd_none key q ys (fun a ha => h a (List.mem_cons_of_mem _ ha))
theorem fnd_past (key : ByteArray) (q : Int) (ys : List S43) : ∀ xs : List S43, (∀ x ∈ xs, ¬ (x.f0.toList = key.toList ∧ x.f3 ≤ q)) → fnd key q (xs ++ ys) = fnd key q ys
  | [], _ => rfl
  | x :: xs, h => by
    rw [List.cons_append, fnd_cons, if_neg (h x List.mem_cons_self), fnd_past key q ys xs (fun a ha => h a (List.mem_cons_of_mem _ ha))]
theorem get_from (key : ByteArray) (q : Int) : ∀ ys : List S43, ys.Pairwise (fun a b => LE a b = true) → (∀ y ∈ ys, lt y.f0 key = false) → getF ys key q = getO (fnd key q ys)
  | [], _, _ => rfl
  | y :: ys, hp, hk => by
    obtain ⟨p1, p2⟩ := List.pairwise_cons.1 hp
    rw [getF, fnd_cons]
    by_cases c : y.f0 = key
    · rw [if_pos c]
      by_cases d : y.f3 ≤ q
      · rw [if_pos d, if_pos ⟨by rw [c], d⟩]; rfl
      · rw [if_neg d, if_neg (fun x => d x.2)]
        exact get_from key q ys p2 (fun z hz => hk z (List.mem_cons_of_mem _ hz))
    · rw [if_neg c, if_neg (fun x => c (toList_inj.1 x.1)), fnd_no]
      · rfl
      · intro z hz e
        have e2 : z.f0 = key := toList_inj.1 e
        have g := LE_le (p1 z hz)
        rw [e2] at g
        have k0 := hk y List.mem_cons_self
        rcases lt_tri y.f0 key with t | t | t
        · rw [k0] at t; cases t
        · exact c t
        · rw [g] at t; cases t
theorem get_is (l : List S43) (h : okB l = true) (key : ByteArray) (q : Int) (r : Nat) (hc : Cut l key r) : getF (l.drop r) key q = getO (fnd key q l) := by
  obtain ⟨h1, h2, h3⟩ := hc
  have e : fnd key q l = fnd key q (l.drop r) := by
    conv => lhs; rw [← List.take_append_drop r l]
    refine fnd_past key q _ _ (fun x hx => ?_)
    obtain ⟨a, ha, rfl⟩ := List.getElem_of_mem hx
    rw [List.length_take] at ha
    rw [List.getElem_take]
    have g := h2 a (by omega)
    rw [keyLt_is l key a (by omega)] at g
    intro x
    rw [toList_inj.1 x.1, lt_irrefl] at g
    cases g
  rw [e]
  refine get_from key q _ ((pw_of l h).sublist (List.drop_sublist r l)) (fun y hy => ?_)
  obtain ⟨a, ha, rfl⟩ := List.getElem_of_mem hy
  rw [List.length_drop] at ha
  rw [List.getElem_drop]
  have g := h3 (r + a) (by omega) (by omega)
  rw [keyLt_is l key (r + a) (by omega)] at g
  exact g
theorem fnd_self (l : List S43) (h : okB l = true) (i : Nat) (hi : i < l.length) : fnd l[i].f0 l[i].f3 l = some l[i] := by
  have e : fnd l[i].f0 l[i].f3 l = fnd l[i].f0 l[i].f3 (l.take i ++ l.drop i) := by rw [List.take_append_drop]
  rw [e, fnd_past]
  · rw [← List.getElem_cons_drop hi, fnd_cons, if_pos ⟨rfl, Int.le_refl _⟩]
  · intro x hx y
    obtain ⟨a, ha, rfl⟩ := List.getElem_of_mem hx
    rw [List.length_take] at ha
    rw [List.getElem_take] at y
    have g := pw_at l h a i (by omega) hi (by omega)
    rw [LE_same y.1] at g
    have := of_decide_eq_true g
    omega
theorem has_self (l : List S43) (h : okB l = true) (i : Nat) (hi : i < l.length) (kk : Nat) (hk : 80000 ≤ kk) : bloom_Has.f kk (bitsT l) l[i].f0 = some true := by
  have hz := bitsT_size l
  have hm := (ok_may l none ((okB_iff l).1 h).2 l[i] (List.getElem_mem _)).k64
  rw [has_is (bitsT l) l[i].f0 kk 64 (by omega) hm (by omega) (by omega)]
  exact congrArg some (has_all (keysL l) l[i].f0 ((keys_mem l _).2 ⟨_, List.getElem_mem _, rfl⟩))
end Go.Proofs.Ytlmoafkmhenejaa.VaTbO
end
section
namespace Go.Proofs.Ytlmoafkmhenejaa.XA
end Go.Proofs.Ytlmoafkmhenejaa.XA
namespace Go.Proofs.Ytlmoafkmhenejaa.VLib
end Go.Proofs.Ytlmoafkmhenejaa.VLib
namespace Go.Proofs.Ytlmoafkmhenejaa.CLib
end Go.Proofs.Ytlmoafkmhenejaa.CLib
namespace Go.Proofs.Ytlmoafkmhenejaa.XW
end Go.Proofs.Ytlmoafkmhenejaa.XW
namespace Go.Proofs.YtlmoafkmhenejaaW.PrintWords
end Go.Proofs.YtlmoafkmhenejaaW.PrintWords
namespace Go.Proofs.YtlmoafkmhenejaaW.PrintLast
end Go.Proofs.YtlmoafkmhenejaaW.PrintLast
namespace Go.Proofs.YtlmoafkmhenejaaW.PrintMore
end Go.Proofs.YtlmoafkmhenejaaW.PrintMore
namespace Go.Proofs.Ytlmoafkmhenejaa.VaSp
open Go.RowKit Go.Proofs.Ytlmoafkmhenejaa.XA Go.Proofs.Ytlmoafkmhenejaa.VLib Go.Proofs.Ytlmoafkmhenejaa.CLib Go.Proofs.Ytlmoafkmhenejaa.XW Go.Proofs.YtlmoafkmhenejaaW.PrintWords Go.Proofs.YtlmoafkmhenejaaW.PrintLast Go.Proofs.YtlmoafkmhenejaaW.PrintMore
theorem less_irrefl : ∀ a : List UInt8, Op.bytesLess a a = false
  | [] => rfl
  | x :: a => by
    have := less_irrefl a
    simp only [Op.bytesLess, this, Bool.and_false, Bool.or_false, decide_eq_false_iff_not, UInt8.lt_iff_toNat_lt]
    omega
theorem less_trans : ∀ a b c : List UInt8, Op.bytesLess a b = true → Op.bytesLess b c = true → Op.bytesLess a c = true
  | [], [], _, h, _ => by simp [Op.bytesLess] at h
  | [], _ :: _, [], _, h => by simp [Op.bytesLess] at h
  | [], _ :: _, _ :: _, _, _ => rfl
  | _ :: _, [], _, h, _ => by simp [Op.bytesLess] at h
  | _ :: _, _ :: _, [], _, h => by simp [Op.bytesLess] at h
  | x :: a, y :: b, z :: c, h1, h2 => by
    have ih := less_trans a b c
    simp only [Op.bytesLess, Bool.or_eq_true, Bool.and_eq_true, decide_eq_true_eq, beq_iff_eq, UInt8.lt_iff_toNat_lt] at h1 h2 ⊢
    rcases h1 with h1 | ⟨rfl, h1⟩
    · rcases h2 with h2 | ⟨rfl, h2⟩
      · exact .inl (by omega)
      · exact .inl h1
    · rcases h2 with h2 | ⟨rfl, h2⟩
      · exact .inl h2
      · exact .inr ⟨rfl, ih h1 h2⟩
def lt (a b : ByteArray) : Bool := Op.bytesLess a.toList b.toList
theorem lt_irrefl (a : ByteArray) : lt a a = false := less_irrefl _
theorem lt_trans {a b c : ByteArray} (h1 : lt a b = true) (h2 : lt b c = true) : lt a c = true := less_trans _ _ _ h1 h2
theorem lt_tri (a b : ByteArray) : lt a b = true ∨ a = b ∨ lt b a = true := by
  have h := less_total a.toList b.toList
  cases h1 : lt a b
  · cases h2 : lt b a
    · refine .inr (.inl ?_)
      have e1 : Op.bytesLess a.toList b.toList = false := h1
      have e2 : Op.bytesLess b.toList a.toList = false := h2
      rw [e1, e2] at h
      simp only [Bool.false_or, Bool.not_false, beq_iff_eq] at h
      exact toList_inj.1 h
    · exact .inr (.inr rfl)
  · exact .inl rfl
theorem lt_asymm {a b : ByteArray} (h : lt a b = true) : lt b a = false := by
  cases h2 : lt b a
  · rfl
  · have := lt_trans h h2; rw [lt_irrefl] at this; cases this
theorem le_lt {a b c : ByteArray} (h1 : lt b a = false) (h2 : lt b c = true) : lt a c = true := by
  rcases lt_tri a b with h | rfl | h
  · exact lt_trans h h2
  · exact h2
  · rw [h] at h1; cases h1
def emp (a : ByteArray) : Bool := a.toList == []
theorem emp_iff {a : ByteArray} : emp a = true ↔ a.toList = [] := by unfold emp; exact beq_iff_eq
theorem emp_size (a : ByteArray) : emp a = decide (a.size = 0) := by
  rw [Bool.eq_iff_iff, emp_iff, toList_data, decide_eq_true_eq, ← len_list, List.length_eq_zero_iff]
theorem lt_emp {a b : ByteArray} (h : emp b = true) : lt a b = false := by
  unfold lt; rw [emp_iff.1 h]; cases a.toList <;> rfl
def keyB (s : ByteArray) : Bool := !emp s && decide (s.size ≤ 64)
def aheadB (s hi : ByteArray) : Bool := emp hi || lt s hi
def mayB (lo hi : ByteArray) : Bool := decide (lo.size ≤ 64) && decide (hi.size ≤ 64) && aheadB lo hi
def hasB (lo hi key : ByteArray) : Bool := mayB lo hi && keyB key && !lt key lo && aheadB key hi
theorem key_is (s : ByteArray) : span_Key.f s = some (keyB s) := by
  unfold span_Key.f keyB
  by_cases h : s.toList = []
  · rw [if_pos h, emp_iff.2 h]; rfl
  · have e : emp s = false := by cases h2 : emp s; rfl; exact absurd (emp_iff.1 h2) h
    rw [if_neg h, e]
    simp only [Bool.not_false, Bool.true_and, Option.some.injEq]
    exact decide_eq_decide.2 (by omega)
theorem ahead_is (s hi : ByteArray) : span_ahead.f s hi = some (aheadB s hi) := by
  unfold span_ahead.f aheadB
  by_cases h : hi.toList = []
  · rw [if_pos h, emp_iff.2 h]; rfl
  · have e : emp hi = false := by cases h2 : emp hi; rfl; exact absurd (emp_iff.1 h2) h
    rw [if_neg h, e]; rfl
theorem may_is (lo hi : ByteArray) : span_may.f lo hi = some (mayB lo hi) := by
  unfold span_may.f mayB
  rw [ahead_is]
  by_cases h1 : lo.size ≤ 64
  · rw [if_pos (by omega), decide_eq_true h1]
    by_cases h2 : hi.size ≤ 64
    · rw [if_pos (by omega), decide_eq_true h2]; rfl
    · rw [if_neg (by omega), decide_eq_false h2]; rfl
  · rw [if_neg (by omega), decide_eq_false h1]; rfl
theorem has_is (lo hi key : ByteArray) : span_Has.f lo hi key = some (hasB lo hi key) := by
  unfold span_Has.f hasB
  rw [may_is, key_is, ahead_is]
  have e : Op.bytesLess key.toList lo.toList = lt key lo := rfl
  simp only [Option.bind_some, e]
  cases mayB lo hi <;> cases keyB key <;> cases lt key lo <;> simp
theorem hasB_iff {lo hi key : ByteArray} : hasB lo hi key = true ↔ mayB lo hi = true ∧ keyB key = true ∧ lt key lo = false ∧ aheadB key hi = true := by
  unfold hasB; simp [and_assoc]
theorem aheadB_iff {s hi : ByteArray} : aheadB s hi = true ↔ emp hi = true ∨ lt s hi = true := by unfold aheadB; simp
theorem mayB_iff {lo hi : ByteArray} : mayB lo hi = true ↔ lo.size ≤ 64 ∧ hi.size ≤ 64 ∧ aheadB lo hi = true := by unfold mayB; simp [and_assoc]
theorem keyB_iff {s : ByteArray} : keyB s = true ↔ emp s = false ∧ s.size ≤ 64 := by unfold keyB; simp
structure CutOk (lo hi key : ByteArray) : Prop where
  low : lt lo key = true
  full : emp key = false
  size : key.size ≤ 64
  losize : lo.size ≤ 64
  hisize : hi.size ≤ 64
  up : aheadB key hi = true
theorem CutOk.left {lo hi key : ByteArray} (h : CutOk lo hi key) : mayB lo key = true := mayB_iff.2 ⟨h.losize, h.size, aheadB_iff.2 (.inr h.low)⟩
def inR (lo hi : ByteArray) (l : List S43) : List S43 := l.filter (fun e => hasB lo hi e.f0)
theorem inR_cons (lo hi : ByteArray) (e : S43) (t : List S43) : inR lo hi (e :: t) = if hasB lo hi e.f0 = true then e :: inR lo hi t else inR lo hi t := by
  unfold inR; rw [List.filter_cons]
theorem clip_l0 (lo hi : ByteArray) : ∀ l : List S43, span_Clip.l0 lo hi l = some (inR lo hi l)
  | [] => rfl
  | e :: t => by
    rw [span_Clip.l0, has_is, Option.bind_some, clip_l0 lo hi t, Option.bind_some, inR_cons]
    split <;> rfl
theorem clip_is (lo hi : ByteArray) (l : List S43) (h : l.length < 2932031007402) : span_Clip.f l lo hi = some (inR lo hi l) := by
  unfold span_Clip.f; rw [if_pos h, clip_l0]
end Go.Proofs.Ytlmoafkmhenejaa.VaSp
end
section
namespace Go.Proofs.Ytlmoafkmhenejaa.VLib
end Go.Proofs.Ytlmoafkmhenejaa.VLib
namespace Go.Proofs.Ytlmoafkmhenejaa.Bld
end Go.Proofs.Ytlmoafkmhenejaa.Bld
namespace Go.Proofs.YtlmoafkmhenejaaW.PrintWords
end Go.Proofs.YtlmoafkmhenejaaW.PrintWords
namespace Go.Proofs.YtlmoafkmhenejaaW.PrintLast
end Go.Proofs.YtlmoafkmhenejaaW.PrintLast
namespace Go.Proofs.YtlmoafkmhenejaaW.PrintMore
end Go.Proofs.YtlmoafkmhenejaaW.PrintMore
namespace Go.Proofs.Ytlmoafkmhenejaa.XW
end Go.Proofs.Ytlmoafkmhenejaa.XW
namespace Go.Proofs.Ytlmoafkmhenejaa.XA
open Go.Proofs.Ytlmoafkmhenejaa.VLib Go.Proofs.Ytlmoafkmhenejaa.Bld Go.RowKit Go.Proofs.YtlmoafkmhenejaaW.PrintWords Go.Proofs.YtlmoafkmhenejaaW.PrintLast Go.Proofs.YtlmoafkmhenejaaW.PrintMore Go.Proofs.Ytlmoafkmhenejaa.XW
set_option linter.unusedVariables false
set_option linter.unusedSimpArgs false
def OkB (m : List S43) : Prop := VaChk.okB m = true
theorem OkB.len {m : List S43} (h : OkB m) : m.length ≤ 4096 := ((VaPut.okB_iff m).1 h).1
theorem table_put (kk : Nat) (hk : 10000000 ≤ kk) (m : List S43) (h : OkB m) (hl : 0 < m.length) : ∃ s bits, buildF kk 300 m = some (s, 0) ∧ s.size ≤ 140737488355328 ∧ openF kk 300 s = some (some (m, bits)) ∧ bits = VaTb.bitsT m := by
  have hf := VaTb.footL_le m h
  have hs := VaTb.sfoot_len m
  have ht := VaTbB.tabL_len m
  exact ⟨bs (VaTb.tabL m), VaTb.bitsT m, VaTb.build_ok m kk hk (by omega) h, by rw [bs_size]; omega, VaTbB.open_put m kk hk (by omega) h, rfl⟩
theorem range_ok (p : Value) (m : List S43) (bits lo hi : ByteArray) (w : World) (h : TabAt w p m bits) (hm : m.length ≤ 4096) :
    Calls Try.prog 20 #[p, .agg #[.string lo, .string hi]] w fun e w' => ∃ v, e = .returned v ∧ Kd.R k43 43 w' w.heap.size (fun _ => True) v (VaSp.inR lo hi m) ∧ Below w.heap.size w w' :=
  range_calls p m _ bits lo hi w h (VaSp.clip_is lo hi m (by omega))
theorem get_any (p : Value) (m : List S43) (key : ByteArray) (q : Int) (w : World) (h : TabAt w p m (VaTb.bitsT m)) (hm : OkB m) (hl : 0 < m.length) (b : Bool) (hb : bloom_Has.f 80000 (VaTb.bitsT m) key = some b) :
    Calls Try.prog 22 #[p, .string key, .int .i64 q] w fun e w' => e = .returned (.tuple #[.agg #[.string (VaTbO.getO (if b = true then VaFnd.fnd key q m else none)).1.f0, .string (VaTbO.getO (if b = true then VaFnd.fnd key q m else none)).1.f1, .bool (VaTbO.getO (if b = true then VaFnd.fnd key q m else none)).1.f2, .int .i64 (VaTbO.getO (if b = true then VaFnd.fnd key q m else none)).1.f3], .bool (VaTbO.getO (if b = true then VaFnd.fnd key q m else none)).2]) ∧ Below w.heap.size w w' := by
  cases b with
  | false =>
    refine (get_no 80000 p m (VaTb.bitsT m) key q w h (.inr ⟨hl, hb⟩)).mono ?_
    rintro e w' ⟨rfl, hb⟩
    exact ⟨rfl, hb⟩
  | true =>
    obtain ⟨r, hr⟩ := VaTbO.cut_any m hm key
    have hn := hm.len
    refine (get_yes 80000 (m.length + 1) p m (VaTb.bitsT m) key q r w h hl hn hb (seek_is m key r _ hr (Nat.lt_succ_self _)) hr.1).mono ?_
    rintro e w' ⟨rfl, hb⟩
    rw [if_pos rfl, VaTbO.get_is m hm key q r hr]
    exact ⟨rfl, hb⟩
theorem OkB.may {m : List S43} (h : OkB m) : ∀ e ∈ m, 1 ≤ e.f0.size ∧ e.f0.size ≤ 64 := fun e he => by
  have := VaPut.ok_may m none ((VaPut.okB_iff m).1 h).2 e he
  exact ⟨this.k1, this.k64⟩
theorem OkB.all {m : List S43} (h : OkB m) : VaSp.inR ⟨#[]⟩ ⟨#[]⟩ m = m := by
  unfold VaSp.inR
  rw [List.filter_eq_self]
  intro a ha
  obtain ⟨h1, h2⟩ := h.may a ha
  have e0 : VaSp.emp ⟨#[]⟩ = true := by rw [VaSp.emp_size]; rfl
  refine VaSp.hasB_iff.2 ⟨VaSp.mayB_iff.2 ⟨Nat.zero_le _, Nat.zero_le _, VaSp.aheadB_iff.2 (.inl e0)⟩, VaSp.keyB_iff.2 ⟨?_, h2⟩, ?_, VaSp.aheadB_iff.2 (.inl e0)⟩
  · rw [VaSp.emp_size, decide_eq_false (by omega)]
  · exact VaSp.lt_emp e0
end Go.Proofs.Ytlmoafkmhenejaa.XA
end
section
namespace Go.Proofs.Ytlmoafkmhenejaa.VLib
end Go.Proofs.Ytlmoafkmhenejaa.VLib
namespace Go.Proofs.Ytlmoafkmhenejaa.Bld
end Go.Proofs.Ytlmoafkmhenejaa.Bld
namespace Go.Proofs.YtlmoafkmhenejaaW.PrintWords
end Go.Proofs.YtlmoafkmhenejaaW.PrintWords
namespace Go.Proofs.YtlmoafkmhenejaaW.PrintLast
end Go.Proofs.YtlmoafkmhenejaaW.PrintLast
namespace Go.Proofs.YtlmoafkmhenejaaW.PrintMore
end Go.Proofs.YtlmoafkmhenejaaW.PrintMore
namespace Go.Proofs.Ytlmoafkmhenejaa.XW
end Go.Proofs.Ytlmoafkmhenejaa.XW
namespace Go.Proofs.Ytlmoafkmhenejaa.XA
open Go.Proofs.Ytlmoafkmhenejaa.VLib Go.Proofs.Ytlmoafkmhenejaa.Bld Go.RowKit Go.Proofs.YtlmoafkmhenejaaW.PrintWords Go.Proofs.YtlmoafkmhenejaaW.PrintLast Go.Proofs.YtlmoafkmhenejaaW.PrintMore Go.Proofs.Ytlmoafkmhenejaa.XW
attribute [local go_sem high] max2_str unary_xor_u32 leq_str geq_str gtr_str
attribute [local go_sem] max2_int min2_int max_two min_two max_three min_three max_four min_four
set_option linter.unusedVariables false
set_option linter.unusedSimpArgs false
theorem get_self (p : Value) (m : List S43) (i : Nat) (k v : ByteArray) (g : Bool) (s : Int) (w : World) (h : TabAt w p m (VaTb.bitsT m)) (hm : OkB m) (hi : i < m.length) (hx : rd_T43 m (i : Int) = ⟨k, v, g, s⟩) :
    Calls Try.prog 22 #[p, .string k, .int .i64 s] w fun e w' => e = .returned (.tuple #[.agg #[.string k, .string v, .bool g, .int .i64 s], .bool true]) ∧ Below w.heap.size w w' := by
  have e1 : m[i] = ⟨k, v, g, s⟩ := by rw [← hx]; exact (VaChk.rdT m i hi).symm
  have e2 := VaTbO.has_self m hm i hi 80000 (Nat.le_refl _)
  have e3 := VaTbO.fnd_self m hm i hi
  rw [e1] at e2 e3
  have := get_any p m k s w h hm (by omega) true e2
  rw [if_pos rfl, e3] at this
  exact this
end Go.Proofs.Ytlmoafkmhenejaa.XA
end
