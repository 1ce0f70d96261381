import Derived.Test.YtlmoafkmhenejaakAMTab9
import Derived.Test.YtlmoafkmhenejaakAVLib
import Derived.Test.YtlmoafkmhenejaakACLib
import Derived.Test.YtlmoafkmhenejaakAOpn
import Derived.Test.YtlmoafkmhenejaakAVaB1
import Derived.Test.YtlmoafkmhenejaakAVaBl
import Derived.Test.YtlmoafkmhenejaakAVaRT
import Derived.Test.YtlmoafkmhenejaakAXAx2
import Derived.Test.YtlmoafkmhenejaakAXAx3
import Derived.Test.YtlmoafkmhenejaakAXAx4
import Derived.Test.YtlmoafkmhenejaakAXAx5
import Derived.Test.YtlmoafkmhenejaakAXAx6
import Derived.Test.YtlmoafkmhenejaakAXAx7
import Derived.Test.YtlmoafkmhenejaakAXAx8
import Derived.Test.YtlmoafkmhenejaakAXAx9
import Derived.Test.YtlmoafkmhenejaakAXAx10
import Derived.Test.YtlmoafkmhenejaakABld
import Derived.Test.YtlmoafkmhenejaakAXAx12
import Derived.Test.YtlmoafkmhenejaakAXAx13
import Derived.Test.YtlmoafkmhenejaakAXAx15
section
namespace Go.Proofs.Ytlmoafkmhenejaa.XA
end Go.Proofs.Ytlmoafkmhenejaa.XA
namespace Go.Proofs.Ytlmoafkmhenejaa.VLib
end Go.Proofs.Ytlmoafkmhenejaa.VLib
namespace Go.Proofs.Ytlmoafkmhenejaa.CLib
end Go.Proofs.Ytlmoafkmhenejaa.CLib
namespace Go.Proofs.Ytlmoafkmhenejaa.XW
end Go.Proofs.Ytlmoafkmhenejaa.XW
namespace Go.Proofs.Ytlmoafkmhenejaa.VaB1
end Go.Proofs.Ytlmoafkmhenejaa.VaB1
namespace Go.Proofs.Ytlmoafkmhenejaa.VaChk
end Go.Proofs.Ytlmoafkmhenejaa.VaChk
namespace Go.Proofs.Ytlmoafkmhenejaa.VaPut
end Go.Proofs.Ytlmoafkmhenejaa.VaPut
namespace Go.Proofs.Ytlmoafkmhenejaa.VaBl
end Go.Proofs.Ytlmoafkmhenejaa.VaBl
namespace Go.Proofs.Ytlmoafkmhenejaa.VaBits
end Go.Proofs.Ytlmoafkmhenejaa.VaBits
namespace Go.Proofs.Ytlmoafkmhenejaa.VaFix
end Go.Proofs.Ytlmoafkmhenejaa.VaFix
namespace Go.Proofs.YtlmoafkmhenejaaW.PrintWords
end Go.Proofs.YtlmoafkmhenejaaW.PrintWords
namespace Go.Proofs.YtlmoafkmhenejaaW.PrintLast
end Go.Proofs.YtlmoafkmhenejaaW.PrintLast
namespace Go.Proofs.YtlmoafkmhenejaaW.PrintMore
end Go.Proofs.YtlmoafkmhenejaaW.PrintMore
namespace Go.Proofs.Ytlmoafkmhenejaa.VaTb
open Go.RowKit Go.Proofs.Ytlmoafkmhenejaa.XA Go.Proofs.Ytlmoafkmhenejaa.VLib Go.Proofs.Ytlmoafkmhenejaa.CLib Go.Proofs.Ytlmoafkmhenejaa.XW Go.Proofs.Ytlmoafkmhenejaa.VaB1 Go.Proofs.Ytlmoafkmhenejaa.VaChk Go.Proofs.Ytlmoafkmhenejaa.VaPut Go.Proofs.Ytlmoafkmhenejaa.VaBl Go.Proofs.Ytlmoafkmhenejaa.VaBits Go.Proofs.Ytlmoafkmhenejaa.VaFix Go.Proofs.YtlmoafkmhenejaaW.PrintWords Go.Proofs.YtlmoafkmhenejaaW.PrintLast Go.Proofs.YtlmoafkmhenejaaW.PrintMore
theorem okF_one (p : Option S43) (e : S43) (r : List S43) : okFrom p (e :: r) = true ↔ mayE e = true ∧ (∀ a, p = some a → LE a e = true) ∧ okFrom (some e) r = true := by
  cases p with
  | none => simp [okFrom]
  | some a => simp [okFrom, and_assoc]
theorem okF_nil (p : Option S43) : okFrom p [] = true := by cases p <;> rfl
theorem okF_none {p : Option S43} {l : List S43} (h : okFrom p l = true) : okFrom none l = true := by
  cases l with
  | nil => rfl
  | cons e r => have g := (okF_one p e r).1 h; exact (okF_one none e r).2 ⟨g.1, (fun _ x => by cases x), g.2.2⟩
theorem okF_take : ∀ (n : Nat) (l : List S43) (p : Option S43), okFrom p l = true → okFrom p (l.take n) = true
  | 0, _, p, _ => by rw [List.take_zero]; exact okF_nil p
  | _ + 1, [], p, _ => by rw [List.take_nil]; exact okF_nil p
  | n + 1, e :: r, p, h => by
    have g := (okF_one p e r).1 h; rw [List.take_succ_cons]; exact (okF_one p e _).2 ⟨g.1, g.2.1, okF_take n r _ g.2.2⟩
theorem okF_drop : ∀ (n : Nat) (l : List S43), okFrom none l = true → okFrom none (l.drop n) = true
  | 0, l, h => by rw [List.drop_zero]; exact h
  | _ + 1, [], _ => rfl
  | n + 1, e :: r, h => by rw [List.drop_succ_cons]; exact okF_drop n r (okF_none ((okF_one none e r).1 h).2.2)
theorem okB_of {l : List S43} (h : okFrom none l = true) (hl : l.length ≤ 4096) : okB l = true := (okB_iff l).2 ⟨hl, h⟩
theorem putL_le (l : List S43) (h : okB l = true) : (putL l).length ≤ 400 * l.length + 13 := by
  have hb := (okB_iff l).1 h
  have h1 := bodyL_le l [] (ok_may l none hb.2)
  have h2 := enc9 (n := l.length) (by omega)
  unfold putL sealL
  rw [List.length_append, fix4_len, List.length_append]; omega
def headK (l : List S43) : List UInt8 := (rd_T43 l 0).f0.data.toList
def bodyT : Nat → List S43 → List UInt8
  | 0, _ => []
  | n + 1, l => if l.length = 0 then [] else putL (l.take 16) ++ bodyT n (l.drop 16)
def footT : Nat → List S43 → List UInt8
  | 0, _ => []
  | n + 1, l => if l.length = 0 then [] else txtL (headK (l.take 16)) ++ (enc (putL (l.take 16)).length ++ footT n (l.drop 16))
def szT : Nat → List S43 → List Nat
  | 0, _ => []
  | n + 1, l => if l.length = 0 then [] else (putL (l.take 16)).length :: szT n (l.drop 16)
theorem take16 (l : List S43) (h : ¬ l.length = 0) : (l.take 16).length ≤ 16 ∧ 1 ≤ (l.take 16).length ∧ (l.take 16).length ≤ l.length ∧ (l.drop 16).length = l.length - 16 := by
  rw [List.length_take, List.length_drop]; omega
theorem head_le (l : List S43) (h : okFrom none l = true) (hl : 1 ≤ l.length) : (rd_T43 l 0).f0.size ≤ 64 := by
  have e : rd_T43 l 0 = l[0] := rdT l 0 (by omega)
  rw [e]
  exact (ok_may l none h _ (List.getElem_mem _)).k64
theorem chunk_is (kk : Nat) (hk : 80000 ≤ kk) : ∀ (n : Nat) (l : List S43) (fs b : List UInt8), l.length + 16 ≤ 16 * n → okFrom none l = true → fs.length + 90 * l.length ≤ 1000000000 → b.length + 7000 * l.length ≤ 1000000000 → chunkF kk n l fs b = some (fs ++ footT n l, b ++ bodyT n l) := by
  intro n
  induction n with
  | zero => intro l fs b h; omega
  | succ n ih =>
    intro l fs b h ho hf hb; simp only [chunkF, footT, bodyT]
    by_cases q : l.length = 0
    · rw [if_pos q, if_pos q, if_pos q, List.append_nil, List.append_nil]
    · rw [if_neg q, if_neg q, if_neg q]; obtain ⟨t1, t2, t3, t4⟩ := take16 l q; have o16 := okF_take 16 l none ho; have ok := okB_of o16 (by omega); have hp := putL_le _ ok; have hh := head_le _ o16 t2; have hz : (bs (putL (l.take 16))).size = (putL (l.take 16)).length := bs_size _; have e1 := enc9 (n := (headK (l.take 16)).length) (by unfold headK; rw [len_list]; omega); have e2 := enc9 (n := (putL (l.take 16)).length) (by omega); have hd : (headK (l.take 16)).length ≤ 64 := by unfold headK; rw [len_list]; exact hh
      rw [bput_ok _ kk ok (by omega), Option.bind_some]; dsimp only; rw [hz, text_ok _ kk (by omega) (by omega), Option.bind_some, put_ok _ kk (by omega) (by omega), Option.bind_some]; dsimp only; rw [bs_list, bs_list, bs_list, bs_size, bs_size]; rw [show enc (rd_T43 (l.take 16) 0).f0.data.toList.length ++ (rd_T43 (l.take 16) 0).f0.data.toList = txtL (headK (l.take 16)) from rfl]; have z : (txtL (headK (l.take 16))).length ≤ 73 := by unfold txtL; rw [List.length_append]; omega
      rw [if_pos ⟨by omega, by omega⟩, ih _ _ _ (by omega) (okF_drop 16 l ho) (by simp only [List.length_append]; omega) (by simp only [List.length_append]; omega)]; simp only [List.append_assoc]
theorem foot_le : ∀ (n : Nat) (l : List S43), okFrom none l = true → (footT n l).length ≤ 90 * l.length ∧ (bodyT n l).length ≤ 7000 * l.length ∧ (szT n l).length = min n ((l.length + 15) / 16) := by
  intro n
  induction n with
  | zero => intro l _; simp [footT, bodyT, szT]
  | succ n ih =>
    intro l ho; simp only [footT, bodyT, szT]
    by_cases q : l.length = 0
    · rw [if_pos q, if_pos q, if_pos q, q]; simp
    · rw [if_neg q, if_neg q, if_neg q]; obtain ⟨t1, t2, t3, t4⟩ := take16 l q; have o16 := okF_take 16 l none ho; have ok := okB_of o16 (by omega); have hp := putL_le _ ok; have hh := head_le _ o16 t2; have e1 := enc9 (n := (headK (l.take 16)).length) (by unfold headK; rw [len_list]; omega); have e2 := enc9 (n := (putL (l.take 16)).length) (by omega); have hd : (headK (l.take 16)).length ≤ 64 := by unfold headK; rw [len_list]; exact hh
      obtain ⟨i1, i2, i3⟩ := ih _ (okF_drop 16 l ho)
      unfold txtL
      simp only [List.length_append, List.length_cons]; refine ⟨by omega, by omega, ?_⟩; rw [i3, t4]
      omega
theorem cmp_mem (x : ByteArray) : ∀ xs : List ByteArray, x ∈ cmpL xs ↔ x ∈ xs := by
  intro xs
  induction xs with
  | nil => simp [cmpL]
  | cons a t ih =>
    cases t with
    | nil => simp [cmpL]
    | cons b t =>
      simp only [cmpL]
      split
      · next h => rw [ih, h]; simp
      · rw [List.mem_cons, ih]; simp
theorem cmp_len : ∀ xs : List ByteArray, (cmpL xs).length ≤ xs.length := by
  intro xs
  induction xs with
  | nil => simp [cmpL]
  | cons a t ih =>
    cases t with
    | nil => simp [cmpL]
    | cons b t =>
      simp only [cmpL]; simp only [List.length_cons] at ih ⊢
      split
      · omega
      · rw [List.length_cons]; omega
theorem keys_len (l : List S43) : (keysL l).length ≤ l.length := by
  have := cmp_len (l.map (·.f0))
  rw [List.length_map] at this
  exact this
theorem keys_mem (l : List S43) (x : ByteArray) : x ∈ keysL l ↔ ∃ e ∈ l, e.f0 = x := by
  unfold keysL
  rw [cmp_mem, List.mem_map]
def bitsT (l : List S43) : ByteArray := bitsOf (keysL l)
theorem bits_make (l : List S43) (h : okB l = true) (kk : Nat) (hk : 80000 ≤ kk) : bloom_Make.f kk (keysL l) = some (bitsT l, 0) := by
  have hb := (okB_iff l).1 h
  have h1 := keys_len l
  exact make_bits (keysL l) kk 64 (by omega) (by omega) (fun t ht => by
    obtain ⟨e, he, rfl⟩ := (keys_mem l t).1 ht; exact (ok_may l none hb.2 e he).k64) (by omega)
theorem bitsT_size (l : List S43) : 8 ≤ (bitsT l).size ∧ (bitsT l).size ≤ 6000 := by
  unfold bitsT
  rw [bitsOf_size]
  exact bytesN_pos _
def footL (l : List S43) : List UInt8 := enc ((l.length + 15) / 16) ++ (footT 300 l ++ txtL (bitsT l).data.toList)
def sfootL (l : List S43) : List UInt8 := sealL (footL l)
def tabL (l : List S43) : List UInt8 := bodyT 300 l ++ (sfootL l ++ fix4 (sfootL l).length)
theorem sfoot_len (l : List S43) : (sfootL l).length = (footL l).length + 4 := by unfold sfootL sealL; rw [List.length_append, fix4_len]
theorem footL_le (l : List S43) (h : okB l = true) : (footL l).length ≤ 400000 ∧ (bodyT 300 l).length ≤ 30000000 := by
  have hb := (okB_iff l).1 h
  have h1 := foot_le 300 l hb.2
  have h2 := bitsT_size l
  have h3 := len_list (bitsT l)
  have h4 := enc9 (n := (l.length + 15) / 16) (by omega)
  have h5 := enc9 (n := (bitsT l).data.toList.length) (by omega)
  unfold footL txtL
  simp only [List.length_append]
  omega
theorem bodyT_succ (n : Nat) (l : List S43) : bodyT (n + 1) l = if l.length = 0 then [] else putL (l.take 16) ++ bodyT n (l.drop 16) := rfl
theorem body_ne_ (n : Nat) (l : List S43) (h : ¬ l.length = 0) : bodyT (n + 1) l ≠ [] := by
  intro e
  have e := congrArg List.length e
  rw [bodyT_succ, if_neg h] at e
  unfold putL sealL at e
  simp only [List.length_append, fix4_len, List.length_nil] at e
  omega
theorem body_ne (l : List S43) (h : ¬ l.length = 0) : bodyT 300 l ≠ [] := body_ne_ 299 l h
theorem build_ok (l : List S43) (kk : Nat) (hk : 10000000 ≤ kk) (hl : ¬ l.length = 0) (h : okB l = true) : buildF kk 300 l = some (bs (tabL l), 0) := by
  have hb := (okB_iff l).1 h
  have hf := footL_le l h
  have ht := foot_le 300 l hb.2
  have hs := sfoot_len l
  have hz := bitsT_size l
  have hy := len_list (bitsT l)
  have e0 := enc_pos ((l.length + 15) / 16)
  have e9 := enc9 (n := (l.length + 15) / 16) (by omega)
  have ez := enc9 (n := (bitsT l).data.toList.length) (by omega)
  unfold buildF
  rw [if_neg hl, check_is_ l kk (by omega), if_pos h, Option.bind_some, if_pos rfl, put_ok _ kk (by omega) (by omega), Option.bind_some]
  dsimp only
  rw [bs_list, chunk_is kk (by omega) 300 l _ [] (by omega) hb.2 (by omega) (by rw [List.length_nil]; omega), Option.bind_some, bits_make l h kk (by omega), Option.bind_some]
  dsimp only
  rw [text_ok _ kk (by omega) (by omega), Option.bind_some]
  dsimp only
  rw [bs_list, List.nil_append]
  rw [show (⟨(enc ((l.length + 15) / 16) ++ footT 300 l ++ (enc (bitsT l).data.toList.length ++ (bitsT l).data.toList)).toArray⟩ : ByteArray) = bs (footL l) from by unfold footL txtL bs; rw [List.append_assoc]]
  rw [seal_is _ kk (by rw [bs_size]; omega) (by rw [bs_size]; omega), Option.bind_some, bs_list]
  rw [show sealL (footL l) = sfootL l from rfl, bs_size, fix_is _ (by omega), Option.bind_some]
  dsimp only
  rw [if_pos ⟨by rw [bs_size]; omega, by rw [bs_size]; simp only [List.length_append]; omega, fun e => by
    have e := congrArg List.length e; simp only [List.length_append, List.length_nil] at e
    omega, body_ne l hl, by omega, by rw [bs_size, fix4_len]; omega⟩]
  rw [show (⟨(bodyT 300 l).toArray⟩ : ByteArray) = bs (bodyT 300 l) from rfl, bs_append, bs_append, List.append_assoc]
  rfl
theorem build_no (l : List S43) (kk : Nat) (hk : 10000000 ≤ kk) (h : l.length = 0 ∨ okB l = false) : buildF kk 300 l = some (⟨#[]⟩, 1) := by
  unfold buildF
  by_cases q : l.length = 0
  · rw [if_pos q]
  · rw [if_neg q, check_is_ l kk (by omega)]
    rcases h with h | h
    · exact absurd h q
    · rw [h, if_neg (by decide), Option.bind_some, if_neg (by decide)]
end Go.Proofs.Ytlmoafkmhenejaa.VaTb
end
section
namespace Go.Proofs.Ytlmoafkmhenejaa.XA
end Go.Proofs.Ytlmoafkmhenejaa.XA
namespace Go.Proofs.Ytlmoafkmhenejaa.VLib
end Go.Proofs.Ytlmoafkmhenejaa.VLib
namespace Go.Proofs.Ytlmoafkmhenejaa.CLib
end Go.Proofs.Ytlmoafkmhenejaa.CLib
namespace Go.Proofs.Ytlmoafkmhenejaa.XW
end Go.Proofs.Ytlmoafkmhenejaa.XW
namespace Go.Proofs.Ytlmoafkmhenejaa.VaB1
end Go.Proofs.Ytlmoafkmhenejaa.VaB1
namespace Go.Proofs.Ytlmoafkmhenejaa.VaChk
end Go.Proofs.Ytlmoafkmhenejaa.VaChk
namespace Go.Proofs.Ytlmoafkmhenejaa.VaPut
end Go.Proofs.Ytlmoafkmhenejaa.VaPut
namespace Go.Proofs.Ytlmoafkmhenejaa.VaBl
end Go.Proofs.Ytlmoafkmhenejaa.VaBl
namespace Go.Proofs.Ytlmoafkmhenejaa.VaBits
end Go.Proofs.Ytlmoafkmhenejaa.VaBits
namespace Go.Proofs.Ytlmoafkmhenejaa.VaFix
end Go.Proofs.Ytlmoafkmhenejaa.VaFix
namespace Go.Proofs.Ytlmoafkmhenejaa.VaRT
end Go.Proofs.Ytlmoafkmhenejaa.VaRT
namespace Go.Proofs.Ytlmoafkmhenejaa.VaRT2
end Go.Proofs.Ytlmoafkmhenejaa.VaRT2
namespace Go.Proofs.Ytlmoafkmhenejaa.VaPT
end Go.Proofs.Ytlmoafkmhenejaa.VaPT
namespace Go.Proofs.Ytlmoafkmhenejaa.VaBack
end Go.Proofs.Ytlmoafkmhenejaa.VaBack
namespace Go.Proofs.Ytlmoafkmhenejaa.VaTb
end Go.Proofs.Ytlmoafkmhenejaa.VaTb
namespace Go.Proofs.YtlmoafkmhenejaaW.PrintWords
end Go.Proofs.YtlmoafkmhenejaaW.PrintWords
namespace Go.Proofs.YtlmoafkmhenejaaW.PrintLast
end Go.Proofs.YtlmoafkmhenejaaW.PrintLast
namespace Go.Proofs.YtlmoafkmhenejaaW.PrintMore
end Go.Proofs.YtlmoafkmhenejaaW.PrintMore
namespace Go.Proofs.Ytlmoafkmhenejaa.VaTbB
open Go.RowKit Go.Proofs.Ytlmoafkmhenejaa.XA Go.Proofs.Ytlmoafkmhenejaa.VLib Go.Proofs.Ytlmoafkmhenejaa.CLib Go.Proofs.Ytlmoafkmhenejaa.XW Go.Proofs.Ytlmoafkmhenejaa.VaB1 Go.Proofs.Ytlmoafkmhenejaa.VaChk Go.Proofs.Ytlmoafkmhenejaa.VaPut Go.Proofs.Ytlmoafkmhenejaa.VaBl Go.Proofs.Ytlmoafkmhenejaa.VaBits Go.Proofs.Ytlmoafkmhenejaa.VaFix Go.Proofs.Ytlmoafkmhenejaa.VaRT Go.Proofs.Ytlmoafkmhenejaa.VaRT2 Go.Proofs.Ytlmoafkmhenejaa.VaPT Go.Proofs.Ytlmoafkmhenejaa.VaBack Go.Proofs.Ytlmoafkmhenejaa.VaTb Go.Proofs.YtlmoafkmhenejaaW.PrintWords Go.Proofs.YtlmoafkmhenejaaW.PrintLast Go.Proofs.YtlmoafkmhenejaaW.PrintMore
def sizesL : Nat → List UInt8 → List Nat → Option (List Nat)
  | 0, _, acc => some acc
  | n + 1, s, acc => if (takeX s).2.2 = 0 then (if (takeN (s.drop (takeX s).2.1)).2.2 = 0 then sizesL n (s.drop ((takeX s).2.1 + (takeN (s.drop (takeX s).2.1)).2.1)) (acc ++ [(takeN (s.drop (takeX s).2.1)).1]) else none) else none
def outZ : Option (List Nat) → List Int × Bool
  | some l => (l.map (fun (x : Nat) => (x : Int)), true)
  | none => ([], false)
theorem psz_l0 (N : Nat) (hN : N ≤ 4096) : ∀ (n i k p : Nat) (x0 : ByteArray) (acc : List Nat), i + n = N → p ≤ x0.size → x0.size ≤ 1099511627776 → acc.length = i → n + 12 ≤ k → table_sizes.l0 k x0 (p : Int) (acc.map (fun (x : Nat) => (x : Int))) (N : Int) (i : Int) = some (outZ (sizesL n (x0.data.toList.drop p) acc)) := by
  intro n
  induction n with
  | zero =>
    intro i k p x0 acc h hp hs ha hk; obtain ⟨k, rfl⟩ : ∃ m, k = m + 1 := ⟨k - 1, by omega⟩; simp only [table_sizes.l0]; rw [if_neg (by omega)]
    rfl
  | succ n ih =>
    intro i k p x0 acc h hp hs ha hk; obtain ⟨k, rfl⟩ : ∃ m, k = m + 1 := ⟨k - 1, by omega⟩; simp only [table_sizes.l0, sizesL]; rw [if_pos (by omega), if_pos (by omega), if_pos (by omega), Int.toNat_natCast]; obtain ⟨fs, hfs⟩ : ∃ fs, x0.extract p x0.size = fs := ⟨_, rfl⟩; have hl : fs.data.toList = x0.data.toList.drop p := by rw [← hfs, ext_drop]
    have hz : fs.size ≤ x0.size := drop_size x0 fs p hl; rw [hfs, ← hl, ttext_is fs k (by omega) (by omega), Option.bind_some]; dsimp only [outT]; have x1 := takeX_le fs.data.toList; have ln := len_list fs
    by_cases c : (takeX fs.data.toList).2.2 = 0
    · rw [if_pos (by omega), if_pos c, if_pos (by omega), if_pos (by omega), Int.toNat_natCast]; obtain ⟨gs, hgs⟩ : ∃ gs, fs.extract (takeX fs.data.toList).2.1 fs.size = gs := ⟨_, rfl⟩; have hg : gs.data.toList = fs.data.toList.drop (takeX fs.data.toList).2.1 := by rw [← hgs, ext_drop]
      rw [hgs, ← hg, take_is gs k (by omega), Option.bind_some]; dsimp only [outI]; have x2 := takeN_le gs.data.toList; have x3 : gs.data.toList.length = fs.data.toList.length - (takeX fs.data.toList).2.1 := by rw [hg, List.length_drop]
      by_cases d : (takeN gs.data.toList).2.2 = 0
      · rw [if_pos (by omega), if_pos d, if_pos (by rw [List.length_map]; omega), w64 (by omega) (by omega), w64 (by omega) (by omega), show (i : Int) + 1 = ((i + 1 : Nat) : Int) from by omega]; have := ih (i + 1) k ((takeX fs.data.toList).2.1 + (takeN gs.data.toList).2.1) fs (acc ++ [(takeN gs.data.toList).1]) (by omega) (by omega) (by omega) (by rw [List.length_append, List.length_singleton, ha]) (by omega); rw [List.map_append, List.map_singleton, Int.natCast_add] at this; exact this
      · rw [if_neg (by omega), if_neg d]; rfl
    · rw [if_neg (by omega), if_neg c]; rfl
def sizesO (s : List UInt8) : Option (List Nat) := if (takeN s).2.2 = 0 ∧ (takeN s).1 ≤ 4096 then sizesL (takeN s).1 (s.drop (takeN s).2.1) [] else none
theorem psz_is (s : ByteArray) (k : Nat) (hs : s.size ≤ 1099511627776) (hk : 5000 ≤ k) : table_sizes.f k s = some (outZ (sizesO s.data.toList)) := by
  unfold table_sizes.f sizesO
  have x1 := takeN_le s.data.toList
  have ln := len_list s
  rw [take_is s k (by omega), Option.bind_some]
  dsimp only [outI]
  obtain ⟨k, rfl⟩ : ∃ m, k = m + 1 := ⟨k - 1, by omega⟩
  by_cases c : (takeN s.data.toList).2.2 = 0
  · rw [if_pos (by omega)]; simp only [table_sizes.j0]
    by_cases d : (takeN s.data.toList).1 ≤ 4096
    · rw [decide_eq_false (by omega), if_neg (by decide), if_pos ⟨c, d⟩]; exact psz_l0 _ d (takeN s.data.toList).1 0 k (takeN s.data.toList).2.1 s [] (by omega) (by omega) hs rfl (by omega)
    · rw [decide_eq_true (by omega), if_pos rfl, if_neg (fun x => d x.2)]; rfl
  · rw [if_neg (by omega)]; simp only [table_sizes.j0]; rw [if_pos trivial, if_neg (fun x => c x.1)]; rfl
theorem sizes_foot : ∀ (n : Nat) (l : List S43) (r : List UInt8) (acc : List Nat), okFrom none l = true → l.length + 16 ≤ 16 * n → sizesL (szT n l).length (footT n l ++ r) acc = some (acc ++ szT n l) := by
  intro n
  induction n with
  | zero => intro l r acc _ h; omega
  | succ n ih =>
    intro l r acc ho h; simp only [szT, footT]
    by_cases q : l.length = 0
    · rw [if_pos q, if_pos q, List.append_nil]; rfl
    · rw [if_neg q, if_neg q]; obtain ⟨t1, t2, t3, t4⟩ := take16 l q; have o16 := okF_take 16 l none ho; have ok := okB_of o16 (by omega); have hp := putL_le _ ok; have hh := head_le _ o16 t2; have hd : (headK (l.take 16)).length ≤ 262144 := by unfold headK; rw [len_list]; omega
      rw [List.length_cons, sizesL, List.append_assoc, List.append_assoc, takeX_txt _ _ hd]; dsimp only; rw [if_pos rfl, List.drop_left, takeN_enc _ _ (by omega)]; dsimp only; rw [if_pos rfl, ← List.drop_drop, List.drop_left, List.drop_left, ih _ _ _ (okF_drop 16 l ho) (by omega), List.append_assoc]
      rfl
theorem sizesO_foot (l : List S43) (h : okB l = true) (r : List UInt8) : sizesO (footL l ++ r) = some (szT 300 l) := by
  have hb := (okB_iff l).1 h
  have hf := foot_le 300 l hb.2
  have e : (szT 300 l).length = (l.length + 15) / 16 := by rw [hf.2.2]; omega
  unfold sizesO footL
  rw [List.append_assoc, takeN_enc _ _ (by omega)]
  dsimp only
  rw [if_pos ⟨rfl, by omega⟩, List.drop_left, ← e, List.append_assoc, sizes_foot 300 l _ [] hb.2 (by omega), List.nil_append]
theorem openL_put (kk : Nat) (hk : 10000000 ≤ kk) (s : ByteArray) : ∀ (n : Nat) (l : List S43) (pre post : List UInt8) (acc : List S43), s.data.toList = pre ++ (bodyT n l ++ post) → okFrom none l = true → l.length + 16 ≤ 16 * n → acc.length + l.length ≤ 500000 →
    openL kk s ((szT n l).map (fun (x : Nat) => (x : Int))) pre.length acc = some (some (acc ++ l)) := by
  intro n
  induction n with
  | zero => intro l pre post acc _ _ h; omega
  | succ n ih =>
    intro l pre post acc he ho hn ha; simp only [szT, bodyT] at he ⊢
    by_cases q : l.length = 0
    · rw [if_pos q, List.map_nil, openL, List.length_eq_zero_iff.1 q, List.append_nil]
    · rw [if_neg q] at he ⊢; obtain ⟨t1, t2, t3, t4⟩ := take16 l q; have ok := okB_of (okF_take 16 l none ho) (by omega); have hp := putL_le _ ok
      have hl : s.size = pre.length + ((putL (l.take 16)).length + (bodyT n (l.drop 16)).length + post.length) := by
        rw [← len_list, he]; simp only [List.length_append]
      rw [List.map_cons, openL, if_neg (by omega), if_pos (by omega), Int.toNat_natCast]
      have hx : s.extract pre.length (pre.length + (putL (l.take 16)).length) = bs (putL (l.take 16)) := ext_list (by
        rw [extract_list, bs_list, he, List.take_length_add_append, List.drop_left, List.append_assoc, List.take_left])
      rw [hx, btk_is _ kk (by rw [bs_size]; omega) (by rw [bs_size]; omega), Option.bind_some, bs_list, blkT_put _ ok, outB]; dsimp only; rw [if_pos rfl, if_pos (by omega)]; have := ih (l.drop 16) (pre ++ putL (l.take 16)) post (acc ++ l.take 16) (by rw [he]; simp only [List.append_assoc]) (okF_drop 16 l ho) (by omega) (by rw [List.length_append]; omega); rw [List.length_append, List.append_assoc, List.take_append_drop] at this; exact this
theorem tabL_len (l : List S43) : (tabL l).length = (bodyT 300 l).length + ((sfootL l).length + 4) := by unfold tabL; rw [List.length_append, List.length_append, fix4_len]
theorem open_put (l : List S43) (kk : Nat) (hk : 10000000 ≤ kk) (hl : ¬ l.length = 0) (h : okB l = true) : openF kk 300 (bs (tabL l)) = some (some (l, bitsT l)) := by
  have hb := (okB_iff l).1 h
  have hf := footL_le l h
  have hs := sfoot_len l
  have ht := tabL_len l
  have hz : (bs (tabL l)).size = (tabL l).length := bs_size _
  unfold openF
  rw [if_neg (by omega), hz]
  have hx : ((bs (tabL l)).extract ((tabL l).length - 4) (tabL l).length).data.toList = fix4 (sfootL l).length := by
    rw [extract_list, bs_list, List.take_length, ht, show (bodyT 300 l).length + ((sfootL l).length + 4) - 4 = (bodyT 300 l).length + (sfootL l).length from by omega]
    unfold tabL
    rw [← List.drop_drop, List.drop_left, List.drop_left]
  have hx2 : ((bs (tabL l)).extract ((tabL l).length - 4) (tabL l).length).size = 4 := by rw [← len_list, hx, fix4_len]
  have hv := valF_fix (sfootL l).length [] (by omega)
  rw [List.append_nil] at hv
  rw [tfix_is _ kk (by omega) (by omega), Option.bind_some, hx, hv]
  dsimp only
  rw [if_neg (by omega), if_pos (by omega), Int.toNat_natCast, show (tabL l).length - 4 - (sfootL l).length = (bodyT 300 l).length from by omega, show (tabL l).length - 4 = (bodyT 300 l).length + (sfootL l).length from by omega]
  have hy : ((bs (tabL l)).extract (bodyT 300 l).length ((bodyT 300 l).length + (sfootL l).length)).data.toList = sfootL l := by
    rw [extract_list, bs_list]
    unfold tabL
    rw [List.take_length_add_append, List.drop_left, List.take_left]
  have hy2 : ((bs (tabL l)).extract (bodyT 300 l).length ((bodyT 300 l).length + (sfootL l).length)).size = (sfootL l).length := by rw [← len_list, hy]
  rw [psz_is _ kk (by omega) (by omega), Option.bind_some, hy]
  rw [show sizesO (sfootL l) = some (szT 300 l) from sizesO_foot l h _, outZ]
  dsimp only
  have ho := openL_put kk hk (bs (tabL l)) 300 l [] (sfootL l ++ fix4 (sfootL l).length) [] rfl hb.2 (by omega) (by rw [List.length_nil]; omega)
  rw [List.length_nil, List.nil_append] at ho
  rw [if_pos rfl, ho, Option.bind_some]
  dsimp only
  rw [build_ok l kk hk hl h, Option.bind_some]
  dsimp only
  rw [if_pos rfl, if_pos rfl, bits_make l h kk (by omega), Option.bind_some, if_pos (by omega)]
end Go.Proofs.Ytlmoafkmhenejaa.VaTbB
end
section
namespace Go.Proofs.Ytlmoafkmhenejaa.XA
end Go.Proofs.Ytlmoafkmhenejaa.XA
namespace Go.Proofs.Ytlmoafkmhenejaa.VLib
end Go.Proofs.Ytlmoafkmhenejaa.VLib
namespace Go.Proofs.Ytlmoafkmhenejaa.XW
end Go.Proofs.Ytlmoafkmhenejaa.XW
namespace Go.Proofs.Ytlmoafkmhenejaa.VaChk
end Go.Proofs.Ytlmoafkmhenejaa.VaChk
namespace Go.Proofs.YtlmoafkmhenejaaW.PrintWords
end Go.Proofs.YtlmoafkmhenejaaW.PrintWords
namespace Go.Proofs.YtlmoafkmhenejaaW.PrintLast
end Go.Proofs.YtlmoafkmhenejaaW.PrintLast
namespace Go.Proofs.YtlmoafkmhenejaaW.PrintMore
end Go.Proofs.YtlmoafkmhenejaaW.PrintMore
namespace Go.Proofs.Ytlmoafkmhenejaa.VaMade
open Go.RowKit Go.Proofs.Ytlmoafkmhenejaa.XA Go.Proofs.Ytlmoafkmhenejaa.VLib Go.Proofs.Ytlmoafkmhenejaa.XW Go.Proofs.Ytlmoafkmhenejaa.VaChk Go.Proofs.YtlmoafkmhenejaaW.PrintWords Go.Proofs.YtlmoafkmhenejaaW.PrintLast Go.Proofs.YtlmoafkmhenejaaW.PrintMore
def ins (x : S43) : List S43 → List S43
  | [] => [x]
  | h :: t => if LE h x = true then h :: ins x t else if LE x h = true then x :: h :: t else x :: t
theorem LE_eqv {x h : S43} (h1 : LE h x = false) (h2 : LE x h = false) (b : S43) : LE x b = LE h b := by
  have e : h.f0.toList = x.f0.toList ∧ h.f3 = x.f3 := by
    rcases LE_tri h x with g | g | g
    · rw [h1] at g; cases g
    · exact g
    · rw [h2] at g; cases g
  unfold VaChk.LE
  rw [e.1, e.2, toList_inj.1 e.1]
theorem ins_ok (x : S43) (hx : mayE x = true) : ∀ (l : List S43) (p : Option S43), okFrom p l = true → (∀ a, p = some a → LE a x = true) → okFrom p (ins x l) = true := by
  have one : ∀ (p : Option S43) (e : S43) (r : List S43), okFrom p (e :: r) = true ↔ mayE e = true ∧ (∀ a, p = some a → LE a e = true) ∧ okFrom (some e) r = true := by
    intro p e r
    cases p with
    | none => simp [okFrom]
    | some a => simp [okFrom, and_assoc]
  intro l
  induction l with
  | nil => intro p _ hp; exact (one p x []).2 ⟨hx, hp, rfl⟩
  | cons h t ih =>
    intro p ho hp; obtain ⟨o1, o2, o3⟩ := (one p h t).1 ho
    unfold ins
    by_cases c1 : LE h x = true
    · rw [if_pos c1]; exact (one p h _).2 ⟨o1, o2, ih (some h) o3 (fun a e => by cases e; exact c1)⟩
    · rw [if_neg c1]
      by_cases c2 : LE x h = true
      · rw [if_pos c2]; exact (one p x _).2 ⟨hx, hp, (one (some x) h t).2 ⟨o1, fun a e => by cases e; exact c2, o3⟩⟩
      · rw [if_neg c2]; refine (one p x _).2 ⟨hx, hp, ?_⟩
        cases t with
        | nil => rfl
        | cons b t =>
          obtain ⟨p1, p2, p3⟩ := (one (some h) b t).1 o3; refine (one (some x) b t).2 ⟨p1, fun a e => ?_, p3⟩; cases e; rw [LE_eqv (Bool.eq_false_iff.2 c1) (Bool.eq_false_iff.2 c2)]; exact p2 h rfl
theorem ins_cons (x h : S43) (t : List S43) : ins x (h :: t) = if LE h x = true then h :: ins x t else if LE x h = true then x :: h :: t else x :: t := rfl
theorem ins_len (x : S43) : ∀ l : List S43, (ins x l).length ≤ l.length + 1
  | [] => Nat.le_refl _
  | h :: t => by
    have := ins_len x t
    unfold ins
    split
    · simp only [List.length_cons]; omega
    · split <;> simp only [List.length_cons] <;> omega
theorem put1_l0 (x : S43) (m : List S43) (hm : m.length ≤ 4096) : ∀ (n i k : Nat), i + n = m.length → n + 1 ≤ k → sorrelref09_Put1.l0 k m (i : Int) x.f0 x.f1 x.f2 x.f3 = some (m.take i ++ ins x (m.drop i)) := by
  intro n
  induction n with
  | zero =>
    intro i k h hk; obtain ⟨k, rfl⟩ : ∃ m, k = m + 1 := ⟨k - 1, by omega⟩; simp only [sorrelref09_Put1.l0]; have ht : (m.take i).length ≤ m.length := by rw [List.length_take]; omega
    have hd : m.drop i = [] := List.drop_eq_nil_of_le (by omega)
    rw [if_neg (by omega), if_pos (by omega), if_pos (by omega), Int.toNat_natCast, hd, Option.bind_some, if_pos (by rw [List.length_nil]; omega), Option.bind_some, List.nil_append, if_pos (by omega), Option.bind_some, Option.bind_some,
      if_pos (by rw [List.length_append, List.length_singleton, List.length_nil]; omega), List.append_nil]
    rfl
  | succ n ih =>
    intro i k h hk; obtain ⟨k, rfl⟩ : ∃ m, k = m + 1 := ⟨k - 1, by omega⟩; have hi : i < m.length := by omega
    have ht : (m.take i).length ≤ m.length := by rw [List.length_take]; omega
    have hd : m.drop i = m[i] :: m.drop (i + 1) := (List.getElem_cons_drop hi).symm; have hn : (m.drop i).length ≤ m.length := by rw [List.length_drop]; omega
    have hn2 : (m.drop (i + 1)).length ≤ m.length := by rw [List.length_drop]; omega
    simp only [sorrelref09_Put1.l0]; rw [if_pos (by omega), if_pos (by omega), rdT m i hi, rless_is, Option.bind_some]
    by_cases c1 : LE m[i] x = true
    · rw [if_pos c1, w64 (by omega) (by omega), show (i : Int) + 1 = ((i + 1 : Nat) : Int) from by omega, ih (i + 1) k (by omega) (by omega), hd]; rw [ins_cons, if_pos c1, List.take_succ_eq_append_getElem hi, List.append_assoc]
      rfl
    · rw [if_neg c1, if_pos (by omega), Int.toNat_natCast, Option.bind_some, if_pos (by rw [List.length_nil]; omega), Option.bind_some, List.nil_append, if_pos (by omega), Option.bind_some, rless_is, Option.bind_some]
      by_cases c2 : LE x m[i] = true
      · rw [if_pos c2, Option.bind_some, if_pos (by rw [List.length_append, List.length_singleton]; omega), hd]; rw [ins_cons, if_neg c1, if_pos c2, List.append_assoc]
        rfl
      · rw [if_neg c2, w64 (by omega) (by omega), if_pos (by omega), if_pos (by omega), show ((i : Int) + 1).toNat = i + 1 from by omega, Option.bind_some, if_pos (by rw [List.length_append, List.length_singleton]; omega), hd]; rw [ins_cons, if_neg c1, if_neg c2, List.append_assoc]
        rfl
theorem put1_is (x : S43) (m : List S43) (k : Nat) (hm : m.length ≤ 4096) (hk : m.length + 1 ≤ k) : sorrelref09_Put1.f k m x.f0 x.f1 x.f2 x.f3 = some (if mayE x = true then ins x m else m) := by
  unfold sorrelref09_Put1.f
  rw [rmay_is, Option.bind_some]
  split
  · have := put1_l0 x m hm m.length 0 k (by omega) hk; exact this
  · rfl
theorem okM_iff (l : List S43) : okB l = true ↔ l.length ≤ 4096 ∧ okFrom none l = true := by unfold okB; rw [Bool.and_eq_true, decide_eq_true_eq]
theorem made_l0 (l : List S43) (hl : l.length ≤ 1000) : ∀ (n i k : Nat) (m : List S43), i + n = l.length → okB m = true → m.length ≤ i → n + 1 + 1100 ≤ k → ∃ r, sorrellaw10_made.l0 k l m (i : Int) = some r ∧ okB r = true ∧ r.length ≤ l.length := by
  intro n
  induction n with
  | zero =>
    intro i k m h ho hm hk; obtain ⟨k, rfl⟩ : ∃ m, k = m + 1 := ⟨k - 1, by omega⟩; simp only [sorrellaw10_made.l0]; rw [if_neg (by omega)]; exact ⟨m, rfl, ho, by omega⟩
  | succ n ih =>
    intro i k m h ho hm hk; obtain ⟨k, rfl⟩ : ∃ m, k = m + 1 := ⟨k - 1, by omega⟩; simp only [sorrellaw10_made.l0]; rw [if_pos (by omega), if_pos (by omega), put1_is _ m k (by omega) (by omega), Option.bind_some, w64 (by omega) (by omega), show (i : Int) + 1 = ((i + 1 : Nat) : Int) from by omega]; have hb := (okM_iff m).1 ho; refine ih (i + 1) k _ (by omega) ?_ ?_ (by omega)
    · split
      · next hx =>
        have := ins_len (rd_T43 l (i : Int)) m; exact (okM_iff _).2 ⟨by omega, ins_ok _ hx m none hb.2 (fun a e => by cases e)⟩
      · exact ho
    · split
      · have := ins_len (rd_T43 l (i : Int)) m; omega
      · omega
theorem made_is (l : List S43) (hl : l.length ≤ 1000) (k : Nat) (hk : 2200 ≤ k) : ∃ r, sorrellaw10_made.f k l = some r ∧ okB r = true ∧ r.length ≤ l.length :=
  made_l0 l hl l.length 0 k [] (by omega) rfl (Nat.zero_le _) (by omega)
theorem light_l0 (l : List S43) : ∀ (n i k : Nat), i + n = 81 → n + 1 ≤ k → ∃ b, sorrellaw10_light.l0 k l (i : Int) = some b ∧ (b = true → l.length ≤ 80) := by
  intro n
  induction n with
  | zero =>
    intro i k h hk; obtain ⟨k, rfl⟩ : ∃ m, k = m + 1 := ⟨k - 1, by omega⟩; simp only [sorrellaw10_light.l0]
    by_cases c : i < l.length
    · rw [if_pos (by omega), if_neg (by omega)]; exact ⟨_, rfl, fun h => by have := of_decide_eq_true h; omega⟩
    · rw [if_neg (by omega)]; exact ⟨_, rfl, fun h => by have := of_decide_eq_true h; omega⟩
  | succ n ih =>
    intro i k h hk; obtain ⟨k, rfl⟩ : ∃ m, k = m + 1 := ⟨k - 1, by omega⟩; simp only [sorrellaw10_light.l0]
    by_cases c : i < l.length
    · rw [if_pos (by omega)]
      by_cases c2 : i < 80
      · rw [if_pos (by omega), if_pos (by omega)]
        split
        · exact ⟨_, rfl, fun h => by cases h⟩
        · split
          · exact ⟨_, rfl, fun h => by cases h⟩
          · rw [w64 (by omega) (by omega), show (i : Int) + 1 = ((i + 1 : Nat) : Int) from by omega]; exact ih (i + 1) k (by omega) (by omega)
      · rw [if_neg (by omega)]; exact ⟨_, rfl, fun h => by have := of_decide_eq_true h; omega⟩
    · rw [if_neg (by omega)]; exact ⟨_, rfl, fun h => by have := of_decide_eq_true h; omega⟩
theorem light_is (l : List S43) (k : Nat) (hk : 82 ≤ k) : ∃ b, sorrellaw10_light.f k l = some b ∧ (b = true → l.length ≤ 80) := light_l0 l 81 0 k (by omega) hk
end Go.Proofs.Ytlmoafkmhenejaa.VaMade
end
section
namespace Go.Proofs.Ytlmoafkmhenejaa.XA
end Go.Proofs.Ytlmoafkmhenejaa.XA
namespace Go.Proofs.Ytlmoafkmhenejaa.VLib
end Go.Proofs.Ytlmoafkmhenejaa.VLib
namespace Go.Proofs.Ytlmoafkmhenejaa.XW
end Go.Proofs.Ytlmoafkmhenejaa.XW
namespace Go.Proofs.Ytlmoafkmhenejaa.VaChk
end Go.Proofs.Ytlmoafkmhenejaa.VaChk
namespace Go.Proofs.Ytlmoafkmhenejaa.VaMade
end Go.Proofs.Ytlmoafkmhenejaa.VaMade
namespace Go.Proofs.YtlmoafkmhenejaaW.PrintWords
end Go.Proofs.YtlmoafkmhenejaaW.PrintWords
namespace Go.Proofs.YtlmoafkmhenejaaW.PrintLast
end Go.Proofs.YtlmoafkmhenejaaW.PrintLast
namespace Go.Proofs.YtlmoafkmhenejaaW.PrintMore
end Go.Proofs.YtlmoafkmhenejaaW.PrintMore
namespace Go.Proofs.Ytlmoafkmhenejaa.VaFnd
open Go.RowKit Go.Proofs.Ytlmoafkmhenejaa.XA Go.Proofs.Ytlmoafkmhenejaa.VLib Go.Proofs.Ytlmoafkmhenejaa.XW Go.Proofs.Ytlmoafkmhenejaa.VaChk Go.Proofs.Ytlmoafkmhenejaa.VaMade Go.Proofs.YtlmoafkmhenejaaW.PrintWords Go.Proofs.YtlmoafkmhenejaaW.PrintLast Go.Proofs.YtlmoafkmhenejaaW.PrintMore
def outF : Option S43 → ByteArray × ByteArray × Bool × Int × Bool
  | none => ((⟨#[]⟩ : ByteArray), (⟨#[]⟩ : ByteArray), false, 0, false)
  | some e => (e.f0, e.f1, e.f2, e.f3, true)
def fnd (key : ByteArray) (q : Int) : List S43 → Option S43
  | [] => none
  | e :: t => if e.f0.toList = key.toList ∧ e.f3 ≤ q then some e else fnd key q t
theorem fnd_cons (key : ByteArray) (q : Int) (e : S43) (t : List S43) : fnd key q (e :: t) = if e.f0.toList = key.toList ∧ e.f3 ≤ q then some e else fnd key q t := rfl
theorem rfind_l0 (l : List S43) (key : ByteArray) (q : Int) (hl : l.length ≤ 4096) : ∀ (n i k : Nat), i + n = l.length → n + 1 ≤ k → sorrelref09_Find.l0 k l key q (i : Int) = some (outF (fnd key q (l.drop i))) := by
  intro n
  induction n with
  | zero =>
    intro i k h hk; obtain ⟨k, rfl⟩ : ∃ m, k = m + 1 := ⟨k - 1, by omega⟩; simp only [sorrelref09_Find.l0]; rw [if_neg (by omega), List.drop_eq_nil_of_le (by omega)]; rfl
  | succ n ih =>
    intro i k h hk; obtain ⟨k, rfl⟩ : ∃ m, k = m + 1 := ⟨k - 1, by omega⟩; have hi : i < l.length := by omega
    have e : l.drop i = l[i] :: l.drop (i + 1) := (List.getElem_cons_drop hi).symm
    have hn : sorrelref09_Find.l0 k l key q (wrap64 ((i : Int) + 1)) = some (outF (fnd key q (l.drop (i + 1)))) := by
      rw [w64 (by omega) (by omega), show (i : Int) + 1 = ((i + 1 : Nat) : Int) from by omega]; exact ih (i + 1) k (by omega) (by omega)
    simp only [sorrelref09_Find.l0]; rw [if_pos (by omega), if_pos (by omega), rdT l i hi, e, fnd_cons, hn]
    by_cases c1 : l[i].f0.toList = key.toList
    · rw [if_pos c1]
      by_cases c2 : l[i].f3 ≤ q
      · rw [if_pos c2, if_pos ⟨c1, c2⟩]; rfl
      · rw [if_neg c2, if_neg (fun x => c2 x.2)]
    · rw [if_neg c1, if_neg (fun x => c1 x.1)]
theorem rfind_is (l : List S43) (key : ByteArray) (q : Int) (k : Nat) (hk : 4098 ≤ k) : sorrelref09_Find.f k l key q = some (outF (if okB l = true then fnd key q l else none)) := by
  unfold sorrelref09_Find.f
  rw [rcheck_is_ l k hk, Option.bind_some]
  by_cases h : okB l = true
  · have hl := ((okM_iff l).1 h).1; rw [if_pos h, if_pos h, if_pos rfl]; exact rfind_l0 l key q hl l.length 0 k (by omega) (by omega)
  · rw [if_neg h, if_neg h, if_neg (by decide)]; rfl
theorem ok_cons (p : Option S43) (e : S43) (r : List S43) : okFrom p (e :: r) = true ↔ mayE e = true ∧ (∀ a, p = some a → LE a e = true) ∧ okFrom (some e) r = true := by
  cases p with
  | none => simp [okFrom]
  | some a => simp [okFrom, and_assoc]
theorem ok_pw : ∀ (l : List S43) (p : Option S43), okFrom p l = true → (∀ a, p = some a → ∀ e ∈ l, LE a e = true) ∧ l.Pairwise (fun a b => LE a b = true) ∧ ∀ e ∈ l, mayE e = true := by
  intro l
  induction l with
  | nil => intro p _; exact ⟨fun a _ e h => (List.not_mem_nil h).elim, List.Pairwise.nil, fun e h => (List.not_mem_nil h).elim⟩
  | cons e t ih =>
    intro p h; obtain ⟨h1, h2, h3⟩ := (ok_cons p e t).1 h; obtain ⟨g1, g2, g3⟩ := ih (some e) h3; refine ⟨fun a ha x hx => ?_, List.Pairwise.cons (fun x hx => g1 e rfl x hx) g2, fun x hx => ?_⟩
    · cases hx with
      | head => exact h2 a ha
      | tail _ hx => exact LE_trans (h2 a ha) (g1 e rfl x hx)
    · cases hx with
      | head => exact h1
      | tail _ hx => exact g3 x hx
theorem fnd_no (key : ByteArray) (q : Int) : ∀ ys : List S43, (∀ y ∈ ys, ¬ y.f0.toList = key.toList) → fnd key q ys = none
  | [], _ => rfl
  | y :: ys, h => by
    rw [fnd_cons, if_neg (fun g => h y List.mem_cons_self g.1)]; exact fnd_no key q ys (fun a ha => h a (List.mem_cons_of_mem _ ha))
end Go.Proofs.Ytlmoafkmhenejaa.VaFnd
end
