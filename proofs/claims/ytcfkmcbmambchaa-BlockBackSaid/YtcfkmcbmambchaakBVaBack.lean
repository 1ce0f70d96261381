import Derived.Test.YtcfkmcbmambchaakBXStatBlockBack
import Derived.Test.YtcfkmcbmambchaakBVLib
import Derived.Test.YtcfkmcbmambchaakBCLib
import Derived.Test.YtcfkmcbmambchaakBXW
import Derived.Test.YtcfkmcbmambchaakBVaB1
import Derived.Test.YtcfkmcbmambchaakBVaChk
import Derived.Test.YtcfkmcbmambchaakBVaPut
import Derived.Test.YtcfkmcbmambchaakBVaRT
import Derived.Test.YtcfkmcbmambchaakBVaRT2
import Derived.Test.YtcfkmcbmambchaakBVaPT
import Derived.Test.YtcfkmcbmambchaakBVaMade
namespace Go.Proofs.Ytcfkmcbmambchaa.XA
end Go.Proofs.Ytcfkmcbmambchaa.XA
namespace Go.Proofs.Ytcfkmcbmambchaa.VLib
end Go.Proofs.Ytcfkmcbmambchaa.VLib
namespace Go.Proofs.Ytcfkmcbmambchaa.CLib
end Go.Proofs.Ytcfkmcbmambchaa.CLib
namespace Go.Proofs.Ytcfkmcbmambchaa.XW
end Go.Proofs.Ytcfkmcbmambchaa.XW
namespace Go.Proofs.Ytcfkmcbmambchaa.VaB1
end Go.Proofs.Ytcfkmcbmambchaa.VaB1
namespace Go.Proofs.Ytcfkmcbmambchaa.VaChk
end Go.Proofs.Ytcfkmcbmambchaa.VaChk
namespace Go.Proofs.Ytcfkmcbmambchaa.VaPut
end Go.Proofs.Ytcfkmcbmambchaa.VaPut
namespace Go.Proofs.Ytcfkmcbmambchaa.VaRT
end Go.Proofs.Ytcfkmcbmambchaa.VaRT
namespace Go.Proofs.Ytcfkmcbmambchaa.VaRT2
end Go.Proofs.Ytcfkmcbmambchaa.VaRT2
namespace Go.Proofs.Ytcfkmcbmambchaa.VaPT
end Go.Proofs.Ytcfkmcbmambchaa.VaPT
namespace Go.Proofs.Ytcfkmcbmambchaa.VaMade
end Go.Proofs.Ytcfkmcbmambchaa.VaMade
namespace Go.Proofs.YtcfkmcbmambchaaW.PrintWords
end Go.Proofs.YtcfkmcbmambchaaW.PrintWords
namespace Go.Proofs.YtcfkmcbmambchaaW.PrintLast
end Go.Proofs.YtcfkmcbmambchaaW.PrintLast
namespace Go.Proofs.YtcfkmcbmambchaaW.PrintMore
end Go.Proofs.YtcfkmcbmambchaaW.PrintMore
namespace Go.Proofs.Ytcfkmcbmambchaa.VaBack
open Go.RowKit Go.Proofs.Ytcfkmcbmambchaa.XA Go.Proofs.Ytcfkmcbmambchaa.VLib Go.Proofs.Ytcfkmcbmambchaa.CLib Go.Proofs.Ytcfkmcbmambchaa.XW Go.Proofs.Ytcfkmcbmambchaa.VaB1 Go.Proofs.Ytcfkmcbmambchaa.VaChk Go.Proofs.Ytcfkmcbmambchaa.VaPut Go.Proofs.Ytcfkmcbmambchaa.VaRT Go.Proofs.Ytcfkmcbmambchaa.VaRT2 Go.Proofs.Ytcfkmcbmambchaa.VaPT Go.Proofs.Ytcfkmcbmambchaa.VaMade Go.Proofs.YtcfkmcbmambchaaW.PrintWords Go.Proofs.YtcfkmcbmambchaaW.PrintLast Go.Proofs.YtcfkmcbmambchaaW.PrintMore
theorem light_l0 (l : List S36) : ∀ (n i k : Nat), i + n = 61 → n + 1 ≤ k → ∃ b, sorrellaw09_light.l0 k l (i : Int) = some b ∧ (b = true → l.length ≤ 60) := by
  intro n
  induction n with
  | zero =>
    intro i k h hk
    obtain ⟨k, rfl⟩ : ∃ m, k = m + 1 := ⟨k - 1, by omega⟩
    simp only [sorrellaw09_light.l0]
    by_cases c : i < l.length
    · rw [if_pos (by omega), if_neg (by omega)]; exact ⟨_, rfl, fun h => by have := of_decide_eq_true h; omega⟩
    · rw [if_neg (by omega)]; exact ⟨_, rfl, fun h => by have := of_decide_eq_true h; omega⟩
  | succ n ih =>
    intro i k h hk
    obtain ⟨k, rfl⟩ : ∃ m, k = m + 1 := ⟨k - 1, by omega⟩
    simp only [sorrellaw09_light.l0]
    by_cases c : i < l.length
    · rw [if_pos (by omega)]
      by_cases c2 : i < 60
      · rw [if_pos (by omega), if_pos (by omega)]
        split
        · exact ⟨_, rfl, fun h => by cases h⟩
        · split
          · exact ⟨_, rfl, fun h => by cases h⟩
          · rw [w64 (by omega) (by omega), show (i : Int) + 1 = ((i + 1 : Nat) : Int) from by omega]
            exact ih (i + 1) k (by omega) (by omega)
      · rw [if_neg (by omega)]; exact ⟨_, rfl, fun h => by have := of_decide_eq_true h; omega⟩
    · rw [if_neg (by omega)]; exact ⟨_, rfl, fun h => by have := of_decide_eq_true h; omega⟩
theorem light_is (l : List S36) (k : Nat) (hk : 62 ≤ k) : ∃ b, sorrellaw09_light.f k l = some b ∧ (b = true → l.length ≤ 60) := light_l0 l 61 0 k (by omega) hk
theorem awake_300 : sorrellaw09_awake.f 300 = some true := by kernel_rfl
theorem awake_is (k : Nat) (hk : 300 ≤ k) : sorrellaw09_awake.f k = some true := at_rounds (g := fun k => sorrellaw09_awake.f k) sorrellaw09_awake.mono hk awake_300
theorem chk_back (s : List UInt8) (h : chk s = true) : s = sealL (s.take (s.length - 4)) := by
  unfold chk at h
  rw [Bool.and_eq_true, beq_iff_eq] at h
  unfold sealL
  rw [← h.2, List.take_append_drop]
theorem lcp_rest (last k : List UInt8) : last.take (lcp last k) ++ k.drop (lcp last k) = k := by
  rw [lcp_take, List.take_append_drop]
theorem oneL_gone (last s : List UInt8) (n a : Nat) (t : List UInt8) (b q c : Nat) (h1 : takeN s = (n, a, 0)) (h2 : n ≤ last.length) (h3 : takeX (s.drop a) = (t, b, 0)) (h4 : takeN (s.drop (a + b)) = (q, c, 0))
    (h5 : lcp last (last.take n ++ t) = n) (h6 : q % 2 = 1) : oneL last s = some (⟨bs (last.take n ++ t), bs [], true, ((q / 2 : Nat) : Int)⟩, a + b + c) := by
  unfold oneL
  rw [h1]; dsimp only; rw [h3]; dsimp only; rw [h4]; dsimp only
  rw [if_pos ⟨rfl, h2⟩, if_pos rfl, if_pos ⟨rfl, h5⟩, if_pos h6]
theorem oneL_all (last s : List UInt8) (n a : Nat) (t : List UInt8) (b q c : Nat) (v : List UInt8) (d : Nat) (h1 : takeN s = (n, a, 0)) (h2 : n ≤ last.length) (h3 : takeX (s.drop a) = (t, b, 0)) (h4 : takeN (s.drop (a + b)) = (q, c, 0))
    (h5 : lcp last (last.take n ++ t) = n) (h6 : ¬ q % 2 = 1) (h7 : takeX (s.drop (a + b + c)) = (v, d, 0)) : oneL last s = some (⟨bs (last.take n ++ t), bs v, false, ((q / 2 : Nat) : Int)⟩, a + b + c + d) := by
  unfold oneL
  rw [h1]; dsimp only; rw [h3]; dsimp only; rw [h4]; dsimp only; rw [h7]; dsimp only
  rw [if_pos ⟨rfl, h2⟩, if_pos rfl, if_pos ⟨rfl, h5⟩, if_neg h6, if_pos rfl]
theorem txtL_len (t : List UInt8) : (txtL t).length = (enc t.length).length + t.length := by unfold txtL; rw [List.length_append]
theorem takeX_txt (t r : List UInt8) (h : t.length ≤ 262144) : takeX (txtL t ++ r) = (t, (txtL t).length, 0) := by
  rw [txtL_len]; unfold txtL; rw [List.append_assoc]; exact takeX_text t r h
theorem drop2 (a b r : List UInt8) : (a ++ (b ++ r)).drop (a.length + b.length) = r := by
  rw [← List.append_assoc, ← List.length_append]; exact List.drop_left
theorem drop3 (a b c r : List UInt8) : (a ++ (b ++ (c ++ r))).drop (a.length + b.length + c.length) = r := by
  rw [← List.append_assoc, ← List.append_assoc, ← List.length_append, ← List.length_append]; exact List.drop_left
theorem one_ent (last : List UInt8) (e : S36) (r : List UInt8) (hm : MayE e) : oneL last (entL last e ++ r) = some (e, (entL last e).length) := by
  obtain ⟨k1, k64, v, g, s1, sm⟩ := hm
  have hk : (kL e).length = e.f0.size := len_list e.f0
  have hv : (vL e).length = e.f1.size := len_list e.f1
  have hl := lcp_le last (kL e)
  have hd : ((kL e).drop (lcp last (kL e))).length ≤ 262144 := by rw [List.length_drop]; omega
  have hr := lcp_rest last (kL e)
  have hf : bs (last.take (lcp last (kL e)) ++ (kL e).drop (lcp last (kL e))) = e.f0 := by rw [hr]; exact bs_of e.f0
  cases h2 : e.f2
  · have he : entL last e ++ r = enc (lcp last (kL e)) ++ (txtL ((kL e).drop (lcp last (kL e))) ++ (enc (2 * e.f3.toNat) ++ (txtL (vL e) ++ r))) := by
      unfold entL; rw [h2, if_neg (by decide)]; simp only [List.append_assoc]
    have hn : (entL last e).length = (enc (lcp last (kL e))).length + (txtL ((kL e).drop (lcp last (kL e)))).length + (enc (2 * e.f3.toNat)).length + (txtL (vL e)).length := by
      unfold entL; rw [h2, if_neg (by decide)]; simp only [List.length_append]; omega
    have := oneL_all last (entL last e ++ r) (lcp last (kL e)) (enc (lcp last (kL e))).length ((kL e).drop (lcp last (kL e))) (txtL ((kL e).drop (lcp last (kL e)))).length (2 * e.f3.toNat) (enc (2 * e.f3.toNat)).length (vL e) (txtL (vL e)).length
      (by rw [he]; exact takeN_enc _ _ (by omega)) hl.1 (by rw [he, List.drop_left]; exact takeX_txt _ _ hd) (by rw [he, drop2]; exact takeN_enc _ _ (by omega)) (by rw [hr]) (by omega) (by rw [he, drop3]; exact takeX_txt _ _ (by omega))
    rw [this, hn, hf]
    refine congrArg some (congrArg (Prod.mk · _) (s36_ext rfl (bs_of e.f1) h2.symm ?_))
    show (((2 * e.f3.toNat) / 2 : Nat) : Int) = e.f3
    omega
  · have he : entL last e ++ r = enc (lcp last (kL e)) ++ (txtL ((kL e).drop (lcp last (kL e))) ++ (enc (2 * e.f3.toNat + 1) ++ r)) := by
      unfold entL; rw [h2, if_pos rfl]; simp only [List.append_assoc]
    have hn : (entL last e).length = (enc (lcp last (kL e))).length + (txtL ((kL e).drop (lcp last (kL e)))).length + (enc (2 * e.f3.toNat + 1)).length := by
      unfold entL; rw [h2, if_pos rfl]; simp only [List.length_append]; omega
    have := oneL_gone last (entL last e ++ r) (lcp last (kL e)) (enc (lcp last (kL e))).length ((kL e).drop (lcp last (kL e))) (txtL ((kL e).drop (lcp last (kL e)))).length (2 * e.f3.toNat + 1) (enc (2 * e.f3.toNat + 1)).length
      (by rw [he]; exact takeN_enc _ _ (by omega)) hl.1 (by rw [he, List.drop_left]; exact takeX_txt _ _ hd) (by rw [he, drop2]; exact takeN_enc _ _ (by omega)) (by rw [hr]) (by omega)
    rw [this, hn, hf]
    have g0 : e.f1 = bs [] := ext_list (by rw [bs_list]; exact List.length_eq_zero_iff.1 (by rw [len_list]; exact g h2))
    refine congrArg some (congrArg (Prod.mk · _) (s36_ext rfl g0.symm h2.symm ?_))
    show (((2 * e.f3.toNat + 1) / 2 : Nat) : Int) = e.f3
    omega
theorem ents_body : ∀ (l : List S36) (last r : List UInt8), (∀ e ∈ l, MayE e) → entsL l.length last (bodyL last l ++ r) = some (l, (bodyL last l).length)
  | [], _, _, _ => rfl
  | e :: l, last, r, h => by
    have ih := ents_body l (kL e) r (fun x hx => h x (List.mem_cons_of_mem _ hx))
    simp only [List.length_cons, entsL, bodyL]
    rw [List.append_assoc, one_ent last e _ (h e List.mem_cons_self), Option.bind_some]
    dsimp only
    rw [List.drop_left, ih, Option.bind_some]
    simp only [List.length_append]
theorem putL_cut (l : List S36) : (putL l).take ((putL l).length - 4) = enc l.length ++ bodyL [] l := by
  unfold putL sealL
  rw [List.length_append, fix4_len, Nat.add_sub_cancel, List.take_left]
theorem blkT_put (l : List S36) (h : okB l = true) : blkT (putL l) = some l := by
  have hb := (okB_iff l).1 h
  have hm := ok_may l none hb.2
  unfold blkT
  rw [putL_cut, takeN_enc _ _ (by omega)]
  dsimp only
  rw [if_pos ⟨chk_seal _, rfl, hb.1⟩, List.drop_left]
  have := ents_body l [] [] hm
  rw [List.append_nil] at this
  rw [this, Option.bind_some]
  dsimp only
  rw [List.length_append, if_pos ⟨rfl, h⟩]
theorem take_split (s : List UInt8) (a b : Nat) : s.take a ++ (s.drop a).take b = s.take (a + b) := (List.take_add).symm
theorem lcp_cut (last t : List UInt8) (n : Nat) (h : n ≤ last.length) : (last.take n ++ t).drop n = t := by
  have e : (last.take n).length = n := by rw [List.length_take]; omega
  rw [List.drop_append, e, Nat.sub_self, List.drop_zero, List.drop_of_length_le (by omega), List.nil_append]
theorem one_back (last s : List UInt8) (e : S36) (m : Nat) (h : oneL last s = some (e, m)) : entL last e = s.take m ∧ m ≤ s.length := by
  refine ⟨?_, (one_len last s e m h).2⟩
  have hw := one_ways last s
  rw [h] at hw
  generalize ho : some (e, m) = o at hw
  cases hw with
  | n => cases ho
  | t => cases ho
  | q => cases ho
  | v => cases ho
  | gone n a t b q c h1 h2 h3 h4 h5 h6 =>
    obtain ⟨rfl, rfl⟩ := Prod.mk.inj (Option.some.inj ho)
    have e1 := (takeN_back _ _ _ h1).2.2.2.1
    have e3 := (takeX_back _ _ _ h3).2.2.1
    have e4 := (takeN_back _ _ _ h4).2.2.2.1
    unfold entL
    dsimp only
    rw [if_pos rfl, show kL ⟨bs (last.take n ++ t), bs [], true, ((q / 2 : Nat) : Int)⟩ = last.take n ++ t from rfl, h5, lcp_cut last t n h2, Int.toNat_natCast, show 2 * (q / 2) + 1 = q from by omega, e1]
    unfold txtL
    rw [e3, e4, ← List.append_assoc, take_split, take_split]
  | all n a t b q c v d h1 h2 h3 h4 h5 h6 h7 =>
    obtain ⟨rfl, rfl⟩ := Prod.mk.inj (Option.some.inj ho)
    have e1 := (takeN_back _ _ _ h1).2.2.2.1
    have e3 := (takeX_back _ _ _ h3).2.2.1
    have e4 := (takeN_back _ _ _ h4).2.2.2.1
    have e7 := (takeX_back _ _ _ h7).2.2.1
    unfold entL
    dsimp only
    rw [if_neg (by decide), show kL ⟨bs (last.take n ++ t), bs v, false, ((q / 2 : Nat) : Int)⟩ = last.take n ++ t from rfl, show vL ⟨bs (last.take n ++ t), bs v, false, ((q / 2 : Nat) : Int)⟩ = v from rfl, h5, lcp_cut last t n h2, Int.toNat_natCast, show 2 * (q / 2) = q from by omega, e1]
    unfold txtL
    rw [e3, e4, e7, ← List.append_assoc, ← List.append_assoc, take_split, take_split, take_split]
theorem ents_back : ∀ (n : Nat) (last s : List UInt8) (l : List S36) (m : Nat), entsL n last s = some (l, m) → l.length = n ∧ bodyL last l = s.take m ∧ m ≤ s.length
  | 0, last, s, l, m, h => by
    simp only [entsL] at h
    obtain ⟨rfl, rfl⟩ := Prod.mk.inj (Option.some.inj h)
    exact ⟨rfl, by simp [bodyL], Nat.zero_le _⟩
  | n + 1, last, s, l, m, h => by
    simp only [entsL] at h
    rw [Option.bind_eq_some_iff] at h
    obtain ⟨⟨e, a⟩, h1, h2⟩ := h
    rw [Option.bind_eq_some_iff] at h2
    obtain ⟨⟨r, b⟩, h3, h4⟩ := h2
    dsimp only at h3 h4
    obtain ⟨rfl, rfl⟩ := Prod.mk.inj (Option.some.inj h4)
    obtain ⟨i1, i2, i3⟩ := ents_back n (kL e) (s.drop a) r b h3
    obtain ⟨j1, j2⟩ := one_back last s e a h1
    rw [List.length_drop] at i3
    refine ⟨by rw [List.length_cons, i1], ?_, by omega⟩
    simp only [bodyL]
    rw [i2, j1, take_split]
theorem put_blkT (s : List UInt8) (l : List S36) (h : blkT s = some l) : putL l = s := by
  unfold blkT at h
  split at h
  · next c =>
    rw [Option.bind_eq_some_iff] at h
    obtain ⟨⟨y, m⟩, h1, h2⟩ := h
    dsimp only at h2
    split at h2
    · next d =>
      have hl := Option.some.inj h2
      subst hl
      obtain ⟨i1, i2, i3⟩ := ents_back _ _ _ _ _ h1
      obtain ⟨j1, j2, j3, j4, j5⟩ := takeN_back (s.take (s.length - 4)) (takeN (s.take (s.length - 4))).1 (takeN (s.take (s.length - 4))).2.1 (by rw [← c.2.1])
      unfold putL
      rw [i1, i2, j4, take_split, d.1, List.take_length]
      exact (chk_back s c.1).symm
    · cases h2
  · cases h
theorem putL_len (l : List S36) (h : okB l = true) : (putL l).length ≤ 400 * l.length + 13 := by
  have hb := (okB_iff l).1 h
  have h1 := bodyL_le l [] (ok_may l none hb.2)
  have h2 := enc9 (n := l.length) (by omega)
  unfold putL sealL
  rw [List.length_append, List.length_append, fix4_len]; omega
theorem back_j1 (s : ByteArray) (K : Nat) (hs : s.size ≤ 4096) (hK : 20000000 ≤ K) : sorrellaw09_BlockBack.j1 K s false = some true := by
  obtain ⟨K, rfl⟩ : ∃ m, K = m + 1 := ⟨K - 1, by omega⟩
  simp only [sorrellaw09_BlockBack.j1]
  rw [if_neg (by decide), btk_is s K (by omega) (by omega), Option.bind_some]
  cases h : blkT s.data.toList with
  | none => rw [if_neg (show ¬ (outB none).2 = 0 by decide), if_pos (show (((outB none).1.length : Nat) : Int) = 0 from rfl), awake_is K (by omega)]; rfl
  | some l =>
    have hb := blkT_ok _ l h
    have hl := ((okB_iff l).1 hb).1
    rw [if_pos (show (outB (some l)).2 = 0 from rfl)]
    dsimp only [outB]
    rw [bput_ok l K hb (by omega), Option.bind_some]
    dsimp only
    rw [put_blkT _ l h, bs_of, if_pos rfl, if_pos rfl, awake_is K (by omega)]; rfl
theorem back_is (l : List S36) (s : ByteArray) (K : Nat) (hK : 20000010 ≤ K) : sorrellaw09_BlockBack.f K l s = some true := by
  obtain ⟨b, hb, -⟩ := light_is l K (by omega)
  unfold sorrellaw09_BlockBack.f
  rw [hb, Option.bind_some]
  obtain ⟨K, rfl⟩ : ∃ m, K = m + 1 := ⟨K - 1, by omega⟩
  have no : sorrellaw09_BlockBack.j0 (K + 1) l s true = some true := by
    simp only [sorrellaw09_BlockBack.j0]
    rw [if_pos trivial, awake_is K (by omega)]; rfl
  cases b
  · rw [if_neg (by decide)]; exact no
  · rw [if_pos rfl]
    by_cases c : (s.size : Int) > 4096
    · rw [decide_eq_true c]; exact no
    · rw [decide_eq_false c]
      obtain ⟨m, h1, h2, h3⟩ := made_is l K (by omega)
      have h4 := putL_len m h2
      simp only [sorrellaw09_BlockBack.j0]
      rw [if_neg (by decide), h1, Option.bind_some, bput_ok m K h2 (by omega), Option.bind_some]
      dsimp only
      rw [btk_is _ K (by rw [bs_size]; omega) (by rw [bs_size]; omega), Option.bind_some, bs_list, blkT_put m h2, if_pos (show (0 : Int) = 0 from rfl), if_pos (show (outB (some m)).2 = 0 from rfl)]
      dsimp only [outB]
      rw [sameE_yes m K (by omega) (by omega), Option.bind_some]
      exact back_j1 s K (by omega) (by omega)
theorem law_back : sorrellaw09_BlockBack.Pure := fun l s _ _ => ⟨20000010, back_is l s _ (Nat.le_refl _)⟩
end Go.Proofs.Ytcfkmcbmambchaa.VaBack
