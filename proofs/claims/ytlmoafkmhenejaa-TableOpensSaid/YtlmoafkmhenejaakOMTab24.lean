import Derived.Test.YtlmoafkmhenejaakOMTab22
import Derived.Test.YtlmoafkmhenejaakOVaRT
section
namespace Go.Proofs.Ytlmoafkmhenejaa.VLib
end Go.Proofs.Ytlmoafkmhenejaa.VLib
namespace Go.Proofs.Ytlmoafkmhenejaa.Bld
end Go.Proofs.Ytlmoafkmhenejaa.Bld
namespace Go.Proofs.YtlmoafkmhenejaaW.PrintWords
end Go.Proofs.YtlmoafkmhenejaaW.PrintWords
namespace Go.Proofs.YtlmoafkmhenejaaW.PrintLast
end Go.Proofs.YtlmoafkmhenejaaW.PrintLast
namespace Go.Proofs.YtlmoafkmhenejaaW.PrintMore
end Go.Proofs.YtlmoafkmhenejaaW.PrintMore
namespace Go.Proofs.Ytlmoafkmhenejaa.XW
end Go.Proofs.Ytlmoafkmhenejaa.XW
namespace Go.Proofs.Ytlmoafkmhenejaa.XA
open Go.Proofs.Ytlmoafkmhenejaa.VLib Go.Proofs.Ytlmoafkmhenejaa.Bld Go.RowKit Go.Proofs.YtlmoafkmhenejaaW.PrintWords Go.Proofs.YtlmoafkmhenejaaW.PrintLast Go.Proofs.YtlmoafkmhenejaaW.PrintMore Go.Proofs.Ytlmoafkmhenejaa.XW
attribute [local go_sem high] max2_str unary_xor_u32 leq_str geq_str gtr_str
attribute [local go_sem] max2_int min2_int max_two min_two max_three min_three max_four min_four
set_option linter.unusedVariables false
set_option linter.unusedSimpArgs false
theorem build_tab (kk : Nat) (s : ByteArray) (l : List S43) : ∃ sb rb, (∀ (A : Option Addr) (c : Nat) (w : World), Kd.C k43 w A l.length l → l.length ≤ c → Calls Try.prog 14 #[.slice A l.length c] w fun e w' => e = .returned (.tuple #[.string sb, .int .i64 rb]) ∧ Below w.heap.size w w') ∧
    ((rb = 1 ∧ VaTbP.isTab s l = false) ∨ (rb = 0 ∧ ¬ sb = s ∧ VaTbP.isTab s l = false) ∨ (rb = 0 ∧ sb = s ∧ VaTbP.isTab s l = true)) := by
  by_cases h : l.length = 0 ∨ VaChk.okB l = false
  · refine ⟨⟨#[]⟩, 1, fun A c w hC hc => refbuild_none A c l w hC hc h, .inl ⟨rfl, decide_eq_false (fun x => ?_)⟩⟩
    rcases h with h | h
    · exact x.1 h
    · rw [h] at x; cases x.2.1
  · have h1 : ¬ l.length = 0 := fun e => h (.inl e)
    have h2 : VaChk.okB l = true := by
      cases e : VaChk.okB l with
      | true => rfl
      | false => exact absurd (.inr e) h
    refine ⟨bs (VaTb.tabL l), 0, fun A c w hC hc => refbuild_some A c l w hC hc h2 (by omega), .inr ?_⟩
    by_cases e : bs (VaTb.tabL l) = s
    · exact .inr ⟨rfl, e, decide_eq_true ⟨h1, h2, e⟩⟩
    · exact .inl ⟨rfl, e, decide_eq_false (fun x => e x.2.2)⟩
def refE : Option (List S43) → Int
  | some _ => 0
  | none => 100
def refL : Option (List S43) → List S43
  | some l => l
  | none => []
set_option maxHeartbeats 4000000 in
set_option maxRecDepth 100000 in
theorem refopen_calls (s : ByteArray) (r : Option (List S43)) (w : World) (hz : s.size ≤ 4096) (hr : VaTbP.openS s = r) :
    Calls Try.prog 17 #[.string s] w fun e w' => ∃ v, e = .returned (.tuple #[v, .int .i64 (refE r)]) ∧ Kd.R k43 43 w' w.heap.size (fun _ => True) v (refL r) ∧ Below w.heap.size w w' := by
  unfold VaTbP.openS at hr
  by_cases h4 : s.size < 4
  · rw [if_pos h4] at hr; subst hr; have a1 : decide ((s.size : Int) < 4) = true := decide_eq_true (by omega); clear h4 hz; go_enter Try.func17, Try.ntmps17; go_wp2; go_ret2; exact ⟨_, rfl, Kd.R_nil _ _ _ _ _, Below.refl _ _⟩
  · rw [if_neg h4] at hr; have a1 : decide ((s.size : Int) < 4) = false := decide_eq_false (by omega); obtain ⟨en, hen⟩ : ∃ en, s.size - 4 = en := ⟨_, rfl⟩; obtain ⟨tv, htv⟩ : ∃ tv, VaTbP.tailV s = tv := ⟨_, rfl⟩; have hft : VaTbP.footS s = s.extract (en - tv) en := by unfold VaTbP.footS; rw [hen, htv]
    have hx : (s.extract en s.size).data.toList = s.data.toList.drop (s.size - 4) := by rw [hen]; exact VaPut.ext_drop s en
    have hx2 : (s.extract en s.size).size = 4 := by rw [← len_list, hx, List.length_drop, len_list]; omega
    have hfx : sorrelref01_TakeFix.f (s.extract en s.size) = some ((tv : Int), 0) := by rw [VaTbP.rtfix_is _ (by omega), hx, VaTbP.valF_nat, ← htv]; rfl
    rw [hft, hen, htv] at hr; have HFX := Aside0.mk hfx; have HZ := Aside0.mk hz; have HW4 : Aside0 (wrap64 ((s.size : Int) - 4) = (en : Int)) := ⟨by unfold wrap64; omega⟩; have p1 : (0 ≤ (en : Int)) = True := eq_true (by omega); have p2 : ((en : Int) ≤ (s.size : Int)) = True := eq_true (by omega); have p3 : (en ≤ s.size) = True := eq_true (by omega); clear hfx hx hx2 hft htv
    by_cases h5 : en < tv
    · rw [if_pos h5] at hr; subst hr; have a3 : decide ((en : Int) < (tv : Int)) = true := decide_eq_true (by omega); have a4 : decide (en < tv) = true := decide_eq_true h5; clear hz hen h4 h5; have hw4 := HW4.out; go_enter Try.func17, Try.ntmps17
      go_wp2_with (go_at_call 56; go_loud ((with_reducible refine (sorrelref01_TakeFix.calls _ (tv : Int) 0 _ HFX.out).mono ?_); rintro e _ ⟨rfl, ⟨m1, rfl⟩⟩))
      go_ret2; exact ⟨_, rfl, Kd.R_nil _ _ _ _ _, pw_below_drewN (Below.refl _ _) _⟩
    · rw [if_neg h5] at hr; have a3 : decide ((en : Int) < (tv : Int)) = false := decide_eq_false (by omega); have a4 : decide (en < tv) = false := decide_eq_false h5; obtain ⟨x0, hx0⟩ : ∃ x0, en - tv = x0 := ⟨_, rfl⟩; rw [hx0] at hr; have HWX : Aside0 (wrap64 ((en : Int) - (tv : Int)) = (x0 : Int)) := ⟨by unfold wrap64; omega⟩; have p4 : (0 ≤ (x0 : Int)) = True := eq_true (by omega); have p5 : ((x0 : Int) ≤ (en : Int)) = True := eq_true (by omega); have p6 : (x0 ≤ en) = True := eq_true (by omega); have hfz : (s.extract x0 en).size ≤ s.size := by rw [← len_list, extract_list, List.length_drop, List.length_take, len_list]; omega
      have hln := VaTbP.rlen_is (s.extract x0 en) 5000 (by omega) (Nat.le_refl _); clear hz hen h4 h5 hx0 hfz; have hw4 := HW4.out; have hwx := HWX.out
      cases ht : VaTbB.sizesO (s.extract x0 en).data.toList with
      | none =>
        rw [ht] at hr hln; rw [Option.bind_none] at hr; subst hr; have HLN : Aside0 (sorrelref10_lengths.f 5000 (s.extract x0 en) = some ([], false)) := ⟨hln⟩; clear hln ht; go_enter Try.func17, Try.ntmps17
        go_wp2_with (first
          | (go_at_call 57; go_loud ((with_reducible refine (sorrelref10_lengths.calls 5000 _ [] false _ HLN.out).mono ?_); rintro e w3 ⟨v3, rfl, hR3, hb3⟩; obtain ⟨A3, c3, e3⟩ := Kd.R_slice hR3; subst e3; have HB3 := Aside0.mk (below_step (pw_below_drewN (Below.refl w.heap.size w) m1) hb3); clear hb3))
          | (go_at_call 56; go_loud ((with_reducible refine (sorrelref01_TakeFix.calls _ (tv : Int) 0 _ HFX.out).mono ?_); rintro e _ ⟨rfl, ⟨m1, rfl⟩⟩)))
        go_ret2; exact ⟨_, rfl, Kd.R_nil _ _ _ _ _, HB3.out⟩
      | some t =>
        rw [ht] at hr hln; rw [Option.bind_some] at hr; obtain ⟨R, hR⟩ : ∃ R, VaTbB.blocksL s.data.toList t 0 [] = R := ⟨_, rfl⟩; rw [hR] at hr; have HR := Aside0.mk hR; have HRR := Aside0.mk hr; obtain ⟨szs, hszs⟩ : ∃ szs : List Int, t.map (fun (x : Nat) => (x : Int)) = szs := ⟨_, rfl⟩; have HSZS := Aside0.mk hszs; have htl : szs.length = t.length := by rw [← hszs, List.length_map]
        have HTL := Aside0.mk htl; have HLN : Aside0 (sorrelref10_lengths.f 5000 (s.extract x0 en) = some (szs, true)) := ⟨by rw [← hszs]; exact hln⟩; clear hln ht hr hR hszs htl; go_enter Try.func17, Try.ntmps17
        go_wp2_with (first
          | (go_at_call 57; go_loud ((with_reducible refine (sorrelref10_lengths.calls 5000 _ szs true _ HLN.out).mono ?_); rintro e w3 ⟨v3, rfl, hR3, hb3⟩; obtain ⟨A3, c3, e3⟩ := Kd.R_slice hR3; subst e3; have HB3 := Aside0.mk (below_step (pw_below_drewN (Below.refl w.heap.size w) m1) hb3); have HC3 := Aside0.mk (Kd.R_reads' hR3).2.2; clear hb3 hR3))
          | (go_at_call 56; go_loud ((with_reducible refine (sorrelref01_TakeFix.calls _ (tv : Int) 0 _ HFX.out).mono ?_); rintro e _ ⟨rfl, ⟨m1, rfl⟩⟩)))
        have HLS : Aside0 (szs.length ≤ 9223372036854775807) := ⟨HC3.out.2.1⟩
        go_loopg [9, 10, 11] szs.length (fun kq v9 v10 v11 w' => ∃ (i p : Nat) (acc : List S43), v10 = .int .i64 (p : Int) ∧ v11 = .int .i64 (i : Int) ∧ Aside0 (i + kq = szs.length) ∧ Aside0 (p ≤ s.size) ∧ Aside0 (VaTbB.blocksL s.data.toList (t.drop i) p acc = R) ∧ Aside0 (Kd.R k43 43 w' w3.heap.size (fun _ => True) v9 acc) ∧ Aside0 (acc.length ≤ p) ∧ Aside0 (Below w3.heap.size w3 w'))
        case atStart => exact ⟨0, 0, [], rfl, rfl, ⟨Nat.zero_add _⟩, ⟨Nat.zero_le _⟩, ⟨HR.out⟩, ⟨Kd.R_nil _ _ _ _ _⟩, ⟨Nat.zero_le _⟩, ⟨Below.refl _ _⟩⟩
        case round =>
          clear HR; obtain ⟨i, p, acc, rfl, rfl, HI, HPS, HL, HO, HAL, HB⟩ := hrel; have hi := HI.out; have hls := HLS.out; obtain ⟨Aa, ca, esv⟩ := Kd.R_slice HO.out; subst esv; have HBW : Aside0 (Below w.heap.size w wr) := ⟨below_then HB3.out HB3.out.size HB.out⟩
          cases gk with
          | zero =>
            have d1 : decide ((i : Int) < (szs.length : Int)) = false := decide_eq_false (by omega); have d2 : decide (i < szs.length) = false := decide_eq_false (by omega); have hL := HL.out; rw [List.drop_eq_nil_of_le (by rw [← HTL.out]; omega), VaTbB.blocksL] at hL; have hrr := HRR.out; rw [← hL, Option.bind_some] at hrr; obtain ⟨sb, rb, hbt, hcase⟩ := build_tab 0 s acc; clear hi hls hL
            rcases hcase with ⟨rfl, hno⟩ | ⟨rfl, hne, hno⟩ | ⟨rfl, rfl, hyes⟩
            · rw [hno, if_neg (by decide)] at hrr; subst hrr
              go_wp2_with (go_at_call 14; go_loud ((with_reducible refine (hbt Aa ca _ (Kd.R_reads' HO.out).2.2 (Kd.R_reads' HO.out).2.1).mono ?_); rintro e w9 ⟨rfl, hb9⟩; have HB9 := Aside0.mk (below_step HBW.out hb9); clear hb9))
              go_ret2; exact ⟨_, rfl, Kd.R_nil _ _ _ _ _, HB9.out⟩
            · rw [hno, if_neg (by decide)] at hrr; subst hrr; have q2 : (sb.toList == s.toList) = false := beq_eq_false_iff_ne.mpr (fun h => hne (toList_inj.1 h)); clear hne
              go_wp2_with (go_at_call 14; go_loud ((with_reducible refine (hbt Aa ca _ (Kd.R_reads' HO.out).2.2 (Kd.R_reads' HO.out).2.1).mono ?_); rintro e w9 ⟨rfl, hb9⟩; have HB9 := Aside0.mk (below_step HBW.out hb9); clear hb9))
              go_ret2; exact ⟨_, rfl, Kd.R_nil _ _ _ _ _, HB9.out⟩
            · rw [hyes, if_pos rfl] at hrr; subst hrr; have q2 : (sb.toList == sb.toList) = true := beq_self_eq_true _
              go_wp2_with (go_at_call 14; go_loud ((with_reducible refine (hbt Aa ca _ (Kd.R_reads' HO.out).2.2 (Kd.R_reads' HO.out).2.1).mono ?_); rintro e w9 ⟨rfl, hb9⟩; have HB9 := Aside0.mk (below_step HBW.out hb9); have HO9 := Aside0.mk (Kd.R_below HO.out hb9); clear hb9))
              go_ret2; exact ⟨_, rfl, Kd.R_lower HO9.out HB3.out.size, HB9.out⟩
          | succ k1 =>
            have hlt : i < szs.length := by omega
            have hlt2 : i < t.length := by rw [← HTL.out]; exact hlt
            have d1 : decide ((i : Int) < (szs.length : Int)) = true := decide_eq_true (by omega); have d2 : decide (i < szs.length) = true := decide_eq_true hlt; have q1 : (0 ≤ (i : Int)) = True := eq_true (by omega); have q2 : ((i : Int) < (szs.length : Int)) = True := eq_true (by omega); have q3 : (i < szs.length) = True := eq_true hlt; obtain ⟨ad, ea, x0_⟩ := Kd.at_int (Kd.C_below HC3.out HB.out) (i : Int) (by omega) (by omega); rw [Int.toNat_natCast] at x0_; obtain ⟨z, hz'⟩ : ∃ z, t[i] = z := ⟨_, rfl⟩
            have hrd : rd szs (i : Int) = (z : Int) := by
              unfold rd
              rw [Int.toNat_natCast, List.getD_eq_getElem?_getD, ← HSZS.out, List.getElem?_map, List.getElem?_eq_getElem hlt2, hz']; rfl
            rw [hrd] at x0_; have hL := HL.out; rw [(List.getElem_cons_drop hlt2).symm, VaTbB.blocksL, hz', len_list] at hL; have hps := HPS.out; have hsz' := HZ.out; have HW : Aside0 (wrap64 ((i : Int) + 1) = ((i + 1 : Nat) : Int)) := ⟨by unfold wrap64; omega⟩; have HI2 : Aside0 (i + 1 + k1 = szs.length) := ⟨by omega⟩; obtain ⟨d, hd⟩ : ∃ d : Int, (s.size : Int) - (p : Int) = d := ⟨_, rfl⟩; have HWD : Aside0 (wrap64 ((s.size : Int) - (p : Int)) = d) := ⟨by unfold wrap64; omega⟩; cases ea; obtain ⟨ad2, ea2, y2_⟩ := Kd.at_int HC3.out (i : Int) (by omega) (by omega); injection ea2 with ea2
            subst ea2; rw [Int.toNat_natCast, hrd] at y2_; have HY := Aside0.mk y2_; clear y2_
            by_cases t1 : s.size < p + z
            · rw [if_pos t1] at hL; have e1 : decide (d < (z : Int)) = true := decide_eq_true (by omega); have hrr := HRR.out; rw [← hL, Option.bind_none] at hrr; subst hrr; clear hi hls hlt hlt2 hrd hL hz' hps hsz' hd t1; have hwd := HWD.out; go_wp2; go_ret2; exact ⟨_, rfl, Kd.R_nil _ _ _ _ _, HBW.out⟩
            · rw [if_neg t1] at hL; have e1 : decide (d < (z : Int)) = false := decide_eq_false (by omega); obtain ⟨p2_, hp2⟩ : ∃ p2_, p + z = p2_ := ⟨_, rfl⟩; have hx : (s.extract p p2_).data.toList = (s.data.toList.take (p + z)).drop p := by rw [← hp2]; exact extract_list s p (p + z)
              have hxz : (s.extract p p2_).data.toList.length = z := by rw [hx, List.length_drop, List.length_take, len_list]; omega
              have hxz2 : (s.extract p p2_).size = z := by rw [← len_list, hxz]
              have hT := VaRT2.rtk_is (s.extract p p2_) 60000 (by omega) (by omega); rw [← hx] at hL; have HWP : Aside0 (wrap64 ((p : Int) + (z : Int)) = (p2_ : Int)) := ⟨by unfold wrap64; omega⟩; have g1 : (0 ≤ (p : Int)) = True := eq_true (by omega); have g2 : ((p : Int) ≤ (p2_ : Int)) = True := eq_true (by omega); have g3 : (p ≤ p2_) = True := eq_true (by omega); have g4 : ((p2_ : Int) ≤ (s.size : Int)) = True := eq_true (by omega); have g5 : (p2_ ≤ s.size) = True := eq_true (by omega); have HP2 : Aside0 (p2_ ≤ s.size) := ⟨by omega⟩
              cases hbk : VaRT.blkT (s.extract p p2_).data.toList with
              | none =>
                rw [hbk] at hL hT; rw [Option.bind_none] at hL; have HT : Aside0 (sorrelref09_Take.f 60000 (s.extract p p2_) = some ([], 90)) := ⟨hT⟩; have hrr := HRR.out; rw [← hL, Option.bind_none] at hrr; subst hrr; clear hi hls hlt hlt2 hrd hL hz' hps hsz' hd t1 hp2 hx hxz hxz2 hT hbk; have hwd := HWD.out; have hwp := HWP.out
                go_wp2_with (go_at_call 58; go_loud ((with_reducible refine (sorrelref09_Take.calls 60000 _ [] 90 _ HT.out).mono ?_); rintro e w9 ⟨v9, rfl, hR9, hb9⟩; obtain ⟨A9, c9, e9⟩ := Kd.R_slice hR9; subst e9; have HB9 := Aside0.mk (below_step HBW.out hb9); clear hR9 hb9))
                go_ret2; exact ⟨_, rfl, Kd.R_nil _ _ _ _ _, HB9.out⟩
              | some bl =>
                have hbl := VaTbB.blk_le _ bl hbk; rw [hbk] at hL hT; rw [Option.bind_some] at hL; have HT : Aside0 (sorrelref09_Take.f 60000 (s.extract p p2_) = some (bl, 0)) := ⟨hT⟩; rw [hp2] at hL; have hal2 : (acc ++ bl).length ≤ p2_ := by have := HAL.out; rw [List.length_append]; omega
                obtain ⟨an, han⟩ : ∃ an, acc ++ bl = an := ⟨_, rfl⟩; rw [han] at hL hal2; have HL2 := Aside0.mk hL; have HAL2 := Aside0.mk hal2; have HAN := Aside0.mk han; have HAL3 : Aside0 (acc.length + bl.length ≤ 5000) := ⟨by have := HAL.out; omega⟩; clear hi hls hlt hlt2 hrd hL hz' hps hsz' hd t1 hp2 hx hxz hxz2 hT hbk hbl hal2 han; have hwd := HWD.out; have hwp := HWP.out
                go_wp2_with (first
                  | ((with_reducible refine gate_builtin (b := .append) (xs := #[.tmp 80, .tmp 81]) rfl ?_); at_builtin; go_loud (refine Kd.R_append_rows k43 (w0 := w3) w3.heap.size rfl (.tmp 80) (.tmp 81) 22 43 (.agg #[(.string ⟨#[]⟩), (.string ⟨#[]⟩), (.bool false), (.int .i64 0)]) 48 rfl Try.underlying22 info43 rfl (by decide) (by omega) (.slice Aa acc.length ca) acc bl _ _ _ (fun _ => True) (fun _ => False) rfl rfl HO9.out HC9.out (fun _ _ h => h) (fun _ h => h.elim) (fun _ _ => trivial) HB9.out HB9.out.size (by have := HAL3.out; omega) ?_); intro v10 w10 ho hb hg hat; rw [HAN.out] at ho; obtain ⟨A10, c10, e10⟩ := Kd.R_slice ho; subst e10; have HO10 := Aside0.mk ho; have HB10 := Aside0.mk hb; have u0_ : w10.cell? (ad.add i) = some (.int .i64 (z : Int)) := (HB10.out.cell (World.block_lt_of_cell? _ _ HY.out)).trans HY.out; clear ho hb hg hat)
                  | (go_at_call 58; go_loud ((with_reducible refine (sorrelref09_Take.calls 60000 _ bl 0 _ HT.out).mono ?_); rintro e w9 ⟨v9, rfl, hR9, hb9⟩; obtain ⟨A9, c9, e9⟩ := Kd.R_slice hR9; subst e9; have HC9 := Aside0.mk (Kd.R_reads' hR9).2.2; have HB9 := Aside0.mk (HB.out.trans (below_at_ hb9 HB.out.size)); have HO9 := Aside0.mk (Kd.R_below HO.out hb9); have HB9r := Aside0.mk hb9; clear hR9 hb9)))
                go_roundg k1
                case measure => omega
                case rel => exact ⟨i + 1, p2_, an, by rw [HWP.out], by rw [HW.out], HI2, HP2, HL2, HO10, HAL2, HB10⟩
end Go.Proofs.Ytlmoafkmhenejaa.XA
end
section
namespace Go.Proofs.Ytlmoafkmhenejaa.VLib
end Go.Proofs.Ytlmoafkmhenejaa.VLib
namespace Go.Proofs.Ytlmoafkmhenejaa.Bld
end Go.Proofs.Ytlmoafkmhenejaa.Bld
namespace Go.Proofs.YtlmoafkmhenejaaW.PrintWords
end Go.Proofs.YtlmoafkmhenejaaW.PrintWords
namespace Go.Proofs.YtlmoafkmhenejaaW.PrintLast
end Go.Proofs.YtlmoafkmhenejaaW.PrintLast
namespace Go.Proofs.YtlmoafkmhenejaaW.PrintMore
end Go.Proofs.YtlmoafkmhenejaaW.PrintMore
namespace Go.Proofs.Ytlmoafkmhenejaa.XW
end Go.Proofs.Ytlmoafkmhenejaa.XW
namespace Go.Proofs.Ytlmoafkmhenejaa.XA
open Go.Proofs.Ytlmoafkmhenejaa.VLib Go.Proofs.Ytlmoafkmhenejaa.Bld Go.RowKit Go.Proofs.YtlmoafkmhenejaaW.PrintWords Go.Proofs.YtlmoafkmhenejaaW.PrintLast Go.Proofs.YtlmoafkmhenejaaW.PrintMore Go.Proofs.Ytlmoafkmhenejaa.XW
attribute [local go_sem high] max2_str unary_xor_u32 leq_str geq_str gtr_str
attribute [local go_sem] max2_int min2_int max_two min_two max_three min_three max_four min_four
set_option linter.unusedVariables false
set_option linter.unusedSimpArgs false
theorem tab_nil (w : World) : TabAt w (.pointer none) [] ⟨#[]⟩ := .inl ⟨rfl, rfl, rfl⟩
theorem range_nil (lo hi : ByteArray) (w : World) : Calls Try.prog 20 #[.pointer none, .agg #[.string lo, .string hi]] w fun e w' => ∃ A c, e = .returned (.slice A 0 c) ∧ Kd.C k43 w' A 0 [] ∧ Below w.heap.size w w' := by
  refine (range_ok (.pointer none) [] ⟨#[]⟩ lo hi w (tab_nil w) (Nat.zero_le _)).mono ?_
  rintro e w' ⟨v, rfl, hR, hb⟩
  have hR' : Kd.R k43 43 w' w.heap.size (fun _ => True) v [] := hR
  obtain ⟨A, c, rfl⟩ := Kd.R_slice hR'
  exact ⟨A, c, rfl, (Kd.R_reads' hR').2.2, hb⟩
theorem len_nil (w : World) : Calls Try.prog 18 #[.pointer none] w fun e w' => e = .returned (.int .i64 0) ∧ w' = w := len_calls (.pointer none) [] ⟨#[]⟩ w (tab_nil w)
theorem same_nil (A1 : Option Addr) (c1 : Nat) (A2 : Option Addr) (c2 : Nat) (w : World) (h1 : Kd.C k43 w A1 0 []) (h2 : Kd.C k43 w A2 0 []) :
    Calls Try.prog 19 #[.slice A1 0 c1, .slice A2 0 c2] w fun e w' => e = .returned (.bool true) ∧ Below w.heap.size w w' := same_yes A1 c1 A2 c2 [] [] w rfl (Nat.zero_le _) h1 (Nat.zero_le _) h2 (Nat.zero_le _)
theorem prog_open (s : ByteArray) (r : Option (List S43)) (w : World) (hz : s.size ≤ 4096) (hr : VaTbP.openS s = r) : Calls Try.prog 16 #[.string s] w fun e w' => OpenIs w (r.map fun l => (l, VaTb.bitsT l)) e w' := by
  subst hr
  exact open_calls 10000000 300 s _ w (Nat.le_trans hz (by decide)) (VaTbP.open_is 10000000 (Nat.le_refl _) s hz)
theorem refopen_none (s : ByteArray) (w : World) (hz : s.size ≤ 4096) (hr : VaTbP.openS s = none) :
    Calls Try.prog 17 #[.string s] w fun e w' => ∃ A c, e = .returned (.tuple #[.slice A 0 c, .int .i64 100]) ∧ Kd.C k43 w' A 0 [] ∧ Below w.heap.size w w' := by
  refine (refopen_calls s none w hz hr).mono ?_
  rintro e w' ⟨v, rfl, hR, hb⟩
  have hR' : Kd.R k43 43 w' w.heap.size (fun _ => True) v [] := hR
  obtain ⟨A, c, rfl⟩ := Kd.R_slice hR'
  exact ⟨A, c, rfl, (Kd.R_reads' hR').2.2, hb⟩
theorem refopen_some (s : ByteArray) (l : List S43) (w : World) (hz : s.size ≤ 4096) (hr : VaTbP.openS s = some l) :
    Calls Try.prog 17 #[.string s] w fun e w' => ∃ A c, e = .returned (.tuple #[.slice A l.length c, .int .i64 0]) ∧ Kd.C k43 w' A l.length l ∧ l.length ≤ c ∧ Below w.heap.size w w' := by
  refine (refopen_calls s (some l) w hz hr).mono ?_
  rintro e w' ⟨v, rfl, hR, hb⟩
  have hR' : Kd.R k43 43 w' w.heap.size (fun _ => True) v l := hR
  obtain ⟨A, c, rfl⟩ := Kd.R_slice hR'
  exact ⟨A, c, rfl, (Kd.R_reads' hR').2.2, (Kd.R_reads' hR').2.1, hb⟩
theorem range_all (p : Value) (m : List S43) (bits : ByteArray) (w : World) (h : TabAt w p m bits) (hm : OkB m) :
    Calls Try.prog 20 #[p, .agg #[.string ⟨#[]⟩, .string ⟨#[]⟩]] w fun e w' => ∃ A c, e = .returned (.slice A m.length c) ∧ Kd.C k43 w' A m.length m ∧ m.length ≤ c ∧ Below w.heap.size w w' := by
  refine (range_ok p m bits ⟨#[]⟩ ⟨#[]⟩ w h hm.len).mono ?_
  rintro e w' ⟨v, rfl, hR, hb⟩
  rw [hm.all] at hR
  obtain ⟨A, c, rfl⟩ := Kd.R_slice hR
  exact ⟨A, c, rfl, (Kd.R_reads' hR).2.2, (Kd.R_reads' hR).2.1, hb⟩
set_option maxHeartbeats 4000000 in
set_option maxRecDepth 100000 in
theorem opens_law (s : ByteArray) (w : World) :
    Calls Try.prog 4 #[.string s] w fun e w' => e = .returned (.bool true) ∧ Below w.heap.size w w' := by
  by_cases q : 4096 < s.size
  · have c1 : decide ((4096 : Int) < (s.size : Int)) = true := decide_eq_true (by omega); have c2 : decide (4096 < s.size) = true := decide_eq_true q; have HB0 := Aside0.mk (Below.refl w.heap.size w); clear q; go_enter Try.func4, Try.ntmps4
    go_wp2_with (first
      | (go_at_call 12; go_loud ((refine (awake_calls _).mono ?_); rintro e w99 ⟨rfl, hb99⟩; have HB99 := Aside0.mk (below_step HB0.out hb99); clear hb99)))
    go_ret; exact ⟨rfl, HB99.out⟩
  · have c1 : decide ((4096 : Int) < (s.size : Int)) = false := decide_eq_false (by omega); have c2 : decide (4096 < s.size) = false := decide_eq_false q; have HZ : Aside0 (s.size ≤ 4096) := ⟨by omega⟩; clear q
    cases hr : VaTbP.openS s with
    | none =>
      have HR := Aside0.mk hr; clear hr; go_enter Try.func4, Try.ntmps4
      go_wp2_with (first
        | (go_at_call 12; go_loud ((refine (awake_calls _).mono ?_); rintro e w99 ⟨rfl, hb99⟩; have HB99 := Aside0.mk (below_step HB5.out hb99); clear hb99))
        | (go_at_call 19; go_loud ((with_reducible refine (same_nil A4 c4 A3 c3 _ HC4.out HC34.out).mono ?_); rintro e w5 ⟨rfl, hb5⟩; have HB5 := Aside0.mk (below_step HB4.out hb5); clear hb5))
        | (go_at_call 20; go_loud ((with_reducible refine (range_nil ⟨#[]⟩ ⟨#[]⟩ _).mono ?_); rintro e w4 ⟨A4, c4, rfl, hC4, hb4⟩; have HC4 := Aside0.mk hC4; have HC34 := Aside0.mk (Kd.C_below HC3.out hb4); have HB4 := Aside0.mk (below_step HB3.out hb4); clear hC4 hb4))
        | (go_at_call 18; go_loud ((with_reducible refine (len_nil _).mono ?_); rintro e _ ⟨rfl, rfl⟩))
        | (go_at_call 17; go_loud ((with_reducible refine (refopen_none s _ HZ.out HR.out).mono ?_); rintro e w3 ⟨A3, c3, rfl, hC3, hb3⟩; have HC3 := Aside0.mk hC3; have HB3 := Aside0.mk (below_step HB2.out hb3); clear hC3 hb3))
        | (go_at_call 16; go_loud ((with_reducible refine (prog_open s none _ HZ.out HR.out).mono ?_); rintro e w2 ⟨hb2, rfl⟩; have HB2 := Aside0.mk hb2; clear hb2)))
      go_ret; exact ⟨rfl, HB99.out⟩
    | some l =>
      have HR := Aside0.mk hr; have hok := VaTbP.openS_ok hr; have HOK : Aside0 (OkB l) := ⟨hok.2⟩; have HLM : Aside0 (l.length ≤ 1000000) := ⟨by have := HOK.out.len; omega⟩; clear hr hok; go_enter Try.func4, Try.ntmps4
      go_wp2_with (first
        | (go_at_call 12; go_loud ((refine (awake_calls _).mono ?_); rintro e w99 ⟨rfl, hb99⟩; have HB99 := Aside0.mk (below_step HB5.out hb99); clear hb99))
        | (go_at_call 19; go_loud ((with_reducible refine (same_yes A4 c4 A3 c3 l l _ rfl HLM.out HC4.out HC4c.out HC34.out HC3c.out).mono ?_); rintro e w5 ⟨rfl, hb5⟩; have HB5 := Aside0.mk (below_step HB4.out hb5); clear hb5))
        | (go_at_call 20; go_loud ((with_reducible refine (range_all _ l (VaTb.bitsT l) _ HT3.out HOK.out).mono ?_); rintro e w4 ⟨A4, c4, rfl, hC4, hc4, hb4⟩; have HC4 := Aside0.mk hC4; have HC4c := Aside0.mk hc4; have HC34 := Aside0.mk (Kd.C_below HC3.out hb4); have HB4 := Aside0.mk (below_step HB3.out hb4); clear hC4 hc4 hb4))
        | (go_at_call 18; go_loud ((with_reducible refine (len_calls _ l (VaTb.bitsT l) _ HT3.out).mono ?_); rintro e _ ⟨rfl, rfl⟩))
        | (go_at_call 17; go_loud ((with_reducible refine (refopen_some s l _ HZ.out HR.out).mono ?_); rintro e w3 ⟨A3, c3, rfl, hC3, hc3, hb3⟩; have HC3 := Aside0.mk hC3; have HC3c := Aside0.mk hc3; have HT3 := Aside0.mk (HT2.out.below hb3); have HB3 := Aside0.mk (below_step HB2.out hb3); clear hC3 hc3 hb3))
        | (go_at_call 16; go_loud ((with_reducible refine (prog_open s (some l) _ HZ.out HR.out).mono ?_); rintro e w2 ⟨hb2, g2, A2, c2_, rfl, hg2, hC2, hc2⟩; have HT2 : Aside0 (TabAt w2 (.pointer (some ⟨g2, 0, none⟩)) l (VaTb.bitsT l)) := ⟨.inr ⟨g2, A2, c2_, rfl, hg2, hC2, hc2⟩⟩; have HB2 := Aside0.mk hb2; clear hb2 hg2 hC2 hc2)))
      go_ret; exact ⟨rfl, HB99.out⟩
theorem law_opens {P : Prop} (x0 : ByteArray) (_ : P) (W : World) : Calls Try.prog 4 #[.string x0] W fun e w' => e = .returned (.bool true) ∧ Below W.heap.size W w' := opens_law x0 W
end Go.Proofs.Ytlmoafkmhenejaa.XA
end
