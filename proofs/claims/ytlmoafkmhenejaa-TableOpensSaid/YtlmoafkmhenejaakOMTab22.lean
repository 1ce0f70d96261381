import Derived.Test.YtlmoafkmhenejaakOVaTbB
import Derived.Test.YtlmoafkmhenejaakOVLib
import Derived.Test.YtlmoafkmhenejaakOVaBl
import Derived.Test.YtlmoafkmhenejaakOMTab4
import Derived.Test.YtlmoafkmhenejaakOXAx13
import Derived.Test.YtlmoafkmhenejaakOMTab10
import Derived.Test.YtlmoafkmhenejaakOOpn
import Derived.Test.YtlmoafkmhenejaakOXAx15
import Derived.Test.YtlmoafkmhenejaakOVaRT
import Derived.Test.YtlmoafkmhenejaakOVaPT
section
namespace Go.Proofs.Ytlmoafkmhenejaa.VLib
end Go.Proofs.Ytlmoafkmhenejaa.VLib
namespace Go.Proofs.Ytlmoafkmhenejaa.Bld
end Go.Proofs.Ytlmoafkmhenejaa.Bld
namespace Go.Proofs.YtlmoafkmhenejaaW.PrintWords
end Go.Proofs.YtlmoafkmhenejaaW.PrintWords
namespace Go.Proofs.YtlmoafkmhenejaaW.PrintLast
end Go.Proofs.YtlmoafkmhenejaaW.PrintLast
namespace Go.Proofs.YtlmoafkmhenejaaW.PrintMore
end Go.Proofs.YtlmoafkmhenejaaW.PrintMore
namespace Go.Proofs.Ytlmoafkmhenejaa.XW
end Go.Proofs.Ytlmoafkmhenejaa.XW
namespace Go.Proofs.Ytlmoafkmhenejaa.XA
open Go.Proofs.Ytlmoafkmhenejaa.VLib Go.Proofs.Ytlmoafkmhenejaa.Bld Go.RowKit Go.Proofs.YtlmoafkmhenejaaW.PrintWords Go.Proofs.YtlmoafkmhenejaaW.PrintLast Go.Proofs.YtlmoafkmhenejaaW.PrintMore Go.Proofs.Ytlmoafkmhenejaa.XW
attribute [local go_sem high] max2_str unary_xor_u32 leq_str geq_str gtr_str
attribute [local go_sem] max2_int min2_int max_two min_two max_three min_three max_four min_four
set_option linter.unusedVariables false
set_option linter.unusedSimpArgs false
theorem rcheck_calls (A : Option Addr) (c : Nat) (l : List S43) (r : Int) (w : World) (hC : Kd.C k43 w A l.length l) (hc : l.length ≤ c) (hr : (if VaChk.okB l = true then (0 : Int) else 1) = r) :
    Calls Try.prog 46 #[.slice A l.length c] w fun e w' => e = .returned (.int .i64 r) ∧ Below w.heap.size w w' := by
  subst hr
  exact sorrelref09_Check.calls 5000 A c l _ w hC hc (VaChk.rcheck_is_ l 5000 (by omega))
theorem rnumber_calls (n : Nat) (s : ByteArray) (w : World) (hn : n ≤ 4611686018427387904) (hs : bs (enc n) = s) :
    Calls Try.prog 47 #[.int .i64 (n : Int)] w fun e w' => e = .returned (.string s) ∧ Below w.heap.size w w' := by
  subst hs
  refine sorrelref10_number.calls 20 n _ w ?_
  unfold sorrelref10_number.f
  rw [VaB2.rput_ok n 20 hn (by omega)]
  rfl
theorem rtext_calls (x s : ByteArray) (w : World) (hx : x.size ≤ 262144) (hs : bs (VaPut.txtL x.data.toList) = s) :
    Calls Try.prog 49 #[.string x] w fun e w' => e = .returned (.string s) ∧ Below w.heap.size w w' := by
  subst hs
  refine sorrelref10_text.calls 20 x _ w ?_
  unfold sorrelref10_text.f
  rw [VaB2.rtext_ok x 20 hx (by omega)]
  rfl
theorem rput_calls (A : Option Addr) (c : Nat) (l : List S43) (s : ByteArray) (w : World) (hC : Kd.C k43 w A l.length l) (hc : l.length ≤ c) (hl : l.length ≤ 16) (hOK : OkB l) (hs : bs (VaPut.putL l) = s) :
    Calls Try.prog 48 #[.slice A l.length c] w fun e w' => e = .returned (.tuple #[.string s, .int .i64 0]) ∧ Below w.heap.size w w' := by
  subst hs
  exact sorrelref09_Put.calls 80000 A c l _ 0 w hC hc (VaRPut.rbput_ok l 80000 hOK (by omega))
theorem rseal_calls (x s : ByteArray) (w : World) (hx : x.size ≤ 500000) (hs : bs (VaB1.sealL x.data.toList) = s) :
    Calls Try.prog 50 #[.string x] w fun e w' => e = .returned (.string s) ∧ Below w.heap.size w w' := by
  subst hs
  exact sorrelref02_Seal.calls 5000001 x _ w (VaB2.rseal_is x 5000001 (by omega) (by omega))
theorem rfix_calls (n : Nat) (s : ByteArray) (w : World) (hn : n ≤ 4294967295) (hs : bs (VaB1.fix4 n) = s) :
    Calls Try.prog 51 #[.int .i64 (n : Int)] w fun e w' => e = .returned (.tuple #[.string s, .int .i64 0]) ∧ Below w.heap.size w w' := by
  subst hs
  refine sorrelref01_Fix.calls n _ 0 w ?_
  unfold sorrelref01_Fix.f
  rw [if_neg (by omega), if_neg (by omega), VaB1.ref4 n (by omega)]
structure RR (w : World) (B : Nat) (A C : Value) (al cl : List UInt8) : Prop where
  a : w.ownsRow B 5 1 A al.length (Lib.byteCells al)
  c : w.ownsRow B 5 1 C cl.length (Lib.byteCells cl)
  apart : ∀ k, A.ownBlock = some k → C.ownBlock ≠ some k
theorem RR.swap {w : World} {B : Nat} {A C : Value} {al cl : List UInt8} (h : RR w B A C al cl) : RR w B C A cl al := ⟨h.c, h.a, fun k hk e => h.apart k e hk⟩
theorem RR.below {w w1 : World} {B : Nat} {A C : Value} {al cl : List UInt8} (h : RR w B A C al cl) (hb : Below w.heap.size w w1) : RR w1 B A C al cl :=
  ⟨own_move h.a (fun k hk => hb.block k (own_lt h.a k hk)), own_move h.c (fun k hk => hb.block k (own_lt h.c k hk)), h.apart⟩
theorem RR.nil (w : World) (B : Nat) : RR w B (.slice none 0 0) (.slice none 0 0) [] [] := ⟨World.ownsRow_nil _ _ _ _, World.ownsRow_nil _ _ _ _, fun k h => by simp [Value.ownBlock] at h⟩
theorem RR.appended {w w' : World} {B : Nat} {A C A' : Value} {al cl : List UInt8} {s : ByteArray} (h : RR w B A C al cl) (hown : w'.ownsRow B 5 1 A' (al.length + s.size) (Lib.byteCells al ++ Lib.strCells s)) (hg : w.grownBy w' A.ownBlock) (hat : A'.ownBlock = A.ownBlock ∨ A'.ownBlock = some w.heap.size) : RR w' B A' C (al ++ s.data.toList) cl := by
  have hcells : Lib.byteCells (al ++ s.data.toList) = Lib.byteCells al ++ Lib.strCells s := by rw [Lib.byteCells_append, Lib.strCells_eq]
  have hl : (al ++ s.data.toList).length = al.length + s.size := by rw [List.length_append, Array.length_toList]; rfl
  refine ⟨by rw [hcells, hl]; exact hown, own_move h.c (fun k hk => hg.block k (own_lt h.c k hk) (fun e => h.apart k e.symm hk)), fun k hk e => ?_⟩
  rcases hat with hat | hat
  · exact h.apart k (hat.symm.trans hk) e
  · rw [hat] at hk; injection hk with hk
    have := own_lt h.c k e
    omega
theorem RR.kept {w w' w0 : World} {B : Nat} {A C : Value} {al cl : List UInt8} (h : RR w B A C al cl) (hB : Below B w0 w) (hs : B ≤ w.heap.size) (hg : w.grownBy w' A.ownBlock) : Below B w0 w' :=
  hB.grown hg hs (fun k hk => (h.a.lt k hk).1)
theorem byte_back : ∀ al : List UInt8, (al.map (fun b => (b.toNat : Int))).map (fun n => UInt8.ofNat n.toNat) = al
  | [] => rfl
  | b :: al => by rw [List.map_cons, List.map_cons, byte_back al, Int.toNat_natCast, u8_eta]
theorem RR.str {w : World} {B : Nat} {A C : Value} {al cl : List UInt8} (h : RR w B A C al cl) : (convert 47 9 A).run Try.prog w = .ok (.string (bs al)) w := by
  have e : Lib.byteCells al = nums .u8 (al.map (fun b => (b.toNat : Int))) := by unfold Lib.byteCells nums; rw [List.map_map]; rfl
  have := own_string (P := Try.prog) Try.underlying47 Try.underlying5 Try.underlying9 (xs := al.map (fun b => (b.toNat : Int))) (by rw [← e]; exact h.a)
  rw [this, nums_bs, byte_back]
set_option maxHeartbeats 4000000 in
set_option maxRecDepth 100000 in
theorem refbuild_none (A : Option Addr) (c : Nat) (l : List S43) (w : World) (hC : Kd.C k43 w A l.length l) (hc : l.length ≤ c) (h : l.length = 0 ∨ VaChk.okB l = false) :
    Calls Try.prog 14 #[.slice A l.length c] w fun e w' => e = .returned (.tuple #[.string ⟨#[]⟩, .int .i64 1]) ∧ Below w.heap.size w w' := by
  have HC := Aside0.mk hC
  have HCC := Aside0.mk hc
  by_cases q : l.length = 0
  · have c1 : ((l.length : Int) == 0) = true := beq_iff_eq.mpr (by omega); clear hC hc h q; go_enter Try.func14, Try.ntmps14; go_wp2; go_ret2; exact ⟨rfl, Below.refl _ _⟩
  · have c1 : ((l.length : Int) == 0) = false := beq_eq_false_iff_ne.mpr (by omega); have HO : Aside0 ((if VaChk.okB l = true then (0 : Int) else 1) = 1) := ⟨by rcases h with h | h; exact absurd h q; rw [h]; rfl⟩; clear hC hc h q; go_enter Try.func14, Try.ntmps14
    go_wp2_with (go_at_call 46; go_loud ((with_reducible refine (rcheck_calls A c l 1 _ HC.out HCC.out HO.out).mono ?_); rintro e w1 ⟨rfl, hb1⟩; have HB1 := Aside0.mk hb1; clear hb1))
    go_ret2; exact ⟨rfl, HB1.out⟩
set_option maxHeartbeats 4000000 in
set_option maxRecDepth 100000 in
theorem refbuild_some (A : Option Addr) (c : Nat) (l : List S43) (w : World) (hC : Kd.C k43 w A l.length l) (hc : l.length ≤ c) (hOK : OkB l) (hl : 0 < l.length) :
    Calls Try.prog 14 #[.slice A l.length c] w fun e w' => e = .returned (.tuple #[.string (bs (VaTb.tabL l)), .int .i64 0]) ∧ Below w.heap.size w w' := by
  have infoB : (Try.prog.info? 5).map (fun i => (i.zero, i.size, i.bytes)) = some (some (.int .u8 0), 1, 1) := by kernel_rfl
  obtain ⟨i0, hi, hz0, hz1, hz2⟩ := info_parts infoB
  obtain ⟨i43, hi43, _, hsz43, _⟩ := info_parts info43
  have hfl := VaTb.footL_le l hOK
  have h4 := hOK.len
  have HC := Aside0.mk hC
  have HCC := Aside0.mk hc
  have HOK := Aside0.mk hOK
  have HLL : Aside0 (0 < l.length ∧ l.length ≤ 4096) := ⟨by omega⟩
  have HO : Aside0 ((if VaChk.okB l = true then (0 : Int) else 1) = 0) := ⟨by rw [show VaChk.okB l = true from hOK]; rfl⟩
  have c1 : ((l.length : Int) == 0) = false := beq_eq_false_iff_ne.mpr (by omega)
  obtain ⟨nb, hnb⟩ : ∃ nb, (l.length + 15) / 16 = nb := ⟨_, rfl⟩
  have HNB : Aside0 (nb ≤ 4611686018427387904) := ⟨Nat.le_trans (show nb ≤ 5000 by omega) (by decide)⟩
  have hnbz : wrap64 ((wrap64 ((l.length : Int) + 15)).tdiv 16) = (nb : Int) := by rw [w64 (n := (l.length : Int) + 15) (by omega) (by omega), Int.tdiv_eq_ediv_of_nonneg (by omega), w64 (by omega) (by omega)]; omega
  have HNBZ := Aside0.mk hnbz
  clear hnbz
  obtain ⟨s0, hs0⟩ : ∃ s0, bs (enc nb) = s0 := ⟨_, rfl⟩
  have HS0 := Aside0.mk hs0
  have hF0 : Aside0 (VaTb.footL l = enc nb ++ (VaTb.footT 300 l ++ VaPut.txtL (VaTb.bitsT l).data.toList)) := ⟨by unfold VaTb.footL; rw [hnb]⟩
  have hF : VaTb.footL l = enc nb ++ (VaTb.footT 300 l ++ VaPut.txtL (VaTb.bitsT l).data.toList) := by unfold VaTb.footL; rw [hnb]
  have HS0z : Aside0 (s0.size ≤ 400000 ∧ s0.data.toList = enc nb) := ⟨by rw [← hs0, bs_size, bs_list]; have := congrArg List.length hF; rw [List.length_append] at this; exact ⟨by omega, rfl⟩⟩
  have HF : Aside0 ((enc nb ++ VaTb.footT 300 l).length ≤ 400000 ∧ (VaTb.bodyT 300 l).length ≤ 30000000) := ⟨by have := congrArg List.length hF; rw [← List.append_assoc, List.length_append] at this; omega⟩
  clear hC hc hOK hl hs0 hF hfl h4 hnb
  go_enter Try.func14, Try.ntmps14
  go_wp2_with (first
    | (at_builtin; go_loud (refine wpList_append_str_at rfl _ _ 47 9 rfl w.heap.size 5 i0 Try.underlying47 Try.underlying9 hi hz0 hz1 hz2 _ _ _ rfl (HR2.out.a) s0 rfl (by have := HS0z.out; unfold maxLen; simp only [List.length_nil]; omega) (by have := HS0z.out; simp only [List.length_nil]; omega) HB2.out.size ?_); intro v3 w3 hown hg hat; have HR3 := Aside0.mk (HR2.out.appended hown hg hat); have HB3 := Aside0.mk (HR2.out.kept HB2.out HB2.out.size hg); clear hown hg hat)
    | (go_at_call 47; go_loud (rw [HNBZ.out]; (with_reducible refine (rnumber_calls nb s0 _ HNB.out HS0.out).mono ?_); rintro e w2 ⟨rfl, hb2⟩; have HB2 := Aside0.mk (below_step HB1.out hb2); have HR2 := Aside0.mk (RR.nil w2 w.heap.size); clear hb2))
    | (go_at_call 46; go_loud ((with_reducible refine (rcheck_calls A c l 0 _ HC.out HCC.out HO.out).mono ?_); rintro e w1 ⟨rfl, hb1⟩; have HB1 := Aside0.mk hb1; clear hb1)))
  go_loopg [4, 5, 6] 300 (fun kq v4 v5 v6 w' => ∃ (i : Nat) (fs os : List UInt8), v6 = .int .i64 (i : Int) ∧ Aside0 (RR w' w.heap.size v5 v4 fs os) ∧ Aside0 (Below w.heap.size w w') ∧ Aside0 (fs ++ VaTb.footT kq (l.drop i) = enc nb ++ VaTb.footT 300 l ∧ os ++ VaTb.bodyT kq (l.drop i) = VaTb.bodyT 300 l) ∧ Aside0 ((l.drop i).length + 16 ≤ 16 * kq ∧ i ≤ 5000))
  case atStart => exact ⟨0, _, _, rfl, HR3, HB3, ⟨by rw [List.drop_zero, List.nil_append, HS0z.out.2]; exact ⟨rfl, rfl⟩⟩, ⟨by rw [List.drop_zero]; have := HLL.out; omega⟩⟩
  case round =>
    clear HR3 HB3; obtain ⟨i, fs, os, rfl, HRR, HB, HEQ, HLE⟩ := hrel; have hle := HLE.out; have hll := HLL.out; rw [List.length_drop] at hle
    cases gk with
    | zero => exact absurd hle.1 (by omega)
    | succ k1 =>
      by_cases q : i < l.length
      · have d1 : decide ((i : Int) < (l.length : Int)) = true := decide_eq_true (by omega); have d2 : decide (i < l.length) = true := decide_eq_true q; obtain ⟨j, hj⟩ : ∃ j, i + 16 = j := ⟨_, rfl⟩; have hwj : wrap64 ((i : Int) + 16) = (j : Int) := by unfold wrap64; omega
        have HWJ := Aside0.mk hwj; have HJ := Aside0.mk hj; clear hwj
        obtain ⟨n, hn, hn2⟩ : ∃ n : Nat, (if (j : Int) < (l.length : Int) then (j : Int) else (l.length : Int)) = (n : Int) ∧ n = min l.length (i + 16) := by
          by_cases h16 : (j : Int) < (l.length : Int)
          · exact ⟨j, by rw [if_pos h16], by omega⟩
          · exact ⟨l.length, by rw [if_neg h16], by omega⟩
        have hn' : (if j < l.length then (j : Int) else (l.length : Int)) = (n : Int) := by rw [← hn]; by_cases h16 : j < l.length <;> simp [h16]
        have HOKd : OkB (l.drop i) := VaTb.okB_of (VaTb.okF_drop i l ((VaPut.okB_iff l).1 HOK.out).2) (by rw [List.length_drop]; omega)
        have hpt0 : (l.take n).drop i = (l.drop i).take 16 := by
          rw [hn2, List.drop_take]
          rcases (show min l.length (i + 16) - i = 16 ∨ (min l.length (i + 16) - i < 16 ∧ min l.length (i + 16) - i = (l.drop i).length) by rw [List.length_drop]; omega) with h | ⟨h1, h2⟩
          · rw [h]
          · rw [h2, List.take_length, List.take_of_length_le (by omega)]
        have htl : (l.take n).length = n := by rw [List.length_take]; omega
        have hdl : ((l.take n).drop i).length = n - i := by rw [List.length_drop, htl]
        have hcc := HCC.out; have hcut := cut_mid (P := Try.prog) 22 43 .i64 .i64 Try.underlying22 hi43 4 hsz43 A l.length c (i : Int) (n : Int) (by omega) (by omega) (by omega) hcc; rw [Int.toNat_natCast, Int.toNat_natCast] at hcut; have hCd := Kd.C_drop (Kd.C_take HC.out (m := n) (by omega)) (m := i) (c := c) (by omega) (by omega); obtain ⟨A2, hA2⟩ : ∃ A2, (if c = i then A else A.map (·.add (i * 4))) = A2 := ⟨_, rfl⟩; obtain ⟨c2, hc2⟩ : ∃ c2, c - i = c2 := ⟨_, rfl⟩; have hCd' : Kd.C k43 w A2 ((l.take n).drop i).length ((l.take n).drop i) := by rw [← hA2]; exact hCd
        have hle2 : ((l.take n).drop i).length ≤ c2 := by rw [hdl]; omega
        have hp16 : ((l.take n).drop i).length ≤ 16 ∧ 0 < ((l.take n).drop i).length := by rw [hdl]; omega
        rw [← hdl] at hcut; obtain ⟨pt, hpt⟩ : ∃ pt, (l.take n).drop i = pt := ⟨_, rfl⟩; rw [hA2, hc2, hpt] at hcut; rw [hpt] at hCd' hle2 hp16 hpt0; have HOKp : OkB pt := by rw [hpt0]; exact VaTb.okB_of (VaTb.okF_take 16 _ none ((VaPut.okB_iff _).1 HOKd).2) (by rw [List.length_take]; omega)
        have HPOK := Aside0.mk HOKp; have HP16 := Aside0.mk hp16; have HCP := Aside0.mk hCd'; have HCPc := Aside0.mk hle2
        -- the key that the block begins with
        obtain ⟨ad, ea, y0, -, -, -⟩ := at_T43 HC.out (i : Int) (by omega) (by omega); rw [Int.toNat_natCast] at y0
        have hky : (rd_T43 pt 0).f0 = (rd_T43 l (i : Int)).f0 := by
          rw [show rd_T43 pt 0 = pt[0]'(hp16.2) from VaChk.rdT pt 0 hp16.2, VaChk.rdT l i q]
          congr 1
          simp only [hpt0, List.getElem_take, List.getElem_drop, Nat.add_zero]
        obtain ⟨K, hK⟩ : ∃ K, (rd_T43 l (i : Int)).f0 = K := ⟨_, rfl⟩; rw [hK] at hky y0; have hKs : K.size ≤ 64 := by rw [← hky]; exact VaTb.head_le pt ((VaPut.okB_iff _).1 HOKp).2 hp16.2
        obtain ⟨bb, hbb⟩ : ∃ bb, bs (VaPut.putL pt) = bb := ⟨_, rfl⟩; obtain ⟨tx, htx⟩ : ∃ tx, bs (VaPut.txtL K.data.toList) = tx := ⟨_, rfl⟩; obtain ⟨nn, hnn⟩ : ∃ nn, bs (enc bb.size) = nn := ⟨_, rfl⟩; have hbs : bb.size = (VaPut.putL pt).length := by rw [← hbb, bs_size]
        have heq := HEQ.out; have hne : ¬ (l.drop i).length = 0 := by rw [List.length_drop]; omega
        have hd2 : (l.drop i).drop 16 = l.drop (i + 16) := List.drop_drop
        have e1 : VaTb.footT (k1 + 1) (l.drop i) = tx.data.toList ++ (nn.data.toList ++ VaTb.footT k1 (l.drop (i + 16))) := by
          rw [VaTb.footT, if_neg hne, ← hpt0, hd2, VaTb.headK, hky, ← htx, ← hnn, hbs]; rfl
        have e2 : VaTb.bodyT (k1 + 1) (l.drop i) = bb.data.toList ++ VaTb.bodyT k1 (l.drop (i + 16)) := by
          rw [VaTb.bodyT, if_neg hne, ← hpt0, hd2, ← hbb]; rfl
        rw [e1, e2] at heq; have HEQ2 : Aside0 ((fs ++ tx.data.toList ++ nn.data.toList) ++ VaTb.footT k1 (l.drop (i + 16)) = enc nb ++ VaTb.footT 300 l ∧ (os ++ bb.data.toList) ++ VaTb.bodyT k1 (l.drop (i + 16)) = VaTb.bodyT 300 l) := ⟨by rw [← heq.1]; simp only [List.append_assoc], by rw [← heq.2]; simp only [List.append_assoc]⟩; have hz1_ := len_list tx; have hz2_ := len_list nn; have hz3_ := len_list bb
        have HSZ : Aside0 (fs.length + tx.size ≤ 1000000 ∧ (fs ++ tx.data.toList).length + nn.size ≤ 1000000 ∧ os.length + bb.size ≤ 100000000) := ⟨by
          have g1 := congrArg List.length HEQ2.out.1; have g2 := congrArg List.length HEQ2.out.2; have g3 := HF.out; simp only [List.length_append] at g1 g2 g3 ⊢
          omega⟩
        have HBB := Aside0.mk hbb; have HTX := Aside0.mk htx; have HNN := Aside0.mk hnn; have HKS : Aside0 (K.size ≤ 262144) := ⟨by omega⟩; have HBN : Aside0 (bb.size ≤ 4611686018427387904) := ⟨Nat.le_trans (show bb.size ≤ 100000000 by have := HSZ.out; omega) (by decide)⟩; have HLE2 : Aside0 ((l.drop (i + 16)).length + 16 ≤ 16 * k1 ∧ i + 16 ≤ 5000) := ⟨by rw [List.length_drop]; omega⟩; have p1 : (0 ≤ (i : Int)) = True := eq_true (by omega); have p2 : ((i : Int) < (l.length : Int)) = True := eq_true (by omega); have p3 : (i < l.length) = True := eq_true q; subst ea; have YW := Aside0.mk y0; clear hj hle hn2 HOKd hpt0 htl hdl hcc hCd hA2 hc2 hCd' hle2 hp16 hpt HOKp hky hK hKs hbb htx hnn hbs heq hne hd2 e1 e2 hz1_ hz2_ hz3_ q y0; have hwj := HWJ.out
        go_wp2_with (first
          | ((with_reducible refine gate_builtin (b := .append) (xs := #[.tmp 58, .tmp 61]) rfl ?_); at_builtin; go_loud (refine wpList_append_str_at rfl _ _ 47 9 rfl w.heap.size 5 i0 Try.underlying47 Try.underlying9 hi hz0 hz1 hz2 _ _ _ rfl (HR8.out.a) nn rfl (by have := HSZ.out; unfold maxLen; omega) (by have := HSZ.out; omega) HB8.out.size ?_); intro v9 w9 hown hg hat; have HR9 := Aside0.mk ((HR8.out.appended hown hg hat)); have HB9 := Aside0.mk (HR8.out.kept HB8.out HB8.out.size hg); clear hown hg hat)
          | (go_at_call 47; go_loud ((with_reducible refine (rnumber_calls bb.size nn _ HBN.out HNN.out).mono ?_); rintro e w8 ⟨rfl, hb8⟩; have HB8 := Aside0.mk (below_step HB7.out hb8); have HR8 := Aside0.mk (HR7.out.below hb8); clear hb8))
          | ((with_reducible refine gate_builtin (b := .append) (xs := #[.tmp 50, .tmp 56]) rfl ?_); at_builtin; go_loud (refine wpList_append_str_at rfl _ _ 47 9 rfl w.heap.size 5 i0 Try.underlying47 Try.underlying9 hi hz0 hz1 hz2 _ _ _ rfl (HR6.out.a) tx rfl (by have := HSZ.out; unfold maxLen; omega) (by have := HSZ.out; omega) HB6.out.size ?_); intro v7 w7 hown hg hat; have HR7 := Aside0.mk ((HR6.out.appended hown hg hat)); have HB7 := Aside0.mk (HR6.out.kept HB6.out HB6.out.size hg); clear hown hg hat)
          | (go_at_call 49; go_loud ((with_reducible refine (rtext_calls K tx _ HKS.out HTX.out).mono ?_); rintro e w6 ⟨rfl, hb6⟩; have HB6 := Aside0.mk (below_step HB5.out hb6); have HR6 := Aside0.mk (HR5.out.below hb6); clear hb6))
          | ((with_reducible refine gate_builtin (b := .append) (xs := #[.tmp 47, .tmp 48]) rfl ?_); at_builtin; go_loud (refine wpList_append_str_at rfl _ _ 47 9 rfl w.heap.size 5 i0 Try.underlying47 Try.underlying9 hi hz0 hz1 hz2 _ _ _ rfl (HR4.out.swap.a) bb rfl (by have := HSZ.out; unfold maxLen; omega) (by have := HSZ.out; omega) HB4.out.size ?_); intro v5 w5 hown hg hat; have HR5 := Aside0.mk (RR.swap (HR4.out.swap.appended hown hg hat)); have HB5c := HR4.out.swap.kept HB4.out HB4.out.size hg; have y5 : w5.cell? (ad.add (i * 4)) = some (.string K) := (HB5c.cell (World.block_lt_of_cell? _ _ YW.out)).trans YW.out; have HB5 := Aside0.mk (HR4.out.swap.kept HB4.out HB4.out.size hg); clear HB5c hown hg hat)
          | (go_at_call 48; go_loud ((with_reducible refine (rput_calls A2 c2 pt bb _ (Kd.C_below HCP.out HB.out) HCPc.out HP16.out.1 HPOK.out HBB.out).mono ?_); rintro e w4 ⟨rfl, hb4⟩; have HB4 := Aside0.mk (below_step HB.out hb4); have HR4 := Aside0.mk (HRR.out.below hb4); clear hb4)))
        go_roundg k1
        case measure => omega
        case rel => exact ⟨i + 16, _, _, by rw [HJ.out, HWJ.out], HR9, HB9, HEQ2, HLE2⟩
      · have d1 : decide ((i : Int) < (l.length : Int)) = false := decide_eq_false (by omega); have d2 : decide (i < l.length) = false := decide_eq_false q; have hd0 : l.drop i = [] := List.drop_eq_nil_of_le (by omega); have heq := HEQ.out; rw [hd0] at heq; have e1 : VaTb.footT (k1 + 1) ([] : List S43) = [] := by rw [VaTb.footT]; exact if_pos rfl
        have e2 : VaTb.bodyT (k1 + 1) ([] : List S43) = [] := by rw [VaTb.bodyT]; exact if_pos rfl
        rw [e1, e2, List.append_nil, List.append_nil] at heq; obtain ⟨tx, htx⟩ : ∃ tx, bs (VaPut.txtL (VaTb.bitsT l).data.toList) = tx := ⟨_, rfl⟩; have HTX := Aside0.mk htx; have hbz := VaTb.bitsT_size l; have HBZ : Aside0 ((VaTb.bitsT l).size ≤ 262144) := ⟨by omega⟩; have hft : fs ++ tx.data.toList = VaTb.footL l := by rw [heq.1, ← htx, bs_list, hF0.out, List.append_assoc]
        obtain ⟨ft, hft2⟩ : ∃ ft, bs (VaTb.footL l) = ft := ⟨_, rfl⟩; obtain ⟨sl, hsl⟩ : ∃ sl, bs (VaB1.sealL ft.data.toList) = sl := ⟨_, rfl⟩; have HSL := Aside0.mk hsl; obtain ⟨fx, hfx⟩ : ∃ fx, bs (VaB1.fix4 sl.size) = fx := ⟨_, rfl⟩; have HFX := Aside0.mk hfx; have hfl := VaTb.footL_le l HOK.out; have hz1 := len_list tx; have hz2 : ft.size = (VaTb.footL l).length := by rw [← hft2, bs_size]
        have hsl2 : sl = bs (VaTb.sfootL l) := by rw [← hsl, ← hft2, bs_list]; rfl
        have hz3 : sl.size = (VaTb.footL l).length + 4 := by rw [hsl2, bs_size, VaTb.sfoot_len]
        have hz4 : fx.size = 4 := by rw [← hfx, bs_size, VaB1.fix4_len]
        have HT1 : Aside0 (fs.length + tx.size ≤ 1000000) := ⟨by have g := congrArg List.length hft; rw [List.length_append] at g; omega⟩; have HT2 : Aside0 (os.length + sl.size ≤ 100000000) := ⟨by rw [heq.2]; omega⟩; have HT3 : Aside0 ((os ++ sl.data.toList).length + fx.size ≤ 100000000) := ⟨by have := len_list sl; rw [List.length_append, heq.2]; omega⟩; have HFS : Aside0 (ft.size ≤ 500000) := ⟨by omega⟩; have HSS : Aside0 (sl.size ≤ 4294967295) := ⟨by omega⟩; have HFT : Aside0 (bs (fs ++ tx.data.toList) = ft) := ⟨by rw [hft]; exact hft2⟩
        have HOUT : Aside0 (bs (os ++ sl.data.toList ++ fx.data.toList) = bs (VaTb.tabL l)) := ⟨by
          have h1 : fx.data.toList = VaB1.fix4 (VaTb.sfootL l).length := by rw [← hfx, bs_list, hsl2, bs_size]
          rw [heq.2, h1, hsl2, bs_list, List.append_assoc]; rfl⟩
        clear hd0 heq e1 e2 htx hbz hft hft2 hsl hfx hfl hz1 hz2 hsl2 hz3 hz4 hle hll q
        go_wp2_with (first
          | ((with_reducible refine gate_builtin (b := .append) (xs := #[.tmp 85, .tmp 86]) rfl ?_); at_builtin; go_loud (refine wpList_append_str_at rfl _ _ 47 9 rfl w.heap.size 5 i0 Try.underlying47 Try.underlying9 hi hz0 hz1 hz2 _ _ _ rfl (HRa.out.swap.a) fx rfl (by have := HT3.out; unfold maxLen; omega) (by have := HT3.out; omega) HBa.out.size ?_); intro vb wb hown hg hat; have HRb := Aside0.mk (RR.swap (HRa.out.swap.appended hown hg hat)); have HBb := Aside0.mk (HRa.out.swap.kept HBa.out HBa.out.size hg); have hcv2 := HRb.out.swap.str; rw [HOUT.out] at hcv2; clear hown hg hat)
          | ((with_reducible refine gate_builtin (b := .append) (xs := #[.tmp 82, .tmp 83]) rfl ?_); at_builtin; go_loud (refine wpList_append_str_at rfl _ _ 47 9 rfl w.heap.size 5 i0 Try.underlying47 Try.underlying9 hi hz0 hz1 hz2 _ _ _ rfl (HR9.out.swap.a) sl rfl (by have := HT2.out; unfold maxLen; omega) (by have := HT2.out; omega) HB9.out.size ?_); intro va wa hown hg hat; have HRa := Aside0.mk (RR.swap (HR9.out.swap.appended hown hg hat)); have HBa := Aside0.mk (HR9.out.swap.kept HB9.out HB9.out.size hg); clear hown hg hat)
          | (go_at_call 51; go_loud ((with_reducible refine (rfix_calls sl.size fx _ HSS.out HFX.out).mono ?_); rintro e w9 ⟨rfl, hb9⟩; have HB9 := Aside0.mk (below_step HB8.out hb9); have HR9 := Aside0.mk (HR8.out.below hb9); clear hb9))
          | (go_at_call 50; go_loud ((with_reducible refine (rseal_calls ft sl _ HFS.out HSL.out).mono ?_); rintro e w8 ⟨rfl, hb8⟩; have HB8 := Aside0.mk (below_step HB7.out hb8); have HR8 := Aside0.mk (HR7.out.below hb8); clear hb8))
          | ((with_reducible refine gate_builtin (b := .append) (xs := #[.tmp 69, .tmp 71]) rfl ?_); at_builtin; go_loud (refine wpList_append_str_at rfl _ _ 47 9 rfl w.heap.size 5 i0 Try.underlying47 Try.underlying9 hi hz0 hz1 hz2 _ _ _ rfl (HR6.out.a) tx rfl (by have := HT1.out; unfold maxLen; omega) (by have := HT1.out; omega) HB6.out.size ?_); intro v7 w7 hown hg hat; have HR7 := Aside0.mk ((HR6.out.appended hown hg hat)); have HB7 := Aside0.mk (HR6.out.kept HB6.out HB6.out.size hg); have hcv := HR7.out.str; rw [HFT.out] at hcv; clear hown hg hat)
          | (go_at_call 49; go_loud ((with_reducible refine (rtext_calls (VaTb.bitsT l) tx _ HBZ.out HTX.out).mono ?_); rintro e w6 ⟨rfl, hb6⟩; have HB6 := Aside0.mk (below_step HB5.out hb6); have HR6 := Aside0.mk (HQ5.out.below hb6); clear hb6))
          | (go_at_call 27; go_loud ((with_reducible refine (rmake_calls A4 c4 l _ (Kd.R_reads' HR4.out).2.2 (Kd.R_reads' HR4.out).2.1 HOK.out).mono ?_); rintro e w5 ⟨rfl, hb5⟩; have HB5 := Aside0.mk (below_step HB4.out hb5); have HQ5 := Aside0.mk (HQ4.out.below hb5); clear hb5))
          | (go_at_call 28; go_loud ((with_reducible refine (rkeys_calls A c l _ (Kd.C_below HC.out HB.out) HCC.out HOK.out).mono ?_); rintro e w4 ⟨v4, rfl, hR4, hb4⟩; obtain ⟨A4, c4, e4⟩ := Kd.R_slice hR4; subst e4; have HR4 := Aside0.mk hR4; have HB4 := Aside0.mk (below_step HB.out hb4); have HQ4 := Aside0.mk (HRR.out.below hb4); clear hR4 hb4)))
        go_ret2; exact ⟨rfl, HBb.out⟩
end Go.Proofs.Ytlmoafkmhenejaa.XA
end
section
namespace Go.Proofs.Ytlmoafkmhenejaa.XA
end Go.Proofs.Ytlmoafkmhenejaa.XA
namespace Go.Proofs.Ytlmoafkmhenejaa.VLib
end Go.Proofs.Ytlmoafkmhenejaa.VLib
namespace Go.Proofs.Ytlmoafkmhenejaa.CLib
end Go.Proofs.Ytlmoafkmhenejaa.CLib
namespace Go.Proofs.Ytlmoafkmhenejaa.XW
end Go.Proofs.Ytlmoafkmhenejaa.XW
namespace Go.Proofs.Ytlmoafkmhenejaa.VaB1
end Go.Proofs.Ytlmoafkmhenejaa.VaB1
namespace Go.Proofs.Ytlmoafkmhenejaa.VaB2
end Go.Proofs.Ytlmoafkmhenejaa.VaB2
namespace Go.Proofs.Ytlmoafkmhenejaa.VaB3
end Go.Proofs.Ytlmoafkmhenejaa.VaB3
namespace Go.Proofs.Ytlmoafkmhenejaa.VaChk
end Go.Proofs.Ytlmoafkmhenejaa.VaChk
namespace Go.Proofs.Ytlmoafkmhenejaa.VaPut
end Go.Proofs.Ytlmoafkmhenejaa.VaPut
namespace Go.Proofs.Ytlmoafkmhenejaa.VaBl
end Go.Proofs.Ytlmoafkmhenejaa.VaBl
namespace Go.Proofs.Ytlmoafkmhenejaa.VaBits
end Go.Proofs.Ytlmoafkmhenejaa.VaBits
namespace Go.Proofs.Ytlmoafkmhenejaa.VaFix
end Go.Proofs.Ytlmoafkmhenejaa.VaFix
namespace Go.Proofs.Ytlmoafkmhenejaa.VaRT
end Go.Proofs.Ytlmoafkmhenejaa.VaRT
namespace Go.Proofs.Ytlmoafkmhenejaa.VaRT2
end Go.Proofs.Ytlmoafkmhenejaa.VaRT2
namespace Go.Proofs.Ytlmoafkmhenejaa.VaPT
end Go.Proofs.Ytlmoafkmhenejaa.VaPT
namespace Go.Proofs.Ytlmoafkmhenejaa.VaBack
end Go.Proofs.Ytlmoafkmhenejaa.VaBack
namespace Go.Proofs.Ytlmoafkmhenejaa.VaTb
end Go.Proofs.Ytlmoafkmhenejaa.VaTb
namespace Go.Proofs.Ytlmoafkmhenejaa.VaTbB
end Go.Proofs.Ytlmoafkmhenejaa.VaTbB
namespace Go.Proofs.YtlmoafkmhenejaaW.PrintWords
end Go.Proofs.YtlmoafkmhenejaaW.PrintWords
namespace Go.Proofs.YtlmoafkmhenejaaW.PrintLast
end Go.Proofs.YtlmoafkmhenejaaW.PrintLast
namespace Go.Proofs.YtlmoafkmhenejaaW.PrintMore
end Go.Proofs.YtlmoafkmhenejaaW.PrintMore
namespace Go.Proofs.Ytlmoafkmhenejaa.VaTbP
open Go.RowKit Go.Proofs.Ytlmoafkmhenejaa.XA Go.Proofs.Ytlmoafkmhenejaa.VLib Go.Proofs.Ytlmoafkmhenejaa.CLib Go.Proofs.Ytlmoafkmhenejaa.XW Go.Proofs.Ytlmoafkmhenejaa.VaB1 Go.Proofs.Ytlmoafkmhenejaa.VaB2 Go.Proofs.Ytlmoafkmhenejaa.VaB3 Go.Proofs.Ytlmoafkmhenejaa.VaChk Go.Proofs.Ytlmoafkmhenejaa.VaPut Go.Proofs.Ytlmoafkmhenejaa.VaBl Go.Proofs.Ytlmoafkmhenejaa.VaBits Go.Proofs.Ytlmoafkmhenejaa.VaFix Go.Proofs.Ytlmoafkmhenejaa.VaRT Go.Proofs.Ytlmoafkmhenejaa.VaRT2 Go.Proofs.Ytlmoafkmhenejaa.VaPT Go.Proofs.Ytlmoafkmhenejaa.VaBack Go.Proofs.Ytlmoafkmhenejaa.VaTb Go.Proofs.Ytlmoafkmhenejaa.VaTbB Go.Proofs.YtlmoafkmhenejaaW.PrintWords Go.Proofs.YtlmoafkmhenejaaW.PrintLast Go.Proofs.YtlmoafkmhenejaaW.PrintMore
theorem rtfix_is (s : ByteArray) (h : 4 ≤ s.size) : sorrelref01_TakeFix.f s = some (valF s.data.toList, 0) := by
  unfold sorrelref01_TakeFix.f
  have b0 := bt_range s 0
  have b1 := bt_range s 1
  have b2 := bt_range s 2
  have b3 := bt_range s 3
  rw [if_neg (by omega), if_pos (by omega), if_pos (by omega), if_pos (by omega), if_pos (by omega)]
  rw [w64 (n := bt s 0) (by omega) (by omega), w64 (n := bt s 1) (by omega) (by omega), w64 (n := bt s 2) (by omega) (by omega), w64 (n := bt s 3) (by omega) (by omega), w64 (n := bt s 1 * 256) (by omega) (by omega), w64 (n := bt s 2 * 65536) (by omega) (by omega), w64 (n := bt s 3 * 16777216) (by omega) (by omega)]
  rw [or_low (bt s 0) (bt s 1 * 256) 8 b0.1 (by omega) (by omega) (Int.mul_emod_left _ _) (by omega) (by omega)]
  rw [or_low (bt s 0 + bt s 1 * 256) (bt s 2 * 65536) 16 (by omega) (by omega) (by omega) (Int.mul_emod_left _ _) (by omega) (by omega)]
  rw [or_low (bt s 0 + bt s 1 * 256 + bt s 2 * 65536) (bt s 3 * 16777216) 24 (by omega) (by omega) (by omega) (Int.mul_emod_left _ _) (by omega) (by omega)]
  unfold valF
  rw [← bt_getD, ← bt_getD, ← bt_getD, ← bt_getD]
  rfl
theorem rlen_l0 (N : Nat) (hN : N ≤ 4096) (x0 : ByteArray) (hs : x0.size ≤ 1099511627776) : ∀ (n i k p : Nat) (acc : List Nat), i + n = N → p ≤ x0.size → acc.length = i → n + 12 ≤ k → sorrelref10_lengths.l0 k x0 (N : Int) (p : Int) (acc.map (fun (x : Nat) => (x : Int))) (i : Int) = some (outZ (sizesL n (x0.data.toList.drop p) acc)) := by
  intro n
  induction n with
  | zero =>
    intro i k p acc h hp ha hk; obtain ⟨k, rfl⟩ : ∃ m, k = m + 1 := ⟨k - 1, by omega⟩; simp only [sorrelref10_lengths.l0]; rw [if_neg (by omega)]
    rfl
  | succ n ih =>
    intro i k p acc h hp ha hk; obtain ⟨k, rfl⟩ : ∃ m, k = m + 1 := ⟨k - 1, by omega⟩; simp only [sorrelref10_lengths.l0, sizesL]; rw [if_pos (by omega), if_pos (by omega), if_pos (by omega), Int.toNat_natCast]; obtain ⟨fs, hfs⟩ : ∃ fs, x0.extract p x0.size = fs := ⟨_, rfl⟩; have hl : fs.data.toList = x0.data.toList.drop p := by rw [← hfs, ext_drop]
    have hz : fs.size ≤ x0.size := drop_size x0 fs p hl; have lx := len_list x0; have hfl : fs.data.toList.length = x0.size - p := by rw [hl, List.length_drop, lx]
    rw [hfs, ← hl, rttext_is fs k (by omega) (by omega), Option.bind_some]; dsimp only [outT]; have x1 := takeX_le fs.data.toList; have ln := len_list fs
    by_cases c : (takeX fs.data.toList).2.2 = 0
    · rw [if_pos (by omega), if_pos c, w64 (n := (p : Int) + ((takeX fs.data.toList).2.1 : Int)) (by omega) (by omega), show (p : Int) + ((takeX fs.data.toList).2.1 : Int) = ((p + (takeX fs.data.toList).2.1 : Nat) : Int) from rfl, if_pos (by omega), if_pos (by omega), Int.toNat_natCast]; obtain ⟨gs, hgs⟩ : ∃ gs, x0.extract (p + (takeX fs.data.toList).2.1) x0.size = gs := ⟨_, rfl⟩; have hg : gs.data.toList = fs.data.toList.drop (takeX fs.data.toList).2.1 := by rw [← hgs, ext_drop, hl, List.drop_drop]
      rw [hgs, ← hg, rtake_is gs k (by omega), Option.bind_some]; dsimp only [outI]; have x2 := takeN_le gs.data.toList; have x3 : gs.data.toList.length = fs.data.toList.length - (takeX fs.data.toList).2.1 := by rw [hg, List.length_drop]
      by_cases d : (takeN gs.data.toList).2.2 = 0
      · rw [if_pos (by omega), if_pos d, if_pos (by rw [List.length_map]; omega), w64 (n := ((p + (takeX fs.data.toList).2.1 : Nat) : Int) + ((takeN gs.data.toList).2.1 : Int)) (by omega) (by omega), w64 (n := (i : Int) + 1) (by omega) (by omega), show (i : Int) + 1 = ((i + 1 : Nat) : Int) from by omega]; have := ih (i + 1) k (p + (takeX fs.data.toList).2.1 + (takeN gs.data.toList).2.1) (acc ++ [(takeN gs.data.toList).1]) (by omega) (by omega) (by rw [List.length_append, List.length_singleton, ha]) (by omega); rw [List.map_append, List.map_singleton, Int.natCast_add] at this; rw [hl, List.drop_drop, ← Nat.add_assoc, ← hl]; exact this
      · rw [if_neg (by omega), if_neg d]; rfl
    · rw [if_neg (by omega), if_neg c]; rfl
theorem rlen_is (s : ByteArray) (k : Nat) (hs : s.size ≤ 1099511627776) (hk : 5000 ≤ k) : sorrelref10_lengths.f k s = some (outZ (sizesO s.data.toList)) := by
  unfold sorrelref10_lengths.f sizesO
  have x1 := takeN_le s.data.toList
  have ln := len_list s
  rw [rtake_is s k (by omega), Option.bind_some]
  dsimp only [outI]
  obtain ⟨k, rfl⟩ : ∃ m, k = m + 1 := ⟨k - 1, by omega⟩
  by_cases c : (takeN s.data.toList).2.2 = 0
  · rw [if_pos (by omega)]; simp only [sorrelref10_lengths.j0]
    by_cases d : (takeN s.data.toList).1 ≤ 4096
    · rw [decide_eq_false (by omega), if_neg (by decide), if_pos ⟨c, d⟩]; exact rlen_l0 _ d s hs (takeN s.data.toList).1 0 k (takeN s.data.toList).2.1 [] (by omega) (by omega) rfl (by omega)
    · rw [decide_eq_true (by omega), if_pos rfl, if_neg (fun x => d x.2)]; rfl
  · rw [if_neg (by omega)]; simp only [sorrelref10_lengths.j0]; rw [if_pos trivial, if_neg (fun x => c x.1)]; rfl
def tailV (s : ByteArray) : Nat := (valF (s.data.toList.drop (s.size - 4))).toNat
theorem valF_nat (l : List UInt8) : valF l = ((valF l).toNat : Int) := by unfold valF; omega
def footS (s : ByteArray) : ByteArray := s.extract (s.size - 4 - tailV s) (s.size - 4)
def isTab (s : ByteArray) (l : List S43) : Bool := decide (¬ l.length = 0 ∧ okB l = true ∧ bs (tabL l) = s)
def openS (s : ByteArray) : Option (List S43) :=
  if s.size < 4 then none else if s.size - 4 < tailV s then none else
  (sizesO (footS s).data.toList).bind fun t => (blocksL s.data.toList t 0 []).bind fun l => if isTab s l = true then some l else none
theorem open_is (kk : Nat) (hk : 10000000 ≤ kk) (s : ByteArray) (hs : s.size ≤ 4096) : openF kk 300 s = some ((openS s).map fun l => (l, bitsT l)) := by
  unfold openF openS
  by_cases c4 : s.size < 4
  · rw [if_pos c4, if_pos c4]; rfl
  · rw [if_neg c4, if_neg c4]; have hx : (s.extract (s.size - 4) s.size).data.toList = s.data.toList.drop (s.size - 4) := ext_drop s (s.size - 4); have hx2 : (s.extract (s.size - 4) s.size).size = 4 := by rw [← len_list, hx, List.length_drop, len_list]; omega
    rw [tfix_is _ kk (by omega) (by omega), Option.bind_some, hx, valF_nat]; dsimp only; rw [show (valF (s.data.toList.drop (s.size - 4))).toNat = tailV s from rfl]
    by_cases c5 : s.size - 4 < tailV s
    · rw [if_pos (by omega), if_pos c5]; rfl
    · rw [if_neg (by omega), if_neg c5, if_pos (by omega), Int.toNat_natCast]; have hf : (footS s).size ≤ s.size := by unfold footS; rw [← len_list, extract_list, List.length_drop, List.length_take, len_list]; omega
      rw [show s.extract (s.size - 4 - tailV s) (s.size - 4) = footS s from rfl, psz_is _ kk (by omega) (by omega), Option.bind_some]
      cases hz : sizesO (footS s).data.toList with
      | none => rw [outZ]; dsimp only; rw [if_neg (by decide)]; rfl
      | some t =>
        rw [outZ]; dsimp only; have ho := openL_is kk hk s (by omega) t 0 [] (Nat.zero_le _) ⟨by omega, Nat.zero_le _⟩; rw [if_pos rfl, ho, Option.bind_some, Option.bind_some]
        cases hb : blocksL s.data.toList t 0 [] with
        | none => rfl
        | some l =>
          dsimp only; rw [Option.bind_some]
          by_cases h : l.length = 0 ∨ okB l = false
          · rw [build_no l kk hk h, Option.bind_some]
            have hn : isTab s l = false := by
              unfold isTab
              refine decide_eq_false (fun x => ?_)
              rcases h with h | h
              · exact x.1 h
              · rw [h] at x; cases x.2.1
            rw [hn]; dsimp only; rw [if_neg (by decide), if_neg (by decide)]; rfl
          · have h1 : ¬ l.length = 0 := fun e => h (.inl e)
            have h2 : okB l = true := by
              cases e : okB l with
              | true => rfl
              | false => exact absurd (.inr e) h
            rw [build_ok l kk hk h1 h2, Option.bind_some]; dsimp only; rw [if_pos rfl]
            by_cases e : bs (tabL l) = s
            · have hn : isTab s l = true := decide_eq_true ⟨h1, h2, e⟩; have h4 := (okB_iff l).1 h2; rw [hn, if_pos e, bits_make l h2 kk (by omega), Option.bind_some, if_pos (by omega), if_pos rfl]; rfl
            · have hn : isTab s l = false := decide_eq_false (fun x => e x.2.2); rw [hn, if_neg e, if_neg (by decide)]; rfl
theorem openS_ok {s : ByteArray} {l : List S43} (h : openS s = some l) : ¬ l.length = 0 ∧ okB l = true := by
  unfold openS at h
  split at h
  · cases h
  · split at h
    · cases h
    · obtain ⟨t, -, h⟩ := Option.bind_eq_some_iff.1 h; obtain ⟨m, -, h⟩ := Option.bind_eq_some_iff.1 h
      split at h
      · next c =>
        have e := Option.some.inj h; subst e; have := of_decide_eq_true c; exact ⟨this.1, this.2.1⟩
      · cases h
end Go.Proofs.Ytlmoafkmhenejaa.VaTbP
end
