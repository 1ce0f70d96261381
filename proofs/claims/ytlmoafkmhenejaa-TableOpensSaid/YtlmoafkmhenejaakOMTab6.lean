import Derived.Test.YtlmoafkmhenejaakOVLib
import Derived.Test.YtlmoafkmhenejaakOXAx0
section
namespace Go.Proofs.Ytlmoafkmhenejaa.VLib
end Go.Proofs.Ytlmoafkmhenejaa.VLib
namespace Go.Proofs.Ytlmoafkmhenejaa.Bld
end Go.Proofs.Ytlmoafkmhenejaa.Bld
namespace Go.Proofs.YtlmoafkmhenejaaW.PrintWords
end Go.Proofs.YtlmoafkmhenejaaW.PrintWords
namespace Go.Proofs.YtlmoafkmhenejaaW.PrintLast
end Go.Proofs.YtlmoafkmhenejaaW.PrintLast
namespace Go.Proofs.YtlmoafkmhenejaaW.PrintMore
end Go.Proofs.YtlmoafkmhenejaaW.PrintMore
namespace Go.Proofs.Ytlmoafkmhenejaa.XW
end Go.Proofs.Ytlmoafkmhenejaa.XW
namespace Go.Proofs.Ytlmoafkmhenejaa.XA
open Go.Proofs.Ytlmoafkmhenejaa.VLib Go.Proofs.Ytlmoafkmhenejaa.Bld Go.RowKit Go.Proofs.YtlmoafkmhenejaaW.PrintWords Go.Proofs.YtlmoafkmhenejaaW.PrintLast Go.Proofs.YtlmoafkmhenejaaW.PrintMore Go.Proofs.Ytlmoafkmhenejaa.XW
attribute [local go_sem high] max2_str unary_xor_u32 leq_str geq_str gtr_str
attribute [local go_sem] max2_int min2_int max_two min_two max_three min_three max_four min_four
set_option linter.unusedVariables false
set_option linter.unusedSimpArgs false
theorem below_at_ {B : Nat} {w w1 : World} (h : Below w.heap.size w w1) (hB : B ≤ w.heap.size) : Below B w w1 := ⟨h.os, h.tape, h.output, h.size, fun k hk => h.block k (Nat.lt_of_lt_of_le hk hB)⟩
def chunkF (kk : Nat) : Nat → List S43 → List UInt8 → List UInt8 → Option (List UInt8 × List UInt8)
  | 0, _, _, _ => none
  | n + 1, l, fs, bs => if l.length = 0 then some (fs, bs) else
    (block_Put.f kk (l.take 16)).bind fun p => (varint_Text.f kk (rd_T43 (l.take 16) 0).f0).bind fun t => (varint_Put.f kk (p.1.size : Int)).bind fun q =>
      if fs.length + t.1.size + q.1.size ≤ 140737488355328 ∧ bs.length + p.1.size ≤ 140737488355328 then chunkF kk n (l.drop 16) (fs ++ t.1.data.toList ++ q.1.data.toList) (bs ++ p.1.data.toList) else none
set_option maxHeartbeats 2000000 in
set_option maxRecDepth 100000 in
theorem part_calls (kk f b gt gn : Nat) (vf vb : Value) (uf ub : Bool) (fs bs : List UInt8) (A : Option Addr) (c : Nat) (l : List S43) (w0 w : World) (bb tx nn : ByteArray) (e1 e2 e3 : Int) (hT : Two w w0.heap.size f b vf vb uf ub fs bs)
    (hgt : w.heap[gt]? = some (.cells #[.func (Fn.func 36) #[] #[.pointer (some ⟨f, 0, none⟩)]] 79 (0, 0))) (hgn : w.heap[gn]? = some (.cells #[.func (Fn.func 33) #[] #[.pointer (some ⟨f, 0, none⟩)]] 77 (0, 0))) (h0 : Below w0.heap.size w0 w) (hC : Kd.C k43 w0 A l.length l) (hc : l.length ≤ c) (hl : 0 < l.length)
    (hP : block_Put.f kk l = some (bb, e1)) (hX : varint_Text.f kk (rd_T43 l 0).f0 = some (tx, e2)) (hN : varint_Put.f kk (bb.size : Int) = some (nn, e3)) (hf : fs.length + tx.size + nn.size ≤ 140737488355328) (hb : bs.length + bb.size ≤ 140737488355328) :
    Calls Try.prog 39 #[.slice A l.length c, .pointer (some ⟨b, 0, none⟩), .pointer (some ⟨gt, 0, none⟩), .pointer (some ⟨gn, 0, none⟩)] w fun e w' => ∃ vf' vb', e = .returned (.tuple #[]) ∧ Two w' w0.heap.size f b vf' vb' true true (fs ++ tx.data.toList ++ nn.data.toList) (bs ++ bb.data.toList) ∧ Below w0.heap.size w0 w' ∧ KeepT w w' := by
  have HT := Aside0.mk hT
  have HGT := Aside0.mk hgt
  have HGN := Aside0.mk hgn
  have H0 := Aside0.mk h0
  have HC := Aside0.mk hC
  have HCC := Aside0.mk hc
  have HP := Aside0.mk hP
  have HX := Aside0.mk hX
  have HN := Aside0.mk hN
  have HF := Aside0.mk hf
  have HBB := Aside0.mk hb
  have HS := Aside0.mk h0.size
  obtain ⟨ad, ea, a0, -, -, -⟩ := at_T43 hC 0 (by omega) (by omega)
  rw [show (0 : Int).toNat * 4 = 0 from rfl] at a0
  have HA0 : Aside0 (w0.cell? ad = some (.string (rd_T43 l 0).f0)) := ⟨a0⟩
  obtain ⟨K, hK⟩ : ∃ K, (rd_T43 l 0).f0 = K := ⟨_, rfl⟩
  rw [hK] at HA0 HX
  have p1 : (0 < (l.length : Int)) = True := eq_true (by omega)
  have p2 : (0 < l.length) = True := eq_true hl
  have HLS : Aside0 ((tx.data.toList).length = tx.size) := ⟨by rw [Array.length_toList]; rfl⟩
  clear hT hgt hgn h0 hC hc hP hX hN hf hb a0 hl hK
  cases ea
  go_enter Try.func39, Try.ntmps39
  go_wp2_with (first
    | (go_at_call 35; go_loud ((refine (WriteString_at w0.heap.size b vb ub bs bb _ (HT1.out.body) HBB.out (Nat.le_trans HS.out HB1.out.size)).mono ?_); rintro e w2 ⟨vb2, rfl, h2, hb2, hk2, hat2⟩; have hT2 := (HT1.out.swap.wrote h2 hk2 hat2).swap; have HT2 := Aside0.mk hT2; have hK2 := Bd.keepT HT1.out.body hk2; have HB2 := Aside0.mk ((H0.out.trans (below_at_ HB1.out HS.out)).trans hb2); have HKT2 := Aside0.mk ((KeepT.of_below HB1.out).trans hK2); have g79 := HKT2.out gt _ 79 _ (by decide) (by decide) HGT.out; have g77 := HKT2.out gn _ 77 _ (by decide) (by decide) HGN.out; have HG79 := Aside0.mk g79; have HG77 := Aside0.mk g77; have x79 : w2.cell? ⟨gt, 0, none⟩ = some (.func (Fn.func 36) #[] #[.pointer (some ⟨f, 0, none⟩)]) := (blk_cell g79 0).trans rfl; have xk : w2.cell? ad = some (.string K) := (HB2.out.cell (World.block_lt_of_cell? w0 _ HA0.out)).trans HA0.out; have xk0 : w2.cell? (ad.add 0) = some (.string K) := xk; clear h2 hb2 hk2 hat2 hT2 hK2 g79 g77))
    | (go_at_call 40; go_loud ((refine (block_Put.calls kk _ c l bb e1 _ (Kd.C_below HC.out H0.out) HCC.out HP.out).mono ?_); rintro e w1 ⟨rfl, hb1⟩; have HB1 := Aside0.mk hb1; have HT1 := Aside0.mk (HT.out.below hb1); clear hb1)))
  go_still_tail 5, (by kernel_rfl)
  change wpList _ _ _ _ _ w2.drew
  have HTd := Aside0.mk (HT2.out.below (below_drew (Below.refl _ _)))
  have HBd := Aside0.mk (below_drew HB2.out)
  have HSd : Aside0 (w0.heap.size ≤ w2.drew.heap.size) := ⟨HBd.out.size⟩
  have HGd : Aside0 (w2.drew.heap[gn]? = some (.cells #[.func (Fn.func 33) #[] #[.pointer (some ⟨f, 0, none⟩)]] 77 (0, 0))) := ⟨blk_drew HG77.out⟩
  clear x79 xk xk0
  go_wp2_with (first
    | (go_at_call 33; go_loud ((refine (num_calls kk w0.heap.size f vf3 true (fs ++ tx.data.toList) bb.size nn e3 _ HT3.out.foot HN.out (by rw [List.length_append, HLS.out]; exact HF.out) HB3.out.size).mono ?_); rintro e w4 ⟨vf4, rfl, h4, hb4, hk4, hat4⟩; have HT4 := Aside0.mk (HT3.out.wrote h4 hk4 hat4); have HB4 := Aside0.mk (HB3.out.trans hb4); have HK4 := Aside0.mk (HK3.out.trans (Bd.keepT HT3.out.foot hk4)); clear h4 hb4 hk4 hat4))
    | (go_at_call 36; go_loud ((refine (text_calls kk w0.heap.size f vf uf fs K tx e2 _ HTd.out.foot HX.out (by have := HF.out; omega) HSd.out).mono ?_); rintro e w3 ⟨vf3, rfl, h3, hb3, hk3, hat3⟩; have HT3 := Aside0.mk (HTd.out.wrote h3 hk3 hat3); have HB3 := Aside0.mk (HBd.out.trans hb3); have hk3' := Bd.keepT HTd.out.foot hk3; have HK3 := Aside0.mk ((HKT2.out.trans (KeepT.of_below (below_drew (Below.refl _ _)))).trans hk3'); have g77 := hk3' gn _ 77 _ (by decide) (by decide) HGd.out; have x77 : w3.cell? ⟨gn, 0, none⟩ = some (.func (Fn.func 33) #[] #[.pointer (some ⟨f, 0, none⟩)]) := (blk_cell g77 0).trans rfl; clear h3 hb3 hk3 hat3 hk3' g77)))
  refine bodyPost_end (v := .tuple #[]) (results_none (by rfl) _ _ _) rfl ?_
  exact ⟨vf4, vb2, rfl, HT4.out, HB4.out, HK4.out⟩
set_option maxHeartbeats 2000000 in
set_option maxRecDepth 100000 in
theorem chunks_calls (kk f b gt gn : Nat) (vf vb : Value) (uf ub : Bool) (fs bs fs' bs' : List UInt8) (A : Option Addr) (c N : Nat) (l : List S43) (w0 w : World) (hT : Two w w0.heap.size f b vf vb uf ub fs bs)
    (hgt : w.heap[gt]? = some (.cells #[.func (Fn.func 36) #[] #[.pointer (some ⟨f, 0, none⟩)]] 79 (0, 0))) (hgn : w.heap[gn]? = some (.cells #[.func (Fn.func 33) #[] #[.pointer (some ⟨f, 0, none⟩)]] 77 (0, 0))) (h0 : Below w0.heap.size w0 w) (hC : Kd.C k43 w0 A l.length l) (hc : l.length ≤ c) (hn : l.length ≤ 1000000) (h : chunkF kk N l fs bs = some (fs', bs')) :
    Calls Try.prog 38 #[.slice A l.length c, .func (Fn.func 39) #[] #[.pointer (some ⟨b, 0, none⟩), .pointer (some ⟨gt, 0, none⟩), .pointer (some ⟨gn, 0, none⟩)]] w fun e w' => ∃ vf' vb' uf' ub', e = .returned (.tuple #[]) ∧ Two w' w0.heap.size f b vf' vb' uf' ub' fs' bs' ∧ Below w0.heap.size w0 w' ∧ KeepT w w' := by
  have HT := Aside0.mk hT
  have HGT := Aside0.mk hgt
  have HGN := Aside0.mk hgn
  have H0 := Aside0.mk h0
  have HC := Aside0.mk hC
  have HCC := Aside0.mk hc
  have HN := Aside0.mk hn
  have HH := Aside0.mk h
  clear hT hgt hgn h0 hC hc hn h
  go_enter Try.func38, Try.ntmps38
  go_wp2
  go_loopg [0, 4] N (fun kq v0 v4 w' => ∃ (A1 : Option Addr) (c1 : Nat) (l1 : List S43) (fs1 bs1 : List UInt8) (vf1 vb1 : Value) (uf1 ub1 : Bool), v0 = .slice A1 l1.length c1 ∧ Aside0 (chunkF kk kq l1 fs1 bs1 = some (fs', bs')) ∧ Aside0 (kq ≤ N) ∧ Aside0 (Kd.C k43 w0 A1 l1.length l1) ∧ Aside0 (l1.length ≤ c1) ∧ Aside0 (l1.length ≤ 1000000) ∧ Aside0 (Two w' w0.heap.size f b vf1 vb1 uf1 ub1 fs1 bs1) ∧ Aside0 (Below w0.heap.size w0 w') ∧ Aside0 (KeepT w w'))
  case atStart => exact ⟨A, c, l, fs, bs, vf, vb, uf, ub, rfl, HH, ⟨Nat.le_refl _⟩, HC, HCC, HN, HT, H0, ⟨KeepT.refl _⟩⟩
  case round =>
    clear HH HC HCC HN HT H0; obtain ⟨A1, c1, l1, fs1, bs1, vf1, vb1, uf1, ub1, rfl, HA, HKQ, HC, HCC, HN, HT, HB, HK⟩ := hrel
    cases gk with
    | zero => exact absurd HA.out (by simp [chunkF])
    | succ k1 =>
      have H := HA.out; clear HA; simp only [chunkF] at H
      by_cases q : l1.length = 0
      · rw [if_pos q] at H; have e1 : decide (0 < (l1.length : Int)) = false := decide_eq_false (by omega); have e2 : decide (0 < l1.length) = false := decide_eq_false (by omega); simp only [Option.some.injEq, Prod.mk.injEq] at H; obtain ⟨rfl, rfl⟩ := H; clear q; go_wp2; refine bodyPost_end (v := .tuple #[]) (results_none (by rfl) _ _ _) rfl ?_; exact ⟨vf1, vb1, uf1, ub1, rfl, HT.out, HB.out, HK.out⟩
      · rw [if_neg q] at H; have e1 : decide (0 < (l1.length : Int)) = true := decide_eq_true (by omega); have e2 : decide (0 < l1.length) = true := decide_eq_true (by omega); obtain ⟨⟨bb, z1⟩, hP, H⟩ := Option.bind_eq_some_iff.mp H; obtain ⟨⟨tx, z2⟩, hX, H⟩ := Option.bind_eq_some_iff.mp H; obtain ⟨⟨nn, z3⟩, hN, H⟩ := Option.bind_eq_some_iff.mp H; dsimp only at H hN
        by_cases qs : fs1.length + tx.size + nn.size ≤ 140737488355328 ∧ bs1.length + bb.size ≤ 140737488355328
        · rw [if_pos qs] at H; have hn := HN.out; have hcc := HCC.out
          obtain ⟨m, hm, hm2⟩ : ∃ m : Nat, (if (l1.length : Int) < 16 then (l1.length : Int) else 16) = (m : Int) ∧ m = min 16 l1.length := by
            by_cases h16 : (l1.length : Int) < 16
            · exact ⟨l1.length, by rw [if_pos h16], by omega⟩
            · exact ⟨16, by rw [if_neg h16]; rfl, by omega⟩
          have htk : l1.take 16 = l1.take m := by rw [hm2, ← List.take_take, List.take_of_length_le (Nat.le_refl l1.length)] <;> simp [List.take_take]
          have hdr : l1.drop 16 = l1.drop m := by
            by_cases h16 : l1.length < 16
            · rw [List.drop_eq_nil_of_le (by omega), List.drop_eq_nil_of_le (by omega)]
            · rw [show m = 16 from by omega]
          rw [htk] at hP hX; rw [hdr] at H; have hCt := Kd.C_take HC.out (m := m) (by omega); have hCd := Kd.C_drop HC.out (m := m) (c := c1) (by omega) hcc; have htl : (l1.take m).length = m := by rw [List.length_take]; omega
          have hdl : (l1.drop m).length = l1.length - m := List.length_drop; obtain ⟨i0, hi0, _, hsz0, _⟩ := info_parts info43; have hcut1 := cut_to (P := Try.prog) 22 43 .i64 Try.underlying22 hi0 A1 l1.length c1 (m : Int) (by omega) (by omega) hcc; have hcut2 := cut_from (P := Try.prog) 22 43 .i64 Try.underlying22 hi0 4 hsz0 A1 l1.length c1 (m : Int) (by omega) (by omega); rw [Int.toNat_natCast] at hcut1 hcut2; obtain ⟨A2, hA2⟩ : ∃ A2, (if c1 = m then A1 else A1.map (·.add (m * 4))) = A2 := ⟨_, rfl⟩; obtain ⟨c2, hc2⟩ : ∃ c2, c1 - m = c2 := ⟨_, rfl⟩; have hCd' : Kd.C k43 w0 A2 (l1.drop m).length (l1.drop m) := by rw [← hA2]; exact hCd
          rw [hA2, hc2, ← hdl] at hcut2; obtain ⟨pt, hpt⟩ : ∃ pt, l1.take m = pt := ⟨_, rfl⟩; obtain ⟨rs, hrs⟩ : ∃ rs, l1.drop m = rs := ⟨_, rfl⟩; rw [hrs] at hcut2 hCd' H; rw [hpt] at hP hX hCt htl; rw [← htl] at hcut1 hm hcut2; have HP := Aside0.mk hP; have HX := Aside0.mk hX; have HNN := Aside0.mk hN; have HQS := Aside0.mk qs; have HCT := Aside0.mk hCt; have HCD := Aside0.mk hCd'; have HL1 : Aside0 (0 < pt.length ∧ pt.length ≤ c1) := ⟨by omega⟩; have HL2 : Aside0 (rs.length ≤ c2 ∧ rs.length ≤ 1000000) := ⟨by rw [← hrs, hdl]; omega⟩; have H' := Aside0.mk H; clear hP hX hN qs hCt hCd hCd' hn hcc htk hdr htl hdl hi0 hsz0 hA2 hc2 hpt hrs H q hm2; have HG1 := Aside0.mk (HK.out gt _ 79 _ (by decide) (by decide) HGT.out); have HG2 := Aside0.mk (HK.out gn _ 77 _ (by decide) (by decide) HGN.out)
          go_wp2_with (go_at_call 39; go_loud ((refine (part_calls kk f b gt gn vf1 vb1 uf1 ub1 fs1 bs1 A1 c1 pt w0 wr bb tx nn z1 z2 z3 HT.out HG1.out HG2.out HB.out HCT.out HL1.out.2 HL1.out.1 HP.out HX.out HNN.out HQS.out.1 HQS.out.2).mono ?_); rintro e w9 ⟨vf9, vb9, rfl, hT9, hb9, hk9⟩; have HT9 := Aside0.mk hT9; have HB9 := Aside0.mk hb9; have HK9 := Aside0.mk (HK.out.trans hk9); clear hT9 hb9 hk9))
          go_roundg k1
          case measure => have := HKQ.out; omega
          case rel => exact ⟨A2, c2, rs, _, _, vf9, vb9, true, true, rfl, H', ⟨by have := HKQ.out; omega⟩, HCD, ⟨HL2.out.1⟩, ⟨HL2.out.2⟩, HT9, HB9, HK9⟩
        · rw [if_neg qs] at H; exact absurd H (by simp)
end Go.Proofs.Ytlmoafkmhenejaa.XA
end
section
namespace Go.Proofs.YtlmoafkmhenejaaW.PrintWords
end Go.Proofs.YtlmoafkmhenejaaW.PrintWords
namespace Go.Proofs.YtlmoafkmhenejaaW.PrintLast
end Go.Proofs.YtlmoafkmhenejaaW.PrintLast
namespace Go.Proofs.YtlmoafkmhenejaaW.PrintMore
end Go.Proofs.YtlmoafkmhenejaaW.PrintMore
namespace Go.Proofs.Ytlmoafkmhenejaa.XW
end Go.Proofs.Ytlmoafkmhenejaa.XW
namespace Go.Proofs.Ytlmoafkmhenejaa.XA
open Go.RowKit Go.Proofs.YtlmoafkmhenejaaW.PrintWords Go.Proofs.YtlmoafkmhenejaaW.PrintLast Go.Proofs.YtlmoafkmhenejaaW.PrintMore Go.Proofs.Ytlmoafkmhenejaa.XW
attribute [local go_sem high] max2_str unary_xor_u32 leq_str geq_str gtr_str
attribute [local go_sem] max2_int min2_int max_two min_two max_three min_three max_four min_four   -- for this text's walks alone
set_option linter.unusedVariables false
set_option linter.unusedSimpArgs false
theorem eqA43 (d : Nat) (w : World) (x0 y0 : ByteArray) (x1 y1 : ByteArray) (x2 y2 : Bool) (x3 y3 : Int) :
    (Op.equalIn (d + 2) 43 (.agg #[.string x0, .string x1, .bool x2, .int .i64 x3]) (.agg #[.string y0, .string y1, .bool y2, .int .i64 y3])).run Try.prog w = .ok (x0.toList == y0.toList && (x1.toList == y1.toList && (x2 == y2 && (x3 == y3)))) w := by
  refine eqA_of Try.underlying43 (by kernel_rfl) ?_
  refine eqf_cons (by rfl) (by go_simp; rfl) (by go_simp; rfl) (by go_simp) ?_
  refine eqf_cons (by rfl) (by go_simp; rfl) (by go_simp; rfl) (by go_simp) ?_
  refine eqf_cons (by rfl) (by go_simp; rfl) (by go_simp; rfl) (by go_simp) ?_
  exact eqf_last (by rfl) (by go_simp; rfl) (by go_simp; rfl) (by go_simp)
end Go.Proofs.Ytlmoafkmhenejaa.XA
end
