import Derived.Test.YtlmoafkmhenejaakNMTab2
namespace Go.Proofs.Ytlmoafkmhenejaa.VLib
end Go.Proofs.Ytlmoafkmhenejaa.VLib
namespace Go.Proofs.YtlmoafkmhenejaaW.PrintWords
end Go.Proofs.YtlmoafkmhenejaaW.PrintWords
namespace Go.Proofs.YtlmoafkmhenejaaW.PrintLast
end Go.Proofs.YtlmoafkmhenejaaW.PrintLast
namespace Go.Proofs.YtlmoafkmhenejaaW.PrintMore
end Go.Proofs.YtlmoafkmhenejaaW.PrintMore
namespace Go.Proofs.Ytlmoafkmhenejaa.XW
end Go.Proofs.Ytlmoafkmhenejaa.XW
namespace Go.Proofs.Ytlmoafkmhenejaa.XA
open Go.Proofs.Ytlmoafkmhenejaa.VLib Go.RowKit Go.Proofs.YtlmoafkmhenejaaW.PrintWords Go.Proofs.YtlmoafkmhenejaaW.PrintLast Go.Proofs.YtlmoafkmhenejaaW.PrintMore Go.Proofs.Ytlmoafkmhenejaa.XW
attribute [local go_sem high] max2_str unary_xor_u32 leq_str geq_str gtr_str
attribute [local go_sem] max2_int min2_int max_two min_two max_three min_three max_four min_four
set_option linter.unusedVariables false
set_option linter.unusedSimpArgs false
def keyLt (l : List S43) (key : ByteArray) (m : Int) : Bool := Op.bytesLess (rd_T43 l m).f0.toList key.toList
def seek : Nat → List S43 → ByteArray → Int → Int → Option Int
  | 0, _, _, _, _ => none
  | k + 1, l, key, i, j => if i < j then (if keyLt l key ((i + j) / 2) = true then seek k l key ((i + j) / 2 + 1) j else seek k l key i ((i + j) / 2)) else some i
set_option maxHeartbeats 1600000 in
set_option maxRecDepth 100000 in
theorem from_one (g1 g2 g : Nat) (A0 : Option Addr) (c0 : Nat) (l0 : List S43) (bits key : ByteArray) (j : Int) (W : World) (h1 : W.heap[g1]? = some (.cells #[.pointer (some ⟨g, 0, none⟩)] 29 (0, 0))) (h2 : W.heap[g2]? = some (.cells #[.string key] 9 (0, 0)))
    (hg : W.heap[g]? = some (.cells #[.slice A0 l0.length c0, .string bits] 65 (0, 0))) (hr : Kd.C k43 W A0 l0.length l0) (j0 : 0 ≤ j) (j1 : j < (l0.length : Int)) :
    Calls Try.prog 100 #[.int .i64 j, .pointer (some ⟨g1, 0, none⟩), .pointer (some ⟨g2, 0, none⟩)] W fun e w' => e = .returned (.bool (!keyLt l0 key j)) ∧ Below W.heap.size W w' := by
  have x1 : W.cell? ⟨g1, 0, none⟩ = some (.pointer (some ⟨g, 0, none⟩)) := (blk_cell h1 0).trans rfl
  have x2 : W.cell? ⟨g2, 0, none⟩ = some (.string key) := (blk_cell h2 0).trans rfl
  have x3 : W.cell? ⟨g, 0, none⟩ = some (.slice A0 l0.length c0) := (blk_cell hg 0).trans rfl
  obtain ⟨ad, ea, hx0, -, -, -⟩ := at_T43 hr j j0 j1
  subst ea
  have e : keyLt l0 key j = Op.bytesLess (rd_T43 l0 j).f0.toList key.toList := rfl
  rw [e]
  obtain ⟨K, hK⟩ : ∃ K, (rd_T43 l0 j).f0 = K := ⟨_, rfl⟩
  rw [hK] at hx0 ⊢
  have p0 := eq_true j0
  have p1 := eq_true j1
  have p0b : decide (0 ≤ j) = true := decide_eq_true j0
  have p1b : decide (j < (l0.length : Int)) = true := decide_eq_true j1
  clear h1 h2 hg hr j0 j1 hK e
  go_enter Try.func100, Try.ntmps100
  go_wp2
  go_quiet (fail)
  go_wp2
  go_ret
  exact ⟨rfl, pw_below_drewN (Below.refl _ _) nq⟩
set_option maxHeartbeats 1600000 in
set_option maxRecDepth 100000 in
theorem from_search (k : Nat) (g1 g2 g : Nat) (A0 : Option Addr) (c0 : Nat) (l0 : List S43) (bits key : ByteArray) (r : Int) (W : World) (h1 : W.heap[g1]? = some (.cells #[.pointer (some ⟨g, 0, none⟩)] 29 (0, 0))) (h2 : W.heap[g2]? = some (.cells #[.string key] 9 (0, 0)))
    (hg : W.heap[g]? = some (.cells #[.slice A0 l0.length c0, .string bits] 65 (0, 0))) (hr : Kd.C k43 W A0 l0.length l0) (hn : l0.length ≤ 4096) (h : seek k l0 key 0 (l0.length : Int) = some r) :
    Calls Try.prog 99 #[.int .i64 (l0.length : Int), .func (Fn.func 100) #[] #[.pointer (some ⟨g1, 0, none⟩), .pointer (some ⟨g2, 0, none⟩)]] W fun e w' => e = .returned (.int .i64 r) ∧ Below W.heap.size W w' := by
  have H1 := Aside0.mk h1
  have H2 := Aside0.mk h2
  have HG := Aside0.mk hg
  have HR := Aside0.mk hr
  have HN := Aside0.mk hn
  have H' := Aside0.mk h
  have HB := Aside0.mk (Below.refl W.heap.size W)
  clear h1 h2 hg hr hn h
  go_enter Try.func99, Try.ntmps99
  go_wp2
  go_loopg [5, 6] k (fun kq v5 v6 w' => ∃ (i j : Int), v5 = .int .i64 i ∧ v6 = .int .i64 j ∧ Aside0 (seek kq l0 key i j = some r) ∧ Aside0 (0 ≤ i ∧ i ≤ (l0.length : Int) ∧ 0 ≤ j ∧ j ≤ (l0.length : Int)) ∧ Aside0 (kq ≤ k) ∧ Aside0 (Below W.heap.size W w'))
  case atStart => exact ⟨0, (l0.length : Int), rfl, rfl, H', ⟨by omega⟩, ⟨Nat.le_refl _⟩, HB⟩
  case round =>
    clear H' HB
    obtain ⟨i, j, rfl, rfl, HA, HIJ, HKQ, HB⟩ := hrel
    cases gk with
    | zero => exact absurd HA.out (by simp [seek])
    | succ k1 =>
      have H := HA.out
      clear HA
      simp only [seek] at H
      by_cases c1 : i < j
      · rw [if_pos c1] at H
        have hij := HIJ.out
        have hn := HN.out
        have p1 : decide (i < j) = true := decide_eq_true c1
        obtain ⟨m, hm⟩ : ∃ m : Int, (i + j) / 2 = m := ⟨_, rfl⟩
        have M0 : Aside0 (0 ≤ m) := ⟨by omega⟩
        have M1 : Aside0 (m < (l0.length : Int)) := ⟨by omega⟩
        have M2 : Aside0 (m ≤ 4096 ∧ i ≤ m ∧ m < j) := ⟨by omega⟩
        have b0 : 0 ≤ i := hij.1
        have b1 : i ≤ 4096 := by omega
        have b2 : 0 ≤ j := by omega
        have b3 : j ≤ 4096 := by omega
        have b4 : 0 ≤ m := M0.out
        have b5 : m ≤ 4096 := M2.out.1
        rw [hm] at H
        clear c1 hn hij
        obtain ⟨b, hb⟩ : ∃ b, keyLt l0 key m = b := ⟨_, rfl⟩
        have HBB := Aside0.mk hb
        rw [hb] at H
        clear hb
        cases b with
        | true =>
          rw [if_pos rfl] at H
          have H' := Aside0.mk H
          clear H
          go_wp2_with (go_at_call 100; go_loud ((refine (from_one g1 g2 g A0 c0 l0 bits key m wr (blk_below H1.out HB.out) (blk_below H2.out HB.out) (blk_below HG.out HB.out) (Kd.C_below HR.out HB.out) M0.out M1.out).mono ?_); rintro e w2 ⟨rfl, hb⟩; rw [HBB.out]; have HB2 := Aside0.mk (below_step HB.out hb); clear hb))
          go_roundg k1
          case measure => have := HKQ.out; omega
          case rel => exact ⟨_, _, rfl, rfl, H', ⟨by have h1 := HIJ.out; have h2 := M2.out; have h3 := M1.out; omega⟩, ⟨by have := HKQ.out; omega⟩, HB2⟩
        | false =>
          rw [if_neg (by decide)] at H
          have H' := Aside0.mk H
          clear H
          go_wp2_with (go_at_call 100; go_loud ((refine (from_one g1 g2 g A0 c0 l0 bits key m wr (blk_below H1.out HB.out) (blk_below H2.out HB.out) (blk_below HG.out HB.out) (Kd.C_below HR.out HB.out) M0.out M1.out).mono ?_); rintro e w2 ⟨rfl, hb⟩; rw [HBB.out]; have HB2 := Aside0.mk (below_step HB.out hb); clear hb))
          go_roundg k1
          case measure => have := HKQ.out; omega
          case rel => exact ⟨_, _, rfl, rfl, H', ⟨by have h1 := HIJ.out; have h2 := M2.out; have h3 := M1.out; have h4 := M0.out; omega⟩, ⟨by have := HKQ.out; omega⟩, HB2⟩
      · rw [if_neg c1] at H
        have p1 : decide (i < j) = false := decide_eq_false c1
        clear c1
        obtain rfl := Option.some.inj H
        go_wp2
        go_ret
        exact ⟨rfl, HB.out⟩
set_option maxHeartbeats 1600000 in
set_option maxRecDepth 100000 in
theorem from_some (k : Nat) (p : Value) (l : List S43) (bits key : ByteArray) (r : Int) (w : World) (h : TabAt w p l bits) (hl : 0 < l.length) (hn : l.length ≤ 4096) (hs : seek k l key 0 (l.length : Int) = some r) :
    Calls Try.prog 60 #[p, .string key] w fun e w' => e = .returned (.int .i64 r) ∧ Below w.heap.size w w' := by
  obtain ⟨g, A, c, rfl, hg, hC, -⟩ := h.some hl
  have hlw := below_alloc (below_alloc (Below.refl w.heap.size w) (.cells #[.pointer (some ⟨g, 0, none⟩)] 29)) (.cells #[.string key] 9)
  have HT := Aside0.mk (h.below hlw)
  have HG := Aside0.mk (blk_below hg hlw)
  have HC := Aside0.mk (Kd.C_below hC hlw)
  have HL := Aside0.mk hlw
  have h1 := blk_alloc (heap_alloc_new w (.cells #[.pointer (some ⟨g, 0, none⟩)] 29)) (.cells #[.string key] 9)
  have x0 : ((w.alloc (.cells #[.pointer (some ⟨g, 0, none⟩)] 29)).alloc (.cells #[.string key] 9)).cell? ⟨w.heap.size, 0, none⟩ = some (.pointer (some ⟨g, 0, none⟩)) := (blk_cell h1 0).trans rfl
  have h2 := heap_alloc_new (w.alloc (.cells #[.pointer (some ⟨g, 0, none⟩)] 29)) (.cells #[.string key] 9)
  rw [show (w.alloc (.cells #[.pointer (some ⟨g, 0, none⟩)] 29)).heap.size = w.heap.size + 1 from by simp] at h2
  have H1 := Aside0.mk h1
  have H2 := Aside0.mk h2
  have HN := Aside0.mk hn
  have HS := Aside0.mk hs
  clear hlw h1 h2 hn hs h hg hC hl
  go_enter Try.func60, Try.ntmps60
  go_wp2_with (first | (go_at_call 99; go_loud ((refine (from_search k w.heap.size (w.heap.size + 1) g A c l bits key r _ H1.out H2.out HG.out HC.out HN.out HS.out).mono ?_); rintro e w2 ⟨rfl, hb⟩; have HB2 := Aside0.mk (below_step HL.out hb); clear hb)) | (go_at_call 18; go_loud ((refine (len_calls _ l bits _ HT.out).mono ?_); rintro e _ ⟨rfl, rfl⟩)))
  go_ret
  exact ⟨rfl, HB2.out⟩
end Go.Proofs.Ytlmoafkmhenejaa.XA
