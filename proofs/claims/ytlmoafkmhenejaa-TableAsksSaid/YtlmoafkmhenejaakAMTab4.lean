import Derived.Test.YtlmoafkmhenejaakAMTab2
namespace Go.Proofs.Ytlmoafkmhenejaa.VLib
end Go.Proofs.Ytlmoafkmhenejaa.VLib
namespace Go.Proofs.YtlmoafkmhenejaaW.PrintWords
end Go.Proofs.YtlmoafkmhenejaaW.PrintWords
namespace Go.Proofs.YtlmoafkmhenejaaW.PrintLast
end Go.Proofs.YtlmoafkmhenejaaW.PrintLast
namespace Go.Proofs.YtlmoafkmhenejaaW.PrintMore
end Go.Proofs.YtlmoafkmhenejaaW.PrintMore
namespace Go.Proofs.Ytlmoafkmhenejaa.XW
end Go.Proofs.Ytlmoafkmhenejaa.XW
namespace Go.Proofs.Ytlmoafkmhenejaa.XA
open Go.Proofs.Ytlmoafkmhenejaa.VLib Go.RowKit Go.Proofs.YtlmoafkmhenejaaW.PrintWords Go.Proofs.YtlmoafkmhenejaaW.PrintLast Go.Proofs.YtlmoafkmhenejaaW.PrintMore Go.Proofs.Ytlmoafkmhenejaa.XW
attribute [local go_sem high] max2_str unary_xor_u32 leq_str geq_str gtr_str
attribute [local go_sem] max2_int min2_int max_two min_two max_three min_three max_four min_four
set_option linter.unusedVariables false
set_option linter.unusedSimpArgs false
theorem tput4 {W : World} {g : Nat} {t : TypeId} {c0 c1 c2 c3 x0 x1 x2 x3 : Value} (h : W.heap[g]? = some (.cells #[c0, c1, c2, c3] t (0, 0))) : ((((W.setCell ⟨g, 0, none⟩ x0).setCell ⟨g, 1, none⟩ x1).setCell ⟨g, 2, none⟩ x2).setCell ⟨g, 3, none⟩ x3).heap[g]? = some (.cells #[x0, x1, x2, x3] t (0, 0)) :=
  blk_put (blk_put (blk_put (blk_put h 0 x0 rfl) 1 x1 rfl) 2 x2 rfl) 3 x3 rfl
def MayIs (k : Nat) (l : List S43) (bits key : ByteArray) (b : Bool) : Prop := (l = [] ∧ b = false) ∨ (0 < l.length ∧ bloom_Has.f k bits key = some b)
theorem may_any (k : Nat) (p : Value) (l : List S43) (bits key : ByteArray) (b : Bool) (w : World) (h : TabAt w p l bits) (hm : MayIs k l bits key b) :
    Calls Try.prog 23 #[p, .string key] w fun e w' => e = .returned (.bool b) ∧ Below w.heap.size w w' := by
  rcases hm with ⟨rfl, rfl⟩ | ⟨h1, h2⟩
  · refine (may_none p bits key w h).mono ?_; rintro e w' ⟨rfl, rfl⟩; exact ⟨rfl, Below.refl _ _⟩
  · exact may_some k p l bits key b w h h1 h2
def getF : List S43 → ByteArray → Int → S43 × Bool
  | [], _, _ => (⟨⟨#[]⟩, ⟨#[]⟩, false, 0⟩, false)
  | x :: t, key, q => if x.f0 = key then (if x.f3 ≤ q then (x, true) else getF t key q) else (⟨⟨#[]⟩, ⟨#[]⟩, false, 0⟩, false)
set_option maxHeartbeats 1600000 in
set_option maxRecDepth 100000 in
theorem get_no (k : Nat) (p : Value) (l : List S43) (bits key : ByteArray) (q : Int) (w : World) (h : TabAt w p l bits) (hm : MayIs k l bits key false) :
    Calls Try.prog 22 #[p, .string key, .int .i64 q] w fun e w' => e = .returned (.tuple #[.agg #[.string ⟨#[]⟩, .string ⟨#[]⟩, .bool false, .int .i64 0], .bool false]) ∧ Below w.heap.size w w' := by
  have HB0 := Aside0.mk (below_alloc (Below.refl w.heap.size w) (.cells #[.string ⟨#[]⟩, .string ⟨#[]⟩, .bool false, .int .i64 0] 43))
  have HT := Aside0.mk (h.below HB0.out)
  have HK0 := Aside0.mk (heap_alloc_new w (.cells #[.string ⟨#[]⟩, .string ⟨#[]⟩, .bool false, .int .i64 0] 43))
  have HM := Aside0.mk hm
  clear h hm
  go_enter Try.func22, Try.ntmps22
  go_wp2_with (go_at_call 23; go_loud ((refine (may_any k p l bits key false _ HT.out HM.out).mono ?_); rintro e w2 ⟨rfl, hb2⟩; have HB2 := Aside0.mk (below_step HB0.out hb2); have hk2 := blk_below HK0.out hb2; have HK2 := Aside0.mk hk2; have HT2 := Aside0.mk (HT.out.below hb2); have z0 : w2.cell? ⟨w.heap.size, 0, none⟩ = some (.string ⟨#[]⟩) := (blk_cell hk2 0).trans rfl; have z1 : w2.cell? ⟨w.heap.size, 1, none⟩ = some (.string ⟨#[]⟩) := (blk_cell hk2 1).trans rfl; have z2 : w2.cell? ⟨w.heap.size, 2, none⟩ = some (.bool false) := (blk_cell hk2 2).trans rfl; have z3 : w2.cell? ⟨w.heap.size, 3, none⟩ = some (.int .i64 0) := (blk_cell hk2 3).trans rfl; have zf0 := blk_frozen hk2 0; have zf1 := blk_frozen hk2 1; have zf2 := blk_frozen hk2 2; have zf3 := blk_frozen hk2 3; clear hb2 hk2))
  refine bodyPost_ret (results_ct rfl _ _ w.heap.size 43 #[.string ⟨#[]⟩, .string ⟨#[]⟩, .bool false, .int .i64 0] (0, 0) _ rfl (tput4 HK2.out) Try.underlying43 rfl (by kernel_rfl)) rfl ?_
  exact ⟨rfl, below_set (below_set (below_set (below_set HB2.out (Nat.le_refl _)) (Nat.le_refl _)) (Nat.le_refl _)) (Nat.le_refl _)⟩
set_option maxHeartbeats 1600000 in
set_option maxRecDepth 100000 in
theorem get_yes (k K : Nat) (p : Value) (l : List S43) (bits key : ByteArray) (q : Int) (r : Nat) (w : World) (h : TabAt w p l bits) (hl : 0 < l.length) (hn : l.length ≤ 4096) (hm : bloom_Has.f k bits key = some true) (hs : seek K l key 0 (l.length : Int) = some (r : Int)) (hr : r ≤ l.length) :
    Calls Try.prog 22 #[p, .string key, .int .i64 q] w fun e w' => e = .returned (.tuple #[.agg #[.string (getF (l.drop r) key q).1.f0, .string (getF (l.drop r) key q).1.f1, .bool (getF (l.drop r) key q).1.f2, .int .i64 (getF (l.drop r) key q).1.f3], .bool (getF (l.drop r) key q).2]) ∧ Below w.heap.size w w' := by
  have HB0 := Aside0.mk (below_alloc (Below.refl w.heap.size w) (.cells #[.string ⟨#[]⟩, .string ⟨#[]⟩, .bool false, .int .i64 0] 43))
  have HT := Aside0.mk (h.below HB0.out)
  have HK0 := Aside0.mk (heap_alloc_new w (.cells #[.string ⟨#[]⟩, .string ⟨#[]⟩, .bool false, .int .i64 0] 43))
  have HM : Aside0 (MayIs k l bits key true) := ⟨.inr ⟨hl, hm⟩⟩
  have HL := Aside0.mk hl
  have HN := Aside0.mk hn
  have HS := Aside0.mk hs
  have HR := Aside0.mk hr
  clear h hm hl hn hs hr
  go_enter Try.func22, Try.ntmps22
  go_wp2_with (first | (go_at_call 60; go_loud ((refine (from_some K p l bits key r _ HT2.out HL.out HN.out HS.out).mono ?_); rintro e w3 ⟨rfl, hb3⟩; have HB3 := Aside0.mk (below_step HB2.out hb3); have HK3 := Aside0.mk (blk_below HK2.out hb3); have HT3 := Aside0.mk (HT2.out.below hb3); clear hb3)) | (go_at_call 23; go_loud ((refine (may_any k p l bits key true _ HT.out HM.out).mono ?_); rintro e w2 ⟨rfl, hb2⟩; have HB2 := Aside0.mk (below_step HB0.out hb2); have hk2 := blk_below HK0.out hb2; have HK2 := Aside0.mk hk2; have HT2 := Aside0.mk (HT.out.below hb2); skip; clear hb2 hk2)))
  go_loopg [8] (l.length - r) (fun kq v8 w' => ∃ (i : Nat), v8 = .int .i64 (i : Int) ∧ Aside0 (i + kq = l.length) ∧ Aside0 (getF (l.drop r) key q = getF (l.drop i) key q) ∧ Aside0 (w'.heap[w.heap.size]? = some (.cells #[.string ⟨#[]⟩, .string ⟨#[]⟩, .bool false, .int .i64 0] 43 (0, 0))) ∧ Aside0 (TabAt w' p l bits) ∧ Aside0 (Below w.heap.size w w'))
  case atStart => exact ⟨r, rfl, ⟨by have := HR.out; omega⟩, ⟨rfl⟩, HK3, HT3, HB3⟩
  case round =>
    clear HK3 HT3 HB3; obtain ⟨i, rfl, HI, HE, HK, HTT, HB⟩ := hrel; have hi := HI.out; have hn := HN.out; obtain ⟨g, A, c, hp, hg, hC, -⟩ := HTT.out.some HL.out; subst hp; have x0 : wr.cell? ⟨g, 0, none⟩ = some (.slice A l.length c) := (blk_cell hg 0).trans rfl; have hkk := HK.out; have z0 : wr.cell? ⟨w.heap.size, 0, none⟩ = some (.string ⟨#[]⟩) := (blk_cell hkk 0).trans rfl; have z1 : wr.cell? ⟨w.heap.size, 1, none⟩ = some (.string ⟨#[]⟩) := (blk_cell hkk 1).trans rfl; have z2 : wr.cell? ⟨w.heap.size, 2, none⟩ = some (.bool false) := (blk_cell hkk 2).trans rfl; have z3 : wr.cell? ⟨w.heap.size, 3, none⟩ = some (.int .i64 0) := (blk_cell hkk 3).trans rfl; have zf0 := blk_frozen hkk 0; have zf1 := blk_frozen hkk 1; have zf2 := blk_frozen hkk 2; have zf3 := blk_frozen hkk 3
    cases gk with
    | zero =>
      have c1 : decide ((i : Int) < (l.length : Int)) = false := decide_eq_false (by omega); have c2 : decide (i < l.length) = false := decide_eq_false (by omega); have HF : Aside0 (getF (l.drop r) key q = (⟨⟨#[]⟩, ⟨#[]⟩, false, 0⟩, false)) := ⟨by rw [HE.out, List.drop_eq_nil_of_le (by omega)]; rfl⟩; clear hi hn hg hC hkk; go_wp2; refine bodyPost_ret (results_ct rfl _ _ w.heap.size 43 #[.string ⟨#[]⟩, .string ⟨#[]⟩, .bool false, .int .i64 0] (0, 0) _ rfl (tput4 HK.out) Try.underlying43 rfl (by kernel_rfl)) rfl ?_; refine ⟨?_, below_set (below_set (below_set (below_set HB.out (Nat.le_refl _)) (Nat.le_refl _)) (Nat.le_refl _)) (Nat.le_refl _)⟩; rw [HF.out]; rfl
    | succ k1 =>
      have hlt : i < l.length := by omega
      have c1 : decide ((i : Int) < (l.length : Int)) = true := decide_eq_true (by omega); have c2 : decide (i < l.length) = true := decide_eq_true hlt; have p1 : (0 ≤ (i : Int)) = True := eq_true (by omega); have p2 : ((i : Int) < (l.length : Int)) = True := eq_true (by omega); have p3 : (i < l.length) = True := eq_true hlt; obtain ⟨ad, ea, y0, y1, y2, y3⟩ := at_T43 hC (i : Int) (by omega) (by omega); have hrd : rd_T43 l (i : Int) = l[i] := by unfold rd_T43; rw [Int.toNat_natCast, List.getD_eq_getElem?_getD, List.getElem?_eq_getElem hlt]; rfl
      rw [hrd, Int.toNat_natCast] at y0 y1 y2 y3; subst ea; have hd : l.drop i = l[i] :: l.drop (i + 1) := (List.getElem_cons_drop hlt).symm; have he := HE.out; rw [hd] at he; obtain ⟨x, hx⟩ : ∃ x, l[i] = x := ⟨_, rfl⟩; rw [hx] at y0 y1 y2 y3 he; obtain ⟨K_, V, G, Q⟩ := x; dsimp only at y0 y1 y2 y3; have HW : Aside0 (wrap64 ((i : Int) + 1) = ((i + 1 : Nat) : Int)) := ⟨by unfold wrap64; omega⟩; have HI2 : Aside0 (i + 1 + k1 = l.length) := ⟨by omega⟩; have HE1 := Aside0.mk he; clear hi hn hg hC hkk hrd hd he hx hlt
      by_cases q1 : K_ = key
      · have e1 : (K_.toList == key.toList) = true := beq_iff_eq.mpr (toList_inj.2 q1)
        by_cases q2 : Q ≤ q
        · have e2 : decide (Q ≤ q) = true := decide_eq_true q2; have HF : Aside0 (getF (l.drop r) key q = (⟨K_, V, G, Q⟩, true)) := ⟨by rw [HE1.out, getF, if_pos q1, if_pos q2]⟩; clear q1 q2; go_wp2; refine bodyPost_ret (results_ct rfl _ _ w.heap.size 43 #[.string K_, .string V, .bool G, .int .i64 Q] (0, 0) _ rfl (tput4 HK.out) Try.underlying43 rfl (by kernel_rfl)) rfl ?_; refine ⟨?_, below_set (below_set (below_set (below_set HB.out (Nat.le_refl _)) (Nat.le_refl _)) (Nat.le_refl _)) (Nat.le_refl _)⟩; rw [HF.out]; rfl
        · have e2 : decide (Q ≤ q) = false := decide_eq_false q2; have HE2 : Aside0 (getF (l.drop r) key q = getF (l.drop (i + 1)) key q) := ⟨by rw [HE1.out, getF, if_pos q1, if_neg q2]⟩; clear q1 q2; go_wp2
          go_roundg k1
          case measure => omega
          case rel => exact ⟨i + 1, by rw [HW.out], HI2, HE2, HK, HTT, HB⟩
      · have e1 : (K_.toList == key.toList) = false := beq_eq_false_iff_ne.mpr (fun h => q1 (toList_inj.1 h)); have HF : Aside0 (getF (l.drop r) key q = (⟨⟨#[]⟩, ⟨#[]⟩, false, 0⟩, false)) := ⟨by rw [HE1.out, getF, if_neg q1]⟩; clear q1; go_wp2; refine bodyPost_ret (results_ct rfl _ _ w.heap.size 43 #[.string ⟨#[]⟩, .string ⟨#[]⟩, .bool false, .int .i64 0] (0, 0) _ rfl (tput4 HK.out) Try.underlying43 rfl (by kernel_rfl)) rfl ?_; refine ⟨?_, below_set (below_set (below_set (below_set HB.out (Nat.le_refl _)) (Nat.le_refl _)) (Nat.le_refl _)) (Nat.le_refl _)⟩; rw [HF.out]; rfl
end Go.Proofs.Ytlmoafkmhenejaa.XA
