import Derived.Test.YtlmoafkmhenejaakOMTab2
section
namespace Go.Proofs.Ytlmoafkmhenejaa.VLib
end Go.Proofs.Ytlmoafkmhenejaa.VLib
namespace Go.Proofs.YtlmoafkmhenejaaW.PrintWords
end Go.Proofs.YtlmoafkmhenejaaW.PrintWords
namespace Go.Proofs.YtlmoafkmhenejaaW.PrintLast
end Go.Proofs.YtlmoafkmhenejaaW.PrintLast
namespace Go.Proofs.YtlmoafkmhenejaaW.PrintMore
end Go.Proofs.YtlmoafkmhenejaaW.PrintMore
namespace Go.Proofs.Ytlmoafkmhenejaa.XW
end Go.Proofs.Ytlmoafkmhenejaa.XW
namespace Go.Proofs.Ytlmoafkmhenejaa.XA
open Go.Proofs.Ytlmoafkmhenejaa.VLib Go.RowKit Go.Proofs.YtlmoafkmhenejaaW.PrintWords Go.Proofs.YtlmoafkmhenejaaW.PrintLast Go.Proofs.YtlmoafkmhenejaaW.PrintMore Go.Proofs.Ytlmoafkmhenejaa.XW
attribute [local go_sem high] max2_str unary_xor_u32 leq_str geq_str gtr_str
attribute [local go_sem] max2_int min2_int max_two min_two max_three min_three max_four min_four
set_option linter.unusedVariables false
set_option linter.unusedSimpArgs false
theorem tput4 {W : World} {g : Nat} {t : TypeId} {c0 c1 c2 c3 x0 x1 x2 x3 : Value} (h : W.heap[g]? = some (.cells #[c0, c1, c2, c3] t (0, 0))) : ((((W.setCell ⟨g, 0, none⟩ x0).setCell ⟨g, 1, none⟩ x1).setCell ⟨g, 2, none⟩ x2).setCell ⟨g, 3, none⟩ x3).heap[g]? = some (.cells #[x0, x1, x2, x3] t (0, 0)) :=
  blk_put (blk_put (blk_put (blk_put h 0 x0 rfl) 1 x1 rfl) 2 x2 rfl) 3 x3 rfl
def MayIs (k : Nat) (l : List S43) (bits key : ByteArray) (b : Bool) : Prop := (l = [] ∧ b = false) ∨ (0 < l.length ∧ bloom_Has.f k bits key = some b)
theorem may_any (k : Nat) (p : Value) (l : List S43) (bits key : ByteArray) (b : Bool) (w : World) (h : TabAt w p l bits) (hm : MayIs k l bits key b) :
    Calls Try.prog 23 #[p, .string key] w fun e w' => e = .returned (.bool b) ∧ Below w.heap.size w w' := by
  rcases hm with ⟨rfl, rfl⟩ | ⟨h1, h2⟩
  · refine (may_none p bits key w h).mono ?_; rintro e w' ⟨rfl, rfl⟩; exact ⟨rfl, Below.refl _ _⟩
  · exact may_some k p l bits key b w h h1 h2
def getF : List S43 → ByteArray → Int → S43 × Bool
  | [], _, _ => (⟨⟨#[]⟩, ⟨#[]⟩, false, 0⟩, false)
  | x :: t, key, q => if x.f0 = key then (if x.f3 ≤ q then (x, true) else getF t key q) else (⟨⟨#[]⟩, ⟨#[]⟩, false, 0⟩, false)
set_option maxHeartbeats 1600000 in
set_option maxRecDepth 100000 in
theorem get_yes (k K : Nat) (p : Value) (l : List S43) (bits key : ByteArray) (q : Int) (r : Nat) (w : World) (h : TabAt w p l bits) (hl : 0 < l.length) (hn : l.length ≤ 4096) (hm : bloom_Has.f k bits key = some true) (hs : seek K l key 0 (l.length : Int) = some (r : Int)) (hr : r ≤ l.length) :
    Calls Try.prog 22 #[p, .string key, .int .i64 q] w fun e w' => e = .returned (.tuple #[.agg #[.string (getF (l.drop r) key q).1.f0, .string (getF (l.drop r) key q).1.f1, .bool (getF (l.drop r) key q).1.f2, .int .i64 (getF (l.drop r) key q).1.f3], .bool (getF (l.drop r) key q).2]) ∧ Below w.heap.size w w' := by
  have HB0 := Aside0.mk (below_alloc (Below.refl w.heap.size w) (.cells #[.string ⟨#[]⟩, .string ⟨#[]⟩, .bool false, .int .i64 0] 43))
  have HT := Aside0.mk (h.below HB0.out)
  have HK0 := Aside0.mk (heap_alloc_new w (.cells #[.string ⟨#[]⟩, .string ⟨#[]⟩, .bool false, .int .i64 0] 43))
  have HM : Aside0 (MayIs k l bits key true) := ⟨.inr ⟨hl, hm⟩⟩
  have HL := Aside0.mk hl
  have HN := Aside0.mk hn
  have HS := Aside0.mk hs
  have HR := Aside0.mk hr
  clear h hm hl hn hs hr
  go_enter Try.func22, Try.ntmps22
  go_wp2_with (first | (go_at_call 60; go_loud ((refine (from_some K p l bits key r _ HT2.out HL.out HN.out HS.out).mono ?_); rintro e w3 ⟨rfl, hb3⟩; have HB3 := Aside0.mk (below_step HB2.out hb3); have HK3 := Aside0.mk (blk_below HK2.out hb3); have HT3 := Aside0.mk (HT2.out.below hb3); clear hb3)) | (go_at_call 23; go_loud ((refine (may_any k p l bits key true _ HT.out HM.out).mono ?_); rintro e w2 ⟨rfl, hb2⟩; have HB2 := Aside0.mk (below_step HB0.out hb2); have hk2 := blk_below HK0.out hb2; have HK2 := Aside0.mk hk2; have HT2 := Aside0.mk (HT.out.below hb2); skip; clear hb2 hk2)))
  go_loopg [8] (l.length - r) (fun kq v8 w' => ∃ (i : Nat), v8 = .int .i64 (i : Int) ∧ Aside0 (i + kq = l.length) ∧ Aside0 (getF (l.drop r) key q = getF (l.drop i) key q) ∧ Aside0 (w'.heap[w.heap.size]? = some (.cells #[.string ⟨#[]⟩, .string ⟨#[]⟩, .bool false, .int .i64 0] 43 (0, 0))) ∧ Aside0 (TabAt w' p l bits) ∧ Aside0 (Below w.heap.size w w'))
  case atStart => exact ⟨r, rfl, ⟨by have := HR.out; omega⟩, ⟨rfl⟩, HK3, HT3, HB3⟩
  case round =>
    clear HK3 HT3 HB3; obtain ⟨i, rfl, HI, HE, HK, HTT, HB⟩ := hrel; have hi := HI.out; have hn := HN.out; obtain ⟨g, A, c, hp, hg, hC, -⟩ := HTT.out.some HL.out; subst hp; have x0 : wr.cell? ⟨g, 0, none⟩ = some (.slice A l.length c) := (blk_cell hg 0).trans rfl; have hkk := HK.out; have z0 : wr.cell? ⟨w.heap.size, 0, none⟩ = some (.string ⟨#[]⟩) := (blk_cell hkk 0).trans rfl; have z1 : wr.cell? ⟨w.heap.size, 1, none⟩ = some (.string ⟨#[]⟩) := (blk_cell hkk 1).trans rfl; have z2 : wr.cell? ⟨w.heap.size, 2, none⟩ = some (.bool false) := (blk_cell hkk 2).trans rfl; have z3 : wr.cell? ⟨w.heap.size, 3, none⟩ = some (.int .i64 0) := (blk_cell hkk 3).trans rfl; have zf0 := blk_frozen hkk 0; have zf1 := blk_frozen hkk 1; have zf2 := blk_frozen hkk 2; have zf3 := blk_frozen hkk 3
    cases gk with
    | zero =>
      have c1 : decide ((i : Int) < (l.length : Int)) = false := decide_eq_false (by omega); have c2 : decide (i < l.length) = false := decide_eq_false (by omega); have HF : Aside0 (getF (l.drop r) key q = (⟨⟨#[]⟩, ⟨#[]⟩, false, 0⟩, false)) := ⟨by rw [HE.out, List.drop_eq_nil_of_le (by omega)]; rfl⟩; clear hi hn hg hC hkk; go_wp2; refine bodyPost_ret (results_ct rfl _ _ w.heap.size 43 #[.string ⟨#[]⟩, .string ⟨#[]⟩, .bool false, .int .i64 0] (0, 0) _ rfl (tput4 HK.out) Try.underlying43 rfl (by kernel_rfl)) rfl ?_; refine ⟨?_, below_set (below_set (below_set (below_set HB.out (Nat.le_refl _)) (Nat.le_refl _)) (Nat.le_refl _)) (Nat.le_refl _)⟩; rw [HF.out]; rfl
    | succ k1 =>
      have hlt : i < l.length := by omega
      have c1 : decide ((i : Int) < (l.length : Int)) = true := decide_eq_true (by omega); have c2 : decide (i < l.length) = true := decide_eq_true hlt; have p1 : (0 ≤ (i : Int)) = True := eq_true (by omega); have p2 : ((i : Int) < (l.length : Int)) = True := eq_true (by omega); have p3 : (i < l.length) = True := eq_true hlt; obtain ⟨ad, ea, y0, y1, y2, y3⟩ := at_T43 hC (i : Int) (by omega) (by omega); have hrd : rd_T43 l (i : Int) = l[i] := by unfold rd_T43; rw [Int.toNat_natCast, List.getD_eq_getElem?_getD, List.getElem?_eq_getElem hlt]; rfl
      rw [hrd, Int.toNat_natCast] at y0 y1 y2 y3; subst ea; have hd : l.drop i = l[i] :: l.drop (i + 1) := (List.getElem_cons_drop hlt).symm; have he := HE.out; rw [hd] at he; obtain ⟨x, hx⟩ : ∃ x, l[i] = x := ⟨_, rfl⟩; rw [hx] at y0 y1 y2 y3 he; obtain ⟨K_, V, G, Q⟩ := x; dsimp only at y0 y1 y2 y3; have HW : Aside0 (wrap64 ((i : Int) + 1) = ((i + 1 : Nat) : Int)) := ⟨by unfold wrap64; omega⟩; have HI2 : Aside0 (i + 1 + k1 = l.length) := ⟨by omega⟩; have HE1 := Aside0.mk he; clear hi hn hg hC hkk hrd hd he hx hlt
      by_cases q1 : K_ = key
      · have e1 : (K_.toList == key.toList) = true := beq_iff_eq.mpr (toList_inj.2 q1)
        by_cases q2 : Q ≤ q
        · have e2 : decide (Q ≤ q) = true := decide_eq_true q2; have HF : Aside0 (getF (l.drop r) key q = (⟨K_, V, G, Q⟩, true)) := ⟨by rw [HE1.out, getF, if_pos q1, if_pos q2]⟩; clear q1 q2; go_wp2; refine bodyPost_ret (results_ct rfl _ _ w.heap.size 43 #[.string K_, .string V, .bool G, .int .i64 Q] (0, 0) _ rfl (tput4 HK.out) Try.underlying43 rfl (by kernel_rfl)) rfl ?_; refine ⟨?_, below_set (below_set (below_set (below_set HB.out (Nat.le_refl _)) (Nat.le_refl _)) (Nat.le_refl _)) (Nat.le_refl _)⟩; rw [HF.out]; rfl
        · have e2 : decide (Q ≤ q) = false := decide_eq_false q2; have HE2 : Aside0 (getF (l.drop r) key q = getF (l.drop (i + 1)) key q) := ⟨by rw [HE1.out, getF, if_pos q1, if_neg q2]⟩; clear q1 q2; go_wp2
          go_roundg k1
          case measure => omega
          case rel => exact ⟨i + 1, by rw [HW.out], HI2, HE2, HK, HTT, HB⟩
      · have e1 : (K_.toList == key.toList) = false := beq_eq_false_iff_ne.mpr (fun h => q1 (toList_inj.1 h)); have HF : Aside0 (getF (l.drop r) key q = (⟨⟨#[]⟩, ⟨#[]⟩, false, 0⟩, false)) := ⟨by rw [HE1.out, getF, if_neg q1]⟩; clear q1; go_wp2; refine bodyPost_ret (results_ct rfl _ _ w.heap.size 43 #[.string ⟨#[]⟩, .string ⟨#[]⟩, .bool false, .int .i64 0] (0, 0) _ rfl (tput4 HK.out) Try.underlying43 rfl (by kernel_rfl)) rfl ?_; refine ⟨?_, below_set (below_set (below_set (below_set HB.out (Nat.le_refl _)) (Nat.le_refl _)) (Nat.le_refl _)) (Nat.le_refl _)⟩; rw [HF.out]; rfl
end Go.Proofs.Ytlmoafkmhenejaa.XA
end
section
namespace Go.Proofs.Ytlmoafkmhenejaa.VLib
end Go.Proofs.Ytlmoafkmhenejaa.VLib
namespace Go.Proofs.Ytlmoafkmhenejaa.Bld
end Go.Proofs.Ytlmoafkmhenejaa.Bld
namespace Go.Proofs.YtlmoafkmhenejaaW.PrintWords
end Go.Proofs.YtlmoafkmhenejaaW.PrintWords
namespace Go.Proofs.YtlmoafkmhenejaaW.PrintLast
end Go.Proofs.YtlmoafkmhenejaaW.PrintLast
namespace Go.Proofs.YtlmoafkmhenejaaW.PrintMore
end Go.Proofs.YtlmoafkmhenejaaW.PrintMore
namespace Go.Proofs.Ytlmoafkmhenejaa.XW
end Go.Proofs.Ytlmoafkmhenejaa.XW
namespace Go.Proofs.Ytlmoafkmhenejaa.XA
open Go.Proofs.Ytlmoafkmhenejaa.VLib Go.Proofs.Ytlmoafkmhenejaa.Bld Go.RowKit Go.Proofs.YtlmoafkmhenejaaW.PrintWords Go.Proofs.YtlmoafkmhenejaaW.PrintLast Go.Proofs.YtlmoafkmhenejaaW.PrintMore Go.Proofs.Ytlmoafkmhenejaa.XW
attribute [local go_sem high] max2_str unary_xor_u32 leq_str geq_str gtr_str
attribute [local go_sem] max2_int min2_int max_two min_two max_three min_three max_four min_four
set_option linter.unusedVariables false
set_option linter.unusedSimpArgs false
def aL : List S43 := [⟨⟨#[97]⟩, ⟨#[120]⟩, false, 3⟩, ⟨⟨#[98]⟩, ⟨#[]⟩, true, 2⟩]
def aS : ByteArray := ⟨#[2, 0, 1, 97, 6, 1, 120, 0, 1, 98, 5, 38, 251, 223, 224, 1, 1, 97, 15, 8, 20, 9, 48, 34, 64, 0, 129, 2, 151, 138, 31, 104, 17, 0, 0, 0]⟩
def aB : ByteArray := ⟨#[20, 9, 48, 34, 64, 0, 129, 2]⟩
theorem aw_build : buildF 300 300 aL = some (aS, 0) := by kernel_rfl
theorem aw_open : openF 300 300 aS = some (some (aL, aB)) := by kernel_rfl
theorem aw_has : bloom_Has.f 300 aB ⟨#[97]⟩ = some true := by kernel_rfl
theorem aw_seek : seek 20 aL ⟨#[97]⟩ 0 (aL.length : Int) = some ((0 : Nat) : Int) := by kernel_rfl
theorem aw_clip : span_Clip.f aL ⟨#[]⟩ ⟨#[]⟩ = some aL := by kernel_rfl
theorem aw_same : sorrelref04_Same.f 300 aL aL = some true := by kernel_rfl
theorem aw_get : getF (aL.drop 0) ⟨#[97]⟩ 9 = (⟨⟨#[97]⟩, ⟨#[120]⟩, false, 3⟩, true) := by
  show getF aL ⟨#[97]⟩ 9 = _
  unfold aL
  rw [getF, if_pos rfl, if_pos (by decide)]
theorem ents2 (w : World) (g : Nat) (h : w.heap[g]? = some (.cells #[.string ⟨#[97]⟩, .string ⟨#[120]⟩, .bool false, .int .i64 3, .string ⟨#[98]⟩, .string ⟨#[]⟩, .bool true, .int .i64 2] 43 (0, 0))) : Kd.C k43 w (some ⟨g, 0, none⟩) aL.length aL := by
  refine ⟨rfl, by decide, fun _ => ⟨_, rfl, fun j p hp => ?_⟩⟩
  match j, hp with
  | 0, hp =>
    obtain rfl := Option.some.inj hp; refine ⟨[.string ⟨#[97]⟩, .string ⟨#[120]⟩, .bool false, .int .i64 3], rfl, ⟨[.string ⟨#[97]⟩], [.string ⟨#[120]⟩, .bool false, .int .i64 3], rfl, rfl, ⟨[.string ⟨#[120]⟩], [.bool false, .int .i64 3], rfl, rfl, ⟨[.bool false], [.int .i64 3], rfl, rfl, rfl⟩⟩⟩, fun i u hu => ?_⟩
    match i, hu with
    | 0, hu => exact ((blk_cell h 0).trans rfl).trans hu
    | 1, hu => exact ((blk_cell h 1).trans rfl).trans hu
    | 2, hu => exact ((blk_cell h 2).trans rfl).trans hu
    | 3, hu => exact ((blk_cell h 3).trans rfl).trans hu
    | i + 4, hu => simp at hu
  | 1, hp =>
    obtain rfl := Option.some.inj hp; refine ⟨[.string ⟨#[98]⟩, .string ⟨#[]⟩, .bool true, .int .i64 2], rfl, ⟨[.string ⟨#[98]⟩], [.string ⟨#[]⟩, .bool true, .int .i64 2], rfl, rfl, ⟨[.string ⟨#[]⟩], [.bool true, .int .i64 2], rfl, rfl, ⟨[.bool true], [.int .i64 2], rfl, rfl, rfl⟩⟩⟩, fun i u hu => ?_⟩
    match i, hu with
    | 0, hu => exact ((blk_cell h 4).trans rfl).trans hu
    | 1, hu => exact ((blk_cell h 5).trans rfl).trans hu
    | 2, hu => exact ((blk_cell h 6).trans rfl).trans hu
    | 3, hu => exact ((blk_cell h 7).trans rfl).trans hu
    | i + 4, hu => simp at hu
  | j + 2, hp => simp [aL] at hp
theorem build_a (g : Nat) (w : World) (hC : Kd.C k43 w (some ⟨g, 0, none⟩) aL.length aL) : Calls Try.prog 13 #[.slice (some ⟨g, 0, none⟩) 2 2] w fun e w' => e = .returned (.tuple #[.string aS, .int .i64 0]) ∧ Below w.heap.size w w' := build_calls 300 300 _ 2 aL aS 0 w hC (by decide) aw_build
theorem open_a (w : World) : Calls Try.prog 16 #[.string aS] w fun e w' => ∃ g, e = .returned (.tuple #[.pointer (some ⟨g, 0, none⟩), .int .i64 0]) ∧ TabAt w' (.pointer (some ⟨g, 0, none⟩)) aL aB ∧ Below w.heap.size w w' := by
  refine (open_calls 300 300 aS _ w (by decide) aw_open).mono ?_
  rintro e w' ⟨hb, g, A, c, he, hg, hC, hc⟩
  exact ⟨g, he, .inr ⟨g, A, c, rfl, hg, hC, hc⟩, hb⟩
theorem get_a (p : Value) (w : World) (h : TabAt w p aL aB) : Calls Try.prog 22 #[p, .string ⟨#[97]⟩, .int .i64 9] w fun e w' => e = .returned (.tuple #[.agg #[.string ⟨#[97]⟩, .string ⟨#[120]⟩, .bool false, .int .i64 3], .bool true]) ∧ Below w.heap.size w w' := by
  refine (get_yes 300 20 p aL aB ⟨#[97]⟩ 9 0 w h (by decide) (by decide) aw_has aw_seek (by decide)).mono ?_
  rw [aw_get]
  exact fun _ _ h => h
theorem ends_a (p : Value) (w : World) (h : TabAt w p aL aB) : Calls Try.prog 29 #[p] w fun e w' => e = .returned (.tuple #[.string ⟨#[97]⟩, .string ⟨#[98]⟩]) ∧ Below w.heap.size w w' := ends_some p aL aB w h (by decide) (by decide)
theorem len_a (p : Value) (w : World) (h : TabAt w p aL aB) : Calls Try.prog 18 #[p] w fun e w' => e = .returned (.int .i64 2) ∧ w' = w := len_calls p aL aB w h
theorem same_a (A1 A2 : Option Addr) (c1 : Nat) (w : World) (h1 : Kd.C k43 w A1 aL.length aL) (hc : aL.length ≤ c1) (h2 : Kd.C k43 w A2 aL.length aL) : Calls Try.prog 19 #[.slice A1 2 c1, .slice A2 2 2] w fun e w' => e = .returned (.bool true) ∧ Drawn0 w w' := sorrelref04_Same.calls 300 A1 c1 aL A2 2 aL true w h1 hc h2 (by decide) aw_same
set_option maxHeartbeats 2000000 in
set_option maxRecDepth 100000 in
theorem awake_calls (w : World) : Calls Try.prog 12 #[] w fun e w' => e = .returned (.bool true) ∧ Below w.heap.size w w' := by
  have hl := below_alloc (Below.refl w.heap.size w) (.cells #[.string ⟨#[97]⟩, .string ⟨#[120]⟩, .bool false, .int .i64 3, .string ⟨#[98]⟩, .string ⟨#[]⟩, .bool true, .int .i64 2] 43)
  have hk := heap_alloc_new w (.cells #[.string ⟨#[97]⟩, .string ⟨#[120]⟩, .bool false, .int .i64 3, .string ⟨#[98]⟩, .string ⟨#[]⟩, .bool true, .int .i64 2] 43)
  have HK := Aside0.mk hk
  have HC := Aside0.mk (ents2 _ _ hk)
  have HL := Aside0.mk hl
  clear hl hk
  go_enter Try.func12, Try.ntmps12
  go_wp2_with (first
    | (go_at_call 29; go_loud ((with_reducible refine (ends_a _ _ HT3.out).mono ?_); rintro e w4 ⟨rfl, hb4⟩; have HB4 := Aside0.mk (below_step HB3.out hb4); have HT4 := Aside0.mk (HT3.out.below hb4); have HK4 := Aside0.mk (blk_below HK3.out hb4); have H64 := Aside0.mk (blk_below H63.out hb4); clear hb4))
    | (go_at_call 22; go_loud ((with_reducible refine (get_a _ _ HT2.out).mono ?_); rintro e w3 ⟨rfl, hb3⟩; have hb3' := below_alloc hb3 (.cells #[.string ⟨#[97]⟩, .string ⟨#[120]⟩, .bool false, .int .i64 3] 43); have HB3 := Aside0.mk (below_step HB2.out hb3'); have HT3 := Aside0.mk (HT2.out.below hb3'); have HK3 := Aside0.mk (blk_below HK2.out hb3'); have H63 := Aside0.mk (heap_alloc_new w3 (.cells #[.string ⟨#[97]⟩, .string ⟨#[120]⟩, .bool false, .int .i64 3] 43)); clear hb3 hb3'))
    | (go_at_call 16; go_loud ((with_reducible refine (open_a _).mono ?_); rintro e w2 ⟨g, rfl, hT, hb2⟩; have HT2 := Aside0.mk hT; have HB2 := Aside0.mk (below_step HB1.out hb2); have HK2 := Aside0.mk (blk_below HK1.out hb2); clear hT hb2))
    | (go_at_call 13; go_loud ((with_reducible refine (build_a _ _ HC.out).mono ?_); rintro e w1 ⟨rfl, hb1⟩; have HB1 := Aside0.mk (below_step HL.out hb1); have HK1 := Aside0.mk (blk_below HK.out hb1); clear hb1)))
  have f8 := blk_drew H64.out
  have f9 := blk_drew HK4.out

  have f10 := HT4.out.below (below_drew (Below.refl _ _))
  have f11 := below_drew HB4.out
  refine start_ (n := 33) (S := fun w' => w'.cell? ⟨w3.heap.size, 0, none⟩ = some (.string ⟨#[97]⟩) ∧ w'.cell? ⟨w3.heap.size, 1, none⟩ = some (.string ⟨#[120]⟩) ∧ w'.cell? ⟨w3.heap.size, 2, none⟩ = some (.bool false) ∧ w'.cell? ⟨w3.heap.size, 3, none⟩ = some (.int .i64 3) ∧ w'.cell? ⟨w.heap.size, 0, none⟩ = some (.string ⟨#[97]⟩) ∧ w'.cell? ⟨w.heap.size, 1, none⟩ = some (.string ⟨#[120]⟩) ∧ w'.cell? ⟨w.heap.size, 2, none⟩ = some (.bool false) ∧ w'.cell? ⟨w.heap.size, 3, none⟩ = some (.int .i64 3) ∧ w'.heap[w3.heap.size]? = some (.cells #[.string ⟨#[97]⟩, .string ⟨#[120]⟩, .bool false, .int .i64 3] 43 (0, 0)) ∧ w'.heap[w.heap.size]? = some (.cells #[.string ⟨#[97]⟩, .string ⟨#[120]⟩, .bool false, .int .i64 3, .string ⟨#[98]⟩, .string ⟨#[]⟩, .bool true, .int .i64 2] 43 (0, 0)) ∧ TabAt w' (.pointer (some ⟨g, 0, none⟩)) aL aB ∧ Below w.heap.size w w') (ds := []) #[false,false,false,false,false,false,false,false,false,false,false,false,false,false,false,false,false,false,false,false,false,false,false,false,false,false,false,false,false,false,false,false,false] (by kernel_rfl) rfl rfl ⟨(blk_cell f8 0).trans rfl, (blk_cell f8 1).trans rfl, (blk_cell f8 2).trans rfl, (blk_cell f8 3).trans rfl, (blk_cell f9 0).trans rfl, (blk_cell f9 1).trans rfl, (blk_cell f9 2).trans rfl, (blk_cell f9 3).trans rfl, f8, f9, f10, f11⟩ (fun hHeld => ?_)
  refine pure_ (i := 1) (N := some 44) (v := ?_) (a' := ?_) #[false,true,false,false,false,false,false,false,false,false,false,false,false,false,false,false,false,false,false,false,false,false,false,false,false,false,false,false,false,false,false,false,false] rfl rfl (by kernel_rfl) (fun _ _ _ h => h) (Or.inl ⟨by rfl, ?_⟩) ?_ ?_
  rotate_left; (focus intro w'; go_simp; with_reducible rfl); rotate_left; (focus simp only [Act.put, List.setIfInBounds_toArray, List.set_cons_zero, List.set_cons_succ, i64_w, i32_w]; rfl)
  refine pure_ (i := 2) (N := some 45) (v := ?_) (a' := ?_) #[false,true,true,false,false,false,false,false,false,false,false,false,false,false,false,false,false,false,false,false,false,false,false,false,false,false,false,false,false,false,false,false,false] rfl rfl (by kernel_rfl) (fun _ _ _ h => h) (Or.inl ⟨by rfl, ?_⟩) ?_ ?_
  rotate_left; (focus intro w'; go_simp; with_reducible rfl); rotate_left; (focus simp only [Act.put, List.setIfInBounds_toArray, List.set_cons_zero, List.set_cons_succ, i64_w, i32_w]; rfl)
  refine take_ (i := 0) (N := some 43) (v := ?_) (a' := ?_) #[true,true,true,false,false,false,false,false,false,false,false,false,false,false,false,false,false,false,false,false,false,false,false,false,false,false,false,false,false,false,false,false,false] rfl rfl (by kernel_rfl) (fun _ _ _ h => h) (Or.inl ⟨by rfl, ?_⟩) hHeld ?_ ?_
  rotate_left; (focus rintro w' ⟨s0, s1, s2, s3, s4, s5, s6, s7, s8, s9, s10, s11⟩; go_simp; with_reducible rfl); rotate_left; (focus simp only [Act.put, List.setIfInBounds_toArray, List.set_cons_zero, List.set_cons_succ, i64_w, i32_w]; rfl)
  refine take_ (i := 3) (N := some 46) (v := ?_) (a' := ?_) #[true,true,true,true,false,false,false,false,false,false,false,false,false,false,false,false,false,false,false,false,false,false,false,false,false,false,false,false,false,false,false,false,false] rfl rfl (by kernel_rfl) (fun _ _ _ h => h) (Or.inl ⟨by rfl, ?_⟩) hHeld ?_ ?_
  rotate_left; (focus rintro w' ⟨s0, s1, s2, s3, s4, s5, s6, s7, s8, s9, s10, s11⟩; go_simp; with_reducible rfl); rotate_left; (focus simp only [Act.put, List.setIfInBounds_toArray, List.set_cons_zero, List.set_cons_succ, i64_w, i32_w]; rfl)
  refine pure_ (i := 4) (N := some 47) (v := ?_) (a' := ?_) #[true,true,true,true,true,false,false,false,false,false,false,false,false,false,false,false,false,false,false,false,false,false,false,false,false,false,false,false,false,false,false,false,false] rfl rfl (by kernel_rfl) (fun _ _ _ h => h) (Or.inl ⟨by rfl, ?_⟩) ?_ ?_
  rotate_left; (focus intro w'; go_simp; with_reducible rfl); rotate_left; (focus simp only [Act.put, List.setIfInBounds_toArray, List.set_cons_zero, List.set_cons_succ, i64_w, i32_w]; rfl)
  refine pure_ (i := 5) (N := some 48) (v := ?_) (a' := ?_) #[true,true,true,true,true,true,false,false,false,false,false,false,false,false,false,false,false,false,false,false,false,false,false,false,false,false,false,false,false,false,false,false,false] rfl rfl (by kernel_rfl) (fun _ _ _ h => h) (Or.inl ⟨by rfl, ?_⟩) ?_ ?_
  rotate_left; (focus intro w'; go_simp; with_reducible rfl); rotate_left; (focus simp only [Act.put, List.setIfInBounds_toArray, List.set_cons_zero, List.set_cons_succ, i64_w, i32_w]; rfl)
  refine pure_ (i := 6) (N := some 49) (v := ?_) (a' := ?_) #[true,true,true,true,true,true,true,false,false,false,false,false,false,false,false,false,false,false,false,false,false,false,false,false,false,false,false,false,false,false,false,false,false] rfl rfl (by kernel_rfl) (fun _ _ _ h => h) (Or.inl ⟨by rfl, ?_⟩) ?_ ?_
  rotate_left; (focus intro w'; go_simp; with_reducible rfl); rotate_left; (focus simp only [Act.put, List.setIfInBounds_toArray, List.set_cons_zero, List.set_cons_succ, i64_w, i32_w]; rfl)
  refine pure_ (i := 7) (N := some 50) (v := ?_) (a' := ?_) #[true,true,true,true,true,true,true,true,false,false,false,false,false,false,false,false,false,false,false,false,false,false,false,false,false,false,false,false,false,false,false,false,false] rfl rfl (by kernel_rfl) (fun _ _ _ h => h) (Or.inl ⟨by rfl, ?_⟩) ?_ ?_
  rotate_left; (focus intro w'; go_simp; with_reducible rfl); rotate_left; (focus simp only [Act.put, List.setIfInBounds_toArray, List.set_cons_zero, List.set_cons_succ, i64_w, i32_w]; rfl)
  refine pure_ (i := 8) (N := some 51) (v := ?_) (a' := ?_) #[true,true,true,true,true,true,true,true,true,false,false,false,false,false,false,false,false,false,false,false,false,false,false,false,false,false,false,false,false,false,false,false,false] rfl rfl (by kernel_rfl) (fun _ _ _ h => h) (Or.inl ⟨by rfl, ?_⟩) ?_ ?_
  rotate_left; (focus intro w'; go_simp; with_reducible rfl); rotate_left; (focus simp only [Act.put, List.setIfInBounds_toArray, List.set_cons_zero, List.set_cons_succ, i64_w, i32_w]; rfl)
  refine pure_ (i := 9) (N := some 52) (v := ?_) (a' := ?_) #[true,true,true,true,true,true,true,true,true,true,false,false,false,false,false,false,false,false,false,false,false,false,false,false,false,false,false,false,false,false,false,false,false] rfl rfl (by kernel_rfl) (fun _ _ _ h => h) (Or.inl ⟨by rfl, ?_⟩) ?_ ?_
  rotate_left; (focus intro w'; go_simp; with_reducible rfl); rotate_left; (focus simp only [Act.put, List.setIfInBounds_toArray, List.set_cons_zero, List.set_cons_succ, i64_w, i32_w]; rfl)
  refine pure_ (i := 10) (N := some 53) (v := ?_) (a' := ?_) #[true,true,true,true,true,true,true,true,true,true,true,false,false,false,false,false,false,false,false,false,false,false,false,false,false,false,false,false,false,false,false,false,false] rfl rfl (by kernel_rfl) (fun _ _ _ h => h) (Or.inl ⟨by rfl, ?_⟩) ?_ ?_
  rotate_left; (focus intro w'; go_simp; with_reducible rfl); rotate_left; (focus simp only [Act.put, List.setIfInBounds_toArray, List.set_cons_zero, List.set_cons_succ, i64_w, i32_w]; rfl)
  refine pure_ (i := 11) (N := some 54) (v := ?_) (a' := ?_) #[true,true,true,true,true,true,true,true,true,true,true,true,false,false,false,false,false,false,false,false,false,false,false,false,false,false,false,false,false,false,false,false,false] rfl rfl (by kernel_rfl) (fun _ _ _ h => h) (Or.inl ⟨by rfl, ?_⟩) ?_ ?_
  rotate_left; (focus intro w'; go_simp; with_reducible rfl); rotate_left; (focus simp only [Act.put, List.setIfInBounds_toArray, List.set_cons_zero, List.set_cons_succ, i64_w, i32_w]; rfl)
  refine pure_ (i := 12) (N := some 55) (v := ?_) (a' := ?_) #[true,true,true,true,true,true,true,true,true,true,true,true,true,false,false,false,false,false,false,false,false,false,false,false,false,false,false,false,false,false,false,false,false] rfl rfl (by kernel_rfl) (fun _ _ _ h => h) (Or.inl ⟨by rfl, ?_⟩) ?_ ?_
  rotate_left; (focus intro w'; go_simp; with_reducible rfl); rotate_left; (focus simp only [Act.put, List.setIfInBounds_toArray, List.set_cons_zero, List.set_cons_succ, i64_w, i32_w]; rfl)
  refine pure_ (i := 13) (N := some 56) (v := ?_) (a' := ?_) #[true,true,true,true,true,true,true,true,true,true,true,true,true,true,false,false,false,false,false,false,false,false,false,false,false,false,false,false,false,false,false,false,false] rfl rfl (by kernel_rfl) (fun _ _ _ h => h) (Or.inl ⟨by rfl, ?_⟩) ?_ ?_
  rotate_left; (focus intro w'; go_simp; with_reducible rfl); rotate_left; (focus simp only [Act.put, List.setIfInBounds_toArray, List.set_cons_zero, List.set_cons_succ, i64_w, i32_w]; rfl)
  refine pure_ (i := 14) (N := some 57) (v := ?_) (a' := ?_) #[true,true,true,true,true,true,true,true,true,true,true,true,true,true,true,false,false,false,false,false,false,false,false,false,false,false,false,false,false,false,false,false,false] rfl rfl (by kernel_rfl) (fun _ _ _ h => h) (Or.inl ⟨by rfl, ?_⟩) ?_ ?_
  rotate_left; (focus intro w'; go_simp; with_reducible rfl); rotate_left; (focus simp only [Act.put, List.setIfInBounds_toArray, List.set_cons_zero, List.set_cons_succ, i64_w, i32_w]; rfl)
  refine pure_ (i := 15) (N := some 58) (v := ?_) (a' := ?_) #[true,true,true,true,true,true,true,true,true,true,true,true,true,true,true,true,false,false,false,false,false,false,false,false,false,false,false,false,false,false,false,false,false] rfl rfl (by kernel_rfl) (fun _ _ _ h => h) (Or.inl ⟨by rfl, ?_⟩) ?_ ?_
  rotate_left; (focus intro w'; go_simp; with_reducible rfl); rotate_left; (focus simp only [Act.put, List.setIfInBounds_toArray, List.set_cons_zero, List.set_cons_succ, i64_w, i32_w]; rfl)
  refine pure_ (i := 16) (N := some 59) (v := ?_) (a' := ?_) #[true,true,true,true,true,true,true,true,true,true,true,true,true,true,true,true,true,false,false,false,false,false,false,false,false,false,false,false,false,false,false,false,false] rfl rfl (by kernel_rfl) (fun _ _ _ h => h) (Or.inl ⟨by rfl, ?_⟩) ?_ ?_
  rotate_left; (focus intro w'; go_simp; with_reducible rfl); rotate_left; (focus simp only [Act.put, List.setIfInBounds_toArray, List.set_cons_zero, List.set_cons_succ, i64_w, i32_w]; rfl)
  refine pure_ (i := 17) (N := some 60) (v := ?_) (a' := ?_) #[true,true,true,true,true,true,true,true,true,true,true,true,true,true,true,true,true,true,false,false,false,false,false,false,false,false,false,false,false,false,false,false,false] rfl rfl (by kernel_rfl) (fun _ _ _ h => h) (Or.inl ⟨by rfl, ?_⟩) ?_ ?_
  rotate_left; (focus intro w'; go_simp; with_reducible rfl); rotate_left; (focus simp only [Act.put, List.setIfInBounds_toArray, List.set_cons_zero, List.set_cons_succ, i64_w, i32_w]; rfl)
  refine one_ (i := 18) (N := some 61) #[true,true,true,true,true,true,true,true,true,true,true,true,true,true,true,true,true,true,true,false,false,false,false,false,false,false,false,false,false,false,false,false,false] rfl rfl (by kernel_rfl) (by decide) (fun K hK => ?_)
  refine goes_ Try.func18 (by kernel_rfl) rfl #[.pointer (some ⟨g, 0, none⟩)] (by rfl) rfl rfl (by simp only [List.map_toArray, List.map_cons, List.map_nil]; rfl) ?_
  with_reducible refine (len_a _ _ hHeld.2.2.2.2.2.2.2.2.2.2.1).mono ?_
  rintro e1 _ ⟨rfl, rfl⟩
  refine ⟨_, rfl, ?_⟩
  refine hK.out _ _ ⟨hHeld.1, hHeld.2.1, hHeld.2.2.1, hHeld.2.2.2.1, hHeld.2.2.2.2.1, hHeld.2.2.2.2.2.1, hHeld.2.2.2.2.2.2.1, hHeld.2.2.2.2.2.2.2.1, hHeld.2.2.2.2.2.2.2.2.1, hHeld.2.2.2.2.2.2.2.2.2.1, hHeld.2.2.2.2.2.2.2.2.2.2.1, hHeld.2.2.2.2.2.2.2.2.2.2.2⟩ (fun hHeld => ?_)
  clear hK K
  refine norm_ (a' := ?_) ?_ ?_
  rotate_left
  · show Act.put _ (some 61) _ = _
    simp only [Act.put, List.setIfInBounds_toArray, List.set_cons_zero, List.set_cons_succ, i64_w, i32_w]
    rfl
  refine pure_ (i := 19) (N := some 62) (v := ?_) (a' := ?_) #[true,true,true,true,true,true,true,true,true,true,true,true,true,true,true,true,true,true,true,true,false,false,false,false,false,false,false,false,false,false,false,false,false] rfl rfl (by kernel_rfl) (fun _ _ _ h => h) (Or.inl ⟨by rfl, ?_⟩) ?_ ?_
  rotate_left; (focus intro w'; go_simp; with_reducible rfl); rotate_left; (focus simp only [Act.put, List.setIfInBounds_toArray, List.set_cons_zero, List.set_cons_succ, i64_w, i32_w]; rfl)
  refine pure_ (i := 20) (N := some 63) (v := ?_) (a' := ?_) #[true,true,true,true,true,true,true,true,true,true,true,true,true,true,true,true,true,true,true,true,true,false,false,false,false,false,false,false,false,false,false,false,false] rfl rfl (by kernel_rfl) (fun _ _ _ h => h) (Or.inl ⟨by rfl, ?_⟩) ?_ ?_
  rotate_left; (focus intro w'; go_simp; with_reducible rfl); rotate_left; (focus simp only [Act.put, List.setIfInBounds_toArray, List.set_cons_zero, List.set_cons_succ, i64_w, i32_w]; rfl)
  refine pure_ (i := 21) (N := some 64) (v := ?_) (a' := ?_) #[true,true,true,true,true,true,true,true,true,true,true,true,true,true,true,true,true,true,true,true,true,true,false,false,false,false,false,false,false,false,false,false,false] rfl rfl (by kernel_rfl) (fun _ _ _ h => h) (Or.inl ⟨by rfl, ?_⟩) ?_ ?_
  rotate_left; (focus intro w'; go_simp; with_reducible rfl); rotate_left; (focus simp only [Act.put, List.setIfInBounds_toArray, List.set_cons_zero, List.set_cons_succ, i64_w, i32_w]; rfl)
  refine pure_ (i := 22) (N := some 65) (v := ?_) (a' := ?_) #[true,true,true,true,true,true,true,true,true,true,true,true,true,true,true,true,true,true,true,true,true,true,true,false,false,false,false,false,false,false,false,false,false] rfl rfl (by kernel_rfl) (fun _ _ _ h => h) (Or.inl ⟨by rfl, ?_⟩) ?_ ?_
  rotate_left; (focus intro w'; go_simp; with_reducible rfl); rotate_left; (focus simp only [Act.put, List.setIfInBounds_toArray, List.set_cons_zero, List.set_cons_succ, i64_w, i32_w]; rfl)
  refine one_ (i := 23) (N := some 66) #[true,true,true,true,true,true,true,true,true,true,true,true,true,true,true,true,true,true,true,true,true,true,true,true,false,false,false,false,false,false,false,false,false] rfl rfl (by kernel_rfl) (by decide) (fun K hK => ?_)
  refine goes_ Try.func23 (by kernel_rfl) rfl #[.pointer (some ⟨g, 0, none⟩), .string ⟨#[97]⟩] (by rfl) rfl rfl (by simp only [List.map_toArray, List.map_cons, List.map_nil]; rfl) ?_
  with_reducible refine (may_some 300 _ aL aB ⟨#[97]⟩ true _ hHeld.2.2.2.2.2.2.2.2.2.2.1 (by decide) aw_has).mono ?_
  rintro e1 w7 ⟨rfl, hb7⟩
  refine ⟨_, rfl, ?_⟩
  refine hK.out _ _ ⟨(hb7.cell (World.block_lt_of_cell? _ _ hHeld.1)).trans hHeld.1, (hb7.cell (World.block_lt_of_cell? _ _ hHeld.2.1)).trans hHeld.2.1, (hb7.cell (World.block_lt_of_cell? _ _ hHeld.2.2.1)).trans hHeld.2.2.1, (hb7.cell (World.block_lt_of_cell? _ _ hHeld.2.2.2.1)).trans hHeld.2.2.2.1, (hb7.cell (World.block_lt_of_cell? _ _ hHeld.2.2.2.2.1)).trans hHeld.2.2.2.2.1, (hb7.cell (World.block_lt_of_cell? _ _ hHeld.2.2.2.2.2.1)).trans hHeld.2.2.2.2.2.1, (hb7.cell (World.block_lt_of_cell? _ _ hHeld.2.2.2.2.2.2.1)).trans hHeld.2.2.2.2.2.2.1, (hb7.cell (World.block_lt_of_cell? _ _ hHeld.2.2.2.2.2.2.2.1)).trans hHeld.2.2.2.2.2.2.2.1, blk_below hHeld.2.2.2.2.2.2.2.2.1 hb7, blk_below hHeld.2.2.2.2.2.2.2.2.2.1 hb7, hHeld.2.2.2.2.2.2.2.2.2.2.1.below hb7, below_step hHeld.2.2.2.2.2.2.2.2.2.2.2 hb7⟩ (fun hHeld => ?_)
  clear hK K
  refine norm_ (a' := ?_) ?_ ?_
  rotate_left
  · show Act.put _ (some 66) _ = _
    simp only [Act.put, List.setIfInBounds_toArray, List.set_cons_zero, List.set_cons_succ, i64_w, i32_w]
    rfl
  refine pure_ (i := 24) (N := some 67) (v := ?_) (a' := ?_) #[true,true,true,true,true,true,true,true,true,true,true,true,true,true,true,true,true,true,true,true,true,true,true,true,true,false,false,false,false,false,false,false,false] rfl rfl (by kernel_rfl) (fun _ _ _ h => h) (Or.inl ⟨by rfl, ?_⟩) ?_ ?_
  rotate_left; (focus intro w'; go_simp; with_reducible rfl); rotate_left; (focus simp only [Act.put, List.setIfInBounds_toArray, List.set_cons_zero, List.set_cons_succ, i64_w, i32_w]; rfl)
  refine pure_ (i := 25) (N := some 68) (v := ?_) (a' := ?_) #[true,true,true,true,true,true,true,true,true,true,true,true,true,true,true,true,true,true,true,true,true,true,true,true,true,true,false,false,false,false,false,false,false] rfl rfl (by kernel_rfl) (fun _ _ _ h => h) (Or.inl ⟨by rfl, ?_⟩) ?_ ?_
  rotate_left; (focus intro w'; go_simp; with_reducible rfl); rotate_left; (focus simp only [Act.put, List.setIfInBounds_toArray, List.set_cons_zero, List.set_cons_succ, i64_w, i32_w]; rfl)
  refine pure_ (i := 26) (N := some 69) (v := ?_) (a' := ?_) #[true,true,true,true,true,true,true,true,true,true,true,true,true,true,true,true,true,true,true,true,true,true,true,true,true,true,true,false,false,false,false,false,false] rfl rfl (by kernel_rfl) (fun _ _ _ h => h) (Or.inl ⟨by rfl, ?_⟩) ?_ ?_
  rotate_left; (focus intro w'; go_simp; with_reducible rfl); rotate_left; (focus simp only [Act.put, List.setIfInBounds_toArray, List.set_cons_zero, List.set_cons_succ, i64_w, i32_w]; rfl)
  refine pure_ (i := 27) (N := some 70) (v := ?_) (a' := ?_) #[true,true,true,true,true,true,true,true,true,true,true,true,true,true,true,true,true,true,true,true,true,true,true,true,true,true,true,true,false,false,false,false,false] rfl rfl (by kernel_rfl) (fun _ _ _ h => h) (Or.inl ⟨by rfl, ?_⟩) ?_ ?_
  rotate_left; (focus intro w'; go_simp; with_reducible rfl); rotate_left; (focus simp only [Act.put, List.setIfInBounds_toArray, List.set_cons_zero, List.set_cons_succ, i64_w, i32_w]; rfl)
  refine pure_ (i := 29) (N := some 72) (v := ?_) (a' := ?_) #[true,true,true,true,true,true,true,true,true,true,true,true,true,true,true,true,true,true,true,true,true,true,true,true,true,true,true,true,false,true,false,false,false] rfl rfl (by kernel_rfl) (fun _ _ _ h => h) (Or.inl ⟨by rfl, ?_⟩) ?_ ?_
  rotate_left; (focus intro w'; go_simp; with_reducible rfl); rotate_left; (focus simp only [Act.put, List.setIfInBounds_toArray, List.set_cons_zero, List.set_cons_succ, i64_w, i32_w]; rfl)
  refine one_ (i := 28) (N := some 71) #[true,true,true,true,true,true,true,true,true,true,true,true,true,true,true,true,true,true,true,true,true,true,true,true,true,true,true,true,true,true,false,false,false] rfl rfl (by kernel_rfl) (by decide) (fun K hK => ?_)
  refine goes_ Try.func20 (by kernel_rfl) rfl #[.pointer (some ⟨g, 0, none⟩), .agg #[.string ⟨#[]⟩, .string ⟨#[]⟩]] (by rfl) rfl rfl (by simp only [List.map_toArray, List.map_cons, List.map_nil]; rfl) ?_
  with_reducible refine (range_calls _ aL aL aB ⟨#[]⟩ ⟨#[]⟩ _ hHeld.2.2.2.2.2.2.2.2.2.2.1 aw_clip).mono ?_
  rintro e1 w8 ⟨v8, rfl, hR8, hb8⟩
  obtain ⟨A8, c8, e8⟩ := Kd.R_slice hR8
  subst e8
  refine ⟨_, rfl, ?_⟩
  refine hK.out _ _ ⟨(hb8.cell (World.block_lt_of_cell? _ _ hHeld.1)).trans hHeld.1, (hb8.cell (World.block_lt_of_cell? _ _ hHeld.2.1)).trans hHeld.2.1, (hb8.cell (World.block_lt_of_cell? _ _ hHeld.2.2.1)).trans hHeld.2.2.1, (hb8.cell (World.block_lt_of_cell? _ _ hHeld.2.2.2.1)).trans hHeld.2.2.2.1, (hb8.cell (World.block_lt_of_cell? _ _ hHeld.2.2.2.2.1)).trans hHeld.2.2.2.2.1, (hb8.cell (World.block_lt_of_cell? _ _ hHeld.2.2.2.2.2.1)).trans hHeld.2.2.2.2.2.1, (hb8.cell (World.block_lt_of_cell? _ _ hHeld.2.2.2.2.2.2.1)).trans hHeld.2.2.2.2.2.2.1, (hb8.cell (World.block_lt_of_cell? _ _ hHeld.2.2.2.2.2.2.2.1)).trans hHeld.2.2.2.2.2.2.2.1, blk_below hHeld.2.2.2.2.2.2.2.2.1 hb8, blk_below hHeld.2.2.2.2.2.2.2.2.2.1 hb8, hHeld.2.2.2.2.2.2.2.2.2.2.1.below hb8, below_step hHeld.2.2.2.2.2.2.2.2.2.2.2 hb8⟩ (fun hHeld => ?_)
  clear hK K
  refine norm_ (a' := ?_) ?_ ?_
  rotate_left
  · show Act.put _ (some 71) _ = _
    simp only [Act.put, List.setIfInBounds_toArray, List.set_cons_zero, List.set_cons_succ, i64_w, i32_w]
    rfl
  refine one_ (i := 30) (N := some 73) #[true,true,true,true,true,true,true,true,true,true,true,true,true,true,true,true,true,true,true,true,true,true,true,true,true,true,true,true,true,true,true,false,false] rfl rfl (by kernel_rfl) (by decide) (fun K hK => ?_)
  refine goes_ Try.func19 (by kernel_rfl) rfl #[.slice A8 2 c8, .slice (some ⟨w.heap.size, 0, none⟩) 2 2] (by rfl) rfl rfl (by simp only [List.map_toArray, List.map_cons, List.map_nil]; rfl) ?_
  with_reducible refine (same_a A8 _ c8 _ (Kd.R_reads' hR8).2.2 (Kd.R_reads' hR8).2.1 (ents2 _ _ hHeld.2.2.2.2.2.2.2.2.2.1)).mono ?_
  rintro e1 _ ⟨rfl, ⟨m9, rfl⟩⟩
  refine ⟨_, rfl, ?_⟩
  refine hK.out _ _ ⟨hHeld.1, hHeld.2.1, hHeld.2.2.1, hHeld.2.2.2.1, hHeld.2.2.2.2.1, hHeld.2.2.2.2.2.1, hHeld.2.2.2.2.2.2.1, hHeld.2.2.2.2.2.2.2.1, hHeld.2.2.2.2.2.2.2.2.1, hHeld.2.2.2.2.2.2.2.2.2.1, hHeld.2.2.2.2.2.2.2.2.2.2.1, pw_below_drewN hHeld.2.2.2.2.2.2.2.2.2.2.2 m9⟩ (fun hHeld => ?_)
  clear hK K
  refine norm_ (a' := ?_) ?_ ?_
  rotate_left
  · show Act.put _ (some 73) _ = _
    simp only [Act.put, List.setIfInBounds_toArray, List.set_cons_zero, List.set_cons_succ, i64_w, i32_w]
    rfl
  refine pure_ (i := 31) (N := some 74) (v := ?_) (a' := ?_) #[true,true,true,true,true,true,true,true,true,true,true,true,true,true,true,true,true,true,true,true,true,true,true,true,true,true,true,true,true,true,true,true,false] rfl rfl (by kernel_rfl) (fun _ _ _ h => h) (Or.inl ⟨by rfl, ?_⟩) ?_ ?_
  rotate_left; (focus intro w'; go_simp; with_reducible rfl); rotate_left; (focus simp only [Act.put, List.setIfInBounds_toArray, List.set_cons_zero, List.set_cons_succ, i64_w, i32_w]; rfl)
  refine pure_ (i := 32) (N := some 0) (v := ?_) (a' := ?_) #[true,true,true,true,true,true,true,true,true,true,true,true,true,true,true,true,true,true,true,true,true,true,true,true,true,true,true,true,true,true,true,true,true] rfl rfl (by kernel_rfl) (fun _ _ _ h => h) (Or.inl ⟨by rfl, ?_⟩) ?_ ?_
  rotate_left; (focus intro w'; go_simp; with_reducible rfl); rotate_left; (focus simp only [Act.put, List.setIfInBounds_toArray, List.set_cons_zero, List.set_cons_succ, i64_w, i32_w]; rfl)
  refine done_ (by kernel_rfl) ?_

  go_wp2
  go_ret
  exact ⟨rfl, by repeat (first | (with_reducible exact hHeld.2.2.2.2.2.2.2.2.2.2.2) | exact hHeld.2.2.2.2.2.2.2.2.2.2.2)⟩
end Go.Proofs.Ytlmoafkmhenejaa.XA
end
