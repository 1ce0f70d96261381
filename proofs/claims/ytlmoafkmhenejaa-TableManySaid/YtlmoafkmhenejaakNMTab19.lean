import Derived.Test.YtlmoafkmhenejaakNVaTbB
namespace Go.Proofs.Ytlmoafkmhenejaa.VLib
end Go.Proofs.Ytlmoafkmhenejaa.VLib
namespace Go.Proofs.Ytlmoafkmhenejaa.Bld
end Go.Proofs.Ytlmoafkmhenejaa.Bld
namespace Go.Proofs.YtlmoafkmhenejaaW.PrintWords
end Go.Proofs.YtlmoafkmhenejaaW.PrintWords
namespace Go.Proofs.YtlmoafkmhenejaaW.PrintLast
end Go.Proofs.YtlmoafkmhenejaaW.PrintLast
namespace Go.Proofs.YtlmoafkmhenejaaW.PrintMore
end Go.Proofs.YtlmoafkmhenejaaW.PrintMore
namespace Go.Proofs.Ytlmoafkmhenejaa.XW
end Go.Proofs.Ytlmoafkmhenejaa.XW
namespace Go.Proofs.Ytlmoafkmhenejaa.XA
open Go.Proofs.Ytlmoafkmhenejaa.VLib Go.Proofs.Ytlmoafkmhenejaa.Bld Go.RowKit Go.Proofs.YtlmoafkmhenejaaW.PrintWords Go.Proofs.YtlmoafkmhenejaaW.PrintLast Go.Proofs.YtlmoafkmhenejaaW.PrintMore Go.Proofs.Ytlmoafkmhenejaa.XW
attribute [local go_sem high] max2_str unary_xor_u32 leq_str geq_str gtr_str
attribute [local go_sem] max2_int min2_int max_two min_two max_three min_three max_four min_four
set_option linter.unusedVariables false
set_option linter.unusedSimpArgs false
def manyK (i : Nat) : ByteArray := strOfNums [97 + (i : Int) / 20, 97 + (i : Int) % 20]
def manyE (i : Nat) : S43 := ⟨manyK i, ⟨#[118]⟩, false, ((1 + i : Nat) : Int)⟩
def manyL (n : Nat) : List S43 := (List.range n).map manyE
theorem many_len (n : Nat) : (manyL n).length = n := by unfold manyL; rw [List.length_map, List.length_range]
theorem many_at (n i : Nat) (h : i < n) : rd_T43 (manyL n) (i : Int) = manyE i := by
  have e := VaChk.rdT (manyL n) i (by rw [many_len]; exact h)
  rw [e]; simp [manyL]
theorem many_get (n i : Nat) (h : i < (manyL n).length) : (manyL n)[i] = manyE i := by
  simp [manyL]
theorem many_succ (n : Nat) : manyL (n + 1) = manyL n ++ [manyE n] := by
  unfold manyL; rw [List.range_succ, List.map_append]; rfl
theorem many_400 : VaChk.okB (manyL 400) = true := by kernel_rfl
theorem many_ok (n : Nat) (h : n ≤ 400) : OkB (manyL n) := by
  have e : manyL n = (manyL 400).take n := by
    unfold manyL
    rw [← List.map_take, List.take_range, Nat.min_eq_left h]
  have h4 := (VaPut.okB_iff _).1 many_400
  refine VaTb.okB_of ?_ (by rw [many_len]; omega)
  rw [e]
  exact VaTb.okF_take n _ none h4.2
theorem many_apart (n : Nat) (h : n ≤ 400) (i j : Nat) (hi : i < n) (hj : j < n) (e : (manyE i).f0.toList = (manyE j).f0.toList) : i = j := by
  have hp := VaTbO.pw_at _ (many_ok n h)
  have key : ∀ a b : Nat, a < n → b < n → a < b → (manyE a).f0.toList = (manyE b).f0.toList → False := by
    intro a b ha hb hab e
    have g := hp a b (by rw [many_len]; exact ha) (by rw [many_len]; exact hb) hab
    rw [many_get, many_get, VaChk.LE_same e] at g
    have := of_decide_eq_true g
    unfold manyE at this
    dsimp only at this
    omega
  rcases Nat.lt_trichotomy i j with c | c | c
  · exact (key i j hi hj c e).elim
  · exact c
  · exact (key j i hj hi c e.symm).elim
theorem many_none (n : Nat) (h : n ≤ 400) (k : Nat) (hk : k < n) : VaFnd.fnd (manyE k).f0 (k : Int) (manyL n) = none := by
  refine VaTbO.fnd_none _ _ _ (fun y hy g => ?_)
  obtain ⟨i, hi, rfl⟩ := List.getElem_of_mem hy
  rw [many_get] at g
  rw [many_len] at hi
  obtain rfl := many_apart n h i k hi hk g.1
  have := g.2
  unfold manyE at this
  dsimp only at this
  omega
theorem many_range (n : Nat) (h : n ≤ 400) (k : Nat) (hk : k < n) : (VaSp.inR (manyE k).f0 ⟨#[]⟩ (manyL n)).length = n - k := by
  have hm := many_ok n h
  have hp := VaTbO.pw_at _ hm
  have e0 : VaSp.emp ⟨#[]⟩ = true := by rw [VaSp.emp_size]; rfl
  have hs : ∀ i, i < n → 1 ≤ (manyE i).f0.size ∧ (manyE i).f0.size ≤ 64 := fun i hi => hm.may (manyE i) (by rw [← many_get n i (by rw [many_len]; exact hi)]; exact List.getElem_mem _)
  have one : ∀ i, i < n → VaSp.hasB (manyE k).f0 ⟨#[]⟩ (manyE i).f0 = decide (k ≤ i) := by
    intro i hi
    have hi1 := hs i hi
    have hk1 := hs k hk
    by_cases c : k ≤ i
    · rw [decide_eq_true c]
      refine VaSp.hasB_iff.2 ⟨VaSp.mayB_iff.2 ⟨hk1.2, Nat.zero_le _, VaSp.aheadB_iff.2 (.inl e0)⟩, VaSp.keyB_iff.2 ⟨?_, hi1.2⟩, ?_, VaSp.aheadB_iff.2 (.inl e0)⟩
      · rw [VaSp.emp_size, decide_eq_false (by omega)]
      · rcases (show k = i ∨ k < i by omega) with rfl | c
        · exact VaSp.lt_irrefl _
        · have g := hp k i (by rw [many_len]; exact hk) (by rw [many_len]; exact hi) c
          rw [many_get, many_get] at g
          exact VaTbO.LE_le g
    · rw [decide_eq_false c]
      refine Bool.eq_false_iff.2 (fun x => ?_)
      obtain ⟨-, -, g1, -⟩ := VaSp.hasB_iff.1 x
      have g := hp i k (by rw [many_len]; exact hi) (by rw [many_len]; exact hk) (by omega)
      rw [many_get, many_get] at g
      have g2 : VaChk.lt (manyE i).f0 (manyE k).f0 = true := by
        rwa [VaChk.LE_key (fun e => by have := many_apart n h i k hi hk e; omega)] at g
      rw [show VaSp.lt (manyE i).f0 (manyE k).f0 = true from g2] at g1
      cases g1
  unfold VaSp.inR
  conv => lhs; rw [← List.take_append_drop k (manyL n)]
  rw [List.filter_append, List.filter_eq_nil_iff.2, List.filter_eq_self.2, List.nil_append, List.length_drop, many_len]
  · intro x hx
    obtain ⟨i, hi, rfl⟩ := List.getElem_of_mem hx
    rw [List.length_drop, many_len] at hi
    rw [List.getElem_drop, many_get, one (k + i) (by omega)]
    exact decide_eq_true (by omega)
  · intro x hx
    obtain ⟨i, hi, rfl⟩ := List.getElem_of_mem hx
    rw [List.length_take, many_len] at hi
    rw [List.getElem_take, many_get, one i (by omega), decide_eq_false (by omega)]
    decide
theorem table_put' (m : List S43) (h : OkB m) (hl : 0 < m.length) : ∃ kk s bits, buildF kk 300 m = some (s, 0) ∧ s.size ≤ 140737488355328 ∧ openF kk 300 s = some (some (m, bits)) ∧ bits = VaTb.bitsT m := ⟨10000000, table_put 10000000 (Nat.le_refl _) m h hl⟩
theorem get_none (p : Value) (m : List S43) (key : ByteArray) (q : Int) (w : World) (h : TabAt w p m (VaTb.bitsT m)) (hm : OkB m) (hl : 0 < m.length) (hb : bloom_Has.f 80000 (VaTb.bitsT m) key = some true) (hf : VaFnd.fnd key q m = none) :
    Calls Try.prog 22 #[p, .string key, .int .i64 q] w fun e w' => e = .returned (.tuple #[.agg #[.string ⟨#[]⟩, .string ⟨#[]⟩, .bool false, .int .i64 0], .bool false]) ∧ Below w.heap.size w w' := by
  have := get_any p m key q w h hm hl true hb
  rw [if_pos rfl, hf] at this
  exact this
set_option maxHeartbeats 4000000 in
set_option maxRecDepth 100000 in
theorem many_law (many at_ : Int) (w : World) :
    Calls Try.prog 6 #[.int .i64 many, .int .i64 at_] w fun e w' => e = .returned (.bool true) ∧ Below w.heap.size w w' := by
  obtain ⟨r1, hr1, hq1⟩ := and_small many 65535 (by omega)
  obtain ⟨r2, hr2, hq2⟩ := and_small at_ 65535 (by omega)
  have hq1' : Go.bits .and .i64 many 65535 = (r1 : Int) := hq1
  have hq2' : Go.bits .and .i64 at_ 65535 = (r2 : Int) := hq2
  obtain ⟨n, hn⟩ : ∃ n, 1 + r1 % 400 = n := ⟨_, rfl⟩
  have ht1 : Int.tmod (r1 : Int) 400 = ((r1 % 400 : Nat) : Int) := (Int.ofNat_tmod r1 400).symm
  have HN0 : Aside0 (1 ≤ n ∧ n ≤ 400) := ⟨by omega⟩
  have hw1 : 1 + (r1 : Int) % 400 = (n : Int) := by omega
  have HQ2 := Aside0.mk hq2'
  clear hq1 hq2 hr1 hn ht1 hq2'
  go_enter Try.func6, Try.ntmps6
  go_wp2

  clear hw1 hq1'
  go_loopg [6, 7] n (fun kq v6 v7 w' => ∃ (i : Nat) (xs : List S43), v7 = .int .i64 (i : Int) ∧ Aside0 (i + kq = n) ∧ Aside0 (xs = manyL i) ∧ Aside0 (Kd.R k43 43 w' w.heap.size (fun _ => True) v6 xs) ∧ Aside0 (Below w.heap.size w w'))
  case atStart => exact ⟨0, [], rfl, ⟨Nat.zero_add _⟩, ⟨rfl⟩, ⟨Kd.R_nil _ _ _ _ _⟩, ⟨Below.refl _ _⟩⟩
  case round =>
    obtain ⟨i, xs, rfl, HI, HXS, HO, HB⟩ := hrel
    have hi := HI.out
    have hn0 := HN0.out
    obtain ⟨A6, c6, e6⟩ := Kd.R_slice HO.out
    subst e6
    cases gk with
    | zero =>
      have d1 : decide ((i : Int) < (n : Int)) = false := decide_eq_false (by omega)
      have d2 : decide (i < n) = false := decide_eq_false (by omega)
      obtain rfl : n = xs.length := by rw [HXS.out, many_len]; omega
      obtain rfl : i = xs.length := by omega
      have HOK : Aside0 (OkB xs) := ⟨by rw [HXS.out]; exact many_ok _ (by omega)⟩
      have HXL : Aside0 (0 < xs.length ∧ xs.length ≤ 400 ∧ xs.length ≤ 4096) := ⟨by omega⟩
      obtain ⟨kk, s, bits, hbu, hz, hop, rfl⟩ := table_put' xs HOK.out HXL.out.1
      have HBU := Aside0.mk hbu
      have HZ := Aside0.mk hz
      have HOP := Aside0.mk hop
      obtain ⟨j, hj⟩ : ∃ j, r2 % xs.length = j := ⟨_, rfl⟩
      have hjl : j < xs.length := by rw [← hj]; exact Nat.mod_lt _ (by omega)
      have hjz : (r2 : Int) % (xs.length : Int) = (j : Int) := by rw [← hj]; exact (Int.natCast_emod _ _).symm
      have hne : ¬ ((xs.length : Int) = 0) := by omega
      have hne2 : ¬ (xs.length = 0) := by omega
      have HJ := Aside0.mk hjl
      obtain ⟨K, hK⟩ : ∃ K, manyK j = K := ⟨_, rfl⟩
      have hx : rd_T43 xs (j : Int) = ⟨K, ⟨#[118]⟩, false, 1 + (j : Int)⟩ := by
        have e := many_at xs.length j hjl
        rw [← HXS.out] at e
        rw [e, ← hK]; unfold manyE; rw [Int.natCast_add]; rfl
      have HX := Aside0.mk hx
      have HHAS : Aside0 (bloom_Has.f 80000 (VaTb.bitsT xs) K = some true) := ⟨by
        have e := VaTbO.has_self xs HOK.out j hjl 80000 (Nat.le_refl _)
        rwa [show xs[j].f0 = K from by rw [← VaChk.rdT xs j hjl, hx]] at e⟩
      have HNO : Aside0 (VaFnd.fnd K (j : Int) xs = none) := ⟨by
        have e := many_none xs.length (by omega) j hjl
        rw [← HXS.out] at e
        rw [← hK]; exact e⟩
      obtain ⟨rr, hrr⟩ : ∃ rr, VaSp.inR K ⟨#[]⟩ xs = rr := ⟨_, rfl⟩
      have HRR := Aside0.mk hrr
      have hrl : rr.length = xs.length - j := by
        have e := many_range xs.length (by omega) j hjl
        rw [← HXS.out] at e
        rw [← hrr, ← hK]; exact e
      obtain ⟨rl, hrl0⟩ : ∃ rl, rr.length = rl := ⟨_, rfl⟩
      have hsub : (xs.length : Int) - (j : Int) = (rr.length : Int) := by omega
      have hwr : wrap64 (rr.length : Int) = (rr.length : Int) := by unfold wrap64; omega
      have hrb : rr.length ≤ 400 := by omega
      have hq2' := HQ2.out
      have HC0 := Aside0.mk (Kd.R_reads' HO.out).2.2
      have HC1 := Aside0.mk (Kd.R_reads' HO.out).2.1
      obtain ⟨ad, ea, y0, y1, y2, y3⟩ := at_T43 HC0.out (j : Int) (by omega) (by omega)
      subst ea
      rw [hx, Int.toNat_natCast] at y0
      rw [hx, Int.toNat_natCast] at y1 y2 y3
      dsimp only at y0 y1 y2 y3
      have Ya0 := Aside0.mk y0
      have Ya1 := Aside0.mk y1
      have Ya2 := Aside0.mk y2
      have Ya3 := Aside0.mk y3
      have p0 : (0 ≤ (j : Int)) = True := eq_true (by omega)
      have p1 : ((j : Int) < (xs.length : Int)) = True := eq_true (by omega)
      have p2 : (j < xs.length) = True := eq_true hjl
      have HI := 0
      clear hbu hz hop hj hx hK hrr hrl hrl0 y0 y1 y2 y3
      go_wp2_with (first
        | (go_at_call 20; go_loud ((with_reducible refine (range_ok _ xs (VaTb.bitsT xs) K ⟨#[]⟩ _ HT5.out HXL.out.2.2).mono ?_); rintro e w6 ⟨v6_, rfl, hR6, hb6⟩; rw [HRR.out] at hR6; obtain ⟨A6_, c6_, e6_⟩ := Kd.R_slice hR6; subst e6_; have HB6 := Aside0.mk (below_step HB5.out hb6); have BX6 := Aside0.mk (blk_below BX5.out hb6); have Yf0 : Aside0 ((w6).cell? (ad.add (j * 4)) = some (.string K)) := ⟨(hb6.cell (World.block_lt_of_cell? _ _ Ye0.out)).trans Ye0.out⟩; have Yf1 : Aside0 ((w6).cell? ⟨(ad.add (j * 4)).block, (ad.add (j * 4)).off + 1, none⟩ = some (.string ⟨#[118]⟩)) := ⟨(hb6.cell (World.block_lt_of_cell? _ _ Ye1.out)).trans Ye1.out⟩; have Yf2 : Aside0 ((w6).cell? ⟨(ad.add (j * 4)).block, (ad.add (j * 4)).off + 2, none⟩ = some (.bool false)) := ⟨(hb6.cell (World.block_lt_of_cell? _ _ Ye2.out)).trans Ye2.out⟩; have Yf3 : Aside0 ((w6).cell? ⟨(ad.add (j * 4)).block, (ad.add (j * 4)).off + 3, none⟩ = some (.int .i64 (1 + (j : Int)))) := ⟨(hb6.cell (World.block_lt_of_cell? _ _ Ye3.out)).trans Ye3.out⟩; have xf := Yf0.out; clear hR6 hb6))
        | (go_at_call 22; go_loud ((with_reducible refine (get_none _ xs K (j : Int) _ HT4.out HOK.out HXL.out.1 HHAS.out HNO.out).mono ?_); rintro e w5 ⟨rfl, hb5⟩; have hb5' := below_alloc hb5 (.cells #[.string ⟨#[]⟩, .string ⟨#[]⟩, .bool false, .int .i64 0] 43); have HB5 := Aside0.mk (below_step HB4.out hb5'); have HT5 := Aside0.mk (HT4.out.below hb5'); have BX5 := Aside0.mk (blk_below BX4.out hb5'); have Ye0 : Aside0 ((w5.alloc (.cells #[.string ⟨#[]⟩, .string ⟨#[]⟩, .bool false, .int .i64 0] 43)).cell? (ad.add (j * 4)) = some (.string K)) := ⟨(hb5'.cell (World.block_lt_of_cell? _ _ Yd0.out)).trans Yd0.out⟩; have Ye1 : Aside0 ((w5.alloc (.cells #[.string ⟨#[]⟩, .string ⟨#[]⟩, .bool false, .int .i64 0] 43)).cell? ⟨(ad.add (j * 4)).block, (ad.add (j * 4)).off + 1, none⟩ = some (.string ⟨#[118]⟩)) := ⟨(hb5'.cell (World.block_lt_of_cell? _ _ Yd1.out)).trans Yd1.out⟩; have Ye2 : Aside0 ((w5.alloc (.cells #[.string ⟨#[]⟩, .string ⟨#[]⟩, .bool false, .int .i64 0] 43)).cell? ⟨(ad.add (j * 4)).block, (ad.add (j * 4)).off + 2, none⟩ = some (.bool false)) := ⟨(hb5'.cell (World.block_lt_of_cell? _ _ Yd2.out)).trans Yd2.out⟩; have Ye3 : Aside0 ((w5.alloc (.cells #[.string ⟨#[]⟩, .string ⟨#[]⟩, .bool false, .int .i64 0] 43)).cell? ⟨(ad.add (j * 4)).block, (ad.add (j * 4)).off + 3, none⟩ = some (.int .i64 (1 + (j : Int)))) := ⟨(hb5'.cell (World.block_lt_of_cell? _ _ Yd3.out)).trans Yd3.out⟩; have xe := Ye0.out; clear hb5 hb5'))
        | (go_at_call 22; go_loud ((with_reducible refine (get_self _ xs j K ⟨#[118]⟩ false (1 + (j : Int)) _ HT3.out HOK.out HJ.out HX.out).mono ?_); rintro e w4 ⟨rfl, hb4⟩; have hb4' := below_alloc hb4 (.cells #[.string K, .string ⟨#[118]⟩, .bool false, .int .i64 (1 + (j : Int))] 43); have HB4 := Aside0.mk (below_step HB3.out hb4'); have HT4 := Aside0.mk (HT3.out.below hb4'); have BX4 := Aside0.mk (heap_alloc_new w4 (.cells #[.string K, .string ⟨#[118]⟩, .bool false, .int .i64 (1 + (j : Int))] 43)); have Yd0 : Aside0 ((w4.alloc (.cells #[.string K, .string ⟨#[118]⟩, .bool false, .int .i64 (1 + (j : Int))] 43)).cell? (ad.add (j * 4)) = some (.string K)) := ⟨(hb4'.cell (World.block_lt_of_cell? _ _ Yc0.out)).trans Yc0.out⟩; have Yd1 : Aside0 ((w4.alloc (.cells #[.string K, .string ⟨#[118]⟩, .bool false, .int .i64 (1 + (j : Int))] 43)).cell? ⟨(ad.add (j * 4)).block, (ad.add (j * 4)).off + 1, none⟩ = some (.string ⟨#[118]⟩)) := ⟨(hb4'.cell (World.block_lt_of_cell? _ _ Yc1.out)).trans Yc1.out⟩; have Yd2 : Aside0 ((w4.alloc (.cells #[.string K, .string ⟨#[118]⟩, .bool false, .int .i64 (1 + (j : Int))] 43)).cell? ⟨(ad.add (j * 4)).block, (ad.add (j * 4)).off + 2, none⟩ = some (.bool false)) := ⟨(hb4'.cell (World.block_lt_of_cell? _ _ Yc2.out)).trans Yc2.out⟩; have Yd3 : Aside0 ((w4.alloc (.cells #[.string K, .string ⟨#[118]⟩, .bool false, .int .i64 (1 + (j : Int))] 43)).cell? ⟨(ad.add (j * 4)).block, (ad.add (j * 4)).off + 3, none⟩ = some (.int .i64 (1 + (j : Int)))) := ⟨(hb4'.cell (World.block_lt_of_cell? _ _ Yc3.out)).trans Yc3.out⟩; have xd := Yd0.out; clear hb4 hb4'))
        | (go_at_call 18; go_loud ((with_reducible refine (len_calls _ xs (VaTb.bitsT xs) _ HT3.out).mono ?_); rintro e _ ⟨rfl, rfl⟩))
        | (go_at_call 16; go_loud ((with_reducible refine (open_calls kk 300 s (some (xs, VaTb.bitsT xs)) _ HZ.out HOP.out).mono ?_); rintro e w3 ⟨hb3, g3, A3, c3, rfl, hg3, hC3, hc3⟩; have HB3 := Aside0.mk (below_step HB2.out hb3); have HT3 : Aside0 (TabAt w3 (.pointer (some ⟨g3, 0, none⟩)) xs (VaTb.bitsT xs)) := ⟨.inr ⟨g3, A3, c3, rfl, hg3, hC3, hc3⟩⟩; have Yc0 : Aside0 ((w3).cell? (ad.add (j * 4)) = some (.string K)) := ⟨(hb3.cell (World.block_lt_of_cell? _ _ Yb0.out)).trans Yb0.out⟩; have Yc1 : Aside0 ((w3).cell? ⟨(ad.add (j * 4)).block, (ad.add (j * 4)).off + 1, none⟩ = some (.string ⟨#[118]⟩)) := ⟨(hb3.cell (World.block_lt_of_cell? _ _ Yb1.out)).trans Yb1.out⟩; have Yc2 : Aside0 ((w3).cell? ⟨(ad.add (j * 4)).block, (ad.add (j * 4)).off + 2, none⟩ = some (.bool false)) := ⟨(hb3.cell (World.block_lt_of_cell? _ _ Yb2.out)).trans Yb2.out⟩; have Yc3 : Aside0 ((w3).cell? ⟨(ad.add (j * 4)).block, (ad.add (j * 4)).off + 3, none⟩ = some (.int .i64 (1 + (j : Int)))) := ⟨(hb3.cell (World.block_lt_of_cell? _ _ Yb3.out)).trans Yb3.out⟩; have xc := Yc0.out; clear hb3 hg3 hC3 hc3))
        | (go_at_call 13; go_loud ((with_reducible refine (build_calls kk 300 (some ad) c6 xs s 0 _ HC0.out HC1.out HBU.out).mono ?_); rintro e w2 ⟨rfl, hb2⟩; have HB2 := Aside0.mk (below_step HB.out hb2); have Yb0 : Aside0 ((w2).cell? (ad.add (j * 4)) = some (.string K)) := ⟨(hb2.cell (World.block_lt_of_cell? _ _ Ya0.out)).trans Ya0.out⟩; have Yb1 : Aside0 ((w2).cell? ⟨(ad.add (j * 4)).block, (ad.add (j * 4)).off + 1, none⟩ = some (.string ⟨#[118]⟩)) := ⟨(hb2.cell (World.block_lt_of_cell? _ _ Ya1.out)).trans Ya1.out⟩; have Yb2 : Aside0 ((w2).cell? ⟨(ad.add (j * 4)).block, (ad.add (j * 4)).off + 2, none⟩ = some (.bool false)) := ⟨(hb2.cell (World.block_lt_of_cell? _ _ Ya2.out)).trans Ya2.out⟩; have Yb3 : Aside0 ((w2).cell? ⟨(ad.add (j * 4)).block, (ad.add (j * 4)).off + 3, none⟩ = some (.int .i64 (1 + (j : Int)))) := ⟨(hb2.cell (World.block_lt_of_cell? _ _ Ya3.out)).trans Ya3.out⟩; have xb := Yb0.out; clear hb2)))
      have hzd := blk_drew BX6.out
      have f0 : w6.drew.cell? (ad.add (j * 4)) = some (.string K) := Yf0.out
      have f1 : w6.drew.cell? ⟨(ad.add (j * 4)).block, (ad.add (j * 4)).off + 1, none⟩ = some (.string ⟨#[118]⟩) := Yf1.out
      have f2 : w6.drew.cell? ⟨(ad.add (j * 4)).block, (ad.add (j * 4)).off + 2, none⟩ = some (.bool false) := Yf2.out
      have f3 : w6.drew.cell? ⟨(ad.add (j * 4)).block, (ad.add (j * 4)).off + 3, none⟩ = some (.int .i64 (1 + (j : Int))) := Yf3.out
      have f4 := below_drew HB6.out
      refine start_ (n := 25) (S := fun w' => w'.cell? (ad.add (j * 4)) = some (.string K) ∧ w'.cell? ⟨(ad.add (j * 4)).block, (ad.add (j * 4)).off + 1, none⟩ = some (.string ⟨#[118]⟩) ∧ w'.cell? ⟨(ad.add (j * 4)).block, (ad.add (j * 4)).off + 2, none⟩ = some (.bool false) ∧ w'.cell? ⟨(ad.add (j * 4)).block, (ad.add (j * 4)).off + 3, none⟩ = some (.int .i64 (1 + (j : Int))) ∧ w'.cell? ⟨w4.heap.size, 0, none⟩ = some (.string K) ∧ w'.cell? ⟨w4.heap.size, 1, none⟩ = some (.string ⟨#[118]⟩) ∧ w'.cell? ⟨w4.heap.size, 2, none⟩ = some (.bool false) ∧ w'.cell? ⟨w4.heap.size, 3, none⟩ = some (.int .i64 (1 + (j : Int))) ∧ Below w.heap.size w w') (ds := []) #[false, false, false, false, false, false, false, false, false, false, false, false, false, false, false, false, false, false, false, false, false, false, false, false, false] (by kernel_rfl) rfl rfl ⟨f0, f1, f2, f3, (blk_cell hzd 0).trans rfl, (blk_cell hzd 1).trans rfl, (blk_cell hzd 2).trans rfl, (blk_cell hzd 3).trans rfl, f4⟩ (fun hHeld => ?_)
      refine pure_ (i := 1) (N := some 105) (v := ?_) (a' := ?_) #[false, true, false, false, false, false, false, false, false, false, false, false, false, false, false, false, false, false, false, false, false, false, false, false, false] rfl rfl (by kernel_rfl) (fun _ _ _ h => h) (Or.inl ⟨by rfl, ?_⟩) ?_ ?_
      rotate_left
      · intro w'
        go_simp
        with_reducible rfl
      rotate_left
      · simp only [Act.put, List.setIfInBounds_toArray, List.set_cons_zero, List.set_cons_succ, i64_w, i32_w]
        rfl
      refine pure_ (i := 2) (N := some 106) (v := ?_) (a' := ?_) #[false, true, true, false, false, false, false, false, false, false, false, false, false, false, false, false, false, false, false, false, false, false, false, false, false] rfl rfl (by kernel_rfl) (fun _ _ _ h => h) (Or.inl ⟨by rfl, ?_⟩) ?_ ?_
      rotate_left
      · intro w'
        go_simp
        with_reducible rfl
      rotate_left
      · simp only [Act.put, List.setIfInBounds_toArray, List.set_cons_zero, List.set_cons_succ, i64_w, i32_w]
        rfl
      refine pure_ (i := 3) (N := some 107) (v := ?_) (a' := ?_) #[false, true, true, true, false, false, false, false, false, false, false, false, false, false, false, false, false, false, false, false, false, false, false, false, false] rfl rfl (by kernel_rfl) (fun _ _ _ h => h) (Or.inl ⟨by rfl, ?_⟩) ?_ ?_
      rotate_left
      · intro w'
        go_simp
        with_reducible rfl
      rotate_left
      · simp only [Act.put, List.setIfInBounds_toArray, List.set_cons_zero, List.set_cons_succ, i64_w, i32_w]
        rfl
      refine take_ (i := 0) (N := some 104) (v := ?_) (a' := ?_) #[true, true, true, true, false, false, false, false, false, false, false, false, false, false, false, false, false, false, false, false, false, false, false, false, false] rfl rfl (by kernel_rfl) (fun _ _ _ h => h) (Or.inl ⟨by rfl, ?_⟩) hHeld ?_ ?_
      rotate_left
      · rintro w' ⟨s0, s1, s2, s3, s4, s5, s6, s7, s8⟩
        go_simp
        with_reducible rfl
      rotate_left
      · simp only [Act.put, List.setIfInBounds_toArray, List.set_cons_zero, List.set_cons_succ, i64_w, i32_w]
        rfl
      refine take_ (i := 4) (N := some 108) (v := ?_) (a' := ?_) #[true, true, true, true, true, false, false, false, false, false, false, false, false, false, false, false, false, false, false, false, false, false, false, false, false] rfl rfl (by kernel_rfl) (fun _ _ _ h => h) (Or.inl ⟨by rfl, ?_⟩) hHeld ?_ ?_
      rotate_left
      · rintro w' ⟨s0, s1, s2, s3, s4, s5, s6, s7, s8⟩
        go_simp
        with_reducible rfl
      rotate_left
      · simp only [Act.put, List.setIfInBounds_toArray, List.set_cons_zero, List.set_cons_succ, i64_w, i32_w]
        rfl
      refine pure_ (i := 5) (N := some 109) (v := ?_) (a' := ?_) #[true, true, true, true, true, true, false, false, false, false, false, false, false, false, false, false, false, false, false, false, false, false, false, false, false] rfl rfl (by kernel_rfl) (fun _ _ _ h => h) (Or.inl ⟨by rfl, ?_⟩) ?_ ?_
      rotate_left
      · intro w'
        go_simp
        with_reducible rfl
      rotate_left
      · simp only [Act.put, List.setIfInBounds_toArray, List.set_cons_zero, List.set_cons_succ, i64_w, i32_w]
        rfl
      refine pure_ (i := 6) (N := some 110) (v := ?_) (a' := ?_) #[true, true, true, true, true, true, true, false, false, false, false, false, false, false, false, false, false, false, false, false, false, false, false, false, false] rfl rfl (by kernel_rfl) (fun _ _ _ h => h) (Or.inl ⟨by rfl, ?_⟩) ?_ ?_
      rotate_left
      · intro w'
        go_simp
        with_reducible rfl
      rotate_left
      · simp only [Act.put, List.setIfInBounds_toArray, List.set_cons_zero, List.set_cons_succ, i64_w, i32_w]
        rfl
      refine pure_ (i := 7) (N := some 111) (v := ?_) (a' := ?_) #[true, true, true, true, true, true, true, true, false, false, false, false, false, false, false, false, false, false, false, false, false, false, false, false, false] rfl rfl (by kernel_rfl) (fun _ _ _ h => h) (Or.inl ⟨by rfl, ?_⟩) ?_ ?_
      rotate_left
      · intro w'
        go_simp
        with_reducible rfl
      rotate_left
      · simp only [Act.put, List.setIfInBounds_toArray, List.set_cons_zero, List.set_cons_succ, i64_w, i32_w]
        rfl
      refine pure_ (i := 8) (N := some 112) (v := ?_) (a' := ?_) #[true, true, true, true, true, true, true, true, true, false, false, false, false, false, false, false, false, false, false, false, false, false, false, false, false] rfl rfl (by kernel_rfl) (fun _ _ _ h => h) (Or.inl ⟨by rfl, ?_⟩) ?_ ?_
      rotate_left
      · intro w'
        go_simp
        with_reducible rfl
      rotate_left
      · simp only [Act.put, List.setIfInBounds_toArray, List.set_cons_zero, List.set_cons_succ, i64_w, i32_w]
        rfl
      refine pure_ (i := 9) (N := some 113) (v := ?_) (a' := ?_) #[true, true, true, true, true, true, true, true, true, true, false, false, false, false, false, false, false, false, false, false, false, false, false, false, false] rfl rfl (by kernel_rfl) (fun _ _ _ h => h) (Or.inl ⟨by rfl, ?_⟩) ?_ ?_
      rotate_left
      · intro w'
        go_simp
        with_reducible rfl
      rotate_left
      · simp only [Act.put, List.setIfInBounds_toArray, List.set_cons_zero, List.set_cons_succ, i64_w, i32_w]
        rfl
      refine pure_ (i := 10) (N := some 114) (v := ?_) (a' := ?_) #[true, true, true, true, true, true, true, true, true, true, true, false, false, false, false, false, false, false, false, false, false, false, false, false, false] rfl rfl (by kernel_rfl) (fun _ _ _ h => h) (Or.inl ⟨by rfl, ?_⟩) ?_ ?_
      rotate_left
      · intro w'
        go_simp
        with_reducible rfl
      rotate_left
      · simp only [Act.put, List.setIfInBounds_toArray, List.set_cons_zero, List.set_cons_succ, i64_w, i32_w]
        rfl
      refine pure_ (i := 11) (N := some 115) (v := ?_) (a' := ?_) #[true, true, true, true, true, true, true, true, true, true, true, true, false, false, false, false, false, false, false, false, false, false, false, false, false] rfl rfl (by kernel_rfl) (fun _ _ _ h => h) (Or.inl ⟨by rfl, ?_⟩) ?_ ?_
      rotate_left
      · intro w'
        go_simp
        with_reducible rfl
      rotate_left
      · simp only [Act.put, List.setIfInBounds_toArray, List.set_cons_zero, List.set_cons_succ, i64_w, i32_w]
        rfl
      refine pure_ (i := 12) (N := some 116) (v := ?_) (a' := ?_) #[true, true, true, true, true, true, true, true, true, true, true, true, true, false, false, false, false, false, false, false, false, false, false, false, false] rfl rfl (by kernel_rfl) (fun _ _ _ h => h) (Or.inl ⟨by rfl, ?_⟩) ?_ ?_
      rotate_left
      · intro w'
        go_simp
        with_reducible rfl
      rotate_left
      · simp only [Act.put, List.setIfInBounds_toArray, List.set_cons_zero, List.set_cons_succ, i64_w, i32_w]
        rfl
      refine pure_ (i := 13) (N := some 117) (v := ?_) (a' := ?_) #[true, true, true, true, true, true, true, true, true, true, true, true, true, true, false, false, false, false, false, false, false, false, false, false, false] rfl rfl (by kernel_rfl) (fun _ _ _ h => h) (Or.inl ⟨by rfl, ?_⟩) ?_ ?_
      rotate_left
      · intro w'
        go_simp
        with_reducible rfl
      rotate_left
      · simp only [Act.put, List.setIfInBounds_toArray, List.set_cons_zero, List.set_cons_succ, i64_w, i32_w]
        rfl
      refine pure_ (i := 14) (N := some 118) (v := ?_) (a' := ?_) #[true, true, true, true, true, true, true, true, true, true, true, true, true, true, true, false, false, false, false, false, false, false, false, false, false] rfl rfl (by kernel_rfl) (fun _ _ _ h => h) (Or.inl ⟨by rfl, ?_⟩) ?_ ?_
      rotate_left
      · intro w'
        go_simp
        with_reducible rfl
      rotate_left
      · simp only [Act.put, List.setIfInBounds_toArray, List.set_cons_zero, List.set_cons_succ, i64_w, i32_w]
        rfl
      refine pure_ (i := 15) (N := some 119) (v := ?_) (a' := ?_) #[true, true, true, true, true, true, true, true, true, true, true, true, true, true, true, true, false, false, false, false, false, false, false, false, false] rfl rfl (by kernel_rfl) (fun _ _ _ h => h) (Or.inl ⟨by rfl, ?_⟩) ?_ ?_
      rotate_left
      · intro w'
        go_simp
        with_reducible rfl
      rotate_left
      · simp only [Act.put, List.setIfInBounds_toArray, List.set_cons_zero, List.set_cons_succ, i64_w, i32_w]
        rfl
      refine pure_ (i := 16) (N := some 120) (v := ?_) (a' := ?_) #[true, true, true, true, true, true, true, true, true, true, true, true, true, true, true, true, true, false, false, false, false, false, false, false, false] rfl rfl (by kernel_rfl) (fun _ _ _ h => h) (Or.inl ⟨by rfl, ?_⟩) ?_ ?_
      rotate_left
      · intro w'
        go_simp
        with_reducible rfl
      rotate_left
      · simp only [Act.put, List.setIfInBounds_toArray, List.set_cons_zero, List.set_cons_succ, i64_w, i32_w]
        rfl
      refine pure_ (i := 17) (N := some 121) (v := ?_) (a' := ?_) #[true, true, true, true, true, true, true, true, true, true, true, true, true, true, true, true, true, true, false, false, false, false, false, false, false] rfl rfl (by kernel_rfl) (fun _ _ _ h => h) (Or.inl ⟨by rfl, ?_⟩) ?_ ?_
      rotate_left
      · intro w'
        go_simp
        with_reducible rfl
      rotate_left
      · simp only [Act.put, List.setIfInBounds_toArray, List.set_cons_zero, List.set_cons_succ, i64_w, i32_w]
        rfl
      refine pure_ (i := 18) (N := some 122) (v := ?_) (a' := ?_) #[true, true, true, true, true, true, true, true, true, true, true, true, true, true, true, true, true, true, true, false, false, false, false, false, false] rfl rfl (by kernel_rfl) (fun _ _ _ h => h) (Or.inl ⟨by rfl, ?_⟩) ?_ ?_
      rotate_left
      · intro w'
        go_simp
        with_reducible rfl
      rotate_left
      · simp only [Act.put, List.setIfInBounds_toArray, List.set_cons_zero, List.set_cons_succ, i64_w, i32_w]
        rfl
      refine pure_ (i := 19) (N := some 123) (v := ?_) (a' := ?_) #[true, true, true, true, true, true, true, true, true, true, true, true, true, true, true, true, true, true, true, true, false, false, false, false, false] rfl rfl (by kernel_rfl) (fun _ _ _ h => h) (Or.inl ⟨by rfl, ?_⟩) ?_ ?_
      rotate_left
      · intro w'
        go_simp
        with_reducible rfl
      rotate_left
      · simp only [Act.put, List.setIfInBounds_toArray, List.set_cons_zero, List.set_cons_succ, i64_w, i32_w]
        rfl
      refine pure_ (i := 20) (N := some 124) (v := ?_) (a' := ?_) #[true, true, true, true, true, true, true, true, true, true, true, true, true, true, true, true, true, true, true, true, true, false, false, false, false] rfl rfl (by kernel_rfl) (fun _ _ _ h => h) (Or.inl ⟨by rfl, ?_⟩) ?_ ?_
      rotate_left
      · intro w'
        go_simp
        with_reducible rfl
      rotate_left
      · simp only [Act.put, List.setIfInBounds_toArray, List.set_cons_zero, List.set_cons_succ, i64_w, i32_w]
        rfl
      refine pure_ (i := 21) (N := some 125) (v := ?_) (a' := ?_) #[true, true, true, true, true, true, true, true, true, true, true, true, true, true, true, true, true, true, true, true, true, true, false, false, false] rfl rfl (by kernel_rfl) (fun _ _ _ h => h) (Or.inl ⟨by rfl, ?_⟩) ?_ ?_
      rotate_left
      · intro w'
        go_simp
        with_reducible rfl
      rotate_left
      · simp only [Act.put, List.setIfInBounds_toArray, List.set_cons_zero, List.set_cons_succ, i64_w, i32_w]
        rfl
      refine one_ (i := 22) (N := some 126) #[true, true, true, true, true, true, true, true, true, true, true, true, true, true, true, true, true, true, true, true, true, true, true, false, false] rfl rfl (by kernel_rfl) (by decide) (fun K hK => ?_)
      refine goes_ Try.func12 (by kernel_rfl) rfl #[] (by rfl) rfl rfl (by simp) ?_
      with_reducible refine (awake_calls _).mono ?_
      rintro e1 w7 ⟨rfl, hb7⟩
      refine ⟨_, rfl, ?_⟩
      refine hK.out _ _ ⟨(hb7.cell (World.block_lt_of_cell? _ _ hHeld.1)).trans hHeld.1, (hb7.cell (World.block_lt_of_cell? _ _ hHeld.2.1)).trans hHeld.2.1, (hb7.cell (World.block_lt_of_cell? _ _ hHeld.2.2.1)).trans hHeld.2.2.1, (hb7.cell (World.block_lt_of_cell? _ _ hHeld.2.2.2.1)).trans hHeld.2.2.2.1, (hb7.cell (World.block_lt_of_cell? _ _ hHeld.2.2.2.2.1)).trans hHeld.2.2.2.2.1, (hb7.cell (World.block_lt_of_cell? _ _ hHeld.2.2.2.2.2.1)).trans hHeld.2.2.2.2.2.1, (hb7.cell (World.block_lt_of_cell? _ _ hHeld.2.2.2.2.2.2.1)).trans hHeld.2.2.2.2.2.2.1, (hb7.cell (World.block_lt_of_cell? _ _ hHeld.2.2.2.2.2.2.2.1)).trans hHeld.2.2.2.2.2.2.2.1, below_step hHeld.2.2.2.2.2.2.2.2 hb7⟩ (fun hHeld => ?_)
      clear hK K
      refine norm_ (a' := ?_) ?_ ?_
      rotate_left
      · show Act.put _ (some 126) _ = _
        simp only [Act.put, List.setIfInBounds_toArray, List.set_cons_zero, List.set_cons_succ, i64_w, i32_w]
        rfl
      refine pure_ (i := 23) (N := some 127) (v := ?_) (a' := ?_) #[true, true, true, true, true, true, true, true, true, true, true, true, true, true, true, true, true, true, true, true, true, true, true, true, false] rfl rfl (by kernel_rfl) (fun _ _ _ h => h) (Or.inl ⟨by rfl, ?_⟩) ?_ ?_
      rotate_left
      · intro w'
        go_simp
        with_reducible rfl
      rotate_left
      · simp only [Act.put, List.setIfInBounds_toArray, List.set_cons_zero, List.set_cons_succ, i64_w, i32_w]
        rfl
      refine pure_ (i := 24) (N := some 4) (v := ?_) (a' := ?_) #[true, true, true, true, true, true, true, true, true, true, true, true, true, true, true, true, true, true, true, true, true, true, true, true, true] rfl rfl (by kernel_rfl) (fun _ _ _ h => h) (Or.inl ⟨by rfl, ?_⟩) ?_ ?_
      rotate_left
      · intro w'
        go_simp
        with_reducible rfl
      rotate_left
      · simp only [Act.put, List.setIfInBounds_toArray, List.set_cons_zero, List.set_cons_succ, i64_w, i32_w]
        rfl
      refine done_ (by kernel_rfl) ?_
      have HE := Aside0.mk hHeld.2.2.2.2.2.2.2.2
      clear hHeld
      go_wp2
      go_ret
      exact ⟨rfl, HE.out⟩
    | succ k1 =>
      have d1 : decide ((i : Int) < (n : Int)) = true := decide_eq_true (by omega)
      have d2 : decide (i < n) = true := decide_eq_true (by omega)
      have HW : Aside0 (wrap64 ((i : Int) + 1) = ((i + 1 : Nat) : Int)) := ⟨by unfold wrap64; omega⟩
      have HI2 : Aside0 (i + 1 + k1 = n) := ⟨by omega⟩
      have HLEN : Aside0 (xs.length ≤ 400) := ⟨by rw [HXS.out, many_len]; omega⟩
      have p1 : (0 ≤ (i : Int)) = True := eq_true (by omega)
      obtain ⟨ys, hys⟩ : ∃ ys : List Int, ys = [97 + (i : Int) / 20, 97 + (i : Int) % 20] := ⟨_, rfl⟩
      have HYS := Aside0.mk hys
      have HK : Aside0 (strOfNums ys = manyK i) := ⟨by rw [hys]; rfl⟩
      obtain ⟨K, hK⟩ : ∃ K, manyK i = K := ⟨_, rfl⟩
      rw [hK] at HK
      have HE : Aside0 (manyL (i + 1) = xs ++ [⟨K, ⟨#[118]⟩, false, 1 + (i : Int)⟩]) := ⟨by rw [many_succ, HXS.out, ← hK]; unfold manyE; rw [Int.natCast_add]; rfl⟩
      clear hys hK
      go_wp2_with (first
        | ((with_reducible refine gate_builtin (b := .append) (xs := #[.tmp 27, .tmp 41]) rfl ?_); at_builtin; go_loud (refine Kd.R_append k43 (w0 := w) w.heap.size rfl (.tmp 27) (.tmp 41) 22 43 (.agg #[(.string ⟨#[]⟩), (.string ⟨#[]⟩), (.bool false), (.int .i64 0)]) 48 rfl Try.underlying22 info43 rfl (by decide) (by omega) (.slice A6 xs.length c6) xs (⟨K, ⟨#[118]⟩, false, 1 + (i : Int)⟩ : S43) [.string K, .string ⟨#[118]⟩, .bool false, .int .i64 (1 + (i : Int))] (fun _ => True) (fun _ => False) rfl (by first | (go_simp; done) | (go_simp; rfl)) ?aP (fun _ hk => hk.elim) ?aF ?aO ?aB ?aS ?aL ?_); (case aP => exact k43_mkM _ _ _ (⟨K, ⟨#[118]⟩, false, 1 + (i : Int)⟩ : S43)); (case aB => exact (by repeat (first | (with_reducible first | exact HB4.out | apply below_alloc | apply pw_below_drewN | apply below_drew1) | exact HB4.out))); (case aF => exact (fun _ _ => trivial)); (case aO => exact (by (with_reducible repeat (first | apply Kd.R_alloc | apply Kd.R_drewN | apply Kd.R_drew)); exact HO4.out)); (case aS => exact (below_size (by repeat (first | (with_reducible first | exact HB4.out | apply below_alloc | apply pw_below_drewN | apply below_drew1) | exact HB4.out)))); (case aL => have := HLEN.out; omega); intro v9 w9 ho hb hg hat; have HO9 := Aside0.mk ho; have HB9 := Aside0.mk hb; clear ho hb hg hat)
        | ((with_reducible refine gate_dst (N := 36) rfl ?_); refine Kd.R_lit (Kd.int .u8) _ 5 ?hg (N := 36) ?hd (xs := [97 + (i : Int) / 20, 97 + (i : Int) % 20]) (inner := [.int .u8 (97 + (i : Int) / 20), .int .u8 (97 + (i : Int) % 20)]) (ok := fun _ => True) (okp := fun _ => True) ?hr ?hp (fun _ hk => hk) trivial (Below.refl _ _) (Nat.le_refl _) (by simp) ?_; (case hd => rfl); (case hg => rfl); (case hr => first | (go_simp; done) | (go_simp; rfl)); (case hp => exact (Reps.one (show Kd.M (Kd.int .u8) _ _ _ (97 + (i : Int) / 20) [.int .u8 (97 + (i : Int) / 20)] from rfl) (Reps.one (show Kd.M (Kd.int .u8) _ _ _ (97 + (i : Int) % 20) [.int .u8 (97 + (i : Int) % 20)] from rfl) (Reps.none _ _)))); intro v4 w4 ho4 hb4 hg_ hnew_; rw [← HYS.out] at ho4; have hcv := own_string (P := Try.prog) Try.underlying47 Try.underlying5 Try.underlying9 (Kd.own_of_R ho4); rw [HK.out] at hcv; have HB4 := Aside0.mk (below_step HB.out hb4); have HO4 := Aside0.mk (Kd.R_below HO.out hb4); clear hg_ hnew_ ho4 hb4))
      go_roundg k1
      case measure => omega
      case rel => exact ⟨i + 1, _, rfl, HI2, ⟨HE.out.symm⟩, HO9, HB9⟩
theorem law_many {P0 P1 : Prop} (x0 x1 : Int) (_ : P0) (_ : P1) (W : World) : Calls Try.prog 6 #[.int .i64 x0, .int .i64 x1] W fun e w' => e = .returned (.bool true) ∧ Below W.heap.size W w' := many_law x0 x1 W
end Go.Proofs.Ytlmoafkmhenejaa.XA
