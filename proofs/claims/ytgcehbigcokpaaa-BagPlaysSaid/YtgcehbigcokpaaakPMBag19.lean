import Derived.Test.YtgcehbigcokpaaakPMBag18
namespace Go.Proofs.YtgcehbigcokpaaaW.PrintWords
end Go.Proofs.YtgcehbigcokpaaaW.PrintWords
namespace Go.Proofs.YtgcehbigcokpaaaW.PrintLast
end Go.Proofs.YtgcehbigcokpaaaW.PrintLast
namespace Go.Proofs.YtgcehbigcokpaaaW.PrintMore
end Go.Proofs.YtgcehbigcokpaaaW.PrintMore
namespace Go.Proofs.Ytgcehbigcokpaaa.XW
end Go.Proofs.Ytgcehbigcokpaaa.XW
namespace Go.Proofs.Ytgcehbigcokpaaa.XA
open Go.RowKit Go.Proofs.YtgcehbigcokpaaaW.PrintWords Go.Proofs.YtgcehbigcokpaaaW.PrintLast Go.Proofs.YtgcehbigcokpaaaW.PrintMore Go.Proofs.Ytgcehbigcokpaaa.XW
attribute [local go_sem high] max2_str unary_xor_u32 leq_str geq_str gtr_str
attribute [local go_sem] max2_int min2_int max_two min_two max_three min_three max_four min_four
set_option linter.unusedVariables false
set_option linter.unusedSimpArgs false
structure S48 where
  f0 : Int
  f1 : Int
  f2 : Int
  f3 : S30
def z48 : S48 := ⟨0, 0, 0, z30⟩
def k48 : Kd S48 := Kd.iso (Kd.pair (Kd.int .i64) (Kd.pair (Kd.int .i64) (Kd.pair (Kd.int .i64) k30))) (fun x : S48 => (x.f0, x.f1, x.f2, x.f3))
theorem k48_open {w : World} {x : S48} {cs : List Value} (h : k48.K w x cs) : cs = [.int .i64 x.f0, .int .i64 x.f1, .int .i64 x.f2, .int .i64 x.f3.f0, .int .i64 x.f3.f1, .string x.f3.f2] := by
  obtain ⟨_, _, rfl, rfl, ⟨_, _, rfl, rfl, ⟨_, _, rfl, rfl, h3⟩⟩⟩ := h
  obtain rfl := k30_open h3
  rfl
theorem at_T48 {w : World} {A : Option Addr} {n : Nat} {xs : List S48} (h : Kd.C k48 w A n xs) (i : Nat) (h1 : i < n) : ∃ ad, A = some ad ∧ ∃ x, xs[i]? = some x ∧ w.cell? (ad.add (i * 6)) = some (.int .i64 x.f0) ∧ w.cell? ⟨(ad.add (i * 6)).block, (ad.add (i * 6)).off + 1, none⟩ = some (.int .i64 x.f1) ∧ w.cell? ⟨(ad.add (i * 6)).block, (ad.add (i * 6)).off + 2, none⟩ = some (.int .i64 x.f2) ∧
    w.cell? ⟨(ad.add (i * 6)).block, (ad.add (i * 6)).off + 3, none⟩ = some (.int .i64 x.f3.f0) ∧ w.cell? ⟨(ad.add (i * 6)).block, (ad.add (i * 6)).off + 4, none⟩ = some (.int .i64 x.f3.f1) ∧ w.cell? ⟨(ad.add (i * 6)).block, (ad.add (i * 6)).off + 5, none⟩ = some (.string x.f3.f2) := by
  have hn : n = xs.length := h.1.symm
  obtain ⟨ad, c, e, _, hK, hc0⟩ := Kd.C_get h z48 (i : Int) (by omega) (by omega)
  rw [Int.toNat_natCast] at hc0 hK
  have hc : ∀ j u, c[j]? = some u → w.cell? (ad.add (i * 6 + j)) = some u := hc0
  have hx : xs[i]? = some (xs.getD i z48) := by rw [List.getD_eq_getElem?_getD, List.getElem?_eq_getElem (by omega)]; rfl
  obtain rfl := k48_open hK
  exact ⟨ad, e, _, hx, hc 0 _ rfl, by rw [← add_field _ _ 1 (by omega)]; exact hc 1 _ rfl, by rw [← add_field _ _ 2 (by omega)]; exact hc 2 _ rfl, by rw [← add_field _ _ 3 (by omega)]; exact hc 3 _ rfl, by rw [← add_field _ _ 4 (by omega)]; exact hc 4 _ rfl, by rw [← add_field _ _ 5 (by omega)]; exact hc 5 _ rfl⟩
set_option maxHeartbeats 3200000 in
set_option maxRecDepth 100000 in
theorem plays_no (x y : Int) (A0 : Option Addr) (n0 c0 : Nat) (w : World) (h : x < 1 ∨ 6 < x ∨ y < 1 ∨ 8 < y) :
    Calls Try.prog 4 #[.agg #[.int .i64 x, .int .i64 y], .slice A0 n0 c0] w fun e w' => e = .returned (.bool true) ∧ Below w.heap.size w w' := by
  have HL0 := Aside0.mk (below_alloc (Below.refl w.heap.size w) (.cells #[.int .i64 x, .int .i64 y] 37))
  have hk0 := heap_alloc_new w (.cells #[.int .i64 x, .int .i64 y] 37)
  have x0 : (w.alloc (.cells #[.int .i64 x, .int .i64 y] 37)).cell? ⟨w.heap.size, 0, none⟩ = some (.int .i64 x) := (blk_cell hk0 0).trans rfl
  have x1 : (w.alloc (.cells #[.int .i64 x, .int .i64 y] 37)).cell? ⟨w.heap.size, 1, none⟩ = some (.int .i64 y) := (blk_cell hk0 1).trans rfl
  have HK0 := Aside0.mk hk0
  have HH := Aside0.mk h
  clear h hk0
  go_enter Try.func4, Try.ntmps4
  go_wp2_with (first
    | (go_at_call 12; go_loud ((refine (awake_calls _).mono ?_); rintro e w5 ⟨rfl, hb5⟩; have HL5 := Aside0.mk (below_step HL3.out hb5); clear hb5))
    | (go_at_call 13; go_loud ((refine (sorrelref15_New.calls x y 0 0 [] 1 _ (refnew_no x y HH.out)).mono ?_); rintro e w2 ⟨v2, rfl, hR2, hb2⟩; obtain ⟨A2, c2, rfl⟩ := Kd.R_slice hR2; have HL3 := Aside0.mk (below_alloc (below_step HL0.out hb2) (.cells #[.int .i64 0, .int .i64 0, .slice A2 0 c2] 41)); clear hb2 hR2))
    | (go_at_call 7; go_loud ((refine (new_no x y _ HH.out).mono ?_); rintro e _ ⟨rfl, rfl⟩)))
  go_ret
  exact ⟨rfl, HL5.out⟩
theorem new_g (n c : Nat) (w : World) (h1 : 1 ≤ n) (h2 : n ≤ 6) (h3 : 1 ≤ c) (h4 : c ≤ 8) :
    Calls Try.prog 7 #[.int .i64 (n : Int), .int .i64 (c : Int)] w fun e w' => ∃ g, e = .returned (.tuple #[.pointer (some ⟨g, 0, none⟩), .int .i64 0]) ∧ Bag w' w.heap.size g (placesL n c) (mL []) ∧ Below w.heap.size w w' :=
  (new_ok n c w h1 h2 h3 h4).mono fun _ _ ⟨a, b, c⟩ => ⟨_, a, b, c⟩
set_option maxHeartbeats 6400000 in
set_option maxRecDepth 100000 in
theorem plays_ok (n c : Nat) (h1 : 1 ≤ n) (h2 : n ≤ 6) (h3 : 1 ≤ c) (h4 : c ≤ 8) (A0 : Option Addr) (c0 : Nat) (l0 : List S48) (w : World) (hr0 : Kd.C k48 w A0 l0.length l0) (hc0 : l0.length ≤ c0)
    (hwf : ∀ x ∈ l0, (-9223372036854775808 ≤ x.f0 ∧ x.f0 ≤ 9223372036854775807) ∧ (-9223372036854775808 ≤ x.f1 ∧ x.f1 ≤ 9223372036854775807) ∧ (-9223372036854775808 ≤ x.f2 ∧ x.f2 ≤ 9223372036854775807) ∧ x.f3.f0 ≤ 9223372036854775807 ∧ x.f3.f1 ≤ 9223372036854775807) :
    Calls Try.prog 4 #[.agg #[.int .i64 (n : Int), .int .i64 (c : Int)], .slice A0 l0.length c0] w fun e w' => e = .returned (.bool true) ∧ Below w.heap.size w w' := by
  have HR0 := Aside0.mk hr0
  have HWF := Aside0.mk hwf
  have HH := Aside0.mk (And.intro h1 (And.intro h2 (And.intro h3 h4)))
  have hl0 := below_alloc (Below.refl w.heap.size w) (.cells #[.int .i64 (n : Int), .int .i64 (c : Int)] 37)
  have hk0 := heap_alloc_new w (.cells #[.int .i64 (n : Int), .int .i64 (c : Int)] 37)
  have x0 : (w.alloc (.cells #[.int .i64 (n : Int), .int .i64 (c : Int)] 37)).cell? ⟨w.heap.size, 0, none⟩ = some (.int .i64 (n : Int)) := (blk_cell hk0 0).trans rfl
  have x1 : (w.alloc (.cells #[.int .i64 (n : Int), .int .i64 (c : Int)] 37)).cell? ⟨w.heap.size, 1, none⟩ = some (.int .i64 (c : Int)) := (blk_cell hk0 1).trans rfl
  have HPL : Aside0 ((placesL n c).length < 1000) := ⟨by unfold placesL; rw [List.length_append, List.length_append, nodesL_len, clientsL_len]; simp; omega⟩
  have HLN : Aside0 (l0.length ≤ 9223372036854775807) := ⟨hr0.2.1⟩
  obtain ⟨wb, hwb⟩ : ∃ wb, w.alloc (.cells #[.int .i64 (n : Int), .int .i64 (c : Int)] 37) = wb := ⟨_, rfl⟩
  have HWB := Aside0.mk hwb
  rw [hwb] at hl0 hk0
  have HL0 := Aside0.mk hl0
  have HK0 := Aside0.mk hk0
  clear hr0 hc0 hwf h1 h2 h3 h4 hl0 hk0 hwb
  go_enter Try.func4, Try.ntmps4
  go_wp2_with (first
    | (go_at_call 13; go_loud ((refine (sorrelref15_New.calls n c n c [] 0 _ (refnew_ok n c HH.out.1 HH.out.2.1 HH.out.2.2.1 HH.out.2.2.2)).mono ?_); rintro e w2 ⟨v2, rfl, hR2, hb2⟩; obtain ⟨A2, c2, rfl⟩ := Kd.R_slice hR2; have hst := (St.new HL1.out HB1.out hb2 hR2).step (below_alloc (Below.refl w2.heap.size w2) (.cells #[.int .i64 (n : Int), .int .i64 (c : Int), .slice A2 0 c2] 41)); have hk7 := heap_alloc_new w2 (.cells #[.int .i64 (n : Int), .int .i64 (c : Int), .slice A2 0 c2] 41); obtain ⟨w3, hw3⟩ : ∃ w3, w2.alloc (.cells #[.int .i64 (n : Int), .int .i64 (c : Int), .slice A2 0 c2] 41) = w3 := ⟨_, rfl⟩; rw [hw3] at hst hk7; have HW3 := Aside0.mk hw3; have HST : Aside0 (St wb w3 g (placesL n c) (mL []) (.slice A2 0 c2) []) := ⟨hst⟩; have HK7 := Aside0.mk hk7; have HG7 := Aside0.mk (Nat.le_trans HL1.out.size hb2.size); clear hb2 hR2 hst hk7 hw3))
    | (go_at_call 7; go_loud ((rw [HWB.out]; refine (new_g n c wb HH.out.1 HH.out.2.1 HH.out.2.2.1 HH.out.2.2.2).mono ?_); rintro e w1 ⟨g, rfl, hB1, hb1⟩; have HB1 := Aside0.mk hB1; have HL1 := Aside0.mk hb1; have hk1 := blk_below HK0.out hb1; have y0 : w1.cell? ⟨w.heap.size, 0, none⟩ = some (.int .i64 (n : Int)) := (blk_cell hk1 0).trans rfl; have y1 : w1.cell? ⟨w.heap.size, 1, none⟩ = some (.int .i64 (c : Int)) := (blk_cell hk1 1).trans rfl; clear hB1 hb1 hk1)))
  rw [HW3.out]
  have hk7 := blk_drew HK7.out
  have f0 : w3.drew.cell? ⟨w2.heap.size, 0, none⟩ = some (.int .i64 (n : Int)) := (blk_cell hk7 0).trans rfl
  have f1 : w3.drew.cell? ⟨w2.heap.size, 1, none⟩ = some (.int .i64 (c : Int)) := (blk_cell hk7 1).trans rfl
  have f2 : w3.drew.cell? ⟨w2.heap.size, 2, none⟩ = some (.slice A2 0 c2) := (blk_cell hk7 2).trans rfl
  have f3 := HST.out.step (below_drew (Below.refl _ _))
  clear y0 y1 x0 x1
  refine start_ (n := 6) (S := fun w' => w'.cell? ⟨w2.heap.size, 0, none⟩ = some (.int .i64 (n : Int)) ∧ w'.cell? ⟨w2.heap.size, 1, none⟩ = some (.int .i64 (c : Int)) ∧ w'.cell? ⟨w2.heap.size, 2, none⟩ = some (.slice A2 0 c2) ∧ St wb w' g (placesL n c) (mL []) (.slice A2 0 c2) [] ∧ w'.heap[w2.heap.size]? = some (.cells #[.int .i64 (n : Int), .int .i64 (c : Int), .slice A2 0 c2] 41 (0, 0))) (ds := []) #[false, false, false, false, false, false] (by kernel_rfl) rfl rfl ⟨f0, f1, f2, f3, hk7⟩ (fun hHeld => ?_)
  refine pure_ (i := 0) (N := some 46) (v := ?_) (a' := ?_) #[true, false, false, false, false, false] rfl rfl (by kernel_rfl) (fun _ _ _ h => h) (Or.inl ⟨by rfl, ?_⟩) ?_ ?_
  rotate_left
  · intro w'
    go_simp
    with_reducible rfl
  rotate_left
  · simp only [Act.put, List.setIfInBounds_toArray, List.set_cons_zero, List.set_cons_succ, i64_w, i32_w]
    rfl
  refine take_ (i := 2) (N := some 48) (v := ?_) (a' := ?_) #[true, false, true, false, false, false] rfl rfl (by kernel_rfl) (fun _ _ _ h => h) (Or.inl ⟨by rfl, ?_⟩) hHeld ?_ ?_
  rotate_left
  · rintro w' ⟨s0, s1, s2, s3, s4⟩
    go_simp
    with_reducible rfl
  rotate_left
  · simp only [Act.put, List.setIfInBounds_toArray, List.set_cons_zero, List.set_cons_succ, i64_w, i32_w]
    rfl
  refine one_ (i := 1) (N := some 47) #[true, true, true, false, false, false] rfl rfl (by kernel_rfl) (by decide) (fun K hK => ?_)
  refine goes_ Try.func15 (by kernel_rfl) rfl #[.pointer (some ⟨g, 0, none⟩)] (by rfl) rfl rfl (by simp only [List.map_toArray, List.map_cons, List.map_nil]; rfl) ?_
  with_reducible refine (places_calls g _ (placesL n c) _ _ hHeld.2.2.2.1.bag (by have := HPL.out; omega)).mono ?_
  rintro e w4 ⟨v4, rfl, hR4, hb4⟩
  obtain ⟨A4, c4, rfl⟩ := Kd.R_slice hR4
  refine ⟨_, rfl, ?_⟩
  refine hK.out _ _ ⟨(hb4.cell (World.block_lt_of_cell? _ _ hHeld.1)).trans hHeld.1, (hb4.cell (World.block_lt_of_cell? _ _ hHeld.2.1)).trans hHeld.2.1, (hb4.cell (World.block_lt_of_cell? _ _ hHeld.2.2.1)).trans hHeld.2.2.1, hHeld.2.2.2.1.step hb4, blk_below hHeld.2.2.2.2 hb4⟩ (fun hHeld => ?_)
  clear hK K
  refine norm_ (a' := ?_) ?_ ?_
  rotate_left
  · show Act.put _ (some 47) _ = _
    simp only [Act.put, List.setIfInBounds_toArray, List.set_cons_zero, List.set_cons_succ, i64_w, i32_w]
    rfl
  refine one_ (i := 3) (N := some 49) #[true, true, true, true, false, false] rfl rfl (by kernel_rfl) (by decide) (fun K hK => ?_)
  refine goes_ Try.func16 (by kernel_rfl) rfl #[.agg #[.int .i64 (n : Int), .int .i64 (c : Int), .slice A2 ([] : List S30).length c2]] (by rfl) rfl rfl (by simp only [List.map_toArray, List.map_cons, List.map_nil]; rfl) ?_
  have hle0 : ([] : List S30).length ≤ c2 := (Kd.R_reads' hHeld.2.2.2.1.row).2.1
  have hC0 : Kd.C k30 _ A2 ([] : List S30).length [] := (Kd.R_reads' hHeld.2.2.2.1.row).2.2
  with_reducible refine (sorrelref15_Places.calls 201 n c A2 c2 [] (placesL n c) _ hC0 hle0 (places_is n c HH.out.2.1 HH.out.2.2.2).1).mono ?_
  rintro e w5 ⟨v5, rfl, hR5, hb5⟩
  obtain ⟨A5, c5, rfl⟩ := Kd.R_slice hR5
  have hR4 := Kd.R_below hR4 hb5
  refine ⟨_, rfl, ?_⟩
  refine hK.out _ _ ⟨(hb5.cell (World.block_lt_of_cell? _ _ hHeld.1)).trans hHeld.1, (hb5.cell (World.block_lt_of_cell? _ _ hHeld.2.1)).trans hHeld.2.1, (hb5.cell (World.block_lt_of_cell? _ _ hHeld.2.2.1)).trans hHeld.2.2.1, hHeld.2.2.2.1.step hb5, blk_below hHeld.2.2.2.2 hb5⟩ (fun hHeld => ?_)
  clear hK K
  refine norm_ (a' := ?_) ?_ ?_
  rotate_left
  · show Act.put _ (some 49) _ = _
    simp only [Act.put, List.setIfInBounds_toArray, List.set_cons_zero, List.set_cons_succ, i64_w, i32_w]
    rfl
  refine one_ (i := 4) (N := some 50) #[true, true, true, true, true, false] rfl rfl (by kernel_rfl) (by decide) (fun K hK => ?_)
  refine goes_ Try.func14 (by kernel_rfl) rfl #[.slice A4 (placesL n c).length c4, .slice A5 (placesL n c).length c5] (by rfl) rfl rfl (by simp only [List.map_toArray, List.map_cons, List.map_nil]; rfl) ?_
  with_reducible refine (sorrelref01_SameInts.calls 201 A4 c4 (placesL n c) A5 c5 (placesL n c) true _ (Kd.R_reads' hR4).2.2 (Kd.R_reads' hR4).2.1 (Kd.R_reads' hR5).2.2 (Kd.R_reads' hR5).2.1 (places_is n c HH.out.2.1 HH.out.2.2.2).2).mono ?_
  rintro e _ ⟨rfl, ⟨m6, rfl⟩⟩
  refine ⟨_, rfl, ?_⟩
  refine hK.out _ _ ⟨hHeld.1, hHeld.2.1, hHeld.2.2.1, hHeld.2.2.2.1.step (pw_below_drewN (Below.refl _ _) m6), hHeld.2.2.2.2⟩ (fun hHeld => ?_)
  clear hK K
  refine norm_ (a' := ?_) ?_ ?_
  rotate_left
  · show Act.put _ (some 50) _ = _
    simp only [Act.put, List.setIfInBounds_toArray, List.set_cons_zero, List.set_cons_succ, i64_w, i32_w]
    rfl
  refine pure_ (i := 5) (N := some 51) (v := ?_) (a' := ?_) #[true, true, true, true, true, true] rfl rfl (by kernel_rfl) (fun _ _ _ h => h) (Or.inl ⟨by rfl, ?_⟩) ?_ ?_
  rotate_left
  · intro w'
    go_simp
    with_reducible rfl
  rotate_left
  · simp only [Act.put, List.setIfInBounds_toArray, List.set_cons_zero, List.set_cons_succ, i64_w, i32_w]
    rfl
  refine done_ (by kernel_rfl) ?_

  obtain ⟨-, -, -, hst6, hk6⟩ := hHeld
  obtain ⟨w6, hw6⟩ : ∃ w6, w5.drewN m6 = w6 := ⟨_, rfl⟩
  rw [hw6] at hst6 hk6 ⊢
  have HST6 := Aside0.mk hst6
  have HK6 := Aside0.mk hk6
  obtain ⟨N, hN⟩ : ∃ N, min l0.length 150 = N := ⟨_, rfl⟩
  have HN := Aside0.mk hN
  clear hst6 hk6 hw6 hR4 hR5 hb4 hb5 f0 f1 f2 f3 hk7 HST HK7 HW3 HB1 HL1 hN
  go_wp2
  go_loopg [9] N (fun kq v9 w' => ∃ (i : Nat) (L : List S30) (s : Value), v9 = .int .i64 (i : Int) ∧ Aside0 (i + kq = N) ∧ Aside0 (L.length ≤ i) ∧ Aside0 (St wb w' g (placesL n c) (mL L) s L) ∧ Aside0 (w'.heap[w2.heap.size]? = some (.cells #[.int .i64 (n : Int), .int .i64 (c : Int), s] 41 (0, 0))))
  case atStart => exact ⟨0, [], _, rfl, ⟨Nat.zero_add _⟩, ⟨Nat.le_refl _⟩, HST6, HK6⟩
  case round =>
    clear HST6 HK6
    obtain ⟨i, L, s, rfl, HI, HLL, HST, HK⟩ := hrel
    obtain ⟨A, cp, hs, -, -⟩ := HST.out.row_le
    subst hs
    have hI := HI.out
    have hN := HN.out
    have HLB : Aside0 (Below w.heap.size w wr) := ⟨below_then HL0.out HL0.out.size HST.out.below⟩
    cases gk with
    | zero =>
      by_cases q : l0.length ≤ 150
      · have c1 : decide ((i : Int) < (l0.length : Int)) = false := decide_eq_false (by omega)
        have c2 : decide (i < l0.length) = false := decide_eq_false (by omega)
        clear hI hN q
        go_wp2_with (go_at_call 12; go_loud ((refine (awake_calls _).mono ?_); rintro e w9 ⟨rfl, hb9⟩; have HL9 := Aside0.mk (below_step HLB.out hb9); clear hb9))
        go_ret
        exact ⟨rfl, HL9.out⟩
      · have c1 : decide ((i : Int) < (l0.length : Int)) = true := decide_eq_true (by omega)
        have c2 : decide (i < l0.length) = true := decide_eq_true (by omega)
        have c3 : decide ((i : Int) < 150) = false := decide_eq_false (by omega)
        have c4 : decide (i < 150) = false := decide_eq_false (by omega)
        clear hI hN q
        go_wp2_with (go_at_call 12; go_loud ((refine (awake_calls _).mono ?_); rintro e w9 ⟨rfl, hb9⟩; have HL9 := Aside0.mk (below_step HLB.out hb9); clear hb9))
        go_ret
        exact ⟨rfl, HL9.out⟩
    | succ k1 =>
      have hlt : i < l0.length := by omega
      have c1 : decide ((i : Int) < (l0.length : Int)) = true := decide_eq_true (by omega)
      have c2 : decide (i < l0.length) = true := decide_eq_true (by omega)
      have c3 : decide ((i : Int) < 150) = true := decide_eq_true (by omega)
      have c4 : decide (i < 150) = true := decide_eq_true (by omega)
      have p1 : (0 ≤ (i : Int)) = True := eq_true (by omega)
      have p2 : ((i : Int) < (l0.length : Int)) = True := eq_true (by omega)
      have p3 : (i < l0.length) = True := eq_true hlt
      have HI2 : Aside0 (i + 1 + k1 = N) := ⟨by omega⟩
      have HW : Aside0 (wrap64 ((i : Int) + 1) = ((i + 1 : Nat) : Int)) := ⟨by unfold wrap64; omega⟩
      have HLL2 : Aside0 (L.length < 199) := ⟨by have := HLL.out; omega⟩
      obtain ⟨ad, ead, ⟨xk, xt, xa, ⟨fr, tp, tx⟩⟩, hx, r0, r1, r2, r3, r4, r5⟩ := at_T48 (Kd.C_below HR0.out HLB.out) i hlt
      dsimp only at r0 r1 r2 r3 r4 r5
      have HB := Aside0.mk (HWF.out _ (List.mem_of_getElem? hx))
      cases ead
      have d0 := (blk_cell HK.out 0).trans rfl
      have s0 : (wr.alloc (.cells #[.int .i64 xk, .int .i64 xt, .int .i64 xa, .int .i64 fr, .int .i64 tp, .string tx] 48)).cell? ⟨w2.heap.size, 0, none⟩ = some (.int .i64 (n : Int)) := (blk_cell (blk_alloc HK.out (.cells #[.int .i64 xk, .int .i64 xt, .int .i64 xa, .int .i64 fr, .int .i64 tp, .string tx] 48)) 0).trans rfl
      have s1 : (wr.alloc (.cells #[.int .i64 xk, .int .i64 xt, .int .i64 xa, .int .i64 fr, .int .i64 tp, .string tx] 48)).cell? ⟨w2.heap.size, 1, none⟩ = some (.int .i64 (c : Int)) := (blk_cell (blk_alloc HK.out (.cells #[.int .i64 xk, .int .i64 xt, .int .i64 xa, .int .i64 fr, .int .i64 tp, .string tx] 48)) 1).trans rfl
      have s2 : (wr.alloc (.cells #[.int .i64 xk, .int .i64 xt, .int .i64 xa, .int .i64 fr, .int .i64 tp, .string tx] 48)).cell? ⟨w2.heap.size, 2, none⟩ = some (.slice A L.length cp) := (blk_cell (blk_alloc HK.out (.cells #[.int .i64 xk, .int .i64 xt, .int .i64 xa, .int .i64 fr, .int .i64 tp, .string tx] 48)) 2).trans rfl
      have ha := heap_alloc_new wr (.cells #[.int .i64 xk, .int .i64 xt, .int .i64 xa, .int .i64 fr, .int .i64 tp, .string tx] 48)
      have a0 : (wr.alloc (.cells #[.int .i64 xk, .int .i64 xt, .int .i64 xa, .int .i64 fr, .int .i64 tp, .string tx] 48)).cell? ⟨wr.heap.size, 0, none⟩ = some (.int .i64 xk) := (blk_cell ha 0).trans rfl
      have a1 : (wr.alloc (.cells #[.int .i64 xk, .int .i64 xt, .int .i64 xa, .int .i64 fr, .int .i64 tp, .string tx] 48)).cell? ⟨wr.heap.size, 1, none⟩ = some (.int .i64 xt) := (blk_cell ha 1).trans rfl
      have a2 : (wr.alloc (.cells #[.int .i64 xk, .int .i64 xt, .int .i64 xa, .int .i64 fr, .int .i64 tp, .string tx] 48)).cell? ⟨wr.heap.size, 2, none⟩ = some (.int .i64 xa) := (blk_cell ha 2).trans rfl
      have a3 : (wr.alloc (.cells #[.int .i64 xk, .int .i64 xt, .int .i64 xa, .int .i64 fr, .int .i64 tp, .string tx] 48)).cell? ⟨wr.heap.size, 3, none⟩ = some (.int .i64 fr) := (blk_cell ha 3).trans rfl
      have a4 : (wr.alloc (.cells #[.int .i64 xk, .int .i64 xt, .int .i64 xa, .int .i64 fr, .int .i64 tp, .string tx] 48)).cell? ⟨wr.heap.size, 4, none⟩ = some (.int .i64 tp) := (blk_cell ha 4).trans rfl
      have a5 : (wr.alloc (.cells #[.int .i64 xk, .int .i64 xt, .int .i64 xa, .int .i64 fr, .int .i64 tp, .string tx] 48)).cell? ⟨wr.heap.size, 5, none⟩ = some (.string tx) := (blk_cell ha 5).trans rfl
      have HK10 := Aside0.mk (blk_alloc ha (.cells #[.int .i64 (n : Int), .int .i64 (c : Int), .slice A L.length cp] 41))
      have HK7 := Aside0.mk (blk_alloc (blk_alloc HK.out (.cells #[.int .i64 xk, .int .i64 xt, .int .i64 xa, .int .i64 fr, .int .i64 tp, .string tx] 48)) (.cells #[.int .i64 (n : Int), .int .i64 (c : Int), .slice A L.length cp] 41))
      have hk13 := heap_alloc_new (wr.alloc (.cells #[.int .i64 xk, .int .i64 xt, .int .i64 xa, .int .i64 fr, .int .i64 tp, .string tx] 48)) (.cells #[.int .i64 (n : Int), .int .i64 (c : Int), .slice A L.length cp] 41)
      rw [show (wr.alloc (.cells #[.int .i64 xk, .int .i64 xt, .int .i64 xa, .int .i64 fr, .int .i64 tp, .string tx] 48)).heap.size = wr.heap.size + 1 from by simp] at hk13
      have HK13 := Aside0.mk hk13
      have HSTA := Aside0.mk ((HST.out.step (below_alloc (Below.refl wr.heap.size wr) (.cells #[.int .i64 xk, .int .i64 xt, .int .i64 xa, .int .i64 fr, .int .i64 tp, .string tx] 48))).step (below_alloc (Below.refl (wr.alloc (.cells #[.int .i64 xk, .int .i64 xt, .int .i64 xa, .int .i64 fr, .int .i64 tp, .string tx] 48)).heap.size (wr.alloc (.cells #[.int .i64 xk, .int .i64 xt, .int .i64 xa, .int .i64 fr, .int .i64 tp, .string tx] 48))) (.cells #[.int .i64 (n : Int), .int .i64 (c : Int), .slice A L.length cp] 41)))
      have HNE : Aside0 (w2.heap.size < wr.heap.size) := ⟨blk_lt HK.out⟩
      clear d0 ha hk13 hx hI hN hlt
      by_cases t1 : tx.size ≤ 1024
      · have u1 : decide (1024 < (tx.size : Int)) = false := decide_eq_false (by omega)
        have u2 : decide (1024 < tx.size) = false := decide_eq_false (by omega)
        clear t1
        by_cases e1 : xk = 1
        · have g1 : (xk == 1) = true := beq_iff_eq.mpr e1
          clear e1
          obtain ⟨e, L', hL', hf, hcall⟩ := put_both n c HH.out.2.1 L ⟨fr, tp, tx⟩ HLL2.out HB.out.2.2.2.1 HB.out.2.2.2.2
          try dsimp only at hcall hf
          have HP := Aside0.mk hcall
          have HPF := Aside0.mk hf
          have HLL3 := Aside0.mk hL'
          have qe : (e != e) = false := by simp
          clear hcall hf hL'
          have HSZ : Aside0 (wb.heap.size ≤ wr.heap.size) := ⟨HST.out.size⟩
          have HN7 : Aside0 (w2.heap.size ≠ wr.heap.size + 1) := ⟨by have := HNE.out; omega⟩
          have b0 : ((wr.alloc (.cells #[.int .i64 xk, .int .i64 xt, .int .i64 xa, .int .i64 fr, .int .i64 tp, .string tx] 48)).alloc (.cells #[.int .i64 (n : Int), .int .i64 (c : Int), .slice A L.length cp] 41)).cell? ⟨wr.heap.size, 0, none⟩ = some (.int .i64 xk) := (blk_cell HK10.out 0).trans rfl
          have b1 : ((wr.alloc (.cells #[.int .i64 xk, .int .i64 xt, .int .i64 xa, .int .i64 fr, .int .i64 tp, .string tx] 48)).alloc (.cells #[.int .i64 (n : Int), .int .i64 (c : Int), .slice A L.length cp] 41)).cell? ⟨wr.heap.size, 1, none⟩ = some (.int .i64 xt) := (blk_cell HK10.out 1).trans rfl
          have b2 : ((wr.alloc (.cells #[.int .i64 xk, .int .i64 xt, .int .i64 xa, .int .i64 fr, .int .i64 tp, .string tx] 48)).alloc (.cells #[.int .i64 (n : Int), .int .i64 (c : Int), .slice A L.length cp] 41)).cell? ⟨wr.heap.size, 2, none⟩ = some (.int .i64 xa) := (blk_cell HK10.out 2).trans rfl
          have b3 : ((wr.alloc (.cells #[.int .i64 xk, .int .i64 xt, .int .i64 xa, .int .i64 fr, .int .i64 tp, .string tx] 48)).alloc (.cells #[.int .i64 (n : Int), .int .i64 (c : Int), .slice A L.length cp] 41)).cell? ⟨wr.heap.size, 3, none⟩ = some (.int .i64 fr) := (blk_cell HK10.out 3).trans rfl
          have b4 : ((wr.alloc (.cells #[.int .i64 xk, .int .i64 xt, .int .i64 xa, .int .i64 fr, .int .i64 tp, .string tx] 48)).alloc (.cells #[.int .i64 (n : Int), .int .i64 (c : Int), .slice A L.length cp] 41)).cell? ⟨wr.heap.size, 4, none⟩ = some (.int .i64 tp) := (blk_cell HK10.out 4).trans rfl
          have b5 : ((wr.alloc (.cells #[.int .i64 xk, .int .i64 xt, .int .i64 xa, .int .i64 fr, .int .i64 tp, .string tx] 48)).alloc (.cells #[.int .i64 (n : Int), .int .i64 (c : Int), .slice A L.length cp] 41)).cell? ⟨wr.heap.size, 5, none⟩ = some (.string tx) := (blk_cell HK10.out 5).trans rfl
          go_wp2_with (first | (go_at_call 17; go_loud ((refine (sorrelref15_Put.calls 201 n c (fun k => some k = (Value.slice A L.length cp).ownBlock) (.slice A L.length cp) L fr tp tx n c L' e wb _ HST4.out.below (Kd.R_tight rfl HST4.out.row) HPF.out).mono ?_); rintro e1 w5 ⟨v5, rfl, hR5, hb5, hk5⟩; obtain ⟨A5, c5, e5⟩ := Kd.R_slice hR5; subst e5; have hst5 := HST4.out.ref hR5 hb5 hk5; have j7 := HST4.out.ref_blk hk5 HC7.out (by decide); have j13 := HST4.out.ref_blk hk5 HC13.out (by decide); clear hR5 hb5 hk5; have x0 : w5.cell? ⟨wr.heap.size + 1, 0, none⟩ = some (.int .i64 (n : Int)) := (blk_cell j13 0).trans rfl; have x1 : w5.cell? ⟨wr.heap.size + 1, 1, none⟩ = some (.int .i64 (c : Int)) := (blk_cell j13 1).trans rfl; have x2 : w5.cell? ⟨wr.heap.size + 1, 2, none⟩ = some (.slice A L.length cp) := (blk_cell j13 2).trans rfl; have n0 := blk_frozen j13 0; have n1 := blk_frozen j13 1; have n2 := blk_frozen j13 2; have hn13 := hst5.other j13 (by decide) (by decide) (by decide); have hs13 := hst5.set3 j13 (by decide) (by decide) hn13.1 hn13.2 (Nat.le_trans HSZ.out (Nat.le_succ _)) (.int .i64 (n : Int)) (.int .i64 (c : Int)) (.slice A5 L'.length c5); have i13 : (((w5.setCell ⟨wr.heap.size + 1, 0, none⟩ (.int .i64 (n : Int))).setCell ⟨wr.heap.size + 1, 1, none⟩ (.int .i64 (c : Int))).setCell ⟨wr.heap.size + 1, 2, none⟩ (.slice A5 L'.length c5)).heap[wr.heap.size + 1]? = some (.cells #[.int .i64 (n : Int), .int .i64 (c : Int), .slice A5 L'.length c5] 41 (0, 0)) := put3 j13; have q0 : (((w5.setCell ⟨wr.heap.size + 1, 0, none⟩ (.int .i64 (n : Int))).setCell ⟨wr.heap.size + 1, 1, none⟩ (.int .i64 (c : Int))).setCell ⟨wr.heap.size + 1, 2, none⟩ (.slice A5 L'.length c5)).cell? ⟨wr.heap.size + 1, 0, none⟩ = some (.int .i64 (n : Int)) := (blk_cell i13 0).trans rfl; have q1 : (((w5.setCell ⟨wr.heap.size + 1, 0, none⟩ (.int .i64 (n : Int))).setCell ⟨wr.heap.size + 1, 1, none⟩ (.int .i64 (c : Int))).setCell ⟨wr.heap.size + 1, 2, none⟩ (.slice A5 L'.length c5)).cell? ⟨wr.heap.size + 1, 1, none⟩ = some (.int .i64 (c : Int)) := (blk_cell i13 1).trans rfl; have q2 : (((w5.setCell ⟨wr.heap.size + 1, 0, none⟩ (.int .i64 (n : Int))).setCell ⟨wr.heap.size + 1, 1, none⟩ (.int .i64 (c : Int))).setCell ⟨wr.heap.size + 1, 2, none⟩ (.slice A5 L'.length c5)).cell? ⟨wr.heap.size + 1, 2, none⟩ = some (.slice A5 L'.length c5) := (blk_cell i13 2).trans rfl; have j77 := blk_far (blk_far (blk_far j7 (p := ⟨wr.heap.size + 1, 0, none⟩) HN7.out (.int .i64 (n : Int))) (p := ⟨wr.heap.size + 1, 1, none⟩) HN7.out (.int .i64 (c : Int))) (p := ⟨wr.heap.size + 1, 2, none⟩) HN7.out (.slice A5 L'.length c5); have v0 : (((w5.setCell ⟨wr.heap.size + 1, 0, none⟩ (.int .i64 (n : Int))).setCell ⟨wr.heap.size + 1, 1, none⟩ (.int .i64 (c : Int))).setCell ⟨wr.heap.size + 1, 2, none⟩ (.slice A5 L'.length c5)).cell? ⟨w2.heap.size, 0, none⟩ = some (.int .i64 (n : Int)) := (blk_cell j77 0).trans rfl; have v1 : (((w5.setCell ⟨wr.heap.size + 1, 0, none⟩ (.int .i64 (n : Int))).setCell ⟨wr.heap.size + 1, 1, none⟩ (.int .i64 (c : Int))).setCell ⟨wr.heap.size + 1, 2, none⟩ (.slice A5 L'.length c5)).cell? ⟨w2.heap.size, 1, none⟩ = some (.int .i64 (c : Int)) := (blk_cell j77 1).trans rfl; have v2 : (((w5.setCell ⟨wr.heap.size + 1, 0, none⟩ (.int .i64 (n : Int))).setCell ⟨wr.heap.size + 1, 1, none⟩ (.int .i64 (c : Int))).setCell ⟨wr.heap.size + 1, 2, none⟩ (.slice A5 L'.length c5)).cell? ⟨w2.heap.size, 2, none⟩ = some (.slice A L.length cp) := (blk_cell j77 2).trans rfl; have o0 := blk_frozen j77 0; have o1 := blk_frozen j77 1; have o2 := blk_frozen j77 2; have hn7 := hs13.other j77 (by decide) (by decide) (by decide); have HST7 := Aside0.mk (hs13.set3 j77 (by decide) (by decide) hn7.1 hn7.2 HG7.out (.int .i64 (n : Int)) (.int .i64 (c : Int)) (.slice A5 L'.length c5)); have HK77 : Aside0 (((((((w5.setCell ⟨wr.heap.size + 1, 0, none⟩ (.int .i64 (n : Int))).setCell ⟨wr.heap.size + 1, 1, none⟩ (.int .i64 (c : Int))).setCell ⟨wr.heap.size + 1, 2, none⟩ (.slice A5 L'.length c5)).setCell ⟨w2.heap.size, 0, none⟩ (.int .i64 (n : Int))).setCell ⟨w2.heap.size, 1, none⟩ (.int .i64 (c : Int))).setCell ⟨w2.heap.size, 2, none⟩ (.slice A5 L'.length c5)).heap[w2.heap.size]? = some (.cells #[.int .i64 (n : Int), .int .i64 (c : Int), .slice A5 L'.length c5] 41 (0, 0))) := ⟨put3 j77⟩; clear hst5 j7 j13 hn13 hs13 i13 j77 hn7)) | (go_at_call 8; go_loud ((refine (HP.out g wb _ _ HSTA.out).mono ?_); rintro e1 w4 ⟨rfl, hf4, ho4, hst4⟩; have HST4 := Aside0.mk hst4; have k7 := BFr.blk hf4 HK7.out (by decide); have k10 := BFr.blk hf4 HK10.out (by decide); have k13 := BFr.blk hf4 HK13.out (by decide); have HC7 := Aside0.mk k7; have HC13 := Aside0.mk k13; have z0 : w4.cell? ⟨w2.heap.size, 0, none⟩ = some (.int .i64 (n : Int)) := (blk_cell k7 0).trans rfl; have z1 : w4.cell? ⟨w2.heap.size, 1, none⟩ = some (.int .i64 (c : Int)) := (blk_cell k7 1).trans rfl; have z2 : w4.cell? ⟨w2.heap.size, 2, none⟩ = some (.slice A L.length cp) := (blk_cell k7 2).trans rfl; have y1 : w4.cell? ⟨wr.heap.size, 1, none⟩ = some (.int .i64 xt) := (blk_cell k10 1).trans rfl; have y2 : w4.cell? ⟨wr.heap.size, 2, none⟩ = some (.int .i64 xa) := (blk_cell k10 2).trans rfl; have y3 : w4.cell? ⟨wr.heap.size, 3, none⟩ = some (.int .i64 fr) := (blk_cell k10 3).trans rfl; have y4 : w4.cell? ⟨wr.heap.size, 4, none⟩ = some (.int .i64 tp) := (blk_cell k10 4).trans rfl; have y5 : w4.cell? ⟨wr.heap.size, 5, none⟩ = some (.string tx) := (blk_cell k10 5).trans rfl; clear hf4 ho4 hst4 k7 k10 k13)))
          try clear x0 x1 x2 n0 n1 n2 q0 q1 q2 v0 v1 v2 o0 o1 o2
          try clear z0 z1 z2
          try clear y1 y2 y3 y4 y5
          try clear b0 b1 b2 b3 b4 b5
          try clear a0 a1 a2 a3 a4 a5 s0 s1 s2 r0 r1 r2 r3 r4 r5
          go_loopg [16] 9 (fun kq v16 w' => ∃ (k : Nat) (kk : Int), v16 = .int .i64 kk ∧ Aside0 (kk = (k : Int) - 2) ∧ Aside0 (k + kq = 9) ∧ Aside0 (St wb w' g (placesL n c) (mL L') (.slice A5 L'.length c5) L') ∧ Aside0 (w'.heap[w2.heap.size]? = some (.cells #[.int .i64 (n : Int), .int .i64 (c : Int), .slice A5 L'.length c5] 41 (0, 0))))
          case atStart => exact ⟨0, -2, rfl, ⟨rfl⟩, ⟨rfl⟩, HST7, HK77⟩
          case round =>
            clear HST7 HK77
            obtain ⟨k, kk, rfl, HKK, HKQ, HSTk, HKk⟩ := hrel
            have hkk := HKK.out
            have hkq := HKQ.out
            cases gk with
            | zero =>
              have m1 : decide (kk < 7) = false := decide_eq_false (by omega)
              clear hkk hkq
              go_wp2
              go_roundg k1
              case measure => omega
              case rel => exact ⟨i + 1, L', _, by rw [HW.out], HI2, ⟨by have h1 := HLL.out; have h2 := HLL3.out; omega⟩, HSTk, HKk⟩
            | succ k2 =>
              have m1 : decide (kk < 7) = true := decide_eq_true (by omega)
              have HWK : Aside0 (wrap64 (kk + 1) = kk + 1) := ⟨by unfold wrap64; omega⟩
              have HK1 : Aside0 (kk + 1 = ((k + 1 : Nat) : Int) - 2) := ⟨by omega⟩
              have HQ1 : Aside0 (k + 1 + k2 = 9) := ⟨by omega⟩
              obtain ⟨r1, hr1⟩ : ∃ r1 : Int, ((mL L' kk).length : Int) = r1 := ⟨_, rfl⟩
              obtain ⟨r2, hr2⟩ : ∃ r2 : Int, ((mL L' (wrap64 (100 + kk))).length : Int) = r2 := ⟨_, rfl⟩
              have hl3 : L'.length < 199 := by have h1 := HLL3.out; have h2 := HLL.out; have h3 := HI2.out; have h4 := HN.out; omega
              have HFr1 : Aside0 (sorrelref15_Waits.f 201 n c L' kk = some r1) := ⟨by rw [waits_is n c kk L' 201 hl3 (by decide), hr1]⟩
              have HFr2 : Aside0 (sorrelref15_Waits.f 201 n c L' (wrap64 (100 + kk)) = some r2) := ⟨by rw [waits_is n c _ L' 201 hl3 (by decide), hr2]⟩
              have HRr1 := Aside0.mk hr1
              have HRr2 := Aside0.mk hr2
              have q1 : (r1 != r1) = false := by simp
              have q2 : (r2 != r2) = false := by simp
              have f4 : wr.drew.heap[w2.heap.size]? = some (.cells #[.int .i64 (n : Int), .int .i64 (c : Int), .slice A5 L'.length c5] 41 (0, 0)) := HKk.out
              have f0 : wr.drew.cell? ⟨w2.heap.size, 0, none⟩ = some (.int .i64 (n : Int)) := (blk_cell f4 0).trans rfl
              have f1 : wr.drew.cell? ⟨w2.heap.size, 1, none⟩ = some (.int .i64 (c : Int)) := (blk_cell f4 1).trans rfl
              have f2 : wr.drew.cell? ⟨w2.heap.size, 2, none⟩ = some (.slice A5 L'.length c5) := (blk_cell f4 2).trans rfl
              have f3 := HSTk.out.step (below_drew (Below.refl _ _))
              clear hkk hkq hr1 hr2 hl3
              go_wp2
              refine start_ (n := 18) (S := fun w' => w'.cell? ⟨w2.heap.size, 0, none⟩ = some (.int .i64 (n : Int)) ∧ w'.cell? ⟨w2.heap.size, 1, none⟩ = some (.int .i64 (c : Int)) ∧ w'.cell? ⟨w2.heap.size, 2, none⟩ = some (.slice A5 L'.length c5) ∧ St wb w' g (placesL n c) (mL L') (.slice A5 L'.length c5) L' ∧ w'.heap[w2.heap.size]? = some (.cells #[.int .i64 (n : Int), .int .i64 (c : Int), .slice A5 L'.length c5] 41 (0, 0))) (ds := []) #[false, false, false, false, false, false, false, false, false, false, false, false, false, false, false, false, false, false] (by kernel_rfl) rfl rfl ⟨f0, f1, f2, f3, f4⟩ (fun hHeld => ?_)
              refine pure_ (i := 0) (N := some 157) (v := ?_) (a' := ?_) #[true, false, false, false, false, false, false, false, false, false, false, false, false, false, false, false, false, false] rfl rfl (by kernel_rfl) (fun _ _ _ h => h) (Or.inl ⟨by rfl, ?_⟩) ?_ ?_
              rotate_left
              · intro w'
                go_simp
                with_reducible rfl
              rotate_left
              · simp only [Act.put, List.setIfInBounds_toArray, List.set_cons_zero, List.set_cons_succ, i64_w, i32_w]
                rfl
              refine pure_ (i := 1) (N := some 158) (v := ?_) (a' := ?_) #[true, true, false, false, false, false, false, false, false, false, false, false, false, false, false, false, false, false] rfl rfl (by kernel_rfl) (fun _ _ _ h => h) (Or.inl ⟨by rfl, ?_⟩) ?_ ?_
              rotate_left
              · intro w'
                go_simp
                with_reducible rfl
              rotate_left
              · simp only [Act.put, List.setIfInBounds_toArray, List.set_cons_zero, List.set_cons_succ, i64_w, i32_w]
                rfl
              refine pure_ (i := 4) (N := some 161) (v := ?_) (a' := ?_) #[true, true, false, false, true, false, false, false, false, false, false, false, false, false, false, false, false, false] rfl rfl (by kernel_rfl) (fun _ _ _ h => h) (Or.inl ⟨by rfl, ?_⟩) ?_ ?_
              rotate_left
              · intro w'
                go_simp
                with_reducible rfl
              rotate_left
              · simp only [Act.put, List.setIfInBounds_toArray, List.set_cons_zero, List.set_cons_succ, i64_w, i32_w]
                rfl
              refine take_ (i := 3) (N := some 160) (v := ?_) (a' := ?_) #[true, true, false, true, true, false, false, false, false, false, false, false, false, false, false, false, false, false] rfl rfl (by kernel_rfl) (fun _ _ _ h => h) (Or.inl ⟨by rfl, ?_⟩) hHeld ?_ ?_
              rotate_left
              · rintro w' ⟨s0, s1, s2, s3, s4⟩
                go_simp
                with_reducible rfl
              rotate_left
              · simp only [Act.put, List.setIfInBounds_toArray, List.set_cons_zero, List.set_cons_succ, i64_w, i32_w]
                rfl
              refine one_ (i := 2) (N := some 159) #[true, true, true, true, true, false, false, false, false, false, false, false, false, false, false, false, false, false] rfl rfl (by kernel_rfl) (by decide) (fun K hK => ?_)
              refine goes_ Try.func10 (by kernel_rfl) rfl #[.pointer (some ⟨g, 0, none⟩), .int .i64 kk] (by rfl) rfl rfl (by simp only [List.map_toArray, List.map_cons, List.map_nil]; rfl) ?_
              with_reducible refine (waits_lit _ kk r1 _ hHeld.2.2.2.1.bag HRr1.out).mono ?_
              rintro e1 _ ⟨rfl, rfl⟩
              refine ⟨_, rfl, ?_⟩
              refine hK.out _ _ ⟨hHeld.1, hHeld.2.1, hHeld.2.2.1, hHeld.2.2.2.1, hHeld.2.2.2.2⟩ (fun hHeld => ?_)
              clear hK K
              refine norm_ (a' := ?_) ?_ ?_
              rotate_left
              · show Act.put _ (some 159) _ = _
                simp only [Act.put, List.setIfInBounds_toArray, List.set_cons_zero, List.set_cons_succ, i64_w, i32_w]
                rfl
              refine one_ (i := 5) (N := some 162) #[true, true, true, true, true, true, false, false, false, false, false, false, false, false, false, false, false, false] rfl rfl (by kernel_rfl) (by decide) (fun K hK => ?_)
              refine goes_ Try.func22 (by kernel_rfl) rfl #[.agg #[.int .i64 (n : Int), .int .i64 (c : Int), .slice A5 L'.length c5], .int .i64 kk] (by rfl) rfl rfl (by simp only [List.map_toArray, List.map_cons, List.map_nil]; rfl) ?_
              with_reducible refine (sorrelref15_Waits.calls 201 n c A5 c5 L' kk r1 _ (Kd.R_reads' hHeld.2.2.2.1.row).2.2 (Kd.R_reads' hHeld.2.2.2.1.row).2.1 HFr1.out).mono ?_
              rintro e1 w8 ⟨rfl, hb8⟩
              refine ⟨_, rfl, ?_⟩
              refine hK.out _ _ ⟨(hb8.cell (World.block_lt_of_cell? _ _ hHeld.1)).trans hHeld.1, (hb8.cell (World.block_lt_of_cell? _ _ hHeld.2.1)).trans hHeld.2.1, (hb8.cell (World.block_lt_of_cell? _ _ hHeld.2.2.1)).trans hHeld.2.2.1, hHeld.2.2.2.1.step hb8, blk_below hHeld.2.2.2.2 hb8⟩ (fun hHeld => ?_)
              clear hK K
              refine norm_ (a' := ?_) ?_ ?_
              rotate_left
              · show Act.put _ (some 162) _ = _
                simp only [Act.put, List.setIfInBounds_toArray, List.set_cons_zero, List.set_cons_succ, i64_w, i32_w]
                rfl
              refine pure_ (i := 6) (N := some 163) (v := ?_) (a' := ?_) #[true, true, true, true, true, true, true, false, false, false, false, false, false, false, false, false, false, false] rfl rfl (by kernel_rfl) (fun _ _ _ h => h) (Or.inl ⟨by rfl, ?_⟩) ?_ ?_
              rotate_left
              · intro w'
                go_simp
                with_reducible rfl
              rotate_left
              · simp only [Act.put, List.setIfInBounds_toArray, List.set_cons_zero, List.set_cons_succ, i64_w, i32_w]
                rfl
              refine pure_ (i := 7) (N := some 164) (v := ?_) (a' := ?_) #[true, true, true, true, true, true, true, true, false, false, false, false, false, false, false, false, false, false] rfl rfl (by kernel_rfl) (fun _ _ _ h => h) (Or.inl ⟨by rfl, ?_⟩) ?_ ?_
              rotate_left
              · intro w'
                go_simp
                with_reducible rfl
              rotate_left
              · simp only [Act.put, List.setIfInBounds_toArray, List.set_cons_zero, List.set_cons_succ, i64_w, i32_w]
                rfl
              refine pure_ (i := 8) (N := some 165) (v := ?_) (a' := ?_) #[true, true, true, true, true, true, true, true, true, false, false, false, false, false, false, false, false, false] rfl rfl (by kernel_rfl) (fun _ _ _ h => h) (Or.inl ⟨by rfl, ?_⟩) ?_ ?_
              rotate_left
              · intro w'
                go_simp
                with_reducible rfl
              rotate_left
              · simp only [Act.put, List.setIfInBounds_toArray, List.set_cons_zero, List.set_cons_succ, i64_w, i32_w]
                rfl
              refine pure_ (i := 9) (N := some 166) (v := ?_) (a' := ?_) #[true, true, true, true, true, true, true, true, true, true, false, false, false, false, false, false, false, false] rfl rfl (by kernel_rfl) (fun _ _ _ h => h) (Or.inl ⟨by rfl, ?_⟩) ?_ ?_
              rotate_left
              · intro w'
                go_simp
                with_reducible rfl
              rotate_left
              · simp only [Act.put, List.setIfInBounds_toArray, List.set_cons_zero, List.set_cons_succ, i64_w, i32_w]
                rfl
              refine pure_ (i := 10) (N := some 167) (v := ?_) (a' := ?_) #[true, true, true, true, true, true, true, true, true, true, true, false, false, false, false, false, false, false] rfl rfl (by kernel_rfl) (fun _ _ _ h => h) (Or.inl ⟨by rfl, ?_⟩) ?_ ?_
              rotate_left
              · intro w'
                go_simp
                with_reducible rfl
              rotate_left
              · simp only [Act.put, List.setIfInBounds_toArray, List.set_cons_zero, List.set_cons_succ, i64_w, i32_w]
                rfl
              refine pure_ (i := 13) (N := some 170) (v := ?_) (a' := ?_) #[true, true, true, true, true, true, true, true, true, true, true, false, false, true, false, false, false, false] rfl rfl (by kernel_rfl) (fun _ _ _ h => h) (Or.inl ⟨by rfl, ?_⟩) ?_ ?_
              rotate_left
              · intro w'
                go_simp
                with_reducible rfl
              rotate_left
              · simp only [Act.put, List.setIfInBounds_toArray, List.set_cons_zero, List.set_cons_succ, i64_w, i32_w]
                rfl
              refine pure_ (i := 14) (N := some 171) (v := ?_) (a' := ?_) #[true, true, true, true, true, true, true, true, true, true, true, false, false, true, true, false, false, false] rfl rfl (by kernel_rfl) (fun _ _ _ h => h) (Or.inl ⟨by rfl, ?_⟩) ?_ ?_
              rotate_left
              · intro w'
                go_simp
                with_reducible rfl
              rotate_left
              · simp only [Act.put, List.setIfInBounds_toArray, List.set_cons_zero, List.set_cons_succ, i64_w, i32_w]
                rfl
              refine take_ (i := 12) (N := some 169) (v := ?_) (a' := ?_) #[true, true, true, true, true, true, true, true, true, true, true, false, true, true, true, false, false, false] rfl rfl (by kernel_rfl) (fun _ _ _ h => h) (Or.inl ⟨by rfl, ?_⟩) hHeld ?_ ?_
              rotate_left
              · rintro w' ⟨s0, s1, s2, s3, s4⟩
                go_simp
                with_reducible rfl
              rotate_left
              · simp only [Act.put, List.setIfInBounds_toArray, List.set_cons_zero, List.set_cons_succ, i64_w, i32_w]
                rfl
              refine one_ (i := 11) (N := some 168) #[true, true, true, true, true, true, true, true, true, true, true, true, true, true, true, false, false, false] rfl rfl (by kernel_rfl) (by decide) (fun K hK => ?_)
              refine goes_ Try.func10 (by kernel_rfl) rfl #[.pointer (some ⟨g, 0, none⟩), .int .i64 (wrap64 (100 + kk))] (by rfl) rfl rfl (by simp only [List.map_toArray, List.map_cons, List.map_nil]; rfl) ?_
              with_reducible refine (waits_lit _ (wrap64 (100 + kk)) r2 _ hHeld.2.2.2.1.bag HRr2.out).mono ?_
              rintro e1 _ ⟨rfl, rfl⟩
              refine ⟨_, rfl, ?_⟩
              refine hK.out _ _ ⟨hHeld.1, hHeld.2.1, hHeld.2.2.1, hHeld.2.2.2.1, hHeld.2.2.2.2⟩ (fun hHeld => ?_)
              clear hK K
              refine norm_ (a' := ?_) ?_ ?_
              rotate_left
              · show Act.put _ (some 168) _ = _
                simp only [Act.put, List.setIfInBounds_toArray, List.set_cons_zero, List.set_cons_succ, i64_w, i32_w]
                rfl
              refine one_ (i := 15) (N := some 172) #[true, true, true, true, true, true, true, true, true, true, true, true, true, true, true, true, false, false] rfl rfl (by kernel_rfl) (by decide) (fun K hK => ?_)
              refine goes_ Try.func22 (by kernel_rfl) rfl #[.agg #[.int .i64 (n : Int), .int .i64 (c : Int), .slice A5 L'.length c5], .int .i64 (wrap64 (100 + kk))] (by rfl) rfl rfl (by simp only [List.map_toArray, List.map_cons, List.map_nil]; rfl) ?_
              with_reducible refine (sorrelref15_Waits.calls 201 n c A5 c5 L' (wrap64 (100 + kk)) r2 _ (Kd.R_reads' hHeld.2.2.2.1.row).2.2 (Kd.R_reads' hHeld.2.2.2.1.row).2.1 HFr2.out).mono ?_
              rintro e1 w8 ⟨rfl, hb8⟩
              refine ⟨_, rfl, ?_⟩
              refine hK.out _ _ ⟨(hb8.cell (World.block_lt_of_cell? _ _ hHeld.1)).trans hHeld.1, (hb8.cell (World.block_lt_of_cell? _ _ hHeld.2.1)).trans hHeld.2.1, (hb8.cell (World.block_lt_of_cell? _ _ hHeld.2.2.1)).trans hHeld.2.2.1, hHeld.2.2.2.1.step hb8, blk_below hHeld.2.2.2.2 hb8⟩ (fun hHeld => ?_)
              clear hK K
              refine norm_ (a' := ?_) ?_ ?_
              rotate_left
              · show Act.put _ (some 172) _ = _
                simp only [Act.put, List.setIfInBounds_toArray, List.set_cons_zero, List.set_cons_succ, i64_w, i32_w]
                rfl
              refine pure_ (i := 16) (N := some 173) (v := ?_) (a' := ?_) #[true, true, true, true, true, true, true, true, true, true, true, true, true, true, true, true, true, false] rfl rfl (by kernel_rfl) (fun _ _ _ h => h) (Or.inl ⟨by rfl, ?_⟩) ?_ ?_
              rotate_left
              · intro w'
                go_simp
                with_reducible rfl
              rotate_left
              · simp only [Act.put, List.setIfInBounds_toArray, List.set_cons_zero, List.set_cons_succ, i64_w, i32_w]
                rfl
              refine pure_ (i := 17) (N := some 174) (v := ?_) (a' := ?_) #[true, true, true, true, true, true, true, true, true, true, true, true, true, true, true, true, true, true] rfl rfl (by kernel_rfl) (fun _ _ _ h => h) (Or.inl ⟨by rfl, ?_⟩) ?_ ?_
              rotate_left
              · intro w'
                go_simp
                with_reducible rfl
              rotate_left
              · simp only [Act.put, List.setIfInBounds_toArray, List.set_cons_zero, List.set_cons_succ, i64_w, i32_w]
                rfl
              refine done_ (by kernel_rfl) ?_
              obtain ⟨-, -, -, hst9, hk9⟩ := hHeld
              have HST9 := Aside0.mk hst9
              have HK9 := Aside0.mk hk9
              clear hst9 hk9 f0 f1 f2 f3 f4
              go_wp2
              go_roundg k2
              case measure => omega
              case rel => exact ⟨k + 1, kk + 1, by rw [HWK.out], HK1, HQ1, HST9, HK9⟩
        · have g1 : (xk == 1) = false := beq_eq_false_iff_ne.mpr e1
          by_cases e2 : xk = 2
          · have g2 : (xk == 2) = true := beq_iff_eq.mpr e2
            clear e1 e2
            obtain ⟨e, L', y0, y1, y2, hL', hf, hcall⟩ := take_both n c HH.out.2.1 L xt xa HLL2.out HB.out.2.1.2 HB.out.2.2.1.1 HB.out.2.2.1.2
            try dsimp only at hcall hf
            have HP := Aside0.mk hcall
            have HPF := Aside0.mk hf
            have HLL3 := Aside0.mk hL'
            have qe : (e != e) = false := by simp
            clear hcall hf hL'
            have HSZ : Aside0 (wb.heap.size ≤ wr.heap.size) := ⟨HST.out.size⟩
            have HN7 : Aside0 (w2.heap.size ≠ wr.heap.size + 1) := ⟨by have := HNE.out; omega⟩
            have b0 : ((wr.alloc (.cells #[.int .i64 xk, .int .i64 xt, .int .i64 xa, .int .i64 fr, .int .i64 tp, .string tx] 48)).alloc (.cells #[.int .i64 (n : Int), .int .i64 (c : Int), .slice A L.length cp] 41)).cell? ⟨wr.heap.size, 0, none⟩ = some (.int .i64 xk) := (blk_cell HK10.out 0).trans rfl
            have hsz : ((wr.alloc (.cells #[.int .i64 xk, .int .i64 xt, .int .i64 xa, .int .i64 fr, .int .i64 tp, .string tx] 48)).alloc (.cells #[.int .i64 (n : Int), .int .i64 (c : Int), .slice A L.length cp] 41)).heap.size = wr.heap.size + 1 + 1 := by simp
            have h14 := heap_alloc_new ((wr.alloc (.cells #[.int .i64 xk, .int .i64 xt, .int .i64 xa, .int .i64 fr, .int .i64 tp, .string tx] 48)).alloc (.cells #[.int .i64 (n : Int), .int .i64 (c : Int), .slice A L.length cp] 41)) (.cells #[.int .i64 0, .int .i64 0, .string ⟨#[]⟩] 30)
            have h15 := heap_alloc_new (((wr.alloc (.cells #[.int .i64 xk, .int .i64 xt, .int .i64 xa, .int .i64 fr, .int .i64 tp, .string tx] 48)).alloc (.cells #[.int .i64 (n : Int), .int .i64 (c : Int), .slice A L.length cp] 41)).alloc (.cells #[.int .i64 0, .int .i64 0, .string ⟨#[]⟩] 30)) (.cells #[.int .i64 0, .int .i64 0, .string ⟨#[]⟩] 30)
            have n14 := Bag.not_new HSTA.out.bag (.cells #[.int .i64 0, .int .i64 0, .string ⟨#[]⟩] 30)
            have hst1 := HSTA.out.step (below_alloc (Below.refl _ _) (.cells #[.int .i64 0, .int .i64 0, .string ⟨#[]⟩] 30))
            have n15 := Bag.not_new hst1.bag (.cells #[.int .i64 0, .int .i64 0, .string ⟨#[]⟩] 30)
            have n14b := (Outs.of_below hst1.bag (below_alloc (Below.refl _ _) (.cells #[.int .i64 0, .int .i64 0, .string ⟨#[]⟩] 30)) _ _ h14 n14).2
            have HSTT := Aside0.mk (hst1.step (below_alloc (Below.refl _ _) (.cells #[.int .i64 0, .int .i64 0, .string ⟨#[]⟩] 30)))
            have hsz2 : (((wr.alloc (.cells #[.int .i64 xk, .int .i64 xt, .int .i64 xa, .int .i64 fr, .int .i64 tp, .string tx] 48)).alloc (.cells #[.int .i64 (n : Int), .int .i64 (c : Int), .slice A L.length cp] 41)).alloc (.cells #[.int .i64 0, .int .i64 0, .string ⟨#[]⟩] 30)).heap.size = wr.heap.size + 1 + 1 + 1 := by simp
            rw [hsz2] at h15 n15
            have h14b := blk_alloc h14 (.cells #[.int .i64 0, .int .i64 0, .string ⟨#[]⟩] 30)
            rw [hsz] at h14b n14b
            have H14 := Aside0.mk h14b
            have H15 := Aside0.mk h15
            have N14 := Aside0.mk n14b
            have N15 := Aside0.mk n15
            have HT7 := Aside0.mk (blk_alloc (blk_alloc HK7.out (.cells #[.int .i64 0, .int .i64 0, .string ⟨#[]⟩] 30)) (.cells #[.int .i64 0, .int .i64 0, .string ⟨#[]⟩] 30))
            have HT10 := Aside0.mk (blk_alloc (blk_alloc HK10.out (.cells #[.int .i64 0, .int .i64 0, .string ⟨#[]⟩] 30)) (.cells #[.int .i64 0, .int .i64 0, .string ⟨#[]⟩] 30))
            have HT13 := Aside0.mk (blk_alloc (blk_alloc HK13.out (.cells #[.int .i64 0, .int .i64 0, .string ⟨#[]⟩] 30)) (.cells #[.int .i64 0, .int .i64 0, .string ⟨#[]⟩] 30))
            have HOW : Aside0 (∀ k, (Value.slice A L.length cp).ownBlock = some k → k < wr.heap.size) := ⟨Kd.R_lt HST.out.row⟩
            have HOA : Aside0 (∀ j, wr.heap.size ≤ j → (Value.slice A L.length cp).ownBlock ≠ some j) := ⟨fun j hj e1 => by have := HOW.out j e1; omega⟩
            clear hsz hsz2 h14 h15 n14 n15 hst1 n14b h14b
            have b1 : ((((wr.alloc (.cells #[.int .i64 xk, .int .i64 xt, .int .i64 xa, .int .i64 fr, .int .i64 tp, .string tx] 48)).alloc (.cells #[.int .i64 (n : Int), .int .i64 (c : Int), .slice A L.length cp] 41)).alloc (.cells #[.int .i64 0, .int .i64 0, .string ⟨#[]⟩] 30)).alloc (.cells #[.int .i64 0, .int .i64 0, .string ⟨#[]⟩] 30)).cell? ⟨wr.heap.size, 1, none⟩ = some (.int .i64 xt) := (blk_cell HT10.out 1).trans rfl
            have b2 : ((((wr.alloc (.cells #[.int .i64 xk, .int .i64 xt, .int .i64 xa, .int .i64 fr, .int .i64 tp, .string tx] 48)).alloc (.cells #[.int .i64 (n : Int), .int .i64 (c : Int), .slice A L.length cp] 41)).alloc (.cells #[.int .i64 0, .int .i64 0, .string ⟨#[]⟩] 30)).alloc (.cells #[.int .i64 0, .int .i64 0, .string ⟨#[]⟩] 30)).cell? ⟨wr.heap.size, 2, none⟩ = some (.int .i64 xa) := (blk_cell HT10.out 2).trans rfl
            go_wp2_with (first | (go_at_call 18; go_loud ((refine (sorrelref15_Take.calls 201 n c (fun k => some k = (Value.slice A L.length cp).ownBlock) (.slice A L.length cp) L xt xa n c L' y0 y1 y2 e wb _ HST4.out.below (Kd.R_tight rfl HST4.out.row) HPF.out).mono ?_); rintro e1 w5 ⟨v5, rfl, hR5, hb5, hk5⟩; obtain ⟨A5, c5, e5⟩ := Kd.R_slice hR5; subst e5; have hst5 := HST4.out.ref hR5 hb5 hk5; have j7 := HST4.out.ref_blk hk5 HC7.out (by decide); have j13 := HST4.out.ref_blk hk5 HC13.out (by decide); have j14 := (hk5.2 (wr.heap.size + 1 + 1) (blk_lt HC14.out) (fun e1 => HOA.out _ (by omega) e1.symm)).trans HC14.out; have j15 := (hk5.2 (wr.heap.size + 1 + 1 + 1) (blk_lt HC15.out) (fun e1 => HOA.out _ (by omega) e1.symm)).trans HC15.out; have m15 := HST4.out.ref_ni hk5 N15b.out; have own15 : (Value.slice A5 L'.length c5).ownBlock ≠ some (wr.heap.size + 1 + 1 + 1) := fun e1 => (hR5.1 _ e1).elim (fun h_ => HOA.out _ (by omega) h_.symm) (fun h_ => absurd (blk_lt HC15.out) (Nat.not_lt.2 h_)); clear hR5 hb5 hk5; have x0 : w5.cell? ⟨wr.heap.size + 1, 0, none⟩ = some (.int .i64 (n : Int)) := (blk_cell j13 0).trans rfl; have x1 : w5.cell? ⟨wr.heap.size + 1, 1, none⟩ = some (.int .i64 (c : Int)) := (blk_cell j13 1).trans rfl; have x2 : w5.cell? ⟨wr.heap.size + 1, 2, none⟩ = some (.slice A L.length cp) := (blk_cell j13 2).trans rfl; have n0 := blk_frozen j13 0; have n1 := blk_frozen j13 1; have n2 := blk_frozen j13 2; have hn13 := hst5.other j13 (by decide) (by decide) (by decide); have hs13 := hst5.set3 j13 (by decide) (by decide) hn13.1 hn13.2 (Nat.le_trans HSZ.out (Nat.le_succ _)) (.int .i64 (n : Int)) (.int .i64 (c : Int)) (.slice A5 L'.length c5); have m15b := hst5.set3_ni j13 (by decide) (by decide) hn13.1 hn13.2 (Nat.le_trans HSZ.out (Nat.le_succ _)) (.int .i64 (n : Int)) (.int .i64 (c : Int)) (.slice A5 L'.length c5) m15; have hne := HNE.out; have p13 : (((w5.setCell ⟨wr.heap.size + 1, 0, none⟩ (.int .i64 (n : Int))).setCell ⟨wr.heap.size + 1, 1, none⟩ (.int .i64 (c : Int))).setCell ⟨wr.heap.size + 1, 2, none⟩ (.slice A5 L'.length c5)).heap[wr.heap.size + 1]? = some (.cells #[.int .i64 (n : Int), .int .i64 (c : Int), .slice A5 L'.length c5] 41 (0, 0)) := put3 j13; have p7 := blk_far3 j7 (nb := wr.heap.size + 1) (by omega) (.int .i64 (n : Int)) (.int .i64 (c : Int)) (.slice A5 L'.length c5); have p14 := blk_far3 j14 (nb := wr.heap.size + 1) (by omega) (.int .i64 (n : Int)) (.int .i64 (c : Int)) (.slice A5 L'.length c5); have p15 := blk_far3 j15 (nb := wr.heap.size + 1) (by omega) (.int .i64 (n : Int)) (.int .i64 (c : Int)) (.slice A5 L'.length c5); have ga0 : (((w5.setCell ⟨wr.heap.size + 1, 0, none⟩ (.int .i64 (n : Int))).setCell ⟨wr.heap.size + 1, 1, none⟩ (.int .i64 (c : Int))).setCell ⟨wr.heap.size + 1, 2, none⟩ (.slice A5 L'.length c5)).cell? ⟨wr.heap.size + 1 + 1 + 1, 0, none⟩ = some (.int .i64 0) := (blk_cell p15 0).trans rfl; have ga1 : (((w5.setCell ⟨wr.heap.size + 1, 0, none⟩ (.int .i64 (n : Int))).setCell ⟨wr.heap.size + 1, 1, none⟩ (.int .i64 (c : Int))).setCell ⟨wr.heap.size + 1, 2, none⟩ (.slice A5 L'.length c5)).cell? ⟨wr.heap.size + 1 + 1 + 1, 1, none⟩ = some (.int .i64 0) := (blk_cell p15 1).trans rfl; have ga2 : (((w5.setCell ⟨wr.heap.size + 1, 0, none⟩ (.int .i64 (n : Int))).setCell ⟨wr.heap.size + 1, 1, none⟩ (.int .i64 (c : Int))).setCell ⟨wr.heap.size + 1, 2, none⟩ (.slice A5 L'.length c5)).cell? ⟨wr.heap.size + 1 + 1 + 1, 2, none⟩ = some (.string ⟨#[]⟩) := (blk_cell p15 2).trans rfl; have wf0 : (((w5.setCell ⟨wr.heap.size + 1, 0, none⟩ (.int .i64 (n : Int))).setCell ⟨wr.heap.size + 1, 1, none⟩ (.int .i64 (c : Int))).setCell ⟨wr.heap.size + 1, 2, none⟩ (.slice A5 L'.length c5)).frozen? ⟨wr.heap.size + 1 + 1 + 1, 0, none⟩ = false := blk_frozen p15 0; have wf1 : (((w5.setCell ⟨wr.heap.size + 1, 0, none⟩ (.int .i64 (n : Int))).setCell ⟨wr.heap.size + 1, 1, none⟩ (.int .i64 (c : Int))).setCell ⟨wr.heap.size + 1, 2, none⟩ (.slice A5 L'.length c5)).frozen? ⟨wr.heap.size + 1 + 1 + 1, 1, none⟩ = false := blk_frozen p15 1; have wf2 : (((w5.setCell ⟨wr.heap.size + 1, 0, none⟩ (.int .i64 (n : Int))).setCell ⟨wr.heap.size + 1, 1, none⟩ (.int .i64 (c : Int))).setCell ⟨wr.heap.size + 1, 2, none⟩ (.slice A5 L'.length c5)).frozen? ⟨wr.heap.size + 1 + 1 + 1, 2, none⟩ = false := blk_frozen p15 2; have hs15 := hs13.set3 p15 (by decide) (by decide) m15b own15 (Nat.le_trans HSZ.out (by omega)) (.int .i64 y0) (.int .i64 y1) (.string y2); have r15 : ((((((w5.setCell ⟨wr.heap.size + 1, 0, none⟩ (.int .i64 (n : Int))).setCell ⟨wr.heap.size + 1, 1, none⟩ (.int .i64 (c : Int))).setCell ⟨wr.heap.size + 1, 2, none⟩ (.slice A5 L'.length c5)).setCell ⟨wr.heap.size + 1 + 1 + 1, 0, none⟩ (.int .i64 y0)).setCell ⟨wr.heap.size + 1 + 1 + 1, 1, none⟩ (.int .i64 y1)).setCell ⟨wr.heap.size + 1 + 1 + 1, 2, none⟩ (.string y2)).heap[wr.heap.size + 1 + 1 + 1]? = some (.cells #[.int .i64 y0, .int .i64 y1, .string y2] 30 (0, 0)) := put3 p15; have r7 := blk_far3 p7 (nb := wr.heap.size + 1 + 1 + 1) (by omega) (.int .i64 y0) (.int .i64 y1) (.string y2); have r13 := blk_far3 p13 (nb := wr.heap.size + 1 + 1 + 1) (by omega) (.int .i64 y0) (.int .i64 y1) (.string y2); have r14 := blk_far3 p14 (nb := wr.heap.size + 1 + 1 + 1) (by omega) (.int .i64 y0) (.int .i64 y1) (.string y2); have fa0 : ((((((w5.setCell ⟨wr.heap.size + 1, 0, none⟩ (.int .i64 (n : Int))).setCell ⟨wr.heap.size + 1, 1, none⟩ (.int .i64 (c : Int))).setCell ⟨wr.heap.size + 1, 2, none⟩ (.slice A5 L'.length c5)).setCell ⟨wr.heap.size + 1 + 1 + 1, 0, none⟩ (.int .i64 y0)).setCell ⟨wr.heap.size + 1 + 1 + 1, 1, none⟩ (.int .i64 y1)).setCell ⟨wr.heap.size + 1 + 1 + 1, 2, none⟩ (.string y2)).cell? ⟨wr.heap.size + 1 + 1, 0, none⟩ = some (.int .i64 y0) := (blk_cell r14 0).trans rfl; have fa1 : ((((((w5.setCell ⟨wr.heap.size + 1, 0, none⟩ (.int .i64 (n : Int))).setCell ⟨wr.heap.size + 1, 1, none⟩ (.int .i64 (c : Int))).setCell ⟨wr.heap.size + 1, 2, none⟩ (.slice A5 L'.length c5)).setCell ⟨wr.heap.size + 1 + 1 + 1, 0, none⟩ (.int .i64 y0)).setCell ⟨wr.heap.size + 1 + 1 + 1, 1, none⟩ (.int .i64 y1)).setCell ⟨wr.heap.size + 1 + 1 + 1, 2, none⟩ (.string y2)).cell? ⟨wr.heap.size + 1 + 1, 1, none⟩ = some (.int .i64 y1) := (blk_cell r14 1).trans rfl; have fa2 : ((((((w5.setCell ⟨wr.heap.size + 1, 0, none⟩ (.int .i64 (n : Int))).setCell ⟨wr.heap.size + 1, 1, none⟩ (.int .i64 (c : Int))).setCell ⟨wr.heap.size + 1, 2, none⟩ (.slice A5 L'.length c5)).setCell ⟨wr.heap.size + 1 + 1 + 1, 0, none⟩ (.int .i64 y0)).setCell ⟨wr.heap.size + 1 + 1 + 1, 1, none⟩ (.int .i64 y1)).setCell ⟨wr.heap.size + 1 + 1 + 1, 2, none⟩ (.string y2)).cell? ⟨wr.heap.size + 1 + 1, 2, none⟩ = some (.string y2) := (blk_cell r14 2).trans rfl; have fb0 : ((((((w5.setCell ⟨wr.heap.size + 1, 0, none⟩ (.int .i64 (n : Int))).setCell ⟨wr.heap.size + 1, 1, none⟩ (.int .i64 (c : Int))).setCell ⟨wr.heap.size + 1, 2, none⟩ (.slice A5 L'.length c5)).setCell ⟨wr.heap.size + 1 + 1 + 1, 0, none⟩ (.int .i64 y0)).setCell ⟨wr.heap.size + 1 + 1 + 1, 1, none⟩ (.int .i64 y1)).setCell ⟨wr.heap.size + 1 + 1 + 1, 2, none⟩ (.string y2)).cell? ⟨wr.heap.size + 1 + 1 + 1, 0, none⟩ = some (.int .i64 y0) := (blk_cell r15 0).trans rfl; have fb1 : ((((((w5.setCell ⟨wr.heap.size + 1, 0, none⟩ (.int .i64 (n : Int))).setCell ⟨wr.heap.size + 1, 1, none⟩ (.int .i64 (c : Int))).setCell ⟨wr.heap.size + 1, 2, none⟩ (.slice A5 L'.length c5)).setCell ⟨wr.heap.size + 1 + 1 + 1, 0, none⟩ (.int .i64 y0)).setCell ⟨wr.heap.size + 1 + 1 + 1, 1, none⟩ (.int .i64 y1)).setCell ⟨wr.heap.size + 1 + 1 + 1, 2, none⟩ (.string y2)).cell? ⟨wr.heap.size + 1 + 1 + 1, 1, none⟩ = some (.int .i64 y1) := (blk_cell r15 1).trans rfl; have fb2 : ((((((w5.setCell ⟨wr.heap.size + 1, 0, none⟩ (.int .i64 (n : Int))).setCell ⟨wr.heap.size + 1, 1, none⟩ (.int .i64 (c : Int))).setCell ⟨wr.heap.size + 1, 2, none⟩ (.slice A5 L'.length c5)).setCell ⟨wr.heap.size + 1 + 1 + 1, 0, none⟩ (.int .i64 y0)).setCell ⟨wr.heap.size + 1 + 1 + 1, 1, none⟩ (.int .i64 y1)).setCell ⟨wr.heap.size + 1 + 1 + 1, 2, none⟩ (.string y2)).cell? ⟨wr.heap.size + 1 + 1 + 1, 2, none⟩ = some (.string y2) := (blk_cell r15 2).trans rfl; have q0 : ((((((w5.setCell ⟨wr.heap.size + 1, 0, none⟩ (.int .i64 (n : Int))).setCell ⟨wr.heap.size + 1, 1, none⟩ (.int .i64 (c : Int))).setCell ⟨wr.heap.size + 1, 2, none⟩ (.slice A5 L'.length c5)).setCell ⟨wr.heap.size + 1 + 1 + 1, 0, none⟩ (.int .i64 y0)).setCell ⟨wr.heap.size + 1 + 1 + 1, 1, none⟩ (.int .i64 y1)).setCell ⟨wr.heap.size + 1 + 1 + 1, 2, none⟩ (.string y2)).cell? ⟨wr.heap.size + 1, 0, none⟩ = some (.int .i64 (n : Int)) := (blk_cell r13 0).trans rfl; have q1 : ((((((w5.setCell ⟨wr.heap.size + 1, 0, none⟩ (.int .i64 (n : Int))).setCell ⟨wr.heap.size + 1, 1, none⟩ (.int .i64 (c : Int))).setCell ⟨wr.heap.size + 1, 2, none⟩ (.slice A5 L'.length c5)).setCell ⟨wr.heap.size + 1 + 1 + 1, 0, none⟩ (.int .i64 y0)).setCell ⟨wr.heap.size + 1 + 1 + 1, 1, none⟩ (.int .i64 y1)).setCell ⟨wr.heap.size + 1 + 1 + 1, 2, none⟩ (.string y2)).cell? ⟨wr.heap.size + 1, 1, none⟩ = some (.int .i64 (c : Int)) := (blk_cell r13 1).trans rfl; have q2 : ((((((w5.setCell ⟨wr.heap.size + 1, 0, none⟩ (.int .i64 (n : Int))).setCell ⟨wr.heap.size + 1, 1, none⟩ (.int .i64 (c : Int))).setCell ⟨wr.heap.size + 1, 2, none⟩ (.slice A5 L'.length c5)).setCell ⟨wr.heap.size + 1 + 1 + 1, 0, none⟩ (.int .i64 y0)).setCell ⟨wr.heap.size + 1 + 1 + 1, 1, none⟩ (.int .i64 y1)).setCell ⟨wr.heap.size + 1 + 1 + 1, 2, none⟩ (.string y2)).cell? ⟨wr.heap.size + 1, 2, none⟩ = some (.slice A5 L'.length c5) := (blk_cell r13 2).trans rfl; have v0 : ((((((w5.setCell ⟨wr.heap.size + 1, 0, none⟩ (.int .i64 (n : Int))).setCell ⟨wr.heap.size + 1, 1, none⟩ (.int .i64 (c : Int))).setCell ⟨wr.heap.size + 1, 2, none⟩ (.slice A5 L'.length c5)).setCell ⟨wr.heap.size + 1 + 1 + 1, 0, none⟩ (.int .i64 y0)).setCell ⟨wr.heap.size + 1 + 1 + 1, 1, none⟩ (.int .i64 y1)).setCell ⟨wr.heap.size + 1 + 1 + 1, 2, none⟩ (.string y2)).cell? ⟨w2.heap.size, 0, none⟩ = some (.int .i64 (n : Int)) := (blk_cell r7 0).trans rfl; have v1 : ((((((w5.setCell ⟨wr.heap.size + 1, 0, none⟩ (.int .i64 (n : Int))).setCell ⟨wr.heap.size + 1, 1, none⟩ (.int .i64 (c : Int))).setCell ⟨wr.heap.size + 1, 2, none⟩ (.slice A5 L'.length c5)).setCell ⟨wr.heap.size + 1 + 1 + 1, 0, none⟩ (.int .i64 y0)).setCell ⟨wr.heap.size + 1 + 1 + 1, 1, none⟩ (.int .i64 y1)).setCell ⟨wr.heap.size + 1 + 1 + 1, 2, none⟩ (.string y2)).cell? ⟨w2.heap.size, 1, none⟩ = some (.int .i64 (c : Int)) := (blk_cell r7 1).trans rfl; have v2 : ((((((w5.setCell ⟨wr.heap.size + 1, 0, none⟩ (.int .i64 (n : Int))).setCell ⟨wr.heap.size + 1, 1, none⟩ (.int .i64 (c : Int))).setCell ⟨wr.heap.size + 1, 2, none⟩ (.slice A5 L'.length c5)).setCell ⟨wr.heap.size + 1 + 1 + 1, 0, none⟩ (.int .i64 y0)).setCell ⟨wr.heap.size + 1 + 1 + 1, 1, none⟩ (.int .i64 y1)).setCell ⟨wr.heap.size + 1 + 1 + 1, 2, none⟩ (.string y2)).cell? ⟨w2.heap.size, 2, none⟩ = some (.slice A L.length cp) := (blk_cell r7 2).trans rfl; have o0 := blk_frozen r7 0; have o1 := blk_frozen r7 1; have o2 := blk_frozen r7 2; have hn7 := hs15.other r7 (by decide) (by decide) (by decide); have HST7 := Aside0.mk (hs15.set3 r7 (by decide) (by decide) hn7.1 hn7.2 HG7.out (.int .i64 (n : Int)) (.int .i64 (c : Int)) (.slice A5 L'.length c5)); have HK77 : Aside0 ((((((((((w5.setCell ⟨wr.heap.size + 1, 0, none⟩ (.int .i64 (n : Int))).setCell ⟨wr.heap.size + 1, 1, none⟩ (.int .i64 (c : Int))).setCell ⟨wr.heap.size + 1, 2, none⟩ (.slice A5 L'.length c5)).setCell ⟨wr.heap.size + 1 + 1 + 1, 0, none⟩ (.int .i64 y0)).setCell ⟨wr.heap.size + 1 + 1 + 1, 1, none⟩ (.int .i64 y1)).setCell ⟨wr.heap.size + 1 + 1 + 1, 2, none⟩ (.string y2)).setCell ⟨w2.heap.size, 0, none⟩ (.int .i64 (n : Int))).setCell ⟨w2.heap.size, 1, none⟩ (.int .i64 (c : Int))).setCell ⟨w2.heap.size, 2, none⟩ (.slice A5 L'.length c5)).heap[w2.heap.size]? = some (.cells #[.int .i64 (n : Int), .int .i64 (c : Int), .slice A5 L'.length c5] 41 (0, 0))) := ⟨put3 r7⟩; clear hst5 j7 j13 j14 j15 m15 own15 hn13 hs13 m15b hne p13 p7 p14 p15 hs15 r15 r7 r13 r14 hn7)) | (go_at_call 11; go_loud ((refine (HP.out g wb _ _ HSTT.out).mono ?_); rintro e1 w4 ⟨rfl, hf4, ho4, hst4⟩; have k7 := BFr.blk hf4 HT7.out (by decide); have k10 := BFr.blk hf4 HT10.out (by decide); have k13 := BFr.blk hf4 HT13.out (by decide); obtain ⟨k14, m14⟩ := ho4 _ _ H14.out N14.out; obtain ⟨k15, m15⟩ := ho4 _ _ H15.out N15.out; have ga0 : w4.cell? ⟨wr.heap.size + 1 + 1, 0, none⟩ = some (.int .i64 0) := (blk_cell k14 0).trans rfl; have ga1 : w4.cell? ⟨wr.heap.size + 1 + 1, 1, none⟩ = some (.int .i64 0) := (blk_cell k14 1).trans rfl; have ga2 : w4.cell? ⟨wr.heap.size + 1 + 1, 2, none⟩ = some (.string ⟨#[]⟩) := (blk_cell k14 2).trans rfl; have wf0 : w4.frozen? ⟨wr.heap.size + 1 + 1, 0, none⟩ = false := blk_frozen k14 0; have wf1 : w4.frozen? ⟨wr.heap.size + 1 + 1, 1, none⟩ = false := blk_frozen k14 1; have wf2 : w4.frozen? ⟨wr.heap.size + 1 + 1, 2, none⟩ = false := blk_frozen k14 2; have hs14 := hst4.set3 k14 (by decide) (by decide) m14 (HOA.out _ (by omega)) (Nat.le_trans HSZ.out (by omega)) (.int .i64 y0) (.int .i64 y1) (.string y2); have N15b := Aside0.mk (hst4.set3_ni k14 (by decide) (by decide) m14 (HOA.out _ (by omega)) (Nat.le_trans HSZ.out (by omega)) (.int .i64 y0) (.int .i64 y1) (.string y2) m15); have HST4 := Aside0.mk hs14; have hne := HNE.out; have i7 := blk_far3 k7 (nb := wr.heap.size + 1 + 1) (by omega) (.int .i64 y0) (.int .i64 y1) (.string y2); have i10 := blk_far3 k10 (nb := wr.heap.size + 1 + 1) (by omega) (.int .i64 y0) (.int .i64 y1) (.string y2); have i13 := blk_far3 k13 (nb := wr.heap.size + 1 + 1) (by omega) (.int .i64 y0) (.int .i64 y1) (.string y2); have i15 := blk_far3 k15 (nb := wr.heap.size + 1 + 1) (by omega) (.int .i64 y0) (.int .i64 y1) (.string y2); have i14 : (((w4.setCell ⟨wr.heap.size + 1 + 1, 0, none⟩ (.int .i64 y0)).setCell ⟨wr.heap.size + 1 + 1, 1, none⟩ (.int .i64 y1)).setCell ⟨wr.heap.size + 1 + 1, 2, none⟩ (.string y2)).heap[wr.heap.size + 1 + 1]? = some (.cells #[.int .i64 y0, .int .i64 y1, .string y2] 30 (0, 0)) := put3 k14; have HC7 := Aside0.mk i7; have HC13 := Aside0.mk i13; have HC14 := Aside0.mk i14; have HC15 := Aside0.mk i15; have z0 : (((w4.setCell ⟨wr.heap.size + 1 + 1, 0, none⟩ (.int .i64 y0)).setCell ⟨wr.heap.size + 1 + 1, 1, none⟩ (.int .i64 y1)).setCell ⟨wr.heap.size + 1 + 1, 2, none⟩ (.string y2)).cell? ⟨w2.heap.size, 0, none⟩ = some (.int .i64 (n : Int)) := (blk_cell i7 0).trans rfl; have z1 : (((w4.setCell ⟨wr.heap.size + 1 + 1, 0, none⟩ (.int .i64 y0)).setCell ⟨wr.heap.size + 1 + 1, 1, none⟩ (.int .i64 y1)).setCell ⟨wr.heap.size + 1 + 1, 2, none⟩ (.string y2)).cell? ⟨w2.heap.size, 1, none⟩ = some (.int .i64 (c : Int)) := (blk_cell i7 1).trans rfl; have z2 : (((w4.setCell ⟨wr.heap.size + 1 + 1, 0, none⟩ (.int .i64 y0)).setCell ⟨wr.heap.size + 1 + 1, 1, none⟩ (.int .i64 y1)).setCell ⟨wr.heap.size + 1 + 1, 2, none⟩ (.string y2)).cell? ⟨w2.heap.size, 2, none⟩ = some (.slice A L.length cp) := (blk_cell i7 2).trans rfl; have gy1 : (((w4.setCell ⟨wr.heap.size + 1 + 1, 0, none⟩ (.int .i64 y0)).setCell ⟨wr.heap.size + 1 + 1, 1, none⟩ (.int .i64 y1)).setCell ⟨wr.heap.size + 1 + 1, 2, none⟩ (.string y2)).cell? ⟨wr.heap.size, 1, none⟩ = some (.int .i64 xt) := (blk_cell i10 1).trans rfl; have gy2 : (((w4.setCell ⟨wr.heap.size + 1 + 1, 0, none⟩ (.int .i64 y0)).setCell ⟨wr.heap.size + 1 + 1, 1, none⟩ (.int .i64 y1)).setCell ⟨wr.heap.size + 1 + 1, 2, none⟩ (.string y2)).cell? ⟨wr.heap.size, 2, none⟩ = some (.int .i64 xa) := (blk_cell i10 2).trans rfl; clear hf4 ho4 hst4 k7 k10 k13 k14 k15 m14 m15 hs14 hne i7 i10 i13 i14 i15)))
            try clear gy1 gy2 ga0 ga1 ga2 wf0 wf1 wf2 fa0 fa1 fa2 fb0 fb1 fb2
            try clear x0 x1 x2 n0 n1 n2 q0 q1 q2 v0 v1 v2 o0 o1 o2
            try clear z0 z1 z2
            try clear y1 y2 y3 y4 y5
            try clear b0 b1 b2 b3 b4 b5
            try clear a0 a1 a2 a3 a4 a5 s0 s1 s2 r0 r1 r2 r3 r4 r5
            go_loopg [16] 9 (fun kq v16 w' => ∃ (k : Nat) (kk : Int), v16 = .int .i64 kk ∧ Aside0 (kk = (k : Int) - 2) ∧ Aside0 (k + kq = 9) ∧ Aside0 (St wb w' g (placesL n c) (mL L') (.slice A5 L'.length c5) L') ∧ Aside0 (w'.heap[w2.heap.size]? = some (.cells #[.int .i64 (n : Int), .int .i64 (c : Int), .slice A5 L'.length c5] 41 (0, 0))))
            case atStart => exact ⟨0, -2, rfl, ⟨rfl⟩, ⟨rfl⟩, HST7, HK77⟩
            case round =>
              clear HST7 HK77
              obtain ⟨k, kk, rfl, HKK, HKQ, HSTk, HKk⟩ := hrel
              have hkk := HKK.out
              have hkq := HKQ.out
              cases gk with
              | zero =>
                have m1 : decide (kk < 7) = false := decide_eq_false (by omega)
                clear hkk hkq
                go_wp2
                go_roundg k1
                case measure => omega
                case rel => exact ⟨i + 1, L', _, by rw [HW.out], HI2, ⟨by have h1 := HLL.out; have h2 := HLL3.out; omega⟩, HSTk, HKk⟩
              | succ k2 =>
                have m1 : decide (kk < 7) = true := decide_eq_true (by omega)
                have HWK : Aside0 (wrap64 (kk + 1) = kk + 1) := ⟨by unfold wrap64; omega⟩
                have HK1 : Aside0 (kk + 1 = ((k + 1 : Nat) : Int) - 2) := ⟨by omega⟩
                have HQ1 : Aside0 (k + 1 + k2 = 9) := ⟨by omega⟩
                obtain ⟨r1, hr1⟩ : ∃ r1 : Int, ((mL L' kk).length : Int) = r1 := ⟨_, rfl⟩
                obtain ⟨r2, hr2⟩ : ∃ r2 : Int, ((mL L' (wrap64 (100 + kk))).length : Int) = r2 := ⟨_, rfl⟩
                have hl3 : L'.length < 199 := by have h1 := HLL3.out; have h2 := HLL.out; have h3 := HI2.out; have h4 := HN.out; omega
                have HFr1 : Aside0 (sorrelref15_Waits.f 201 n c L' kk = some r1) := ⟨by rw [waits_is n c kk L' 201 hl3 (by decide), hr1]⟩
                have HFr2 : Aside0 (sorrelref15_Waits.f 201 n c L' (wrap64 (100 + kk)) = some r2) := ⟨by rw [waits_is n c _ L' 201 hl3 (by decide), hr2]⟩
                have HRr1 := Aside0.mk hr1
                have HRr2 := Aside0.mk hr2
                have q1 : (r1 != r1) = false := by simp
                have q2 : (r2 != r2) = false := by simp
                have f4 : wr.drew.heap[w2.heap.size]? = some (.cells #[.int .i64 (n : Int), .int .i64 (c : Int), .slice A5 L'.length c5] 41 (0, 0)) := HKk.out
                have f0 : wr.drew.cell? ⟨w2.heap.size, 0, none⟩ = some (.int .i64 (n : Int)) := (blk_cell f4 0).trans rfl
                have f1 : wr.drew.cell? ⟨w2.heap.size, 1, none⟩ = some (.int .i64 (c : Int)) := (blk_cell f4 1).trans rfl
                have f2 : wr.drew.cell? ⟨w2.heap.size, 2, none⟩ = some (.slice A5 L'.length c5) := (blk_cell f4 2).trans rfl
                have f3 := HSTk.out.step (below_drew (Below.refl _ _))
                clear hkk hkq hr1 hr2 hl3
                go_wp2
                refine start_ (n := 18) (S := fun w' => w'.cell? ⟨w2.heap.size, 0, none⟩ = some (.int .i64 (n : Int)) ∧ w'.cell? ⟨w2.heap.size, 1, none⟩ = some (.int .i64 (c : Int)) ∧ w'.cell? ⟨w2.heap.size, 2, none⟩ = some (.slice A5 L'.length c5) ∧ St wb w' g (placesL n c) (mL L') (.slice A5 L'.length c5) L' ∧ w'.heap[w2.heap.size]? = some (.cells #[.int .i64 (n : Int), .int .i64 (c : Int), .slice A5 L'.length c5] 41 (0, 0))) (ds := []) #[false, false, false, false, false, false, false, false, false, false, false, false, false, false, false, false, false, false] (by kernel_rfl) rfl rfl ⟨f0, f1, f2, f3, f4⟩ (fun hHeld => ?_)
                refine pure_ (i := 0) (N := some 157) (v := ?_) (a' := ?_) #[true, false, false, false, false, false, false, false, false, false, false, false, false, false, false, false, false, false] rfl rfl (by kernel_rfl) (fun _ _ _ h => h) (Or.inl ⟨by rfl, ?_⟩) ?_ ?_
                rotate_left
                · intro w'
                  go_simp
                  with_reducible rfl
                rotate_left
                · simp only [Act.put, List.setIfInBounds_toArray, List.set_cons_zero, List.set_cons_succ, i64_w, i32_w]
                  rfl
                refine pure_ (i := 1) (N := some 158) (v := ?_) (a' := ?_) #[true, true, false, false, false, false, false, false, false, false, false, false, false, false, false, false, false, false] rfl rfl (by kernel_rfl) (fun _ _ _ h => h) (Or.inl ⟨by rfl, ?_⟩) ?_ ?_
                rotate_left
                · intro w'
                  go_simp
                  with_reducible rfl
                rotate_left
                · simp only [Act.put, List.setIfInBounds_toArray, List.set_cons_zero, List.set_cons_succ, i64_w, i32_w]
                  rfl
                refine pure_ (i := 4) (N := some 161) (v := ?_) (a' := ?_) #[true, true, false, false, true, false, false, false, false, false, false, false, false, false, false, false, false, false] rfl rfl (by kernel_rfl) (fun _ _ _ h => h) (Or.inl ⟨by rfl, ?_⟩) ?_ ?_
                rotate_left
                · intro w'
                  go_simp
                  with_reducible rfl
                rotate_left
                · simp only [Act.put, List.setIfInBounds_toArray, List.set_cons_zero, List.set_cons_succ, i64_w, i32_w]
                  rfl
                refine take_ (i := 3) (N := some 160) (v := ?_) (a' := ?_) #[true, true, false, true, true, false, false, false, false, false, false, false, false, false, false, false, false, false] rfl rfl (by kernel_rfl) (fun _ _ _ h => h) (Or.inl ⟨by rfl, ?_⟩) hHeld ?_ ?_
                rotate_left
                · rintro w' ⟨s0, s1, s2, s3, s4⟩
                  go_simp
                  with_reducible rfl
                rotate_left
                · simp only [Act.put, List.setIfInBounds_toArray, List.set_cons_zero, List.set_cons_succ, i64_w, i32_w]
                  rfl
                refine one_ (i := 2) (N := some 159) #[true, true, true, true, true, false, false, false, false, false, false, false, false, false, false, false, false, false] rfl rfl (by kernel_rfl) (by decide) (fun K hK => ?_)
                refine goes_ Try.func10 (by kernel_rfl) rfl #[.pointer (some ⟨g, 0, none⟩), .int .i64 kk] (by rfl) rfl rfl (by simp only [List.map_toArray, List.map_cons, List.map_nil]; rfl) ?_
                with_reducible refine (waits_lit _ kk r1 _ hHeld.2.2.2.1.bag HRr1.out).mono ?_
                rintro e1 _ ⟨rfl, rfl⟩
                refine ⟨_, rfl, ?_⟩
                refine hK.out _ _ ⟨hHeld.1, hHeld.2.1, hHeld.2.2.1, hHeld.2.2.2.1, hHeld.2.2.2.2⟩ (fun hHeld => ?_)
                clear hK K
                refine norm_ (a' := ?_) ?_ ?_
                rotate_left
                · show Act.put _ (some 159) _ = _
                  simp only [Act.put, List.setIfInBounds_toArray, List.set_cons_zero, List.set_cons_succ, i64_w, i32_w]
                  rfl
                refine one_ (i := 5) (N := some 162) #[true, true, true, true, true, true, false, false, false, false, false, false, false, false, false, false, false, false] rfl rfl (by kernel_rfl) (by decide) (fun K hK => ?_)
                refine goes_ Try.func22 (by kernel_rfl) rfl #[.agg #[.int .i64 (n : Int), .int .i64 (c : Int), .slice A5 L'.length c5], .int .i64 kk] (by rfl) rfl rfl (by simp only [List.map_toArray, List.map_cons, List.map_nil]; rfl) ?_
                with_reducible refine (sorrelref15_Waits.calls 201 n c A5 c5 L' kk r1 _ (Kd.R_reads' hHeld.2.2.2.1.row).2.2 (Kd.R_reads' hHeld.2.2.2.1.row).2.1 HFr1.out).mono ?_
                rintro e1 w8 ⟨rfl, hb8⟩
                refine ⟨_, rfl, ?_⟩
                refine hK.out _ _ ⟨(hb8.cell (World.block_lt_of_cell? _ _ hHeld.1)).trans hHeld.1, (hb8.cell (World.block_lt_of_cell? _ _ hHeld.2.1)).trans hHeld.2.1, (hb8.cell (World.block_lt_of_cell? _ _ hHeld.2.2.1)).trans hHeld.2.2.1, hHeld.2.2.2.1.step hb8, blk_below hHeld.2.2.2.2 hb8⟩ (fun hHeld => ?_)
                clear hK K
                refine norm_ (a' := ?_) ?_ ?_
                rotate_left
                · show Act.put _ (some 162) _ = _
                  simp only [Act.put, List.setIfInBounds_toArray, List.set_cons_zero, List.set_cons_succ, i64_w, i32_w]
                  rfl
                refine pure_ (i := 6) (N := some 163) (v := ?_) (a' := ?_) #[true, true, true, true, true, true, true, false, false, false, false, false, false, false, false, false, false, false] rfl rfl (by kernel_rfl) (fun _ _ _ h => h) (Or.inl ⟨by rfl, ?_⟩) ?_ ?_
                rotate_left
                · intro w'
                  go_simp
                  with_reducible rfl
                rotate_left
                · simp only [Act.put, List.setIfInBounds_toArray, List.set_cons_zero, List.set_cons_succ, i64_w, i32_w]
                  rfl
                refine pure_ (i := 7) (N := some 164) (v := ?_) (a' := ?_) #[true, true, true, true, true, true, true, true, false, false, false, false, false, false, false, false, false, false] rfl rfl (by kernel_rfl) (fun _ _ _ h => h) (Or.inl ⟨by rfl, ?_⟩) ?_ ?_
                rotate_left
                · intro w'
                  go_simp
                  with_reducible rfl
                rotate_left
                · simp only [Act.put, List.setIfInBounds_toArray, List.set_cons_zero, List.set_cons_succ, i64_w, i32_w]
                  rfl
                refine pure_ (i := 8) (N := some 165) (v := ?_) (a' := ?_) #[true, true, true, true, true, true, true, true, true, false, false, false, false, false, false, false, false, false] rfl rfl (by kernel_rfl) (fun _ _ _ h => h) (Or.inl ⟨by rfl, ?_⟩) ?_ ?_
                rotate_left
                · intro w'
                  go_simp
                  with_reducible rfl
                rotate_left
                · simp only [Act.put, List.setIfInBounds_toArray, List.set_cons_zero, List.set_cons_succ, i64_w, i32_w]
                  rfl
                refine pure_ (i := 9) (N := some 166) (v := ?_) (a' := ?_) #[true, true, true, true, true, true, true, true, true, true, false, false, false, false, false, false, false, false] rfl rfl (by kernel_rfl) (fun _ _ _ h => h) (Or.inl ⟨by rfl, ?_⟩) ?_ ?_
                rotate_left
                · intro w'
                  go_simp
                  with_reducible rfl
                rotate_left
                · simp only [Act.put, List.setIfInBounds_toArray, List.set_cons_zero, List.set_cons_succ, i64_w, i32_w]
                  rfl
                refine pure_ (i := 10) (N := some 167) (v := ?_) (a' := ?_) #[true, true, true, true, true, true, true, true, true, true, true, false, false, false, false, false, false, false] rfl rfl (by kernel_rfl) (fun _ _ _ h => h) (Or.inl ⟨by rfl, ?_⟩) ?_ ?_
                rotate_left
                · intro w'
                  go_simp
                  with_reducible rfl
                rotate_left
                · simp only [Act.put, List.setIfInBounds_toArray, List.set_cons_zero, List.set_cons_succ, i64_w, i32_w]
                  rfl
                refine pure_ (i := 13) (N := some 170) (v := ?_) (a' := ?_) #[true, true, true, true, true, true, true, true, true, true, true, false, false, true, false, false, false, false] rfl rfl (by kernel_rfl) (fun _ _ _ h => h) (Or.inl ⟨by rfl, ?_⟩) ?_ ?_
                rotate_left
                · intro w'
                  go_simp
                  with_reducible rfl
                rotate_left
                · simp only [Act.put, List.setIfInBounds_toArray, List.set_cons_zero, List.set_cons_succ, i64_w, i32_w]
                  rfl
                refine pure_ (i := 14) (N := some 171) (v := ?_) (a' := ?_) #[true, true, true, true, true, true, true, true, true, true, true, false, false, true, true, false, false, false] rfl rfl (by kernel_rfl) (fun _ _ _ h => h) (Or.inl ⟨by rfl, ?_⟩) ?_ ?_
                rotate_left
                · intro w'
                  go_simp
                  with_reducible rfl
                rotate_left
                · simp only [Act.put, List.setIfInBounds_toArray, List.set_cons_zero, List.set_cons_succ, i64_w, i32_w]
                  rfl
                refine take_ (i := 12) (N := some 169) (v := ?_) (a' := ?_) #[true, true, true, true, true, true, true, true, true, true, true, false, true, true, true, false, false, false] rfl rfl (by kernel_rfl) (fun _ _ _ h => h) (Or.inl ⟨by rfl, ?_⟩) hHeld ?_ ?_
                rotate_left
                · rintro w' ⟨s0, s1, s2, s3, s4⟩
                  go_simp
                  with_reducible rfl
                rotate_left
                · simp only [Act.put, List.setIfInBounds_toArray, List.set_cons_zero, List.set_cons_succ, i64_w, i32_w]
                  rfl
                refine one_ (i := 11) (N := some 168) #[true, true, true, true, true, true, true, true, true, true, true, true, true, true, true, false, false, false] rfl rfl (by kernel_rfl) (by decide) (fun K hK => ?_)
                refine goes_ Try.func10 (by kernel_rfl) rfl #[.pointer (some ⟨g, 0, none⟩), .int .i64 (wrap64 (100 + kk))] (by rfl) rfl rfl (by simp only [List.map_toArray, List.map_cons, List.map_nil]; rfl) ?_
                with_reducible refine (waits_lit _ (wrap64 (100 + kk)) r2 _ hHeld.2.2.2.1.bag HRr2.out).mono ?_
                rintro e1 _ ⟨rfl, rfl⟩
                refine ⟨_, rfl, ?_⟩
                refine hK.out _ _ ⟨hHeld.1, hHeld.2.1, hHeld.2.2.1, hHeld.2.2.2.1, hHeld.2.2.2.2⟩ (fun hHeld => ?_)
                clear hK K
                refine norm_ (a' := ?_) ?_ ?_
                rotate_left
                · show Act.put _ (some 168) _ = _
                  simp only [Act.put, List.setIfInBounds_toArray, List.set_cons_zero, List.set_cons_succ, i64_w, i32_w]
                  rfl
                refine one_ (i := 15) (N := some 172) #[true, true, true, true, true, true, true, true, true, true, true, true, true, true, true, true, false, false] rfl rfl (by kernel_rfl) (by decide) (fun K hK => ?_)
                refine goes_ Try.func22 (by kernel_rfl) rfl #[.agg #[.int .i64 (n : Int), .int .i64 (c : Int), .slice A5 L'.length c5], .int .i64 (wrap64 (100 + kk))] (by rfl) rfl rfl (by simp only [List.map_toArray, List.map_cons, List.map_nil]; rfl) ?_
                with_reducible refine (sorrelref15_Waits.calls 201 n c A5 c5 L' (wrap64 (100 + kk)) r2 _ (Kd.R_reads' hHeld.2.2.2.1.row).2.2 (Kd.R_reads' hHeld.2.2.2.1.row).2.1 HFr2.out).mono ?_
                rintro e1 w8 ⟨rfl, hb8⟩
                refine ⟨_, rfl, ?_⟩
                refine hK.out _ _ ⟨(hb8.cell (World.block_lt_of_cell? _ _ hHeld.1)).trans hHeld.1, (hb8.cell (World.block_lt_of_cell? _ _ hHeld.2.1)).trans hHeld.2.1, (hb8.cell (World.block_lt_of_cell? _ _ hHeld.2.2.1)).trans hHeld.2.2.1, hHeld.2.2.2.1.step hb8, blk_below hHeld.2.2.2.2 hb8⟩ (fun hHeld => ?_)
                clear hK K
                refine norm_ (a' := ?_) ?_ ?_
                rotate_left
                · show Act.put _ (some 172) _ = _
                  simp only [Act.put, List.setIfInBounds_toArray, List.set_cons_zero, List.set_cons_succ, i64_w, i32_w]
                  rfl
                refine pure_ (i := 16) (N := some 173) (v := ?_) (a' := ?_) #[true, true, true, true, true, true, true, true, true, true, true, true, true, true, true, true, true, false] rfl rfl (by kernel_rfl) (fun _ _ _ h => h) (Or.inl ⟨by rfl, ?_⟩) ?_ ?_
                rotate_left
                · intro w'
                  go_simp
                  with_reducible rfl
                rotate_left
                · simp only [Act.put, List.setIfInBounds_toArray, List.set_cons_zero, List.set_cons_succ, i64_w, i32_w]
                  rfl
                refine pure_ (i := 17) (N := some 174) (v := ?_) (a' := ?_) #[true, true, true, true, true, true, true, true, true, true, true, true, true, true, true, true, true, true] rfl rfl (by kernel_rfl) (fun _ _ _ h => h) (Or.inl ⟨by rfl, ?_⟩) ?_ ?_
                rotate_left
                · intro w'
                  go_simp
                  with_reducible rfl
                rotate_left
                · simp only [Act.put, List.setIfInBounds_toArray, List.set_cons_zero, List.set_cons_succ, i64_w, i32_w]
                  rfl
                refine done_ (by kernel_rfl) ?_
                obtain ⟨-, -, -, hst9, hk9⟩ := hHeld
                have HST9 := Aside0.mk hst9
                have HK9 := Aside0.mk hk9
                clear hst9 hk9 f0 f1 f2 f3 f4
                go_wp2
                go_roundg k2
                case measure => omega
                case rel => exact ⟨k + 1, kk + 1, by rw [HWK.out], HK1, HQ1, HST9, HK9⟩
          · have g2 : (xk == 2) = false := beq_eq_false_iff_ne.mpr e2
            by_cases e3 : xk = 3
            · have g3 : (xk == 3) = true := beq_iff_eq.mpr e3
              clear e1 e2 e3
              obtain ⟨e, L', hL', hf, hcall⟩ := twice_both n c HH.out.2.1 L xt xa HLL2.out HB.out.2.1.2 HB.out.2.2.1.1 HB.out.2.2.1.2
              try dsimp only at hcall hf
              have HP := Aside0.mk hcall
              have HPF := Aside0.mk hf
              have HLL3 := Aside0.mk hL'
              have qe : (e != e) = false := by simp
              clear hcall hf hL'
              have HSZ : Aside0 (wb.heap.size ≤ wr.heap.size) := ⟨HST.out.size⟩
              have HN7 : Aside0 (w2.heap.size ≠ wr.heap.size + 1) := ⟨by have := HNE.out; omega⟩
              have b0 : ((wr.alloc (.cells #[.int .i64 xk, .int .i64 xt, .int .i64 xa, .int .i64 fr, .int .i64 tp, .string tx] 48)).alloc (.cells #[.int .i64 (n : Int), .int .i64 (c : Int), .slice A L.length cp] 41)).cell? ⟨wr.heap.size, 0, none⟩ = some (.int .i64 xk) := (blk_cell HK10.out 0).trans rfl
              have b1 : ((wr.alloc (.cells #[.int .i64 xk, .int .i64 xt, .int .i64 xa, .int .i64 fr, .int .i64 tp, .string tx] 48)).alloc (.cells #[.int .i64 (n : Int), .int .i64 (c : Int), .slice A L.length cp] 41)).cell? ⟨wr.heap.size, 1, none⟩ = some (.int .i64 xt) := (blk_cell HK10.out 1).trans rfl
              have b2 : ((wr.alloc (.cells #[.int .i64 xk, .int .i64 xt, .int .i64 xa, .int .i64 fr, .int .i64 tp, .string tx] 48)).alloc (.cells #[.int .i64 (n : Int), .int .i64 (c : Int), .slice A L.length cp] 41)).cell? ⟨wr.heap.size, 2, none⟩ = some (.int .i64 xa) := (blk_cell HK10.out 2).trans rfl
              have b3 : ((wr.alloc (.cells #[.int .i64 xk, .int .i64 xt, .int .i64 xa, .int .i64 fr, .int .i64 tp, .string tx] 48)).alloc (.cells #[.int .i64 (n : Int), .int .i64 (c : Int), .slice A L.length cp] 41)).cell? ⟨wr.heap.size, 3, none⟩ = some (.int .i64 fr) := (blk_cell HK10.out 3).trans rfl
              have b4 : ((wr.alloc (.cells #[.int .i64 xk, .int .i64 xt, .int .i64 xa, .int .i64 fr, .int .i64 tp, .string tx] 48)).alloc (.cells #[.int .i64 (n : Int), .int .i64 (c : Int), .slice A L.length cp] 41)).cell? ⟨wr.heap.size, 4, none⟩ = some (.int .i64 tp) := (blk_cell HK10.out 4).trans rfl
              have b5 : ((wr.alloc (.cells #[.int .i64 xk, .int .i64 xt, .int .i64 xa, .int .i64 fr, .int .i64 tp, .string tx] 48)).alloc (.cells #[.int .i64 (n : Int), .int .i64 (c : Int), .slice A L.length cp] 41)).cell? ⟨wr.heap.size, 5, none⟩ = some (.string tx) := (blk_cell HK10.out 5).trans rfl
              go_wp2_with (first | (go_at_call 19; go_loud ((refine (sorrelref15_Twice.calls 201 n c (fun k => some k = (Value.slice A L.length cp).ownBlock) (.slice A L.length cp) L xt xa n c L' e wb _ HST4.out.below (Kd.R_tight rfl HST4.out.row) HPF.out).mono ?_); rintro e1 w5 ⟨v5, rfl, hR5, hb5, hk5⟩; obtain ⟨A5, c5, e5⟩ := Kd.R_slice hR5; subst e5; have hst5 := HST4.out.ref hR5 hb5 hk5; have j7 := HST4.out.ref_blk hk5 HC7.out (by decide); have j13 := HST4.out.ref_blk hk5 HC13.out (by decide); clear hR5 hb5 hk5; have x0 : w5.cell? ⟨wr.heap.size + 1, 0, none⟩ = some (.int .i64 (n : Int)) := (blk_cell j13 0).trans rfl; have x1 : w5.cell? ⟨wr.heap.size + 1, 1, none⟩ = some (.int .i64 (c : Int)) := (blk_cell j13 1).trans rfl; have x2 : w5.cell? ⟨wr.heap.size + 1, 2, none⟩ = some (.slice A L.length cp) := (blk_cell j13 2).trans rfl; have n0 := blk_frozen j13 0; have n1 := blk_frozen j13 1; have n2 := blk_frozen j13 2; have hn13 := hst5.other j13 (by decide) (by decide) (by decide); have hs13 := hst5.set3 j13 (by decide) (by decide) hn13.1 hn13.2 (Nat.le_trans HSZ.out (Nat.le_succ _)) (.int .i64 (n : Int)) (.int .i64 (c : Int)) (.slice A5 L'.length c5); have i13 : (((w5.setCell ⟨wr.heap.size + 1, 0, none⟩ (.int .i64 (n : Int))).setCell ⟨wr.heap.size + 1, 1, none⟩ (.int .i64 (c : Int))).setCell ⟨wr.heap.size + 1, 2, none⟩ (.slice A5 L'.length c5)).heap[wr.heap.size + 1]? = some (.cells #[.int .i64 (n : Int), .int .i64 (c : Int), .slice A5 L'.length c5] 41 (0, 0)) := put3 j13; have q0 : (((w5.setCell ⟨wr.heap.size + 1, 0, none⟩ (.int .i64 (n : Int))).setCell ⟨wr.heap.size + 1, 1, none⟩ (.int .i64 (c : Int))).setCell ⟨wr.heap.size + 1, 2, none⟩ (.slice A5 L'.length c5)).cell? ⟨wr.heap.size + 1, 0, none⟩ = some (.int .i64 (n : Int)) := (blk_cell i13 0).trans rfl; have q1 : (((w5.setCell ⟨wr.heap.size + 1, 0, none⟩ (.int .i64 (n : Int))).setCell ⟨wr.heap.size + 1, 1, none⟩ (.int .i64 (c : Int))).setCell ⟨wr.heap.size + 1, 2, none⟩ (.slice A5 L'.length c5)).cell? ⟨wr.heap.size + 1, 1, none⟩ = some (.int .i64 (c : Int)) := (blk_cell i13 1).trans rfl; have q2 : (((w5.setCell ⟨wr.heap.size + 1, 0, none⟩ (.int .i64 (n : Int))).setCell ⟨wr.heap.size + 1, 1, none⟩ (.int .i64 (c : Int))).setCell ⟨wr.heap.size + 1, 2, none⟩ (.slice A5 L'.length c5)).cell? ⟨wr.heap.size + 1, 2, none⟩ = some (.slice A5 L'.length c5) := (blk_cell i13 2).trans rfl; have j77 := blk_far (blk_far (blk_far j7 (p := ⟨wr.heap.size + 1, 0, none⟩) HN7.out (.int .i64 (n : Int))) (p := ⟨wr.heap.size + 1, 1, none⟩) HN7.out (.int .i64 (c : Int))) (p := ⟨wr.heap.size + 1, 2, none⟩) HN7.out (.slice A5 L'.length c5); have v0 : (((w5.setCell ⟨wr.heap.size + 1, 0, none⟩ (.int .i64 (n : Int))).setCell ⟨wr.heap.size + 1, 1, none⟩ (.int .i64 (c : Int))).setCell ⟨wr.heap.size + 1, 2, none⟩ (.slice A5 L'.length c5)).cell? ⟨w2.heap.size, 0, none⟩ = some (.int .i64 (n : Int)) := (blk_cell j77 0).trans rfl; have v1 : (((w5.setCell ⟨wr.heap.size + 1, 0, none⟩ (.int .i64 (n : Int))).setCell ⟨wr.heap.size + 1, 1, none⟩ (.int .i64 (c : Int))).setCell ⟨wr.heap.size + 1, 2, none⟩ (.slice A5 L'.length c5)).cell? ⟨w2.heap.size, 1, none⟩ = some (.int .i64 (c : Int)) := (blk_cell j77 1).trans rfl; have v2 : (((w5.setCell ⟨wr.heap.size + 1, 0, none⟩ (.int .i64 (n : Int))).setCell ⟨wr.heap.size + 1, 1, none⟩ (.int .i64 (c : Int))).setCell ⟨wr.heap.size + 1, 2, none⟩ (.slice A5 L'.length c5)).cell? ⟨w2.heap.size, 2, none⟩ = some (.slice A L.length cp) := (blk_cell j77 2).trans rfl; have o0 := blk_frozen j77 0; have o1 := blk_frozen j77 1; have o2 := blk_frozen j77 2; have hn7 := hs13.other j77 (by decide) (by decide) (by decide); have HST7 := Aside0.mk (hs13.set3 j77 (by decide) (by decide) hn7.1 hn7.2 HG7.out (.int .i64 (n : Int)) (.int .i64 (c : Int)) (.slice A5 L'.length c5)); have HK77 : Aside0 (((((((w5.setCell ⟨wr.heap.size + 1, 0, none⟩ (.int .i64 (n : Int))).setCell ⟨wr.heap.size + 1, 1, none⟩ (.int .i64 (c : Int))).setCell ⟨wr.heap.size + 1, 2, none⟩ (.slice A5 L'.length c5)).setCell ⟨w2.heap.size, 0, none⟩ (.int .i64 (n : Int))).setCell ⟨w2.heap.size, 1, none⟩ (.int .i64 (c : Int))).setCell ⟨w2.heap.size, 2, none⟩ (.slice A5 L'.length c5)).heap[w2.heap.size]? = some (.cells #[.int .i64 (n : Int), .int .i64 (c : Int), .slice A5 L'.length c5] 41 (0, 0))) := ⟨put3 j77⟩; clear hst5 j7 j13 hn13 hs13 i13 j77 hn7)) | (go_at_call 9; go_loud ((refine (HP.out g wb _ _ HSTA.out).mono ?_); rintro e1 w4 ⟨rfl, hf4, ho4, hst4⟩; have HST4 := Aside0.mk hst4; have k7 := BFr.blk hf4 HK7.out (by decide); have k10 := BFr.blk hf4 HK10.out (by decide); have k13 := BFr.blk hf4 HK13.out (by decide); have HC7 := Aside0.mk k7; have HC13 := Aside0.mk k13; have z0 : w4.cell? ⟨w2.heap.size, 0, none⟩ = some (.int .i64 (n : Int)) := (blk_cell k7 0).trans rfl; have z1 : w4.cell? ⟨w2.heap.size, 1, none⟩ = some (.int .i64 (c : Int)) := (blk_cell k7 1).trans rfl; have z2 : w4.cell? ⟨w2.heap.size, 2, none⟩ = some (.slice A L.length cp) := (blk_cell k7 2).trans rfl; have y1 : w4.cell? ⟨wr.heap.size, 1, none⟩ = some (.int .i64 xt) := (blk_cell k10 1).trans rfl; have y2 : w4.cell? ⟨wr.heap.size, 2, none⟩ = some (.int .i64 xa) := (blk_cell k10 2).trans rfl; have y3 : w4.cell? ⟨wr.heap.size, 3, none⟩ = some (.int .i64 fr) := (blk_cell k10 3).trans rfl; have y4 : w4.cell? ⟨wr.heap.size, 4, none⟩ = some (.int .i64 tp) := (blk_cell k10 4).trans rfl; have y5 : w4.cell? ⟨wr.heap.size, 5, none⟩ = some (.string tx) := (blk_cell k10 5).trans rfl; clear hf4 ho4 hst4 k7 k10 k13)))
              try clear x0 x1 x2 n0 n1 n2 q0 q1 q2 v0 v1 v2 o0 o1 o2
              try clear z0 z1 z2
              try clear y1 y2 y3 y4 y5
              try clear b0 b1 b2 b3 b4 b5
              try clear a0 a1 a2 a3 a4 a5 s0 s1 s2 r0 r1 r2 r3 r4 r5
              go_loopg [16] 9 (fun kq v16 w' => ∃ (k : Nat) (kk : Int), v16 = .int .i64 kk ∧ Aside0 (kk = (k : Int) - 2) ∧ Aside0 (k + kq = 9) ∧ Aside0 (St wb w' g (placesL n c) (mL L') (.slice A5 L'.length c5) L') ∧ Aside0 (w'.heap[w2.heap.size]? = some (.cells #[.int .i64 (n : Int), .int .i64 (c : Int), .slice A5 L'.length c5] 41 (0, 0))))
              case atStart => exact ⟨0, -2, rfl, ⟨rfl⟩, ⟨rfl⟩, HST7, HK77⟩
              case round =>
                clear HST7 HK77
                obtain ⟨k, kk, rfl, HKK, HKQ, HSTk, HKk⟩ := hrel
                have hkk := HKK.out
                have hkq := HKQ.out
                cases gk with
                | zero =>
                  have m1 : decide (kk < 7) = false := decide_eq_false (by omega)
                  clear hkk hkq
                  go_wp2
                  go_roundg k1
                  case measure => omega
                  case rel => exact ⟨i + 1, L', _, by rw [HW.out], HI2, ⟨by have h1 := HLL.out; have h2 := HLL3.out; omega⟩, HSTk, HKk⟩
                | succ k2 =>
                  have m1 : decide (kk < 7) = true := decide_eq_true (by omega)
                  have HWK : Aside0 (wrap64 (kk + 1) = kk + 1) := ⟨by unfold wrap64; omega⟩
                  have HK1 : Aside0 (kk + 1 = ((k + 1 : Nat) : Int) - 2) := ⟨by omega⟩
                  have HQ1 : Aside0 (k + 1 + k2 = 9) := ⟨by omega⟩
                  obtain ⟨r1, hr1⟩ : ∃ r1 : Int, ((mL L' kk).length : Int) = r1 := ⟨_, rfl⟩
                  obtain ⟨r2, hr2⟩ : ∃ r2 : Int, ((mL L' (wrap64 (100 + kk))).length : Int) = r2 := ⟨_, rfl⟩
                  have hl3 : L'.length < 199 := by have h1 := HLL3.out; have h2 := HLL.out; have h3 := HI2.out; have h4 := HN.out; omega
                  have HFr1 : Aside0 (sorrelref15_Waits.f 201 n c L' kk = some r1) := ⟨by rw [waits_is n c kk L' 201 hl3 (by decide), hr1]⟩
                  have HFr2 : Aside0 (sorrelref15_Waits.f 201 n c L' (wrap64 (100 + kk)) = some r2) := ⟨by rw [waits_is n c _ L' 201 hl3 (by decide), hr2]⟩
                  have HRr1 := Aside0.mk hr1
                  have HRr2 := Aside0.mk hr2
                  have q1 : (r1 != r1) = false := by simp
                  have q2 : (r2 != r2) = false := by simp
                  have f4 : wr.drew.heap[w2.heap.size]? = some (.cells #[.int .i64 (n : Int), .int .i64 (c : Int), .slice A5 L'.length c5] 41 (0, 0)) := HKk.out
                  have f0 : wr.drew.cell? ⟨w2.heap.size, 0, none⟩ = some (.int .i64 (n : Int)) := (blk_cell f4 0).trans rfl
                  have f1 : wr.drew.cell? ⟨w2.heap.size, 1, none⟩ = some (.int .i64 (c : Int)) := (blk_cell f4 1).trans rfl
                  have f2 : wr.drew.cell? ⟨w2.heap.size, 2, none⟩ = some (.slice A5 L'.length c5) := (blk_cell f4 2).trans rfl
                  have f3 := HSTk.out.step (below_drew (Below.refl _ _))
                  clear hkk hkq hr1 hr2 hl3
                  go_wp2
                  refine start_ (n := 18) (S := fun w' => w'.cell? ⟨w2.heap.size, 0, none⟩ = some (.int .i64 (n : Int)) ∧ w'.cell? ⟨w2.heap.size, 1, none⟩ = some (.int .i64 (c : Int)) ∧ w'.cell? ⟨w2.heap.size, 2, none⟩ = some (.slice A5 L'.length c5) ∧ St wb w' g (placesL n c) (mL L') (.slice A5 L'.length c5) L' ∧ w'.heap[w2.heap.size]? = some (.cells #[.int .i64 (n : Int), .int .i64 (c : Int), .slice A5 L'.length c5] 41 (0, 0))) (ds := []) #[false, false, false, false, false, false, false, false, false, false, false, false, false, false, false, false, false, false] (by kernel_rfl) rfl rfl ⟨f0, f1, f2, f3, f4⟩ (fun hHeld => ?_)
                  refine pure_ (i := 0) (N := some 157) (v := ?_) (a' := ?_) #[true, false, false, false, false, false, false, false, false, false, false, false, false, false, false, false, false, false] rfl rfl (by kernel_rfl) (fun _ _ _ h => h) (Or.inl ⟨by rfl, ?_⟩) ?_ ?_
                  rotate_left
                  · intro w'
                    go_simp
                    with_reducible rfl
                  rotate_left
                  · simp only [Act.put, List.setIfInBounds_toArray, List.set_cons_zero, List.set_cons_succ, i64_w, i32_w]
                    rfl
                  refine pure_ (i := 1) (N := some 158) (v := ?_) (a' := ?_) #[true, true, false, false, false, false, false, false, false, false, false, false, false, false, false, false, false, false] rfl rfl (by kernel_rfl) (fun _ _ _ h => h) (Or.inl ⟨by rfl, ?_⟩) ?_ ?_
                  rotate_left
                  · intro w'
                    go_simp
                    with_reducible rfl
                  rotate_left
                  · simp only [Act.put, List.setIfInBounds_toArray, List.set_cons_zero, List.set_cons_succ, i64_w, i32_w]
                    rfl
                  refine pure_ (i := 4) (N := some 161) (v := ?_) (a' := ?_) #[true, true, false, false, true, false, false, false, false, false, false, false, false, false, false, false, false, false] rfl rfl (by kernel_rfl) (fun _ _ _ h => h) (Or.inl ⟨by rfl, ?_⟩) ?_ ?_
                  rotate_left
                  · intro w'
                    go_simp
                    with_reducible rfl
                  rotate_left
                  · simp only [Act.put, List.setIfInBounds_toArray, List.set_cons_zero, List.set_cons_succ, i64_w, i32_w]
                    rfl
                  refine take_ (i := 3) (N := some 160) (v := ?_) (a' := ?_) #[true, true, false, true, true, false, false, false, false, false, false, false, false, false, false, false, false, false] rfl rfl (by kernel_rfl) (fun _ _ _ h => h) (Or.inl ⟨by rfl, ?_⟩) hHeld ?_ ?_
                  rotate_left
                  · rintro w' ⟨s0, s1, s2, s3, s4⟩
                    go_simp
                    with_reducible rfl
                  rotate_left
                  · simp only [Act.put, List.setIfInBounds_toArray, List.set_cons_zero, List.set_cons_succ, i64_w, i32_w]
                    rfl
                  refine one_ (i := 2) (N := some 159) #[true, true, true, true, true, false, false, false, false, false, false, false, false, false, false, false, false, false] rfl rfl (by kernel_rfl) (by decide) (fun K hK => ?_)
                  refine goes_ Try.func10 (by kernel_rfl) rfl #[.pointer (some ⟨g, 0, none⟩), .int .i64 kk] (by rfl) rfl rfl (by simp only [List.map_toArray, List.map_cons, List.map_nil]; rfl) ?_
                  with_reducible refine (waits_lit _ kk r1 _ hHeld.2.2.2.1.bag HRr1.out).mono ?_
                  rintro e1 _ ⟨rfl, rfl⟩
                  refine ⟨_, rfl, ?_⟩
                  refine hK.out _ _ ⟨hHeld.1, hHeld.2.1, hHeld.2.2.1, hHeld.2.2.2.1, hHeld.2.2.2.2⟩ (fun hHeld => ?_)
                  clear hK K
                  refine norm_ (a' := ?_) ?_ ?_
                  rotate_left
                  · show Act.put _ (some 159) _ = _
                    simp only [Act.put, List.setIfInBounds_toArray, List.set_cons_zero, List.set_cons_succ, i64_w, i32_w]
                    rfl
                  refine one_ (i := 5) (N := some 162) #[true, true, true, true, true, true, false, false, false, false, false, false, false, false, false, false, false, false] rfl rfl (by kernel_rfl) (by decide) (fun K hK => ?_)
                  refine goes_ Try.func22 (by kernel_rfl) rfl #[.agg #[.int .i64 (n : Int), .int .i64 (c : Int), .slice A5 L'.length c5], .int .i64 kk] (by rfl) rfl rfl (by simp only [List.map_toArray, List.map_cons, List.map_nil]; rfl) ?_
                  with_reducible refine (sorrelref15_Waits.calls 201 n c A5 c5 L' kk r1 _ (Kd.R_reads' hHeld.2.2.2.1.row).2.2 (Kd.R_reads' hHeld.2.2.2.1.row).2.1 HFr1.out).mono ?_
                  rintro e1 w8 ⟨rfl, hb8⟩
                  refine ⟨_, rfl, ?_⟩
                  refine hK.out _ _ ⟨(hb8.cell (World.block_lt_of_cell? _ _ hHeld.1)).trans hHeld.1, (hb8.cell (World.block_lt_of_cell? _ _ hHeld.2.1)).trans hHeld.2.1, (hb8.cell (World.block_lt_of_cell? _ _ hHeld.2.2.1)).trans hHeld.2.2.1, hHeld.2.2.2.1.step hb8, blk_below hHeld.2.2.2.2 hb8⟩ (fun hHeld => ?_)
                  clear hK K
                  refine norm_ (a' := ?_) ?_ ?_
                  rotate_left
                  · show Act.put _ (some 162) _ = _
                    simp only [Act.put, List.setIfInBounds_toArray, List.set_cons_zero, List.set_cons_succ, i64_w, i32_w]
                    rfl
                  refine pure_ (i := 6) (N := some 163) (v := ?_) (a' := ?_) #[true, true, true, true, true, true, true, false, false, false, false, false, false, false, false, false, false, false] rfl rfl (by kernel_rfl) (fun _ _ _ h => h) (Or.inl ⟨by rfl, ?_⟩) ?_ ?_
                  rotate_left
                  · intro w'
                    go_simp
                    with_reducible rfl
                  rotate_left
                  · simp only [Act.put, List.setIfInBounds_toArray, List.set_cons_zero, List.set_cons_succ, i64_w, i32_w]
                    rfl
                  refine pure_ (i := 7) (N := some 164) (v := ?_) (a' := ?_) #[true, true, true, true, true, true, true, true, false, false, false, false, false, false, false, false, false, false] rfl rfl (by kernel_rfl) (fun _ _ _ h => h) (Or.inl ⟨by rfl, ?_⟩) ?_ ?_
                  rotate_left
                  · intro w'
                    go_simp
                    with_reducible rfl
                  rotate_left
                  · simp only [Act.put, List.setIfInBounds_toArray, List.set_cons_zero, List.set_cons_succ, i64_w, i32_w]
                    rfl
                  refine pure_ (i := 8) (N := some 165) (v := ?_) (a' := ?_) #[true, true, true, true, true, true, true, true, true, false, false, false, false, false, false, false, false, false] rfl rfl (by kernel_rfl) (fun _ _ _ h => h) (Or.inl ⟨by rfl, ?_⟩) ?_ ?_
                  rotate_left
                  · intro w'
                    go_simp
                    with_reducible rfl
                  rotate_left
                  · simp only [Act.put, List.setIfInBounds_toArray, List.set_cons_zero, List.set_cons_succ, i64_w, i32_w]
                    rfl
                  refine pure_ (i := 9) (N := some 166) (v := ?_) (a' := ?_) #[true, true, true, true, true, true, true, true, true, true, false, false, false, false, false, false, false, false] rfl rfl (by kernel_rfl) (fun _ _ _ h => h) (Or.inl ⟨by rfl, ?_⟩) ?_ ?_
                  rotate_left
                  · intro w'
                    go_simp
                    with_reducible rfl
                  rotate_left
                  · simp only [Act.put, List.setIfInBounds_toArray, List.set_cons_zero, List.set_cons_succ, i64_w, i32_w]
                    rfl
                  refine pure_ (i := 10) (N := some 167) (v := ?_) (a' := ?_) #[true, true, true, true, true, true, true, true, true, true, true, false, false, false, false, false, false, false] rfl rfl (by kernel_rfl) (fun _ _ _ h => h) (Or.inl ⟨by rfl, ?_⟩) ?_ ?_
                  rotate_left
                  · intro w'
                    go_simp
                    with_reducible rfl
                  rotate_left
                  · simp only [Act.put, List.setIfInBounds_toArray, List.set_cons_zero, List.set_cons_succ, i64_w, i32_w]
                    rfl
                  refine pure_ (i := 13) (N := some 170) (v := ?_) (a' := ?_) #[true, true, true, true, true, true, true, true, true, true, true, false, false, true, false, false, false, false] rfl rfl (by kernel_rfl) (fun _ _ _ h => h) (Or.inl ⟨by rfl, ?_⟩) ?_ ?_
                  rotate_left
                  · intro w'
                    go_simp
                    with_reducible rfl
                  rotate_left
                  · simp only [Act.put, List.setIfInBounds_toArray, List.set_cons_zero, List.set_cons_succ, i64_w, i32_w]
                    rfl
                  refine pure_ (i := 14) (N := some 171) (v := ?_) (a' := ?_) #[true, true, true, true, true, true, true, true, true, true, true, false, false, true, true, false, false, false] rfl rfl (by kernel_rfl) (fun _ _ _ h => h) (Or.inl ⟨by rfl, ?_⟩) ?_ ?_
                  rotate_left
                  · intro w'
                    go_simp
                    with_reducible rfl
                  rotate_left
                  · simp only [Act.put, List.setIfInBounds_toArray, List.set_cons_zero, List.set_cons_succ, i64_w, i32_w]
                    rfl
                  refine take_ (i := 12) (N := some 169) (v := ?_) (a' := ?_) #[true, true, true, true, true, true, true, true, true, true, true, false, true, true, true, false, false, false] rfl rfl (by kernel_rfl) (fun _ _ _ h => h) (Or.inl ⟨by rfl, ?_⟩) hHeld ?_ ?_
                  rotate_left
                  · rintro w' ⟨s0, s1, s2, s3, s4⟩
                    go_simp
                    with_reducible rfl
                  rotate_left
                  · simp only [Act.put, List.setIfInBounds_toArray, List.set_cons_zero, List.set_cons_succ, i64_w, i32_w]
                    rfl
                  refine one_ (i := 11) (N := some 168) #[true, true, true, true, true, true, true, true, true, true, true, true, true, true, true, false, false, false] rfl rfl (by kernel_rfl) (by decide) (fun K hK => ?_)
                  refine goes_ Try.func10 (by kernel_rfl) rfl #[.pointer (some ⟨g, 0, none⟩), .int .i64 (wrap64 (100 + kk))] (by rfl) rfl rfl (by simp only [List.map_toArray, List.map_cons, List.map_nil]; rfl) ?_
                  with_reducible refine (waits_lit _ (wrap64 (100 + kk)) r2 _ hHeld.2.2.2.1.bag HRr2.out).mono ?_
                  rintro e1 _ ⟨rfl, rfl⟩
                  refine ⟨_, rfl, ?_⟩
                  refine hK.out _ _ ⟨hHeld.1, hHeld.2.1, hHeld.2.2.1, hHeld.2.2.2.1, hHeld.2.2.2.2⟩ (fun hHeld => ?_)
                  clear hK K
                  refine norm_ (a' := ?_) ?_ ?_
                  rotate_left
                  · show Act.put _ (some 168) _ = _
                    simp only [Act.put, List.setIfInBounds_toArray, List.set_cons_zero, List.set_cons_succ, i64_w, i32_w]
                    rfl
                  refine one_ (i := 15) (N := some 172) #[true, true, true, true, true, true, true, true, true, true, true, true, true, true, true, true, false, false] rfl rfl (by kernel_rfl) (by decide) (fun K hK => ?_)
                  refine goes_ Try.func22 (by kernel_rfl) rfl #[.agg #[.int .i64 (n : Int), .int .i64 (c : Int), .slice A5 L'.length c5], .int .i64 (wrap64 (100 + kk))] (by rfl) rfl rfl (by simp only [List.map_toArray, List.map_cons, List.map_nil]; rfl) ?_
                  with_reducible refine (sorrelref15_Waits.calls 201 n c A5 c5 L' (wrap64 (100 + kk)) r2 _ (Kd.R_reads' hHeld.2.2.2.1.row).2.2 (Kd.R_reads' hHeld.2.2.2.1.row).2.1 HFr2.out).mono ?_
                  rintro e1 w8 ⟨rfl, hb8⟩
                  refine ⟨_, rfl, ?_⟩
                  refine hK.out _ _ ⟨(hb8.cell (World.block_lt_of_cell? _ _ hHeld.1)).trans hHeld.1, (hb8.cell (World.block_lt_of_cell? _ _ hHeld.2.1)).trans hHeld.2.1, (hb8.cell (World.block_lt_of_cell? _ _ hHeld.2.2.1)).trans hHeld.2.2.1, hHeld.2.2.2.1.step hb8, blk_below hHeld.2.2.2.2 hb8⟩ (fun hHeld => ?_)
                  clear hK K
                  refine norm_ (a' := ?_) ?_ ?_
                  rotate_left
                  · show Act.put _ (some 172) _ = _
                    simp only [Act.put, List.setIfInBounds_toArray, List.set_cons_zero, List.set_cons_succ, i64_w, i32_w]
                    rfl
                  refine pure_ (i := 16) (N := some 173) (v := ?_) (a' := ?_) #[true, true, true, true, true, true, true, true, true, true, true, true, true, true, true, true, true, false] rfl rfl (by kernel_rfl) (fun _ _ _ h => h) (Or.inl ⟨by rfl, ?_⟩) ?_ ?_
                  rotate_left
                  · intro w'
                    go_simp
                    with_reducible rfl
                  rotate_left
                  · simp only [Act.put, List.setIfInBounds_toArray, List.set_cons_zero, List.set_cons_succ, i64_w, i32_w]
                    rfl
                  refine pure_ (i := 17) (N := some 174) (v := ?_) (a' := ?_) #[true, true, true, true, true, true, true, true, true, true, true, true, true, true, true, true, true, true] rfl rfl (by kernel_rfl) (fun _ _ _ h => h) (Or.inl ⟨by rfl, ?_⟩) ?_ ?_
                  rotate_left
                  · intro w'
                    go_simp
                    with_reducible rfl
                  rotate_left
                  · simp only [Act.put, List.setIfInBounds_toArray, List.set_cons_zero, List.set_cons_succ, i64_w, i32_w]
                    rfl
                  refine done_ (by kernel_rfl) ?_
                  obtain ⟨-, -, -, hst9, hk9⟩ := hHeld
                  have HST9 := Aside0.mk hst9
                  have HK9 := Aside0.mk hk9
                  clear hst9 hk9 f0 f1 f2 f3 f4
                  go_wp2
                  go_roundg k2
                  case measure => omega
                  case rel => exact ⟨k + 1, kk + 1, by rw [HWK.out], HK1, HQ1, HST9, HK9⟩
            · have g3 : (xk == 3) = false := beq_eq_false_iff_ne.mpr e3
              clear e1 e2 e3
              obtain ⟨e, L', hL', hf, hcall⟩ := clear_both n c HH.out.2.1 L xt HLL2.out HB.out.2.1.2
              try dsimp only at hcall hf
              have HP := Aside0.mk hcall
              have HPF := Aside0.mk hf
              have HLL3 := Aside0.mk hL'
              have qe : (e != e) = false := by simp
              clear hcall hf hL'
              have HSZ : Aside0 (wb.heap.size ≤ wr.heap.size) := ⟨HST.out.size⟩
              have HN7 : Aside0 (w2.heap.size ≠ wr.heap.size + 1) := ⟨by have := HNE.out; omega⟩
              have b0 : ((wr.alloc (.cells #[.int .i64 xk, .int .i64 xt, .int .i64 xa, .int .i64 fr, .int .i64 tp, .string tx] 48)).alloc (.cells #[.int .i64 (n : Int), .int .i64 (c : Int), .slice A L.length cp] 41)).cell? ⟨wr.heap.size, 0, none⟩ = some (.int .i64 xk) := (blk_cell HK10.out 0).trans rfl
              have b1 : ((wr.alloc (.cells #[.int .i64 xk, .int .i64 xt, .int .i64 xa, .int .i64 fr, .int .i64 tp, .string tx] 48)).alloc (.cells #[.int .i64 (n : Int), .int .i64 (c : Int), .slice A L.length cp] 41)).cell? ⟨wr.heap.size, 1, none⟩ = some (.int .i64 xt) := (blk_cell HK10.out 1).trans rfl
              have b2 : ((wr.alloc (.cells #[.int .i64 xk, .int .i64 xt, .int .i64 xa, .int .i64 fr, .int .i64 tp, .string tx] 48)).alloc (.cells #[.int .i64 (n : Int), .int .i64 (c : Int), .slice A L.length cp] 41)).cell? ⟨wr.heap.size, 2, none⟩ = some (.int .i64 xa) := (blk_cell HK10.out 2).trans rfl
              have b3 : ((wr.alloc (.cells #[.int .i64 xk, .int .i64 xt, .int .i64 xa, .int .i64 fr, .int .i64 tp, .string tx] 48)).alloc (.cells #[.int .i64 (n : Int), .int .i64 (c : Int), .slice A L.length cp] 41)).cell? ⟨wr.heap.size, 3, none⟩ = some (.int .i64 fr) := (blk_cell HK10.out 3).trans rfl
              have b4 : ((wr.alloc (.cells #[.int .i64 xk, .int .i64 xt, .int .i64 xa, .int .i64 fr, .int .i64 tp, .string tx] 48)).alloc (.cells #[.int .i64 (n : Int), .int .i64 (c : Int), .slice A L.length cp] 41)).cell? ⟨wr.heap.size, 4, none⟩ = some (.int .i64 tp) := (blk_cell HK10.out 4).trans rfl
              have b5 : ((wr.alloc (.cells #[.int .i64 xk, .int .i64 xt, .int .i64 xa, .int .i64 fr, .int .i64 tp, .string tx] 48)).alloc (.cells #[.int .i64 (n : Int), .int .i64 (c : Int), .slice A L.length cp] 41)).cell? ⟨wr.heap.size, 5, none⟩ = some (.string tx) := (blk_cell HK10.out 5).trans rfl
              go_wp2_with (first | (go_at_call 21; go_loud ((refine (sorrelref15_Clear.calls 201 n c (fun k => some k = (Value.slice A L.length cp).ownBlock) (.slice A L.length cp) L xt n c L' e wb _ HST4.out.below (Kd.R_tight rfl HST4.out.row) HPF.out).mono ?_); rintro e1 w5 ⟨v5, rfl, hR5, hb5, hk5⟩; obtain ⟨A5, c5, e5⟩ := Kd.R_slice hR5; subst e5; have hst5 := HST4.out.ref hR5 hb5 hk5; have j7 := HST4.out.ref_blk hk5 HC7.out (by decide); have j13 := HST4.out.ref_blk hk5 HC13.out (by decide); clear hR5 hb5 hk5; have x0 : w5.cell? ⟨wr.heap.size + 1, 0, none⟩ = some (.int .i64 (n : Int)) := (blk_cell j13 0).trans rfl; have x1 : w5.cell? ⟨wr.heap.size + 1, 1, none⟩ = some (.int .i64 (c : Int)) := (blk_cell j13 1).trans rfl; have x2 : w5.cell? ⟨wr.heap.size + 1, 2, none⟩ = some (.slice A L.length cp) := (blk_cell j13 2).trans rfl; have n0 := blk_frozen j13 0; have n1 := blk_frozen j13 1; have n2 := blk_frozen j13 2; have hn13 := hst5.other j13 (by decide) (by decide) (by decide); have hs13 := hst5.set3 j13 (by decide) (by decide) hn13.1 hn13.2 (Nat.le_trans HSZ.out (Nat.le_succ _)) (.int .i64 (n : Int)) (.int .i64 (c : Int)) (.slice A5 L'.length c5); have i13 : (((w5.setCell ⟨wr.heap.size + 1, 0, none⟩ (.int .i64 (n : Int))).setCell ⟨wr.heap.size + 1, 1, none⟩ (.int .i64 (c : Int))).setCell ⟨wr.heap.size + 1, 2, none⟩ (.slice A5 L'.length c5)).heap[wr.heap.size + 1]? = some (.cells #[.int .i64 (n : Int), .int .i64 (c : Int), .slice A5 L'.length c5] 41 (0, 0)) := put3 j13; have q0 : (((w5.setCell ⟨wr.heap.size + 1, 0, none⟩ (.int .i64 (n : Int))).setCell ⟨wr.heap.size + 1, 1, none⟩ (.int .i64 (c : Int))).setCell ⟨wr.heap.size + 1, 2, none⟩ (.slice A5 L'.length c5)).cell? ⟨wr.heap.size + 1, 0, none⟩ = some (.int .i64 (n : Int)) := (blk_cell i13 0).trans rfl; have q1 : (((w5.setCell ⟨wr.heap.size + 1, 0, none⟩ (.int .i64 (n : Int))).setCell ⟨wr.heap.size + 1, 1, none⟩ (.int .i64 (c : Int))).setCell ⟨wr.heap.size + 1, 2, none⟩ (.slice A5 L'.length c5)).cell? ⟨wr.heap.size + 1, 1, none⟩ = some (.int .i64 (c : Int)) := (blk_cell i13 1).trans rfl; have q2 : (((w5.setCell ⟨wr.heap.size + 1, 0, none⟩ (.int .i64 (n : Int))).setCell ⟨wr.heap.size + 1, 1, none⟩ (.int .i64 (c : Int))).setCell ⟨wr.heap.size + 1, 2, none⟩ (.slice A5 L'.length c5)).cell? ⟨wr.heap.size + 1, 2, none⟩ = some (.slice A5 L'.length c5) := (blk_cell i13 2).trans rfl; have j77 := blk_far (blk_far (blk_far j7 (p := ⟨wr.heap.size + 1, 0, none⟩) HN7.out (.int .i64 (n : Int))) (p := ⟨wr.heap.size + 1, 1, none⟩) HN7.out (.int .i64 (c : Int))) (p := ⟨wr.heap.size + 1, 2, none⟩) HN7.out (.slice A5 L'.length c5); have v0 : (((w5.setCell ⟨wr.heap.size + 1, 0, none⟩ (.int .i64 (n : Int))).setCell ⟨wr.heap.size + 1, 1, none⟩ (.int .i64 (c : Int))).setCell ⟨wr.heap.size + 1, 2, none⟩ (.slice A5 L'.length c5)).cell? ⟨w2.heap.size, 0, none⟩ = some (.int .i64 (n : Int)) := (blk_cell j77 0).trans rfl; have v1 : (((w5.setCell ⟨wr.heap.size + 1, 0, none⟩ (.int .i64 (n : Int))).setCell ⟨wr.heap.size + 1, 1, none⟩ (.int .i64 (c : Int))).setCell ⟨wr.heap.size + 1, 2, none⟩ (.slice A5 L'.length c5)).cell? ⟨w2.heap.size, 1, none⟩ = some (.int .i64 (c : Int)) := (blk_cell j77 1).trans rfl; have v2 : (((w5.setCell ⟨wr.heap.size + 1, 0, none⟩ (.int .i64 (n : Int))).setCell ⟨wr.heap.size + 1, 1, none⟩ (.int .i64 (c : Int))).setCell ⟨wr.heap.size + 1, 2, none⟩ (.slice A5 L'.length c5)).cell? ⟨w2.heap.size, 2, none⟩ = some (.slice A L.length cp) := (blk_cell j77 2).trans rfl; have o0 := blk_frozen j77 0; have o1 := blk_frozen j77 1; have o2 := blk_frozen j77 2; have hn7 := hs13.other j77 (by decide) (by decide) (by decide); have HST7 := Aside0.mk (hs13.set3 j77 (by decide) (by decide) hn7.1 hn7.2 HG7.out (.int .i64 (n : Int)) (.int .i64 (c : Int)) (.slice A5 L'.length c5)); have HK77 : Aside0 (((((((w5.setCell ⟨wr.heap.size + 1, 0, none⟩ (.int .i64 (n : Int))).setCell ⟨wr.heap.size + 1, 1, none⟩ (.int .i64 (c : Int))).setCell ⟨wr.heap.size + 1, 2, none⟩ (.slice A5 L'.length c5)).setCell ⟨w2.heap.size, 0, none⟩ (.int .i64 (n : Int))).setCell ⟨w2.heap.size, 1, none⟩ (.int .i64 (c : Int))).setCell ⟨w2.heap.size, 2, none⟩ (.slice A5 L'.length c5)).heap[w2.heap.size]? = some (.cells #[.int .i64 (n : Int), .int .i64 (c : Int), .slice A5 L'.length c5] 41 (0, 0))) := ⟨put3 j77⟩; clear hst5 j7 j13 hn13 hs13 i13 j77 hn7)) | (go_at_call 20; go_loud ((refine (HP.out g wb _ _ HSTA.out).mono ?_); rintro e1 w4 ⟨rfl, hf4, ho4, hst4⟩; have HST4 := Aside0.mk hst4; have k7 := BFr.blk hf4 HK7.out (by decide); have k10 := BFr.blk hf4 HK10.out (by decide); have k13 := BFr.blk hf4 HK13.out (by decide); have HC7 := Aside0.mk k7; have HC13 := Aside0.mk k13; have z0 : w4.cell? ⟨w2.heap.size, 0, none⟩ = some (.int .i64 (n : Int)) := (blk_cell k7 0).trans rfl; have z1 : w4.cell? ⟨w2.heap.size, 1, none⟩ = some (.int .i64 (c : Int)) := (blk_cell k7 1).trans rfl; have z2 : w4.cell? ⟨w2.heap.size, 2, none⟩ = some (.slice A L.length cp) := (blk_cell k7 2).trans rfl; have y1 : w4.cell? ⟨wr.heap.size, 1, none⟩ = some (.int .i64 xt) := (blk_cell k10 1).trans rfl; have y2 : w4.cell? ⟨wr.heap.size, 2, none⟩ = some (.int .i64 xa) := (blk_cell k10 2).trans rfl; have y3 : w4.cell? ⟨wr.heap.size, 3, none⟩ = some (.int .i64 fr) := (blk_cell k10 3).trans rfl; have y4 : w4.cell? ⟨wr.heap.size, 4, none⟩ = some (.int .i64 tp) := (blk_cell k10 4).trans rfl; have y5 : w4.cell? ⟨wr.heap.size, 5, none⟩ = some (.string tx) := (blk_cell k10 5).trans rfl; clear hf4 ho4 hst4 k7 k10 k13)))
              try clear x0 x1 x2 n0 n1 n2 q0 q1 q2 v0 v1 v2 o0 o1 o2
              try clear z0 z1 z2
              try clear y1 y2 y3 y4 y5
              try clear b0 b1 b2 b3 b4 b5
              try clear a0 a1 a2 a3 a4 a5 s0 s1 s2 r0 r1 r2 r3 r4 r5
              go_loopg [16] 9 (fun kq v16 w' => ∃ (k : Nat) (kk : Int), v16 = .int .i64 kk ∧ Aside0 (kk = (k : Int) - 2) ∧ Aside0 (k + kq = 9) ∧ Aside0 (St wb w' g (placesL n c) (mL L') (.slice A5 L'.length c5) L') ∧ Aside0 (w'.heap[w2.heap.size]? = some (.cells #[.int .i64 (n : Int), .int .i64 (c : Int), .slice A5 L'.length c5] 41 (0, 0))))
              case atStart => exact ⟨0, -2, rfl, ⟨rfl⟩, ⟨rfl⟩, HST7, HK77⟩
              case round =>
                clear HST7 HK77
                obtain ⟨k, kk, rfl, HKK, HKQ, HSTk, HKk⟩ := hrel
                have hkk := HKK.out
                have hkq := HKQ.out
                cases gk with
                | zero =>
                  have m1 : decide (kk < 7) = false := decide_eq_false (by omega)
                  clear hkk hkq
                  go_wp2
                  go_roundg k1
                  case measure => omega
                  case rel => exact ⟨i + 1, L', _, by rw [HW.out], HI2, ⟨by have h1 := HLL.out; have h2 := HLL3.out; omega⟩, HSTk, HKk⟩
                | succ k2 =>
                  have m1 : decide (kk < 7) = true := decide_eq_true (by omega)
                  have HWK : Aside0 (wrap64 (kk + 1) = kk + 1) := ⟨by unfold wrap64; omega⟩
                  have HK1 : Aside0 (kk + 1 = ((k + 1 : Nat) : Int) - 2) := ⟨by omega⟩
                  have HQ1 : Aside0 (k + 1 + k2 = 9) := ⟨by omega⟩
                  obtain ⟨r1, hr1⟩ : ∃ r1 : Int, ((mL L' kk).length : Int) = r1 := ⟨_, rfl⟩
                  obtain ⟨r2, hr2⟩ : ∃ r2 : Int, ((mL L' (wrap64 (100 + kk))).length : Int) = r2 := ⟨_, rfl⟩
                  have hl3 : L'.length < 199 := by have h1 := HLL3.out; have h2 := HLL.out; have h3 := HI2.out; have h4 := HN.out; omega
                  have HFr1 : Aside0 (sorrelref15_Waits.f 201 n c L' kk = some r1) := ⟨by rw [waits_is n c kk L' 201 hl3 (by decide), hr1]⟩
                  have HFr2 : Aside0 (sorrelref15_Waits.f 201 n c L' (wrap64 (100 + kk)) = some r2) := ⟨by rw [waits_is n c _ L' 201 hl3 (by decide), hr2]⟩
                  have HRr1 := Aside0.mk hr1
                  have HRr2 := Aside0.mk hr2
                  have q1 : (r1 != r1) = false := by simp
                  have q2 : (r2 != r2) = false := by simp
                  have f4 : wr.drew.heap[w2.heap.size]? = some (.cells #[.int .i64 (n : Int), .int .i64 (c : Int), .slice A5 L'.length c5] 41 (0, 0)) := HKk.out
                  have f0 : wr.drew.cell? ⟨w2.heap.size, 0, none⟩ = some (.int .i64 (n : Int)) := (blk_cell f4 0).trans rfl
                  have f1 : wr.drew.cell? ⟨w2.heap.size, 1, none⟩ = some (.int .i64 (c : Int)) := (blk_cell f4 1).trans rfl
                  have f2 : wr.drew.cell? ⟨w2.heap.size, 2, none⟩ = some (.slice A5 L'.length c5) := (blk_cell f4 2).trans rfl
                  have f3 := HSTk.out.step (below_drew (Below.refl _ _))
                  clear hkk hkq hr1 hr2 hl3
                  go_wp2
                  refine start_ (n := 18) (S := fun w' => w'.cell? ⟨w2.heap.size, 0, none⟩ = some (.int .i64 (n : Int)) ∧ w'.cell? ⟨w2.heap.size, 1, none⟩ = some (.int .i64 (c : Int)) ∧ w'.cell? ⟨w2.heap.size, 2, none⟩ = some (.slice A5 L'.length c5) ∧ St wb w' g (placesL n c) (mL L') (.slice A5 L'.length c5) L' ∧ w'.heap[w2.heap.size]? = some (.cells #[.int .i64 (n : Int), .int .i64 (c : Int), .slice A5 L'.length c5] 41 (0, 0))) (ds := []) #[false, false, false, false, false, false, false, false, false, false, false, false, false, false, false, false, false, false] (by kernel_rfl) rfl rfl ⟨f0, f1, f2, f3, f4⟩ (fun hHeld => ?_)
                  refine pure_ (i := 0) (N := some 157) (v := ?_) (a' := ?_) #[true, false, false, false, false, false, false, false, false, false, false, false, false, false, false, false, false, false] rfl rfl (by kernel_rfl) (fun _ _ _ h => h) (Or.inl ⟨by rfl, ?_⟩) ?_ ?_
                  rotate_left
                  · intro w'
                    go_simp
                    with_reducible rfl
                  rotate_left
                  · simp only [Act.put, List.setIfInBounds_toArray, List.set_cons_zero, List.set_cons_succ, i64_w, i32_w]
                    rfl
                  refine pure_ (i := 1) (N := some 158) (v := ?_) (a' := ?_) #[true, true, false, false, false, false, false, false, false, false, false, false, false, false, false, false, false, false] rfl rfl (by kernel_rfl) (fun _ _ _ h => h) (Or.inl ⟨by rfl, ?_⟩) ?_ ?_
                  rotate_left
                  · intro w'
                    go_simp
                    with_reducible rfl
                  rotate_left
                  · simp only [Act.put, List.setIfInBounds_toArray, List.set_cons_zero, List.set_cons_succ, i64_w, i32_w]
                    rfl
                  refine pure_ (i := 4) (N := some 161) (v := ?_) (a' := ?_) #[true, true, false, false, true, false, false, false, false, false, false, false, false, false, false, false, false, false] rfl rfl (by kernel_rfl) (fun _ _ _ h => h) (Or.inl ⟨by rfl, ?_⟩) ?_ ?_
                  rotate_left
                  · intro w'
                    go_simp
                    with_reducible rfl
                  rotate_left
                  · simp only [Act.put, List.setIfInBounds_toArray, List.set_cons_zero, List.set_cons_succ, i64_w, i32_w]
                    rfl
                  refine take_ (i := 3) (N := some 160) (v := ?_) (a' := ?_) #[true, true, false, true, true, false, false, false, false, false, false, false, false, false, false, false, false, false] rfl rfl (by kernel_rfl) (fun _ _ _ h => h) (Or.inl ⟨by rfl, ?_⟩) hHeld ?_ ?_
                  rotate_left
                  · rintro w' ⟨s0, s1, s2, s3, s4⟩
                    go_simp
                    with_reducible rfl
                  rotate_left
                  · simp only [Act.put, List.setIfInBounds_toArray, List.set_cons_zero, List.set_cons_succ, i64_w, i32_w]
                    rfl
                  refine one_ (i := 2) (N := some 159) #[true, true, true, true, true, false, false, false, false, false, false, false, false, false, false, false, false, false] rfl rfl (by kernel_rfl) (by decide) (fun K hK => ?_)
                  refine goes_ Try.func10 (by kernel_rfl) rfl #[.pointer (some ⟨g, 0, none⟩), .int .i64 kk] (by rfl) rfl rfl (by simp only [List.map_toArray, List.map_cons, List.map_nil]; rfl) ?_
                  with_reducible refine (waits_lit _ kk r1 _ hHeld.2.2.2.1.bag HRr1.out).mono ?_
                  rintro e1 _ ⟨rfl, rfl⟩
                  refine ⟨_, rfl, ?_⟩
                  refine hK.out _ _ ⟨hHeld.1, hHeld.2.1, hHeld.2.2.1, hHeld.2.2.2.1, hHeld.2.2.2.2⟩ (fun hHeld => ?_)
                  clear hK K
                  refine norm_ (a' := ?_) ?_ ?_
                  rotate_left
                  · show Act.put _ (some 159) _ = _
                    simp only [Act.put, List.setIfInBounds_toArray, List.set_cons_zero, List.set_cons_succ, i64_w, i32_w]
                    rfl
                  refine one_ (i := 5) (N := some 162) #[true, true, true, true, true, true, false, false, false, false, false, false, false, false, false, false, false, false] rfl rfl (by kernel_rfl) (by decide) (fun K hK => ?_)
                  refine goes_ Try.func22 (by kernel_rfl) rfl #[.agg #[.int .i64 (n : Int), .int .i64 (c : Int), .slice A5 L'.length c5], .int .i64 kk] (by rfl) rfl rfl (by simp only [List.map_toArray, List.map_cons, List.map_nil]; rfl) ?_
                  with_reducible refine (sorrelref15_Waits.calls 201 n c A5 c5 L' kk r1 _ (Kd.R_reads' hHeld.2.2.2.1.row).2.2 (Kd.R_reads' hHeld.2.2.2.1.row).2.1 HFr1.out).mono ?_
                  rintro e1 w8 ⟨rfl, hb8⟩
                  refine ⟨_, rfl, ?_⟩
                  refine hK.out _ _ ⟨(hb8.cell (World.block_lt_of_cell? _ _ hHeld.1)).trans hHeld.1, (hb8.cell (World.block_lt_of_cell? _ _ hHeld.2.1)).trans hHeld.2.1, (hb8.cell (World.block_lt_of_cell? _ _ hHeld.2.2.1)).trans hHeld.2.2.1, hHeld.2.2.2.1.step hb8, blk_below hHeld.2.2.2.2 hb8⟩ (fun hHeld => ?_)
                  clear hK K
                  refine norm_ (a' := ?_) ?_ ?_
                  rotate_left
                  · show Act.put _ (some 162) _ = _
                    simp only [Act.put, List.setIfInBounds_toArray, List.set_cons_zero, List.set_cons_succ, i64_w, i32_w]
                    rfl
                  refine pure_ (i := 6) (N := some 163) (v := ?_) (a' := ?_) #[true, true, true, true, true, true, true, false, false, false, false, false, false, false, false, false, false, false] rfl rfl (by kernel_rfl) (fun _ _ _ h => h) (Or.inl ⟨by rfl, ?_⟩) ?_ ?_
                  rotate_left
                  · intro w'
                    go_simp
                    with_reducible rfl
                  rotate_left
                  · simp only [Act.put, List.setIfInBounds_toArray, List.set_cons_zero, List.set_cons_succ, i64_w, i32_w]
                    rfl
                  refine pure_ (i := 7) (N := some 164) (v := ?_) (a' := ?_) #[true, true, true, true, true, true, true, true, false, false, false, false, false, false, false, false, false, false] rfl rfl (by kernel_rfl) (fun _ _ _ h => h) (Or.inl ⟨by rfl, ?_⟩) ?_ ?_
                  rotate_left
                  · intro w'
                    go_simp
                    with_reducible rfl
                  rotate_left
                  · simp only [Act.put, List.setIfInBounds_toArray, List.set_cons_zero, List.set_cons_succ, i64_w, i32_w]
                    rfl
                  refine pure_ (i := 8) (N := some 165) (v := ?_) (a' := ?_) #[true, true, true, true, true, true, true, true, true, false, false, false, false, false, false, false, false, false] rfl rfl (by kernel_rfl) (fun _ _ _ h => h) (Or.inl ⟨by rfl, ?_⟩) ?_ ?_
                  rotate_left
                  · intro w'
                    go_simp
                    with_reducible rfl
                  rotate_left
                  · simp only [Act.put, List.setIfInBounds_toArray, List.set_cons_zero, List.set_cons_succ, i64_w, i32_w]
                    rfl
                  refine pure_ (i := 9) (N := some 166) (v := ?_) (a' := ?_) #[true, true, true, true, true, true, true, true, true, true, false, false, false, false, false, false, false, false] rfl rfl (by kernel_rfl) (fun _ _ _ h => h) (Or.inl ⟨by rfl, ?_⟩) ?_ ?_
                  rotate_left
                  · intro w'
                    go_simp
                    with_reducible rfl
                  rotate_left
                  · simp only [Act.put, List.setIfInBounds_toArray, List.set_cons_zero, List.set_cons_succ, i64_w, i32_w]
                    rfl
                  refine pure_ (i := 10) (N := some 167) (v := ?_) (a' := ?_) #[true, true, true, true, true, true, true, true, true, true, true, false, false, false, false, false, false, false] rfl rfl (by kernel_rfl) (fun _ _ _ h => h) (Or.inl ⟨by rfl, ?_⟩) ?_ ?_
                  rotate_left
                  · intro w'
                    go_simp
                    with_reducible rfl
                  rotate_left
                  · simp only [Act.put, List.setIfInBounds_toArray, List.set_cons_zero, List.set_cons_succ, i64_w, i32_w]
                    rfl
                  refine pure_ (i := 13) (N := some 170) (v := ?_) (a' := ?_) #[true, true, true, true, true, true, true, true, true, true, true, false, false, true, false, false, false, false] rfl rfl (by kernel_rfl) (fun _ _ _ h => h) (Or.inl ⟨by rfl, ?_⟩) ?_ ?_
                  rotate_left
                  · intro w'
                    go_simp
                    with_reducible rfl
                  rotate_left
                  · simp only [Act.put, List.setIfInBounds_toArray, List.set_cons_zero, List.set_cons_succ, i64_w, i32_w]
                    rfl
                  refine pure_ (i := 14) (N := some 171) (v := ?_) (a' := ?_) #[true, true, true, true, true, true, true, true, true, true, true, false, false, true, true, false, false, false] rfl rfl (by kernel_rfl) (fun _ _ _ h => h) (Or.inl ⟨by rfl, ?_⟩) ?_ ?_
                  rotate_left
                  · intro w'
                    go_simp
                    with_reducible rfl
                  rotate_left
                  · simp only [Act.put, List.setIfInBounds_toArray, List.set_cons_zero, List.set_cons_succ, i64_w, i32_w]
                    rfl
                  refine take_ (i := 12) (N := some 169) (v := ?_) (a' := ?_) #[true, true, true, true, true, true, true, true, true, true, true, false, true, true, true, false, false, false] rfl rfl (by kernel_rfl) (fun _ _ _ h => h) (Or.inl ⟨by rfl, ?_⟩) hHeld ?_ ?_
                  rotate_left
                  · rintro w' ⟨s0, s1, s2, s3, s4⟩
                    go_simp
                    with_reducible rfl
                  rotate_left
                  · simp only [Act.put, List.setIfInBounds_toArray, List.set_cons_zero, List.set_cons_succ, i64_w, i32_w]
                    rfl
                  refine one_ (i := 11) (N := some 168) #[true, true, true, true, true, true, true, true, true, true, true, true, true, true, true, false, false, false] rfl rfl (by kernel_rfl) (by decide) (fun K hK => ?_)
                  refine goes_ Try.func10 (by kernel_rfl) rfl #[.pointer (some ⟨g, 0, none⟩), .int .i64 (wrap64 (100 + kk))] (by rfl) rfl rfl (by simp only [List.map_toArray, List.map_cons, List.map_nil]; rfl) ?_
                  with_reducible refine (waits_lit _ (wrap64 (100 + kk)) r2 _ hHeld.2.2.2.1.bag HRr2.out).mono ?_
                  rintro e1 _ ⟨rfl, rfl⟩
                  refine ⟨_, rfl, ?_⟩
                  refine hK.out _ _ ⟨hHeld.1, hHeld.2.1, hHeld.2.2.1, hHeld.2.2.2.1, hHeld.2.2.2.2⟩ (fun hHeld => ?_)
                  clear hK K
                  refine norm_ (a' := ?_) ?_ ?_
                  rotate_left
                  · show Act.put _ (some 168) _ = _
                    simp only [Act.put, List.setIfInBounds_toArray, List.set_cons_zero, List.set_cons_succ, i64_w, i32_w]
                    rfl
                  refine one_ (i := 15) (N := some 172) #[true, true, true, true, true, true, true, true, true, true, true, true, true, true, true, true, false, false] rfl rfl (by kernel_rfl) (by decide) (fun K hK => ?_)
                  refine goes_ Try.func22 (by kernel_rfl) rfl #[.agg #[.int .i64 (n : Int), .int .i64 (c : Int), .slice A5 L'.length c5], .int .i64 (wrap64 (100 + kk))] (by rfl) rfl rfl (by simp only [List.map_toArray, List.map_cons, List.map_nil]; rfl) ?_
                  with_reducible refine (sorrelref15_Waits.calls 201 n c A5 c5 L' (wrap64 (100 + kk)) r2 _ (Kd.R_reads' hHeld.2.2.2.1.row).2.2 (Kd.R_reads' hHeld.2.2.2.1.row).2.1 HFr2.out).mono ?_
                  rintro e1 w8 ⟨rfl, hb8⟩
                  refine ⟨_, rfl, ?_⟩
                  refine hK.out _ _ ⟨(hb8.cell (World.block_lt_of_cell? _ _ hHeld.1)).trans hHeld.1, (hb8.cell (World.block_lt_of_cell? _ _ hHeld.2.1)).trans hHeld.2.1, (hb8.cell (World.block_lt_of_cell? _ _ hHeld.2.2.1)).trans hHeld.2.2.1, hHeld.2.2.2.1.step hb8, blk_below hHeld.2.2.2.2 hb8⟩ (fun hHeld => ?_)
                  clear hK K
                  refine norm_ (a' := ?_) ?_ ?_
                  rotate_left
                  · show Act.put _ (some 172) _ = _
                    simp only [Act.put, List.setIfInBounds_toArray, List.set_cons_zero, List.set_cons_succ, i64_w, i32_w]
                    rfl
                  refine pure_ (i := 16) (N := some 173) (v := ?_) (a' := ?_) #[true, true, true, true, true, true, true, true, true, true, true, true, true, true, true, true, true, false] rfl rfl (by kernel_rfl) (fun _ _ _ h => h) (Or.inl ⟨by rfl, ?_⟩) ?_ ?_
                  rotate_left
                  · intro w'
                    go_simp
                    with_reducible rfl
                  rotate_left
                  · simp only [Act.put, List.setIfInBounds_toArray, List.set_cons_zero, List.set_cons_succ, i64_w, i32_w]
                    rfl
                  refine pure_ (i := 17) (N := some 174) (v := ?_) (a' := ?_) #[true, true, true, true, true, true, true, true, true, true, true, true, true, true, true, true, true, true] rfl rfl (by kernel_rfl) (fun _ _ _ h => h) (Or.inl ⟨by rfl, ?_⟩) ?_ ?_
                  rotate_left
                  · intro w'
                    go_simp
                    with_reducible rfl
                  rotate_left
                  · simp only [Act.put, List.setIfInBounds_toArray, List.set_cons_zero, List.set_cons_succ, i64_w, i32_w]
                    rfl
                  refine done_ (by kernel_rfl) ?_
                  obtain ⟨-, -, -, hst9, hk9⟩ := hHeld
                  have HST9 := Aside0.mk hst9
                  have HK9 := Aside0.mk hk9
                  clear hst9 hk9 f0 f1 f2 f3 f4
                  go_wp2
                  go_roundg k2
                  case measure => omega
                  case rel => exact ⟨k + 1, kk + 1, by rw [HWK.out], HK1, HQ1, HST9, HK9⟩
      · have u1 : decide (1024 < (tx.size : Int)) = true := decide_eq_true (by omega)
        have u2 : decide (1024 < tx.size) = true := decide_eq_true (by omega)
        by_cases t2 : tx.size ≤ 262144
        · have u3 : decide ((tx.size : Int) ≤ 262144) = true := decide_eq_true (by omega)
          have u4 : decide (tx.size ≤ 262144) = true := decide_eq_true (by omega)
          have HL8 := Aside0.mk (below_alloc HLB.out (.cells #[.int .i64 xk, .int .i64 xt, .int .i64 xa, .int .i64 fr, .int .i64 tp, .string tx] 48))
          clear t1 t2
          go_wp2_with (go_at_call 12; go_loud ((refine (awake_calls _).mono ?_); rintro e w9 ⟨rfl, hb9⟩; have HL9 := Aside0.mk (below_step HL8.out hb9); clear hb9))
          go_ret
          exact ⟨rfl, HL9.out⟩
        · have u3 : decide ((tx.size : Int) ≤ 262144) = false := decide_eq_false (by omega)
          have u4 : decide (tx.size ≤ 262144) = false := decide_eq_false (by omega)
          clear t1 t2
          by_cases e1 : xk = 1
          · have g1 : (xk == 1) = true := beq_iff_eq.mpr e1
            clear e1
            obtain ⟨e, L', hL', hf, hcall⟩ := put_both n c HH.out.2.1 L ⟨fr, tp, tx⟩ HLL2.out HB.out.2.2.2.1 HB.out.2.2.2.2
            try dsimp only at hcall hf
            have HP := Aside0.mk hcall
            have HPF := Aside0.mk hf
            have HLL3 := Aside0.mk hL'
            have qe : (e != e) = false := by simp
            clear hcall hf hL'
            have HSZ : Aside0 (wb.heap.size ≤ wr.heap.size) := ⟨HST.out.size⟩
            have HN7 : Aside0 (w2.heap.size ≠ wr.heap.size + 1) := ⟨by have := HNE.out; omega⟩
            have b0 : ((wr.alloc (.cells #[.int .i64 xk, .int .i64 xt, .int .i64 xa, .int .i64 fr, .int .i64 tp, .string tx] 48)).alloc (.cells #[.int .i64 (n : Int), .int .i64 (c : Int), .slice A L.length cp] 41)).cell? ⟨wr.heap.size, 0, none⟩ = some (.int .i64 xk) := (blk_cell HK10.out 0).trans rfl
            have b1 : ((wr.alloc (.cells #[.int .i64 xk, .int .i64 xt, .int .i64 xa, .int .i64 fr, .int .i64 tp, .string tx] 48)).alloc (.cells #[.int .i64 (n : Int), .int .i64 (c : Int), .slice A L.length cp] 41)).cell? ⟨wr.heap.size, 1, none⟩ = some (.int .i64 xt) := (blk_cell HK10.out 1).trans rfl
            have b2 : ((wr.alloc (.cells #[.int .i64 xk, .int .i64 xt, .int .i64 xa, .int .i64 fr, .int .i64 tp, .string tx] 48)).alloc (.cells #[.int .i64 (n : Int), .int .i64 (c : Int), .slice A L.length cp] 41)).cell? ⟨wr.heap.size, 2, none⟩ = some (.int .i64 xa) := (blk_cell HK10.out 2).trans rfl
            have b3 : ((wr.alloc (.cells #[.int .i64 xk, .int .i64 xt, .int .i64 xa, .int .i64 fr, .int .i64 tp, .string tx] 48)).alloc (.cells #[.int .i64 (n : Int), .int .i64 (c : Int), .slice A L.length cp] 41)).cell? ⟨wr.heap.size, 3, none⟩ = some (.int .i64 fr) := (blk_cell HK10.out 3).trans rfl
            have b4 : ((wr.alloc (.cells #[.int .i64 xk, .int .i64 xt, .int .i64 xa, .int .i64 fr, .int .i64 tp, .string tx] 48)).alloc (.cells #[.int .i64 (n : Int), .int .i64 (c : Int), .slice A L.length cp] 41)).cell? ⟨wr.heap.size, 4, none⟩ = some (.int .i64 tp) := (blk_cell HK10.out 4).trans rfl
            have b5 : ((wr.alloc (.cells #[.int .i64 xk, .int .i64 xt, .int .i64 xa, .int .i64 fr, .int .i64 tp, .string tx] 48)).alloc (.cells #[.int .i64 (n : Int), .int .i64 (c : Int), .slice A L.length cp] 41)).cell? ⟨wr.heap.size, 5, none⟩ = some (.string tx) := (blk_cell HK10.out 5).trans rfl
            go_wp2_with (first | (go_at_call 17; go_loud ((refine (sorrelref15_Put.calls 201 n c (fun k => some k = (Value.slice A L.length cp).ownBlock) (.slice A L.length cp) L fr tp tx n c L' e wb _ HST4.out.below (Kd.R_tight rfl HST4.out.row) HPF.out).mono ?_); rintro e1 w5 ⟨v5, rfl, hR5, hb5, hk5⟩; obtain ⟨A5, c5, e5⟩ := Kd.R_slice hR5; subst e5; have hst5 := HST4.out.ref hR5 hb5 hk5; have j7 := HST4.out.ref_blk hk5 HC7.out (by decide); have j13 := HST4.out.ref_blk hk5 HC13.out (by decide); clear hR5 hb5 hk5; have x0 : w5.cell? ⟨wr.heap.size + 1, 0, none⟩ = some (.int .i64 (n : Int)) := (blk_cell j13 0).trans rfl; have x1 : w5.cell? ⟨wr.heap.size + 1, 1, none⟩ = some (.int .i64 (c : Int)) := (blk_cell j13 1).trans rfl; have x2 : w5.cell? ⟨wr.heap.size + 1, 2, none⟩ = some (.slice A L.length cp) := (blk_cell j13 2).trans rfl; have n0 := blk_frozen j13 0; have n1 := blk_frozen j13 1; have n2 := blk_frozen j13 2; have hn13 := hst5.other j13 (by decide) (by decide) (by decide); have hs13 := hst5.set3 j13 (by decide) (by decide) hn13.1 hn13.2 (Nat.le_trans HSZ.out (Nat.le_succ _)) (.int .i64 (n : Int)) (.int .i64 (c : Int)) (.slice A5 L'.length c5); have i13 : (((w5.setCell ⟨wr.heap.size + 1, 0, none⟩ (.int .i64 (n : Int))).setCell ⟨wr.heap.size + 1, 1, none⟩ (.int .i64 (c : Int))).setCell ⟨wr.heap.size + 1, 2, none⟩ (.slice A5 L'.length c5)).heap[wr.heap.size + 1]? = some (.cells #[.int .i64 (n : Int), .int .i64 (c : Int), .slice A5 L'.length c5] 41 (0, 0)) := put3 j13; have q0 : (((w5.setCell ⟨wr.heap.size + 1, 0, none⟩ (.int .i64 (n : Int))).setCell ⟨wr.heap.size + 1, 1, none⟩ (.int .i64 (c : Int))).setCell ⟨wr.heap.size + 1, 2, none⟩ (.slice A5 L'.length c5)).cell? ⟨wr.heap.size + 1, 0, none⟩ = some (.int .i64 (n : Int)) := (blk_cell i13 0).trans rfl; have q1 : (((w5.setCell ⟨wr.heap.size + 1, 0, none⟩ (.int .i64 (n : Int))).setCell ⟨wr.heap.size + 1, 1, none⟩ (.int .i64 (c : Int))).setCell ⟨wr.heap.size + 1, 2, none⟩ (.slice A5 L'.length c5)).cell? ⟨wr.heap.size + 1, 1, none⟩ = some (.int .i64 (c : Int)) := (blk_cell i13 1).trans rfl; have q2 : (((w5.setCell ⟨wr.heap.size + 1, 0, none⟩ (.int .i64 (n : Int))).setCell ⟨wr.heap.size + 1, 1, none⟩ (.int .i64 (c : Int))).setCell ⟨wr.heap.size + 1, 2, none⟩ (.slice A5 L'.length c5)).cell? ⟨wr.heap.size + 1, 2, none⟩ = some (.slice A5 L'.length c5) := (blk_cell i13 2).trans rfl; have j77 := blk_far (blk_far (blk_far j7 (p := ⟨wr.heap.size + 1, 0, none⟩) HN7.out (.int .i64 (n : Int))) (p := ⟨wr.heap.size + 1, 1, none⟩) HN7.out (.int .i64 (c : Int))) (p := ⟨wr.heap.size + 1, 2, none⟩) HN7.out (.slice A5 L'.length c5); have v0 : (((w5.setCell ⟨wr.heap.size + 1, 0, none⟩ (.int .i64 (n : Int))).setCell ⟨wr.heap.size + 1, 1, none⟩ (.int .i64 (c : Int))).setCell ⟨wr.heap.size + 1, 2, none⟩ (.slice A5 L'.length c5)).cell? ⟨w2.heap.size, 0, none⟩ = some (.int .i64 (n : Int)) := (blk_cell j77 0).trans rfl; have v1 : (((w5.setCell ⟨wr.heap.size + 1, 0, none⟩ (.int .i64 (n : Int))).setCell ⟨wr.heap.size + 1, 1, none⟩ (.int .i64 (c : Int))).setCell ⟨wr.heap.size + 1, 2, none⟩ (.slice A5 L'.length c5)).cell? ⟨w2.heap.size, 1, none⟩ = some (.int .i64 (c : Int)) := (blk_cell j77 1).trans rfl; have v2 : (((w5.setCell ⟨wr.heap.size + 1, 0, none⟩ (.int .i64 (n : Int))).setCell ⟨wr.heap.size + 1, 1, none⟩ (.int .i64 (c : Int))).setCell ⟨wr.heap.size + 1, 2, none⟩ (.slice A5 L'.length c5)).cell? ⟨w2.heap.size, 2, none⟩ = some (.slice A L.length cp) := (blk_cell j77 2).trans rfl; have o0 := blk_frozen j77 0; have o1 := blk_frozen j77 1; have o2 := blk_frozen j77 2; have hn7 := hs13.other j77 (by decide) (by decide) (by decide); have HST7 := Aside0.mk (hs13.set3 j77 (by decide) (by decide) hn7.1 hn7.2 HG7.out (.int .i64 (n : Int)) (.int .i64 (c : Int)) (.slice A5 L'.length c5)); have HK77 : Aside0 (((((((w5.setCell ⟨wr.heap.size + 1, 0, none⟩ (.int .i64 (n : Int))).setCell ⟨wr.heap.size + 1, 1, none⟩ (.int .i64 (c : Int))).setCell ⟨wr.heap.size + 1, 2, none⟩ (.slice A5 L'.length c5)).setCell ⟨w2.heap.size, 0, none⟩ (.int .i64 (n : Int))).setCell ⟨w2.heap.size, 1, none⟩ (.int .i64 (c : Int))).setCell ⟨w2.heap.size, 2, none⟩ (.slice A5 L'.length c5)).heap[w2.heap.size]? = some (.cells #[.int .i64 (n : Int), .int .i64 (c : Int), .slice A5 L'.length c5] 41 (0, 0))) := ⟨put3 j77⟩; clear hst5 j7 j13 hn13 hs13 i13 j77 hn7)) | (go_at_call 8; go_loud ((refine (HP.out g wb _ _ HSTA.out).mono ?_); rintro e1 w4 ⟨rfl, hf4, ho4, hst4⟩; have HST4 := Aside0.mk hst4; have k7 := BFr.blk hf4 HK7.out (by decide); have k10 := BFr.blk hf4 HK10.out (by decide); have k13 := BFr.blk hf4 HK13.out (by decide); have HC7 := Aside0.mk k7; have HC13 := Aside0.mk k13; have z0 : w4.cell? ⟨w2.heap.size, 0, none⟩ = some (.int .i64 (n : Int)) := (blk_cell k7 0).trans rfl; have z1 : w4.cell? ⟨w2.heap.size, 1, none⟩ = some (.int .i64 (c : Int)) := (blk_cell k7 1).trans rfl; have z2 : w4.cell? ⟨w2.heap.size, 2, none⟩ = some (.slice A L.length cp) := (blk_cell k7 2).trans rfl; have y1 : w4.cell? ⟨wr.heap.size, 1, none⟩ = some (.int .i64 xt) := (blk_cell k10 1).trans rfl; have y2 : w4.cell? ⟨wr.heap.size, 2, none⟩ = some (.int .i64 xa) := (blk_cell k10 2).trans rfl; have y3 : w4.cell? ⟨wr.heap.size, 3, none⟩ = some (.int .i64 fr) := (blk_cell k10 3).trans rfl; have y4 : w4.cell? ⟨wr.heap.size, 4, none⟩ = some (.int .i64 tp) := (blk_cell k10 4).trans rfl; have y5 : w4.cell? ⟨wr.heap.size, 5, none⟩ = some (.string tx) := (blk_cell k10 5).trans rfl; clear hf4 ho4 hst4 k7 k10 k13)))
            try clear x0 x1 x2 n0 n1 n2 q0 q1 q2 v0 v1 v2 o0 o1 o2
            try clear z0 z1 z2
            try clear y1 y2 y3 y4 y5
            try clear b0 b1 b2 b3 b4 b5
            try clear a0 a1 a2 a3 a4 a5 s0 s1 s2 r0 r1 r2 r3 r4 r5
            go_loopg [16] 9 (fun kq v16 w' => ∃ (k : Nat) (kk : Int), v16 = .int .i64 kk ∧ Aside0 (kk = (k : Int) - 2) ∧ Aside0 (k + kq = 9) ∧ Aside0 (St wb w' g (placesL n c) (mL L') (.slice A5 L'.length c5) L') ∧ Aside0 (w'.heap[w2.heap.size]? = some (.cells #[.int .i64 (n : Int), .int .i64 (c : Int), .slice A5 L'.length c5] 41 (0, 0))))
            case atStart => exact ⟨0, -2, rfl, ⟨rfl⟩, ⟨rfl⟩, HST7, HK77⟩
            case round =>
              clear HST7 HK77
              obtain ⟨k, kk, rfl, HKK, HKQ, HSTk, HKk⟩ := hrel
              have hkk := HKK.out
              have hkq := HKQ.out
              cases gk with
              | zero =>
                have m1 : decide (kk < 7) = false := decide_eq_false (by omega)
                clear hkk hkq
                go_wp2
                go_roundg k1
                case measure => omega
                case rel => exact ⟨i + 1, L', _, by rw [HW.out], HI2, ⟨by have h1 := HLL.out; have h2 := HLL3.out; omega⟩, HSTk, HKk⟩
              | succ k2 =>
                have m1 : decide (kk < 7) = true := decide_eq_true (by omega)
                have HWK : Aside0 (wrap64 (kk + 1) = kk + 1) := ⟨by unfold wrap64; omega⟩
                have HK1 : Aside0 (kk + 1 = ((k + 1 : Nat) : Int) - 2) := ⟨by omega⟩
                have HQ1 : Aside0 (k + 1 + k2 = 9) := ⟨by omega⟩
                obtain ⟨r1, hr1⟩ : ∃ r1 : Int, ((mL L' kk).length : Int) = r1 := ⟨_, rfl⟩
                obtain ⟨r2, hr2⟩ : ∃ r2 : Int, ((mL L' (wrap64 (100 + kk))).length : Int) = r2 := ⟨_, rfl⟩
                have hl3 : L'.length < 199 := by have h1 := HLL3.out; have h2 := HLL.out; have h3 := HI2.out; have h4 := HN.out; omega
                have HFr1 : Aside0 (sorrelref15_Waits.f 201 n c L' kk = some r1) := ⟨by rw [waits_is n c kk L' 201 hl3 (by decide), hr1]⟩
                have HFr2 : Aside0 (sorrelref15_Waits.f 201 n c L' (wrap64 (100 + kk)) = some r2) := ⟨by rw [waits_is n c _ L' 201 hl3 (by decide), hr2]⟩
                have HRr1 := Aside0.mk hr1
                have HRr2 := Aside0.mk hr2
                have q1 : (r1 != r1) = false := by simp
                have q2 : (r2 != r2) = false := by simp
                have f4 : wr.drew.heap[w2.heap.size]? = some (.cells #[.int .i64 (n : Int), .int .i64 (c : Int), .slice A5 L'.length c5] 41 (0, 0)) := HKk.out
                have f0 : wr.drew.cell? ⟨w2.heap.size, 0, none⟩ = some (.int .i64 (n : Int)) := (blk_cell f4 0).trans rfl
                have f1 : wr.drew.cell? ⟨w2.heap.size, 1, none⟩ = some (.int .i64 (c : Int)) := (blk_cell f4 1).trans rfl
                have f2 : wr.drew.cell? ⟨w2.heap.size, 2, none⟩ = some (.slice A5 L'.length c5) := (blk_cell f4 2).trans rfl
                have f3 := HSTk.out.step (below_drew (Below.refl _ _))
                clear hkk hkq hr1 hr2 hl3
                go_wp2
                refine start_ (n := 18) (S := fun w' => w'.cell? ⟨w2.heap.size, 0, none⟩ = some (.int .i64 (n : Int)) ∧ w'.cell? ⟨w2.heap.size, 1, none⟩ = some (.int .i64 (c : Int)) ∧ w'.cell? ⟨w2.heap.size, 2, none⟩ = some (.slice A5 L'.length c5) ∧ St wb w' g (placesL n c) (mL L') (.slice A5 L'.length c5) L' ∧ w'.heap[w2.heap.size]? = some (.cells #[.int .i64 (n : Int), .int .i64 (c : Int), .slice A5 L'.length c5] 41 (0, 0))) (ds := []) #[false, false, false, false, false, false, false, false, false, false, false, false, false, false, false, false, false, false] (by kernel_rfl) rfl rfl ⟨f0, f1, f2, f3, f4⟩ (fun hHeld => ?_)
                refine pure_ (i := 0) (N := some 157) (v := ?_) (a' := ?_) #[true, false, false, false, false, false, false, false, false, false, false, false, false, false, false, false, false, false] rfl rfl (by kernel_rfl) (fun _ _ _ h => h) (Or.inl ⟨by rfl, ?_⟩) ?_ ?_
                rotate_left
                · intro w'
                  go_simp
                  with_reducible rfl
                rotate_left
                · simp only [Act.put, List.setIfInBounds_toArray, List.set_cons_zero, List.set_cons_succ, i64_w, i32_w]
                  rfl
                refine pure_ (i := 1) (N := some 158) (v := ?_) (a' := ?_) #[true, true, false, false, false, false, false, false, false, false, false, false, false, false, false, false, false, false] rfl rfl (by kernel_rfl) (fun _ _ _ h => h) (Or.inl ⟨by rfl, ?_⟩) ?_ ?_
                rotate_left
                · intro w'
                  go_simp
                  with_reducible rfl
                rotate_left
                · simp only [Act.put, List.setIfInBounds_toArray, List.set_cons_zero, List.set_cons_succ, i64_w, i32_w]
                  rfl
                refine pure_ (i := 4) (N := some 161) (v := ?_) (a' := ?_) #[true, true, false, false, true, false, false, false, false, false, false, false, false, false, false, false, false, false] rfl rfl (by kernel_rfl) (fun _ _ _ h => h) (Or.inl ⟨by rfl, ?_⟩) ?_ ?_
                rotate_left
                · intro w'
                  go_simp
                  with_reducible rfl
                rotate_left
                · simp only [Act.put, List.setIfInBounds_toArray, List.set_cons_zero, List.set_cons_succ, i64_w, i32_w]
                  rfl
                refine take_ (i := 3) (N := some 160) (v := ?_) (a' := ?_) #[true, true, false, true, true, false, false, false, false, false, false, false, false, false, false, false, false, false] rfl rfl (by kernel_rfl) (fun _ _ _ h => h) (Or.inl ⟨by rfl, ?_⟩) hHeld ?_ ?_
                rotate_left
                · rintro w' ⟨s0, s1, s2, s3, s4⟩
                  go_simp
                  with_reducible rfl
                rotate_left
                · simp only [Act.put, List.setIfInBounds_toArray, List.set_cons_zero, List.set_cons_succ, i64_w, i32_w]
                  rfl
                refine one_ (i := 2) (N := some 159) #[true, true, true, true, true, false, false, false, false, false, false, false, false, false, false, false, false, false] rfl rfl (by kernel_rfl) (by decide) (fun K hK => ?_)
                refine goes_ Try.func10 (by kernel_rfl) rfl #[.pointer (some ⟨g, 0, none⟩), .int .i64 kk] (by rfl) rfl rfl (by simp only [List.map_toArray, List.map_cons, List.map_nil]; rfl) ?_
                with_reducible refine (waits_lit _ kk r1 _ hHeld.2.2.2.1.bag HRr1.out).mono ?_
                rintro e1 _ ⟨rfl, rfl⟩
                refine ⟨_, rfl, ?_⟩
                refine hK.out _ _ ⟨hHeld.1, hHeld.2.1, hHeld.2.2.1, hHeld.2.2.2.1, hHeld.2.2.2.2⟩ (fun hHeld => ?_)
                clear hK K
                refine norm_ (a' := ?_) ?_ ?_
                rotate_left
                · show Act.put _ (some 159) _ = _
                  simp only [Act.put, List.setIfInBounds_toArray, List.set_cons_zero, List.set_cons_succ, i64_w, i32_w]
                  rfl
                refine one_ (i := 5) (N := some 162) #[true, true, true, true, true, true, false, false, false, false, false, false, false, false, false, false, false, false] rfl rfl (by kernel_rfl) (by decide) (fun K hK => ?_)
                refine goes_ Try.func22 (by kernel_rfl) rfl #[.agg #[.int .i64 (n : Int), .int .i64 (c : Int), .slice A5 L'.length c5], .int .i64 kk] (by rfl) rfl rfl (by simp only [List.map_toArray, List.map_cons, List.map_nil]; rfl) ?_
                with_reducible refine (sorrelref15_Waits.calls 201 n c A5 c5 L' kk r1 _ (Kd.R_reads' hHeld.2.2.2.1.row).2.2 (Kd.R_reads' hHeld.2.2.2.1.row).2.1 HFr1.out).mono ?_
                rintro e1 w8 ⟨rfl, hb8⟩
                refine ⟨_, rfl, ?_⟩
                refine hK.out _ _ ⟨(hb8.cell (World.block_lt_of_cell? _ _ hHeld.1)).trans hHeld.1, (hb8.cell (World.block_lt_of_cell? _ _ hHeld.2.1)).trans hHeld.2.1, (hb8.cell (World.block_lt_of_cell? _ _ hHeld.2.2.1)).trans hHeld.2.2.1, hHeld.2.2.2.1.step hb8, blk_below hHeld.2.2.2.2 hb8⟩ (fun hHeld => ?_)
                clear hK K
                refine norm_ (a' := ?_) ?_ ?_
                rotate_left
                · show Act.put _ (some 162) _ = _
                  simp only [Act.put, List.setIfInBounds_toArray, List.set_cons_zero, List.set_cons_succ, i64_w, i32_w]
                  rfl
                refine pure_ (i := 6) (N := some 163) (v := ?_) (a' := ?_) #[true, true, true, true, true, true, true, false, false, false, false, false, false, false, false, false, false, false] rfl rfl (by kernel_rfl) (fun _ _ _ h => h) (Or.inl ⟨by rfl, ?_⟩) ?_ ?_
                rotate_left
                · intro w'
                  go_simp
                  with_reducible rfl
                rotate_left
                · simp only [Act.put, List.setIfInBounds_toArray, List.set_cons_zero, List.set_cons_succ, i64_w, i32_w]
                  rfl
                refine pure_ (i := 7) (N := some 164) (v := ?_) (a' := ?_) #[true, true, true, true, true, true, true, true, false, false, false, false, false, false, false, false, false, false] rfl rfl (by kernel_rfl) (fun _ _ _ h => h) (Or.inl ⟨by rfl, ?_⟩) ?_ ?_
                rotate_left
                · intro w'
                  go_simp
                  with_reducible rfl
                rotate_left
                · simp only [Act.put, List.setIfInBounds_toArray, List.set_cons_zero, List.set_cons_succ, i64_w, i32_w]
                  rfl
                refine pure_ (i := 8) (N := some 165) (v := ?_) (a' := ?_) #[true, true, true, true, true, true, true, true, true, false, false, false, false, false, false, false, false, false] rfl rfl (by kernel_rfl) (fun _ _ _ h => h) (Or.inl ⟨by rfl, ?_⟩) ?_ ?_
                rotate_left
                · intro w'
                  go_simp
                  with_reducible rfl
                rotate_left
                · simp only [Act.put, List.setIfInBounds_toArray, List.set_cons_zero, List.set_cons_succ, i64_w, i32_w]
                  rfl
                refine pure_ (i := 9) (N := some 166) (v := ?_) (a' := ?_) #[true, true, true, true, true, true, true, true, true, true, false, false, false, false, false, false, false, false] rfl rfl (by kernel_rfl) (fun _ _ _ h => h) (Or.inl ⟨by rfl, ?_⟩) ?_ ?_
                rotate_left
                · intro w'
                  go_simp
                  with_reducible rfl
                rotate_left
                · simp only [Act.put, List.setIfInBounds_toArray, List.set_cons_zero, List.set_cons_succ, i64_w, i32_w]
                  rfl
                refine pure_ (i := 10) (N := some 167) (v := ?_) (a' := ?_) #[true, true, true, true, true, true, true, true, true, true, true, false, false, false, false, false, false, false] rfl rfl (by kernel_rfl) (fun _ _ _ h => h) (Or.inl ⟨by rfl, ?_⟩) ?_ ?_
                rotate_left
                · intro w'
                  go_simp
                  with_reducible rfl
                rotate_left
                · simp only [Act.put, List.setIfInBounds_toArray, List.set_cons_zero, List.set_cons_succ, i64_w, i32_w]
                  rfl
                refine pure_ (i := 13) (N := some 170) (v := ?_) (a' := ?_) #[true, true, true, true, true, true, true, true, true, true, true, false, false, true, false, false, false, false] rfl rfl (by kernel_rfl) (fun _ _ _ h => h) (Or.inl ⟨by rfl, ?_⟩) ?_ ?_
                rotate_left
                · intro w'
                  go_simp
                  with_reducible rfl
                rotate_left
                · simp only [Act.put, List.setIfInBounds_toArray, List.set_cons_zero, List.set_cons_succ, i64_w, i32_w]
                  rfl
                refine pure_ (i := 14) (N := some 171) (v := ?_) (a' := ?_) #[true, true, true, true, true, true, true, true, true, true, true, false, false, true, true, false, false, false] rfl rfl (by kernel_rfl) (fun _ _ _ h => h) (Or.inl ⟨by rfl, ?_⟩) ?_ ?_
                rotate_left
                · intro w'
                  go_simp
                  with_reducible rfl
                rotate_left
                · simp only [Act.put, List.setIfInBounds_toArray, List.set_cons_zero, List.set_cons_succ, i64_w, i32_w]
                  rfl
                refine take_ (i := 12) (N := some 169) (v := ?_) (a' := ?_) #[true, true, true, true, true, true, true, true, true, true, true, false, true, true, true, false, false, false] rfl rfl (by kernel_rfl) (fun _ _ _ h => h) (Or.inl ⟨by rfl, ?_⟩) hHeld ?_ ?_
                rotate_left
                · rintro w' ⟨s0, s1, s2, s3, s4⟩
                  go_simp
                  with_reducible rfl
                rotate_left
                · simp only [Act.put, List.setIfInBounds_toArray, List.set_cons_zero, List.set_cons_succ, i64_w, i32_w]
                  rfl
                refine one_ (i := 11) (N := some 168) #[true, true, true, true, true, true, true, true, true, true, true, true, true, true, true, false, false, false] rfl rfl (by kernel_rfl) (by decide) (fun K hK => ?_)
                refine goes_ Try.func10 (by kernel_rfl) rfl #[.pointer (some ⟨g, 0, none⟩), .int .i64 (wrap64 (100 + kk))] (by rfl) rfl rfl (by simp only [List.map_toArray, List.map_cons, List.map_nil]; rfl) ?_
                with_reducible refine (waits_lit _ (wrap64 (100 + kk)) r2 _ hHeld.2.2.2.1.bag HRr2.out).mono ?_
                rintro e1 _ ⟨rfl, rfl⟩
                refine ⟨_, rfl, ?_⟩
                refine hK.out _ _ ⟨hHeld.1, hHeld.2.1, hHeld.2.2.1, hHeld.2.2.2.1, hHeld.2.2.2.2⟩ (fun hHeld => ?_)
                clear hK K
                refine norm_ (a' := ?_) ?_ ?_
                rotate_left
                · show Act.put _ (some 168) _ = _
                  simp only [Act.put, List.setIfInBounds_toArray, List.set_cons_zero, List.set_cons_succ, i64_w, i32_w]
                  rfl
                refine one_ (i := 15) (N := some 172) #[true, true, true, true, true, true, true, true, true, true, true, true, true, true, true, true, false, false] rfl rfl (by kernel_rfl) (by decide) (fun K hK => ?_)
                refine goes_ Try.func22 (by kernel_rfl) rfl #[.agg #[.int .i64 (n : Int), .int .i64 (c : Int), .slice A5 L'.length c5], .int .i64 (wrap64 (100 + kk))] (by rfl) rfl rfl (by simp only [List.map_toArray, List.map_cons, List.map_nil]; rfl) ?_
                with_reducible refine (sorrelref15_Waits.calls 201 n c A5 c5 L' (wrap64 (100 + kk)) r2 _ (Kd.R_reads' hHeld.2.2.2.1.row).2.2 (Kd.R_reads' hHeld.2.2.2.1.row).2.1 HFr2.out).mono ?_
                rintro e1 w8 ⟨rfl, hb8⟩
                refine ⟨_, rfl, ?_⟩
                refine hK.out _ _ ⟨(hb8.cell (World.block_lt_of_cell? _ _ hHeld.1)).trans hHeld.1, (hb8.cell (World.block_lt_of_cell? _ _ hHeld.2.1)).trans hHeld.2.1, (hb8.cell (World.block_lt_of_cell? _ _ hHeld.2.2.1)).trans hHeld.2.2.1, hHeld.2.2.2.1.step hb8, blk_below hHeld.2.2.2.2 hb8⟩ (fun hHeld => ?_)
                clear hK K
                refine norm_ (a' := ?_) ?_ ?_
                rotate_left
                · show Act.put _ (some 172) _ = _
                  simp only [Act.put, List.setIfInBounds_toArray, List.set_cons_zero, List.set_cons_succ, i64_w, i32_w]
                  rfl
                refine pure_ (i := 16) (N := some 173) (v := ?_) (a' := ?_) #[true, true, true, true, true, true, true, true, true, true, true, true, true, true, true, true, true, false] rfl rfl (by kernel_rfl) (fun _ _ _ h => h) (Or.inl ⟨by rfl, ?_⟩) ?_ ?_
                rotate_left
                · intro w'
                  go_simp
                  with_reducible rfl
                rotate_left
                · simp only [Act.put, List.setIfInBounds_toArray, List.set_cons_zero, List.set_cons_succ, i64_w, i32_w]
                  rfl
                refine pure_ (i := 17) (N := some 174) (v := ?_) (a' := ?_) #[true, true, true, true, true, true, true, true, true, true, true, true, true, true, true, true, true, true] rfl rfl (by kernel_rfl) (fun _ _ _ h => h) (Or.inl ⟨by rfl, ?_⟩) ?_ ?_
                rotate_left
                · intro w'
                  go_simp
                  with_reducible rfl
                rotate_left
                · simp only [Act.put, List.setIfInBounds_toArray, List.set_cons_zero, List.set_cons_succ, i64_w, i32_w]
                  rfl
                refine done_ (by kernel_rfl) ?_
                obtain ⟨-, -, -, hst9, hk9⟩ := hHeld
                have HST9 := Aside0.mk hst9
                have HK9 := Aside0.mk hk9
                clear hst9 hk9 f0 f1 f2 f3 f4
                go_wp2
                go_roundg k2
                case measure => omega
                case rel => exact ⟨k + 1, kk + 1, by rw [HWK.out], HK1, HQ1, HST9, HK9⟩
          · have g1 : (xk == 1) = false := beq_eq_false_iff_ne.mpr e1
            by_cases e2 : xk = 2
            · have g2 : (xk == 2) = true := beq_iff_eq.mpr e2
              clear e1 e2
              obtain ⟨e, L', y0, y1, y2, hL', hf, hcall⟩ := take_both n c HH.out.2.1 L xt xa HLL2.out HB.out.2.1.2 HB.out.2.2.1.1 HB.out.2.2.1.2
              try dsimp only at hcall hf
              have HP := Aside0.mk hcall
              have HPF := Aside0.mk hf
              have HLL3 := Aside0.mk hL'
              have qe : (e != e) = false := by simp
              clear hcall hf hL'
              have HSZ : Aside0 (wb.heap.size ≤ wr.heap.size) := ⟨HST.out.size⟩
              have HN7 : Aside0 (w2.heap.size ≠ wr.heap.size + 1) := ⟨by have := HNE.out; omega⟩
              have b0 : ((wr.alloc (.cells #[.int .i64 xk, .int .i64 xt, .int .i64 xa, .int .i64 fr, .int .i64 tp, .string tx] 48)).alloc (.cells #[.int .i64 (n : Int), .int .i64 (c : Int), .slice A L.length cp] 41)).cell? ⟨wr.heap.size, 0, none⟩ = some (.int .i64 xk) := (blk_cell HK10.out 0).trans rfl
              have hsz : ((wr.alloc (.cells #[.int .i64 xk, .int .i64 xt, .int .i64 xa, .int .i64 fr, .int .i64 tp, .string tx] 48)).alloc (.cells #[.int .i64 (n : Int), .int .i64 (c : Int), .slice A L.length cp] 41)).heap.size = wr.heap.size + 1 + 1 := by simp
              have h14 := heap_alloc_new ((wr.alloc (.cells #[.int .i64 xk, .int .i64 xt, .int .i64 xa, .int .i64 fr, .int .i64 tp, .string tx] 48)).alloc (.cells #[.int .i64 (n : Int), .int .i64 (c : Int), .slice A L.length cp] 41)) (.cells #[.int .i64 0, .int .i64 0, .string ⟨#[]⟩] 30)
              have h15 := heap_alloc_new (((wr.alloc (.cells #[.int .i64 xk, .int .i64 xt, .int .i64 xa, .int .i64 fr, .int .i64 tp, .string tx] 48)).alloc (.cells #[.int .i64 (n : Int), .int .i64 (c : Int), .slice A L.length cp] 41)).alloc (.cells #[.int .i64 0, .int .i64 0, .string ⟨#[]⟩] 30)) (.cells #[.int .i64 0, .int .i64 0, .string ⟨#[]⟩] 30)
              have n14 := Bag.not_new HSTA.out.bag (.cells #[.int .i64 0, .int .i64 0, .string ⟨#[]⟩] 30)
              have hst1 := HSTA.out.step (below_alloc (Below.refl _ _) (.cells #[.int .i64 0, .int .i64 0, .string ⟨#[]⟩] 30))
              have n15 := Bag.not_new hst1.bag (.cells #[.int .i64 0, .int .i64 0, .string ⟨#[]⟩] 30)
              have n14b := (Outs.of_below hst1.bag (below_alloc (Below.refl _ _) (.cells #[.int .i64 0, .int .i64 0, .string ⟨#[]⟩] 30)) _ _ h14 n14).2
              have HSTT := Aside0.mk (hst1.step (below_alloc (Below.refl _ _) (.cells #[.int .i64 0, .int .i64 0, .string ⟨#[]⟩] 30)))
              have hsz2 : (((wr.alloc (.cells #[.int .i64 xk, .int .i64 xt, .int .i64 xa, .int .i64 fr, .int .i64 tp, .string tx] 48)).alloc (.cells #[.int .i64 (n : Int), .int .i64 (c : Int), .slice A L.length cp] 41)).alloc (.cells #[.int .i64 0, .int .i64 0, .string ⟨#[]⟩] 30)).heap.size = wr.heap.size + 1 + 1 + 1 := by simp
              rw [hsz2] at h15 n15
              have h14b := blk_alloc h14 (.cells #[.int .i64 0, .int .i64 0, .string ⟨#[]⟩] 30)
              rw [hsz] at h14b n14b
              have H14 := Aside0.mk h14b
              have H15 := Aside0.mk h15
              have N14 := Aside0.mk n14b
              have N15 := Aside0.mk n15
              have HT7 := Aside0.mk (blk_alloc (blk_alloc HK7.out (.cells #[.int .i64 0, .int .i64 0, .string ⟨#[]⟩] 30)) (.cells #[.int .i64 0, .int .i64 0, .string ⟨#[]⟩] 30))
              have HT10 := Aside0.mk (blk_alloc (blk_alloc HK10.out (.cells #[.int .i64 0, .int .i64 0, .string ⟨#[]⟩] 30)) (.cells #[.int .i64 0, .int .i64 0, .string ⟨#[]⟩] 30))
              have HT13 := Aside0.mk (blk_alloc (blk_alloc HK13.out (.cells #[.int .i64 0, .int .i64 0, .string ⟨#[]⟩] 30)) (.cells #[.int .i64 0, .int .i64 0, .string ⟨#[]⟩] 30))
              have HOW : Aside0 (∀ k, (Value.slice A L.length cp).ownBlock = some k → k < wr.heap.size) := ⟨Kd.R_lt HST.out.row⟩
              have HOA : Aside0 (∀ j, wr.heap.size ≤ j → (Value.slice A L.length cp).ownBlock ≠ some j) := ⟨fun j hj e1 => by have := HOW.out j e1; omega⟩
              clear hsz hsz2 h14 h15 n14 n15 hst1 n14b h14b
              have b1 : ((((wr.alloc (.cells #[.int .i64 xk, .int .i64 xt, .int .i64 xa, .int .i64 fr, .int .i64 tp, .string tx] 48)).alloc (.cells #[.int .i64 (n : Int), .int .i64 (c : Int), .slice A L.length cp] 41)).alloc (.cells #[.int .i64 0, .int .i64 0, .string ⟨#[]⟩] 30)).alloc (.cells #[.int .i64 0, .int .i64 0, .string ⟨#[]⟩] 30)).cell? ⟨wr.heap.size, 1, none⟩ = some (.int .i64 xt) := (blk_cell HT10.out 1).trans rfl
              have b2 : ((((wr.alloc (.cells #[.int .i64 xk, .int .i64 xt, .int .i64 xa, .int .i64 fr, .int .i64 tp, .string tx] 48)).alloc (.cells #[.int .i64 (n : Int), .int .i64 (c : Int), .slice A L.length cp] 41)).alloc (.cells #[.int .i64 0, .int .i64 0, .string ⟨#[]⟩] 30)).alloc (.cells #[.int .i64 0, .int .i64 0, .string ⟨#[]⟩] 30)).cell? ⟨wr.heap.size, 2, none⟩ = some (.int .i64 xa) := (blk_cell HT10.out 2).trans rfl
              go_wp2_with (first | (go_at_call 18; go_loud ((refine (sorrelref15_Take.calls 201 n c (fun k => some k = (Value.slice A L.length cp).ownBlock) (.slice A L.length cp) L xt xa n c L' y0 y1 y2 e wb _ HST4.out.below (Kd.R_tight rfl HST4.out.row) HPF.out).mono ?_); rintro e1 w5 ⟨v5, rfl, hR5, hb5, hk5⟩; obtain ⟨A5, c5, e5⟩ := Kd.R_slice hR5; subst e5; have hst5 := HST4.out.ref hR5 hb5 hk5; have j7 := HST4.out.ref_blk hk5 HC7.out (by decide); have j13 := HST4.out.ref_blk hk5 HC13.out (by decide); have j14 := (hk5.2 (wr.heap.size + 1 + 1) (blk_lt HC14.out) (fun e1 => HOA.out _ (by omega) e1.symm)).trans HC14.out; have j15 := (hk5.2 (wr.heap.size + 1 + 1 + 1) (blk_lt HC15.out) (fun e1 => HOA.out _ (by omega) e1.symm)).trans HC15.out; have m15 := HST4.out.ref_ni hk5 N15b.out; have own15 : (Value.slice A5 L'.length c5).ownBlock ≠ some (wr.heap.size + 1 + 1 + 1) := fun e1 => (hR5.1 _ e1).elim (fun h_ => HOA.out _ (by omega) h_.symm) (fun h_ => absurd (blk_lt HC15.out) (Nat.not_lt.2 h_)); clear hR5 hb5 hk5; have x0 : w5.cell? ⟨wr.heap.size + 1, 0, none⟩ = some (.int .i64 (n : Int)) := (blk_cell j13 0).trans rfl; have x1 : w5.cell? ⟨wr.heap.size + 1, 1, none⟩ = some (.int .i64 (c : Int)) := (blk_cell j13 1).trans rfl; have x2 : w5.cell? ⟨wr.heap.size + 1, 2, none⟩ = some (.slice A L.length cp) := (blk_cell j13 2).trans rfl; have n0 := blk_frozen j13 0; have n1 := blk_frozen j13 1; have n2 := blk_frozen j13 2; have hn13 := hst5.other j13 (by decide) (by decide) (by decide); have hs13 := hst5.set3 j13 (by decide) (by decide) hn13.1 hn13.2 (Nat.le_trans HSZ.out (Nat.le_succ _)) (.int .i64 (n : Int)) (.int .i64 (c : Int)) (.slice A5 L'.length c5); have m15b := hst5.set3_ni j13 (by decide) (by decide) hn13.1 hn13.2 (Nat.le_trans HSZ.out (Nat.le_succ _)) (.int .i64 (n : Int)) (.int .i64 (c : Int)) (.slice A5 L'.length c5) m15; have hne := HNE.out; have p13 : (((w5.setCell ⟨wr.heap.size + 1, 0, none⟩ (.int .i64 (n : Int))).setCell ⟨wr.heap.size + 1, 1, none⟩ (.int .i64 (c : Int))).setCell ⟨wr.heap.size + 1, 2, none⟩ (.slice A5 L'.length c5)).heap[wr.heap.size + 1]? = some (.cells #[.int .i64 (n : Int), .int .i64 (c : Int), .slice A5 L'.length c5] 41 (0, 0)) := put3 j13; have p7 := blk_far3 j7 (nb := wr.heap.size + 1) (by omega) (.int .i64 (n : Int)) (.int .i64 (c : Int)) (.slice A5 L'.length c5); have p14 := blk_far3 j14 (nb := wr.heap.size + 1) (by omega) (.int .i64 (n : Int)) (.int .i64 (c : Int)) (.slice A5 L'.length c5); have p15 := blk_far3 j15 (nb := wr.heap.size + 1) (by omega) (.int .i64 (n : Int)) (.int .i64 (c : Int)) (.slice A5 L'.length c5); have ga0 : (((w5.setCell ⟨wr.heap.size + 1, 0, none⟩ (.int .i64 (n : Int))).setCell ⟨wr.heap.size + 1, 1, none⟩ (.int .i64 (c : Int))).setCell ⟨wr.heap.size + 1, 2, none⟩ (.slice A5 L'.length c5)).cell? ⟨wr.heap.size + 1 + 1 + 1, 0, none⟩ = some (.int .i64 0) := (blk_cell p15 0).trans rfl; have ga1 : (((w5.setCell ⟨wr.heap.size + 1, 0, none⟩ (.int .i64 (n : Int))).setCell ⟨wr.heap.size + 1, 1, none⟩ (.int .i64 (c : Int))).setCell ⟨wr.heap.size + 1, 2, none⟩ (.slice A5 L'.length c5)).cell? ⟨wr.heap.size + 1 + 1 + 1, 1, none⟩ = some (.int .i64 0) := (blk_cell p15 1).trans rfl; have ga2 : (((w5.setCell ⟨wr.heap.size + 1, 0, none⟩ (.int .i64 (n : Int))).setCell ⟨wr.heap.size + 1, 1, none⟩ (.int .i64 (c : Int))).setCell ⟨wr.heap.size + 1, 2, none⟩ (.slice A5 L'.length c5)).cell? ⟨wr.heap.size + 1 + 1 + 1, 2, none⟩ = some (.string ⟨#[]⟩) := (blk_cell p15 2).trans rfl; have wf0 : (((w5.setCell ⟨wr.heap.size + 1, 0, none⟩ (.int .i64 (n : Int))).setCell ⟨wr.heap.size + 1, 1, none⟩ (.int .i64 (c : Int))).setCell ⟨wr.heap.size + 1, 2, none⟩ (.slice A5 L'.length c5)).frozen? ⟨wr.heap.size + 1 + 1 + 1, 0, none⟩ = false := blk_frozen p15 0; have wf1 : (((w5.setCell ⟨wr.heap.size + 1, 0, none⟩ (.int .i64 (n : Int))).setCell ⟨wr.heap.size + 1, 1, none⟩ (.int .i64 (c : Int))).setCell ⟨wr.heap.size + 1, 2, none⟩ (.slice A5 L'.length c5)).frozen? ⟨wr.heap.size + 1 + 1 + 1, 1, none⟩ = false := blk_frozen p15 1; have wf2 : (((w5.setCell ⟨wr.heap.size + 1, 0, none⟩ (.int .i64 (n : Int))).setCell ⟨wr.heap.size + 1, 1, none⟩ (.int .i64 (c : Int))).setCell ⟨wr.heap.size + 1, 2, none⟩ (.slice A5 L'.length c5)).frozen? ⟨wr.heap.size + 1 + 1 + 1, 2, none⟩ = false := blk_frozen p15 2; have hs15 := hs13.set3 p15 (by decide) (by decide) m15b own15 (Nat.le_trans HSZ.out (by omega)) (.int .i64 y0) (.int .i64 y1) (.string y2); have r15 : ((((((w5.setCell ⟨wr.heap.size + 1, 0, none⟩ (.int .i64 (n : Int))).setCell ⟨wr.heap.size + 1, 1, none⟩ (.int .i64 (c : Int))).setCell ⟨wr.heap.size + 1, 2, none⟩ (.slice A5 L'.length c5)).setCell ⟨wr.heap.size + 1 + 1 + 1, 0, none⟩ (.int .i64 y0)).setCell ⟨wr.heap.size + 1 + 1 + 1, 1, none⟩ (.int .i64 y1)).setCell ⟨wr.heap.size + 1 + 1 + 1, 2, none⟩ (.string y2)).heap[wr.heap.size + 1 + 1 + 1]? = some (.cells #[.int .i64 y0, .int .i64 y1, .string y2] 30 (0, 0)) := put3 p15; have r7 := blk_far3 p7 (nb := wr.heap.size + 1 + 1 + 1) (by omega) (.int .i64 y0) (.int .i64 y1) (.string y2); have r13 := blk_far3 p13 (nb := wr.heap.size + 1 + 1 + 1) (by omega) (.int .i64 y0) (.int .i64 y1) (.string y2); have r14 := blk_far3 p14 (nb := wr.heap.size + 1 + 1 + 1) (by omega) (.int .i64 y0) (.int .i64 y1) (.string y2); have fa0 : ((((((w5.setCell ⟨wr.heap.size + 1, 0, none⟩ (.int .i64 (n : Int))).setCell ⟨wr.heap.size + 1, 1, none⟩ (.int .i64 (c : Int))).setCell ⟨wr.heap.size + 1, 2, none⟩ (.slice A5 L'.length c5)).setCell ⟨wr.heap.size + 1 + 1 + 1, 0, none⟩ (.int .i64 y0)).setCell ⟨wr.heap.size + 1 + 1 + 1, 1, none⟩ (.int .i64 y1)).setCell ⟨wr.heap.size + 1 + 1 + 1, 2, none⟩ (.string y2)).cell? ⟨wr.heap.size + 1 + 1, 0, none⟩ = some (.int .i64 y0) := (blk_cell r14 0).trans rfl; have fa1 : ((((((w5.setCell ⟨wr.heap.size + 1, 0, none⟩ (.int .i64 (n : Int))).setCell ⟨wr.heap.size + 1, 1, none⟩ (.int .i64 (c : Int))).setCell ⟨wr.heap.size + 1, 2, none⟩ (.slice A5 L'.length c5)).setCell ⟨wr.heap.size + 1 + 1 + 1, 0, none⟩ (.int .i64 y0)).setCell ⟨wr.heap.size + 1 + 1 + 1, 1, none⟩ (.int .i64 y1)).setCell ⟨wr.heap.size + 1 + 1 + 1, 2, none⟩ (.string y2)).cell? ⟨wr.heap.size + 1 + 1, 1, none⟩ = some (.int .i64 y1) := (blk_cell r14 1).trans rfl; have fa2 : ((((((w5.setCell ⟨wr.heap.size + 1, 0, none⟩ (.int .i64 (n : Int))).setCell ⟨wr.heap.size + 1, 1, none⟩ (.int .i64 (c : Int))).setCell ⟨wr.heap.size + 1, 2, none⟩ (.slice A5 L'.length c5)).setCell ⟨wr.heap.size + 1 + 1 + 1, 0, none⟩ (.int .i64 y0)).setCell ⟨wr.heap.size + 1 + 1 + 1, 1, none⟩ (.int .i64 y1)).setCell ⟨wr.heap.size + 1 + 1 + 1, 2, none⟩ (.string y2)).cell? ⟨wr.heap.size + 1 + 1, 2, none⟩ = some (.string y2) := (blk_cell r14 2).trans rfl; have fb0 : ((((((w5.setCell ⟨wr.heap.size + 1, 0, none⟩ (.int .i64 (n : Int))).setCell ⟨wr.heap.size + 1, 1, none⟩ (.int .i64 (c : Int))).setCell ⟨wr.heap.size + 1, 2, none⟩ (.slice A5 L'.length c5)).setCell ⟨wr.heap.size + 1 + 1 + 1, 0, none⟩ (.int .i64 y0)).setCell ⟨wr.heap.size + 1 + 1 + 1, 1, none⟩ (.int .i64 y1)).setCell ⟨wr.heap.size + 1 + 1 + 1, 2, none⟩ (.string y2)).cell? ⟨wr.heap.size + 1 + 1 + 1, 0, none⟩ = some (.int .i64 y0) := (blk_cell r15 0).trans rfl; have fb1 : ((((((w5.setCell ⟨wr.heap.size + 1, 0, none⟩ (.int .i64 (n : Int))).setCell ⟨wr.heap.size + 1, 1, none⟩ (.int .i64 (c : Int))).setCell ⟨wr.heap.size + 1, 2, none⟩ (.slice A5 L'.length c5)).setCell ⟨wr.heap.size + 1 + 1 + 1, 0, none⟩ (.int .i64 y0)).setCell ⟨wr.heap.size + 1 + 1 + 1, 1, none⟩ (.int .i64 y1)).setCell ⟨wr.heap.size + 1 + 1 + 1, 2, none⟩ (.string y2)).cell? ⟨wr.heap.size + 1 + 1 + 1, 1, none⟩ = some (.int .i64 y1) := (blk_cell r15 1).trans rfl; have fb2 : ((((((w5.setCell ⟨wr.heap.size + 1, 0, none⟩ (.int .i64 (n : Int))).setCell ⟨wr.heap.size + 1, 1, none⟩ (.int .i64 (c : Int))).setCell ⟨wr.heap.size + 1, 2, none⟩ (.slice A5 L'.length c5)).setCell ⟨wr.heap.size + 1 + 1 + 1, 0, none⟩ (.int .i64 y0)).setCell ⟨wr.heap.size + 1 + 1 + 1, 1, none⟩ (.int .i64 y1)).setCell ⟨wr.heap.size + 1 + 1 + 1, 2, none⟩ (.string y2)).cell? ⟨wr.heap.size + 1 + 1 + 1, 2, none⟩ = some (.string y2) := (blk_cell r15 2).trans rfl; have q0 : ((((((w5.setCell ⟨wr.heap.size + 1, 0, none⟩ (.int .i64 (n : Int))).setCell ⟨wr.heap.size + 1, 1, none⟩ (.int .i64 (c : Int))).setCell ⟨wr.heap.size + 1, 2, none⟩ (.slice A5 L'.length c5)).setCell ⟨wr.heap.size + 1 + 1 + 1, 0, none⟩ (.int .i64 y0)).setCell ⟨wr.heap.size + 1 + 1 + 1, 1, none⟩ (.int .i64 y1)).setCell ⟨wr.heap.size + 1 + 1 + 1, 2, none⟩ (.string y2)).cell? ⟨wr.heap.size + 1, 0, none⟩ = some (.int .i64 (n : Int)) := (blk_cell r13 0).trans rfl; have q1 : ((((((w5.setCell ⟨wr.heap.size + 1, 0, none⟩ (.int .i64 (n : Int))).setCell ⟨wr.heap.size + 1, 1, none⟩ (.int .i64 (c : Int))).setCell ⟨wr.heap.size + 1, 2, none⟩ (.slice A5 L'.length c5)).setCell ⟨wr.heap.size + 1 + 1 + 1, 0, none⟩ (.int .i64 y0)).setCell ⟨wr.heap.size + 1 + 1 + 1, 1, none⟩ (.int .i64 y1)).setCell ⟨wr.heap.size + 1 + 1 + 1, 2, none⟩ (.string y2)).cell? ⟨wr.heap.size + 1, 1, none⟩ = some (.int .i64 (c : Int)) := (blk_cell r13 1).trans rfl; have q2 : ((((((w5.setCell ⟨wr.heap.size + 1, 0, none⟩ (.int .i64 (n : Int))).setCell ⟨wr.heap.size + 1, 1, none⟩ (.int .i64 (c : Int))).setCell ⟨wr.heap.size + 1, 2, none⟩ (.slice A5 L'.length c5)).setCell ⟨wr.heap.size + 1 + 1 + 1, 0, none⟩ (.int .i64 y0)).setCell ⟨wr.heap.size + 1 + 1 + 1, 1, none⟩ (.int .i64 y1)).setCell ⟨wr.heap.size + 1 + 1 + 1, 2, none⟩ (.string y2)).cell? ⟨wr.heap.size + 1, 2, none⟩ = some (.slice A5 L'.length c5) := (blk_cell r13 2).trans rfl; have v0 : ((((((w5.setCell ⟨wr.heap.size + 1, 0, none⟩ (.int .i64 (n : Int))).setCell ⟨wr.heap.size + 1, 1, none⟩ (.int .i64 (c : Int))).setCell ⟨wr.heap.size + 1, 2, none⟩ (.slice A5 L'.length c5)).setCell ⟨wr.heap.size + 1 + 1 + 1, 0, none⟩ (.int .i64 y0)).setCell ⟨wr.heap.size + 1 + 1 + 1, 1, none⟩ (.int .i64 y1)).setCell ⟨wr.heap.size + 1 + 1 + 1, 2, none⟩ (.string y2)).cell? ⟨w2.heap.size, 0, none⟩ = some (.int .i64 (n : Int)) := (blk_cell r7 0).trans rfl; have v1 : ((((((w5.setCell ⟨wr.heap.size + 1, 0, none⟩ (.int .i64 (n : Int))).setCell ⟨wr.heap.size + 1, 1, none⟩ (.int .i64 (c : Int))).setCell ⟨wr.heap.size + 1, 2, none⟩ (.slice A5 L'.length c5)).setCell ⟨wr.heap.size + 1 + 1 + 1, 0, none⟩ (.int .i64 y0)).setCell ⟨wr.heap.size + 1 + 1 + 1, 1, none⟩ (.int .i64 y1)).setCell ⟨wr.heap.size + 1 + 1 + 1, 2, none⟩ (.string y2)).cell? ⟨w2.heap.size, 1, none⟩ = some (.int .i64 (c : Int)) := (blk_cell r7 1).trans rfl; have v2 : ((((((w5.setCell ⟨wr.heap.size + 1, 0, none⟩ (.int .i64 (n : Int))).setCell ⟨wr.heap.size + 1, 1, none⟩ (.int .i64 (c : Int))).setCell ⟨wr.heap.size + 1, 2, none⟩ (.slice A5 L'.length c5)).setCell ⟨wr.heap.size + 1 + 1 + 1, 0, none⟩ (.int .i64 y0)).setCell ⟨wr.heap.size + 1 + 1 + 1, 1, none⟩ (.int .i64 y1)).setCell ⟨wr.heap.size + 1 + 1 + 1, 2, none⟩ (.string y2)).cell? ⟨w2.heap.size, 2, none⟩ = some (.slice A L.length cp) := (blk_cell r7 2).trans rfl; have o0 := blk_frozen r7 0; have o1 := blk_frozen r7 1; have o2 := blk_frozen r7 2; have hn7 := hs15.other r7 (by decide) (by decide) (by decide); have HST7 := Aside0.mk (hs15.set3 r7 (by decide) (by decide) hn7.1 hn7.2 HG7.out (.int .i64 (n : Int)) (.int .i64 (c : Int)) (.slice A5 L'.length c5)); have HK77 : Aside0 ((((((((((w5.setCell ⟨wr.heap.size + 1, 0, none⟩ (.int .i64 (n : Int))).setCell ⟨wr.heap.size + 1, 1, none⟩ (.int .i64 (c : Int))).setCell ⟨wr.heap.size + 1, 2, none⟩ (.slice A5 L'.length c5)).setCell ⟨wr.heap.size + 1 + 1 + 1, 0, none⟩ (.int .i64 y0)).setCell ⟨wr.heap.size + 1 + 1 + 1, 1, none⟩ (.int .i64 y1)).setCell ⟨wr.heap.size + 1 + 1 + 1, 2, none⟩ (.string y2)).setCell ⟨w2.heap.size, 0, none⟩ (.int .i64 (n : Int))).setCell ⟨w2.heap.size, 1, none⟩ (.int .i64 (c : Int))).setCell ⟨w2.heap.size, 2, none⟩ (.slice A5 L'.length c5)).heap[w2.heap.size]? = some (.cells #[.int .i64 (n : Int), .int .i64 (c : Int), .slice A5 L'.length c5] 41 (0, 0))) := ⟨put3 r7⟩; clear hst5 j7 j13 j14 j15 m15 own15 hn13 hs13 m15b hne p13 p7 p14 p15 hs15 r15 r7 r13 r14 hn7)) | (go_at_call 11; go_loud ((refine (HP.out g wb _ _ HSTT.out).mono ?_); rintro e1 w4 ⟨rfl, hf4, ho4, hst4⟩; have k7 := BFr.blk hf4 HT7.out (by decide); have k10 := BFr.blk hf4 HT10.out (by decide); have k13 := BFr.blk hf4 HT13.out (by decide); obtain ⟨k14, m14⟩ := ho4 _ _ H14.out N14.out; obtain ⟨k15, m15⟩ := ho4 _ _ H15.out N15.out; have ga0 : w4.cell? ⟨wr.heap.size + 1 + 1, 0, none⟩ = some (.int .i64 0) := (blk_cell k14 0).trans rfl; have ga1 : w4.cell? ⟨wr.heap.size + 1 + 1, 1, none⟩ = some (.int .i64 0) := (blk_cell k14 1).trans rfl; have ga2 : w4.cell? ⟨wr.heap.size + 1 + 1, 2, none⟩ = some (.string ⟨#[]⟩) := (blk_cell k14 2).trans rfl; have wf0 : w4.frozen? ⟨wr.heap.size + 1 + 1, 0, none⟩ = false := blk_frozen k14 0; have wf1 : w4.frozen? ⟨wr.heap.size + 1 + 1, 1, none⟩ = false := blk_frozen k14 1; have wf2 : w4.frozen? ⟨wr.heap.size + 1 + 1, 2, none⟩ = false := blk_frozen k14 2; have hs14 := hst4.set3 k14 (by decide) (by decide) m14 (HOA.out _ (by omega)) (Nat.le_trans HSZ.out (by omega)) (.int .i64 y0) (.int .i64 y1) (.string y2); have N15b := Aside0.mk (hst4.set3_ni k14 (by decide) (by decide) m14 (HOA.out _ (by omega)) (Nat.le_trans HSZ.out (by omega)) (.int .i64 y0) (.int .i64 y1) (.string y2) m15); have HST4 := Aside0.mk hs14; have hne := HNE.out; have i7 := blk_far3 k7 (nb := wr.heap.size + 1 + 1) (by omega) (.int .i64 y0) (.int .i64 y1) (.string y2); have i10 := blk_far3 k10 (nb := wr.heap.size + 1 + 1) (by omega) (.int .i64 y0) (.int .i64 y1) (.string y2); have i13 := blk_far3 k13 (nb := wr.heap.size + 1 + 1) (by omega) (.int .i64 y0) (.int .i64 y1) (.string y2); have i15 := blk_far3 k15 (nb := wr.heap.size + 1 + 1) (by omega) (.int .i64 y0) (.int .i64 y1) (.string y2); have i14 : (((w4.setCell ⟨wr.heap.size + 1 + 1, 0, none⟩ (.int .i64 y0)).setCell ⟨wr.heap.size + 1 + 1, 1, none⟩ (.int .i64 y1)).setCell ⟨wr.heap.size + 1 + 1, 2, none⟩ (.string y2)).heap[wr.heap.size + 1 + 1]? = some (.cells #[.int .i64 y0, .int .i64 y1, .string y2] 30 (0, 0)) := put3 k14; have HC7 := Aside0.mk i7; have HC13 := Aside0.mk i13; have HC14 := Aside0.mk i14; have HC15 := Aside0.mk i15; have z0 : (((w4.setCell ⟨wr.heap.size + 1 + 1, 0, none⟩ (.int .i64 y0)).setCell ⟨wr.heap.size + 1 + 1, 1, none⟩ (.int .i64 y1)).setCell ⟨wr.heap.size + 1 + 1, 2, none⟩ (.string y2)).cell? ⟨w2.heap.size, 0, none⟩ = some (.int .i64 (n : Int)) := (blk_cell i7 0).trans rfl; have z1 : (((w4.setCell ⟨wr.heap.size + 1 + 1, 0, none⟩ (.int .i64 y0)).setCell ⟨wr.heap.size + 1 + 1, 1, none⟩ (.int .i64 y1)).setCell ⟨wr.heap.size + 1 + 1, 2, none⟩ (.string y2)).cell? ⟨w2.heap.size, 1, none⟩ = some (.int .i64 (c : Int)) := (blk_cell i7 1).trans rfl; have z2 : (((w4.setCell ⟨wr.heap.size + 1 + 1, 0, none⟩ (.int .i64 y0)).setCell ⟨wr.heap.size + 1 + 1, 1, none⟩ (.int .i64 y1)).setCell ⟨wr.heap.size + 1 + 1, 2, none⟩ (.string y2)).cell? ⟨w2.heap.size, 2, none⟩ = some (.slice A L.length cp) := (blk_cell i7 2).trans rfl; have gy1 : (((w4.setCell ⟨wr.heap.size + 1 + 1, 0, none⟩ (.int .i64 y0)).setCell ⟨wr.heap.size + 1 + 1, 1, none⟩ (.int .i64 y1)).setCell ⟨wr.heap.size + 1 + 1, 2, none⟩ (.string y2)).cell? ⟨wr.heap.size, 1, none⟩ = some (.int .i64 xt) := (blk_cell i10 1).trans rfl; have gy2 : (((w4.setCell ⟨wr.heap.size + 1 + 1, 0, none⟩ (.int .i64 y0)).setCell ⟨wr.heap.size + 1 + 1, 1, none⟩ (.int .i64 y1)).setCell ⟨wr.heap.size + 1 + 1, 2, none⟩ (.string y2)).cell? ⟨wr.heap.size, 2, none⟩ = some (.int .i64 xa) := (blk_cell i10 2).trans rfl; clear hf4 ho4 hst4 k7 k10 k13 k14 k15 m14 m15 hs14 hne i7 i10 i13 i14 i15)))
              try clear gy1 gy2 ga0 ga1 ga2 wf0 wf1 wf2 fa0 fa1 fa2 fb0 fb1 fb2
              try clear x0 x1 x2 n0 n1 n2 q0 q1 q2 v0 v1 v2 o0 o1 o2
              try clear z0 z1 z2
              try clear y1 y2 y3 y4 y5
              try clear b0 b1 b2 b3 b4 b5
              try clear a0 a1 a2 a3 a4 a5 s0 s1 s2 r0 r1 r2 r3 r4 r5
              go_loopg [16] 9 (fun kq v16 w' => ∃ (k : Nat) (kk : Int), v16 = .int .i64 kk ∧ Aside0 (kk = (k : Int) - 2) ∧ Aside0 (k + kq = 9) ∧ Aside0 (St wb w' g (placesL n c) (mL L') (.slice A5 L'.length c5) L') ∧ Aside0 (w'.heap[w2.heap.size]? = some (.cells #[.int .i64 (n : Int), .int .i64 (c : Int), .slice A5 L'.length c5] 41 (0, 0))))
              case atStart => exact ⟨0, -2, rfl, ⟨rfl⟩, ⟨rfl⟩, HST7, HK77⟩
              case round =>
                clear HST7 HK77
                obtain ⟨k, kk, rfl, HKK, HKQ, HSTk, HKk⟩ := hrel
                have hkk := HKK.out
                have hkq := HKQ.out
                cases gk with
                | zero =>
                  have m1 : decide (kk < 7) = false := decide_eq_false (by omega)
                  clear hkk hkq
                  go_wp2
                  go_roundg k1
                  case measure => omega
                  case rel => exact ⟨i + 1, L', _, by rw [HW.out], HI2, ⟨by have h1 := HLL.out; have h2 := HLL3.out; omega⟩, HSTk, HKk⟩
                | succ k2 =>
                  have m1 : decide (kk < 7) = true := decide_eq_true (by omega)
                  have HWK : Aside0 (wrap64 (kk + 1) = kk + 1) := ⟨by unfold wrap64; omega⟩
                  have HK1 : Aside0 (kk + 1 = ((k + 1 : Nat) : Int) - 2) := ⟨by omega⟩
                  have HQ1 : Aside0 (k + 1 + k2 = 9) := ⟨by omega⟩
                  obtain ⟨r1, hr1⟩ : ∃ r1 : Int, ((mL L' kk).length : Int) = r1 := ⟨_, rfl⟩
                  obtain ⟨r2, hr2⟩ : ∃ r2 : Int, ((mL L' (wrap64 (100 + kk))).length : Int) = r2 := ⟨_, rfl⟩
                  have hl3 : L'.length < 199 := by have h1 := HLL3.out; have h2 := HLL.out; have h3 := HI2.out; have h4 := HN.out; omega
                  have HFr1 : Aside0 (sorrelref15_Waits.f 201 n c L' kk = some r1) := ⟨by rw [waits_is n c kk L' 201 hl3 (by decide), hr1]⟩
                  have HFr2 : Aside0 (sorrelref15_Waits.f 201 n c L' (wrap64 (100 + kk)) = some r2) := ⟨by rw [waits_is n c _ L' 201 hl3 (by decide), hr2]⟩
                  have HRr1 := Aside0.mk hr1
                  have HRr2 := Aside0.mk hr2
                  have q1 : (r1 != r1) = false := by simp
                  have q2 : (r2 != r2) = false := by simp
                  have f4 : wr.drew.heap[w2.heap.size]? = some (.cells #[.int .i64 (n : Int), .int .i64 (c : Int), .slice A5 L'.length c5] 41 (0, 0)) := HKk.out
                  have f0 : wr.drew.cell? ⟨w2.heap.size, 0, none⟩ = some (.int .i64 (n : Int)) := (blk_cell f4 0).trans rfl
                  have f1 : wr.drew.cell? ⟨w2.heap.size, 1, none⟩ = some (.int .i64 (c : Int)) := (blk_cell f4 1).trans rfl
                  have f2 : wr.drew.cell? ⟨w2.heap.size, 2, none⟩ = some (.slice A5 L'.length c5) := (blk_cell f4 2).trans rfl
                  have f3 := HSTk.out.step (below_drew (Below.refl _ _))
                  clear hkk hkq hr1 hr2 hl3
                  go_wp2
                  refine start_ (n := 18) (S := fun w' => w'.cell? ⟨w2.heap.size, 0, none⟩ = some (.int .i64 (n : Int)) ∧ w'.cell? ⟨w2.heap.size, 1, none⟩ = some (.int .i64 (c : Int)) ∧ w'.cell? ⟨w2.heap.size, 2, none⟩ = some (.slice A5 L'.length c5) ∧ St wb w' g (placesL n c) (mL L') (.slice A5 L'.length c5) L' ∧ w'.heap[w2.heap.size]? = some (.cells #[.int .i64 (n : Int), .int .i64 (c : Int), .slice A5 L'.length c5] 41 (0, 0))) (ds := []) #[false, false, false, false, false, false, false, false, false, false, false, false, false, false, false, false, false, false] (by kernel_rfl) rfl rfl ⟨f0, f1, f2, f3, f4⟩ (fun hHeld => ?_)
                  refine pure_ (i := 0) (N := some 157) (v := ?_) (a' := ?_) #[true, false, false, false, false, false, false, false, false, false, false, false, false, false, false, false, false, false] rfl rfl (by kernel_rfl) (fun _ _ _ h => h) (Or.inl ⟨by rfl, ?_⟩) ?_ ?_
                  rotate_left
                  · intro w'
                    go_simp
                    with_reducible rfl
                  rotate_left
                  · simp only [Act.put, List.setIfInBounds_toArray, List.set_cons_zero, List.set_cons_succ, i64_w, i32_w]
                    rfl
                  refine pure_ (i := 1) (N := some 158) (v := ?_) (a' := ?_) #[true, true, false, false, false, false, false, false, false, false, false, false, false, false, false, false, false, false] rfl rfl (by kernel_rfl) (fun _ _ _ h => h) (Or.inl ⟨by rfl, ?_⟩) ?_ ?_
                  rotate_left
                  · intro w'
                    go_simp
                    with_reducible rfl
                  rotate_left
                  · simp only [Act.put, List.setIfInBounds_toArray, List.set_cons_zero, List.set_cons_succ, i64_w, i32_w]
                    rfl
                  refine pure_ (i := 4) (N := some 161) (v := ?_) (a' := ?_) #[true, true, false, false, true, false, false, false, false, false, false, false, false, false, false, false, false, false] rfl rfl (by kernel_rfl) (fun _ _ _ h => h) (Or.inl ⟨by rfl, ?_⟩) ?_ ?_
                  rotate_left
                  · intro w'
                    go_simp
                    with_reducible rfl
                  rotate_left
                  · simp only [Act.put, List.setIfInBounds_toArray, List.set_cons_zero, List.set_cons_succ, i64_w, i32_w]
                    rfl
                  refine take_ (i := 3) (N := some 160) (v := ?_) (a' := ?_) #[true, true, false, true, true, false, false, false, false, false, false, false, false, false, false, false, false, false] rfl rfl (by kernel_rfl) (fun _ _ _ h => h) (Or.inl ⟨by rfl, ?_⟩) hHeld ?_ ?_
                  rotate_left
                  · rintro w' ⟨s0, s1, s2, s3, s4⟩
                    go_simp
                    with_reducible rfl
                  rotate_left
                  · simp only [Act.put, List.setIfInBounds_toArray, List.set_cons_zero, List.set_cons_succ, i64_w, i32_w]
                    rfl
                  refine one_ (i := 2) (N := some 159) #[true, true, true, true, true, false, false, false, false, false, false, false, false, false, false, false, false, false] rfl rfl (by kernel_rfl) (by decide) (fun K hK => ?_)
                  refine goes_ Try.func10 (by kernel_rfl) rfl #[.pointer (some ⟨g, 0, none⟩), .int .i64 kk] (by rfl) rfl rfl (by simp only [List.map_toArray, List.map_cons, List.map_nil]; rfl) ?_
                  with_reducible refine (waits_lit _ kk r1 _ hHeld.2.2.2.1.bag HRr1.out).mono ?_
                  rintro e1 _ ⟨rfl, rfl⟩
                  refine ⟨_, rfl, ?_⟩
                  refine hK.out _ _ ⟨hHeld.1, hHeld.2.1, hHeld.2.2.1, hHeld.2.2.2.1, hHeld.2.2.2.2⟩ (fun hHeld => ?_)
                  clear hK K
                  refine norm_ (a' := ?_) ?_ ?_
                  rotate_left
                  · show Act.put _ (some 159) _ = _
                    simp only [Act.put, List.setIfInBounds_toArray, List.set_cons_zero, List.set_cons_succ, i64_w, i32_w]
                    rfl
                  refine one_ (i := 5) (N := some 162) #[true, true, true, true, true, true, false, false, false, false, false, false, false, false, false, false, false, false] rfl rfl (by kernel_rfl) (by decide) (fun K hK => ?_)
                  refine goes_ Try.func22 (by kernel_rfl) rfl #[.agg #[.int .i64 (n : Int), .int .i64 (c : Int), .slice A5 L'.length c5], .int .i64 kk] (by rfl) rfl rfl (by simp only [List.map_toArray, List.map_cons, List.map_nil]; rfl) ?_
                  with_reducible refine (sorrelref15_Waits.calls 201 n c A5 c5 L' kk r1 _ (Kd.R_reads' hHeld.2.2.2.1.row).2.2 (Kd.R_reads' hHeld.2.2.2.1.row).2.1 HFr1.out).mono ?_
                  rintro e1 w8 ⟨rfl, hb8⟩
                  refine ⟨_, rfl, ?_⟩
                  refine hK.out _ _ ⟨(hb8.cell (World.block_lt_of_cell? _ _ hHeld.1)).trans hHeld.1, (hb8.cell (World.block_lt_of_cell? _ _ hHeld.2.1)).trans hHeld.2.1, (hb8.cell (World.block_lt_of_cell? _ _ hHeld.2.2.1)).trans hHeld.2.2.1, hHeld.2.2.2.1.step hb8, blk_below hHeld.2.2.2.2 hb8⟩ (fun hHeld => ?_)
                  clear hK K
                  refine norm_ (a' := ?_) ?_ ?_
                  rotate_left
                  · show Act.put _ (some 162) _ = _
                    simp only [Act.put, List.setIfInBounds_toArray, List.set_cons_zero, List.set_cons_succ, i64_w, i32_w]
                    rfl
                  refine pure_ (i := 6) (N := some 163) (v := ?_) (a' := ?_) #[true, true, true, true, true, true, true, false, false, false, false, false, false, false, false, false, false, false] rfl rfl (by kernel_rfl) (fun _ _ _ h => h) (Or.inl ⟨by rfl, ?_⟩) ?_ ?_
                  rotate_left
                  · intro w'
                    go_simp
                    with_reducible rfl
                  rotate_left
                  · simp only [Act.put, List.setIfInBounds_toArray, List.set_cons_zero, List.set_cons_succ, i64_w, i32_w]
                    rfl
                  refine pure_ (i := 7) (N := some 164) (v := ?_) (a' := ?_) #[true, true, true, true, true, true, true, true, false, false, false, false, false, false, false, false, false, false] rfl rfl (by kernel_rfl) (fun _ _ _ h => h) (Or.inl ⟨by rfl, ?_⟩) ?_ ?_
                  rotate_left
                  · intro w'
                    go_simp
                    with_reducible rfl
                  rotate_left
                  · simp only [Act.put, List.setIfInBounds_toArray, List.set_cons_zero, List.set_cons_succ, i64_w, i32_w]
                    rfl
                  refine pure_ (i := 8) (N := some 165) (v := ?_) (a' := ?_) #[true, true, true, true, true, true, true, true, true, false, false, false, false, false, false, false, false, false] rfl rfl (by kernel_rfl) (fun _ _ _ h => h) (Or.inl ⟨by rfl, ?_⟩) ?_ ?_
                  rotate_left
                  · intro w'
                    go_simp
                    with_reducible rfl
                  rotate_left
                  · simp only [Act.put, List.setIfInBounds_toArray, List.set_cons_zero, List.set_cons_succ, i64_w, i32_w]
                    rfl
                  refine pure_ (i := 9) (N := some 166) (v := ?_) (a' := ?_) #[true, true, true, true, true, true, true, true, true, true, false, false, false, false, false, false, false, false] rfl rfl (by kernel_rfl) (fun _ _ _ h => h) (Or.inl ⟨by rfl, ?_⟩) ?_ ?_
                  rotate_left
                  · intro w'
                    go_simp
                    with_reducible rfl
                  rotate_left
                  · simp only [Act.put, List.setIfInBounds_toArray, List.set_cons_zero, List.set_cons_succ, i64_w, i32_w]
                    rfl
                  refine pure_ (i := 10) (N := some 167) (v := ?_) (a' := ?_) #[true, true, true, true, true, true, true, true, true, true, true, false, false, false, false, false, false, false] rfl rfl (by kernel_rfl) (fun _ _ _ h => h) (Or.inl ⟨by rfl, ?_⟩) ?_ ?_
                  rotate_left
                  · intro w'
                    go_simp
                    with_reducible rfl
                  rotate_left
                  · simp only [Act.put, List.setIfInBounds_toArray, List.set_cons_zero, List.set_cons_succ, i64_w, i32_w]
                    rfl
                  refine pure_ (i := 13) (N := some 170) (v := ?_) (a' := ?_) #[true, true, true, true, true, true, true, true, true, true, true, false, false, true, false, false, false, false] rfl rfl (by kernel_rfl) (fun _ _ _ h => h) (Or.inl ⟨by rfl, ?_⟩) ?_ ?_
                  rotate_left
                  · intro w'
                    go_simp
                    with_reducible rfl
                  rotate_left
                  · simp only [Act.put, List.setIfInBounds_toArray, List.set_cons_zero, List.set_cons_succ, i64_w, i32_w]
                    rfl
                  refine pure_ (i := 14) (N := some 171) (v := ?_) (a' := ?_) #[true, true, true, true, true, true, true, true, true, true, true, false, false, true, true, false, false, false] rfl rfl (by kernel_rfl) (fun _ _ _ h => h) (Or.inl ⟨by rfl, ?_⟩) ?_ ?_
                  rotate_left
                  · intro w'
                    go_simp
                    with_reducible rfl
                  rotate_left
                  · simp only [Act.put, List.setIfInBounds_toArray, List.set_cons_zero, List.set_cons_succ, i64_w, i32_w]
                    rfl
                  refine take_ (i := 12) (N := some 169) (v := ?_) (a' := ?_) #[true, true, true, true, true, true, true, true, true, true, true, false, true, true, true, false, false, false] rfl rfl (by kernel_rfl) (fun _ _ _ h => h) (Or.inl ⟨by rfl, ?_⟩) hHeld ?_ ?_
                  rotate_left
                  · rintro w' ⟨s0, s1, s2, s3, s4⟩
                    go_simp
                    with_reducible rfl
                  rotate_left
                  · simp only [Act.put, List.setIfInBounds_toArray, List.set_cons_zero, List.set_cons_succ, i64_w, i32_w]
                    rfl
                  refine one_ (i := 11) (N := some 168) #[true, true, true, true, true, true, true, true, true, true, true, true, true, true, true, false, false, false] rfl rfl (by kernel_rfl) (by decide) (fun K hK => ?_)
                  refine goes_ Try.func10 (by kernel_rfl) rfl #[.pointer (some ⟨g, 0, none⟩), .int .i64 (wrap64 (100 + kk))] (by rfl) rfl rfl (by simp only [List.map_toArray, List.map_cons, List.map_nil]; rfl) ?_
                  with_reducible refine (waits_lit _ (wrap64 (100 + kk)) r2 _ hHeld.2.2.2.1.bag HRr2.out).mono ?_
                  rintro e1 _ ⟨rfl, rfl⟩
                  refine ⟨_, rfl, ?_⟩
                  refine hK.out _ _ ⟨hHeld.1, hHeld.2.1, hHeld.2.2.1, hHeld.2.2.2.1, hHeld.2.2.2.2⟩ (fun hHeld => ?_)
                  clear hK K
                  refine norm_ (a' := ?_) ?_ ?_
                  rotate_left
                  · show Act.put _ (some 168) _ = _
                    simp only [Act.put, List.setIfInBounds_toArray, List.set_cons_zero, List.set_cons_succ, i64_w, i32_w]
                    rfl
                  refine one_ (i := 15) (N := some 172) #[true, true, true, true, true, true, true, true, true, true, true, true, true, true, true, true, false, false] rfl rfl (by kernel_rfl) (by decide) (fun K hK => ?_)
                  refine goes_ Try.func22 (by kernel_rfl) rfl #[.agg #[.int .i64 (n : Int), .int .i64 (c : Int), .slice A5 L'.length c5], .int .i64 (wrap64 (100 + kk))] (by rfl) rfl rfl (by simp only [List.map_toArray, List.map_cons, List.map_nil]; rfl) ?_
                  with_reducible refine (sorrelref15_Waits.calls 201 n c A5 c5 L' (wrap64 (100 + kk)) r2 _ (Kd.R_reads' hHeld.2.2.2.1.row).2.2 (Kd.R_reads' hHeld.2.2.2.1.row).2.1 HFr2.out).mono ?_
                  rintro e1 w8 ⟨rfl, hb8⟩
                  refine ⟨_, rfl, ?_⟩
                  refine hK.out _ _ ⟨(hb8.cell (World.block_lt_of_cell? _ _ hHeld.1)).trans hHeld.1, (hb8.cell (World.block_lt_of_cell? _ _ hHeld.2.1)).trans hHeld.2.1, (hb8.cell (World.block_lt_of_cell? _ _ hHeld.2.2.1)).trans hHeld.2.2.1, hHeld.2.2.2.1.step hb8, blk_below hHeld.2.2.2.2 hb8⟩ (fun hHeld => ?_)
                  clear hK K
                  refine norm_ (a' := ?_) ?_ ?_
                  rotate_left
                  · show Act.put _ (some 172) _ = _
                    simp only [Act.put, List.setIfInBounds_toArray, List.set_cons_zero, List.set_cons_succ, i64_w, i32_w]
                    rfl
                  refine pure_ (i := 16) (N := some 173) (v := ?_) (a' := ?_) #[true, true, true, true, true, true, true, true, true, true, true, true, true, true, true, true, true, false] rfl rfl (by kernel_rfl) (fun _ _ _ h => h) (Or.inl ⟨by rfl, ?_⟩) ?_ ?_
                  rotate_left
                  · intro w'
                    go_simp
                    with_reducible rfl
                  rotate_left
                  · simp only [Act.put, List.setIfInBounds_toArray, List.set_cons_zero, List.set_cons_succ, i64_w, i32_w]
                    rfl
                  refine pure_ (i := 17) (N := some 174) (v := ?_) (a' := ?_) #[true, true, true, true, true, true, true, true, true, true, true, true, true, true, true, true, true, true] rfl rfl (by kernel_rfl) (fun _ _ _ h => h) (Or.inl ⟨by rfl, ?_⟩) ?_ ?_
                  rotate_left
                  · intro w'
                    go_simp
                    with_reducible rfl
                  rotate_left
                  · simp only [Act.put, List.setIfInBounds_toArray, List.set_cons_zero, List.set_cons_succ, i64_w, i32_w]
                    rfl
                  refine done_ (by kernel_rfl) ?_
                  obtain ⟨-, -, -, hst9, hk9⟩ := hHeld
                  have HST9 := Aside0.mk hst9
                  have HK9 := Aside0.mk hk9
                  clear hst9 hk9 f0 f1 f2 f3 f4
                  go_wp2
                  go_roundg k2
                  case measure => omega
                  case rel => exact ⟨k + 1, kk + 1, by rw [HWK.out], HK1, HQ1, HST9, HK9⟩
            · have g2 : (xk == 2) = false := beq_eq_false_iff_ne.mpr e2
              by_cases e3 : xk = 3
              · have g3 : (xk == 3) = true := beq_iff_eq.mpr e3
                clear e1 e2 e3
                obtain ⟨e, L', hL', hf, hcall⟩ := twice_both n c HH.out.2.1 L xt xa HLL2.out HB.out.2.1.2 HB.out.2.2.1.1 HB.out.2.2.1.2
                try dsimp only at hcall hf
                have HP := Aside0.mk hcall
                have HPF := Aside0.mk hf
                have HLL3 := Aside0.mk hL'
                have qe : (e != e) = false := by simp
                clear hcall hf hL'
                have HSZ : Aside0 (wb.heap.size ≤ wr.heap.size) := ⟨HST.out.size⟩
                have HN7 : Aside0 (w2.heap.size ≠ wr.heap.size + 1) := ⟨by have := HNE.out; omega⟩
                have b0 : ((wr.alloc (.cells #[.int .i64 xk, .int .i64 xt, .int .i64 xa, .int .i64 fr, .int .i64 tp, .string tx] 48)).alloc (.cells #[.int .i64 (n : Int), .int .i64 (c : Int), .slice A L.length cp] 41)).cell? ⟨wr.heap.size, 0, none⟩ = some (.int .i64 xk) := (blk_cell HK10.out 0).trans rfl
                have b1 : ((wr.alloc (.cells #[.int .i64 xk, .int .i64 xt, .int .i64 xa, .int .i64 fr, .int .i64 tp, .string tx] 48)).alloc (.cells #[.int .i64 (n : Int), .int .i64 (c : Int), .slice A L.length cp] 41)).cell? ⟨wr.heap.size, 1, none⟩ = some (.int .i64 xt) := (blk_cell HK10.out 1).trans rfl
                have b2 : ((wr.alloc (.cells #[.int .i64 xk, .int .i64 xt, .int .i64 xa, .int .i64 fr, .int .i64 tp, .string tx] 48)).alloc (.cells #[.int .i64 (n : Int), .int .i64 (c : Int), .slice A L.length cp] 41)).cell? ⟨wr.heap.size, 2, none⟩ = some (.int .i64 xa) := (blk_cell HK10.out 2).trans rfl
                have b3 : ((wr.alloc (.cells #[.int .i64 xk, .int .i64 xt, .int .i64 xa, .int .i64 fr, .int .i64 tp, .string tx] 48)).alloc (.cells #[.int .i64 (n : Int), .int .i64 (c : Int), .slice A L.length cp] 41)).cell? ⟨wr.heap.size, 3, none⟩ = some (.int .i64 fr) := (blk_cell HK10.out 3).trans rfl
                have b4 : ((wr.alloc (.cells #[.int .i64 xk, .int .i64 xt, .int .i64 xa, .int .i64 fr, .int .i64 tp, .string tx] 48)).alloc (.cells #[.int .i64 (n : Int), .int .i64 (c : Int), .slice A L.length cp] 41)).cell? ⟨wr.heap.size, 4, none⟩ = some (.int .i64 tp) := (blk_cell HK10.out 4).trans rfl
                have b5 : ((wr.alloc (.cells #[.int .i64 xk, .int .i64 xt, .int .i64 xa, .int .i64 fr, .int .i64 tp, .string tx] 48)).alloc (.cells #[.int .i64 (n : Int), .int .i64 (c : Int), .slice A L.length cp] 41)).cell? ⟨wr.heap.size, 5, none⟩ = some (.string tx) := (blk_cell HK10.out 5).trans rfl
                go_wp2_with (first | (go_at_call 19; go_loud ((refine (sorrelref15_Twice.calls 201 n c (fun k => some k = (Value.slice A L.length cp).ownBlock) (.slice A L.length cp) L xt xa n c L' e wb _ HST4.out.below (Kd.R_tight rfl HST4.out.row) HPF.out).mono ?_); rintro e1 w5 ⟨v5, rfl, hR5, hb5, hk5⟩; obtain ⟨A5, c5, e5⟩ := Kd.R_slice hR5; subst e5; have hst5 := HST4.out.ref hR5 hb5 hk5; have j7 := HST4.out.ref_blk hk5 HC7.out (by decide); have j13 := HST4.out.ref_blk hk5 HC13.out (by decide); clear hR5 hb5 hk5; have x0 : w5.cell? ⟨wr.heap.size + 1, 0, none⟩ = some (.int .i64 (n : Int)) := (blk_cell j13 0).trans rfl; have x1 : w5.cell? ⟨wr.heap.size + 1, 1, none⟩ = some (.int .i64 (c : Int)) := (blk_cell j13 1).trans rfl; have x2 : w5.cell? ⟨wr.heap.size + 1, 2, none⟩ = some (.slice A L.length cp) := (blk_cell j13 2).trans rfl; have n0 := blk_frozen j13 0; have n1 := blk_frozen j13 1; have n2 := blk_frozen j13 2; have hn13 := hst5.other j13 (by decide) (by decide) (by decide); have hs13 := hst5.set3 j13 (by decide) (by decide) hn13.1 hn13.2 (Nat.le_trans HSZ.out (Nat.le_succ _)) (.int .i64 (n : Int)) (.int .i64 (c : Int)) (.slice A5 L'.length c5); have i13 : (((w5.setCell ⟨wr.heap.size + 1, 0, none⟩ (.int .i64 (n : Int))).setCell ⟨wr.heap.size + 1, 1, none⟩ (.int .i64 (c : Int))).setCell ⟨wr.heap.size + 1, 2, none⟩ (.slice A5 L'.length c5)).heap[wr.heap.size + 1]? = some (.cells #[.int .i64 (n : Int), .int .i64 (c : Int), .slice A5 L'.length c5] 41 (0, 0)) := put3 j13; have q0 : (((w5.setCell ⟨wr.heap.size + 1, 0, none⟩ (.int .i64 (n : Int))).setCell ⟨wr.heap.size + 1, 1, none⟩ (.int .i64 (c : Int))).setCell ⟨wr.heap.size + 1, 2, none⟩ (.slice A5 L'.length c5)).cell? ⟨wr.heap.size + 1, 0, none⟩ = some (.int .i64 (n : Int)) := (blk_cell i13 0).trans rfl; have q1 : (((w5.setCell ⟨wr.heap.size + 1, 0, none⟩ (.int .i64 (n : Int))).setCell ⟨wr.heap.size + 1, 1, none⟩ (.int .i64 (c : Int))).setCell ⟨wr.heap.size + 1, 2, none⟩ (.slice A5 L'.length c5)).cell? ⟨wr.heap.size + 1, 1, none⟩ = some (.int .i64 (c : Int)) := (blk_cell i13 1).trans rfl; have q2 : (((w5.setCell ⟨wr.heap.size + 1, 0, none⟩ (.int .i64 (n : Int))).setCell ⟨wr.heap.size + 1, 1, none⟩ (.int .i64 (c : Int))).setCell ⟨wr.heap.size + 1, 2, none⟩ (.slice A5 L'.length c5)).cell? ⟨wr.heap.size + 1, 2, none⟩ = some (.slice A5 L'.length c5) := (blk_cell i13 2).trans rfl; have j77 := blk_far (blk_far (blk_far j7 (p := ⟨wr.heap.size + 1, 0, none⟩) HN7.out (.int .i64 (n : Int))) (p := ⟨wr.heap.size + 1, 1, none⟩) HN7.out (.int .i64 (c : Int))) (p := ⟨wr.heap.size + 1, 2, none⟩) HN7.out (.slice A5 L'.length c5); have v0 : (((w5.setCell ⟨wr.heap.size + 1, 0, none⟩ (.int .i64 (n : Int))).setCell ⟨wr.heap.size + 1, 1, none⟩ (.int .i64 (c : Int))).setCell ⟨wr.heap.size + 1, 2, none⟩ (.slice A5 L'.length c5)).cell? ⟨w2.heap.size, 0, none⟩ = some (.int .i64 (n : Int)) := (blk_cell j77 0).trans rfl; have v1 : (((w5.setCell ⟨wr.heap.size + 1, 0, none⟩ (.int .i64 (n : Int))).setCell ⟨wr.heap.size + 1, 1, none⟩ (.int .i64 (c : Int))).setCell ⟨wr.heap.size + 1, 2, none⟩ (.slice A5 L'.length c5)).cell? ⟨w2.heap.size, 1, none⟩ = some (.int .i64 (c : Int)) := (blk_cell j77 1).trans rfl; have v2 : (((w5.setCell ⟨wr.heap.size + 1, 0, none⟩ (.int .i64 (n : Int))).setCell ⟨wr.heap.size + 1, 1, none⟩ (.int .i64 (c : Int))).setCell ⟨wr.heap.size + 1, 2, none⟩ (.slice A5 L'.length c5)).cell? ⟨w2.heap.size, 2, none⟩ = some (.slice A L.length cp) := (blk_cell j77 2).trans rfl; have o0 := blk_frozen j77 0; have o1 := blk_frozen j77 1; have o2 := blk_frozen j77 2; have hn7 := hs13.other j77 (by decide) (by decide) (by decide); have HST7 := Aside0.mk (hs13.set3 j77 (by decide) (by decide) hn7.1 hn7.2 HG7.out (.int .i64 (n : Int)) (.int .i64 (c : Int)) (.slice A5 L'.length c5)); have HK77 : Aside0 (((((((w5.setCell ⟨wr.heap.size + 1, 0, none⟩ (.int .i64 (n : Int))).setCell ⟨wr.heap.size + 1, 1, none⟩ (.int .i64 (c : Int))).setCell ⟨wr.heap.size + 1, 2, none⟩ (.slice A5 L'.length c5)).setCell ⟨w2.heap.size, 0, none⟩ (.int .i64 (n : Int))).setCell ⟨w2.heap.size, 1, none⟩ (.int .i64 (c : Int))).setCell ⟨w2.heap.size, 2, none⟩ (.slice A5 L'.length c5)).heap[w2.heap.size]? = some (.cells #[.int .i64 (n : Int), .int .i64 (c : Int), .slice A5 L'.length c5] 41 (0, 0))) := ⟨put3 j77⟩; clear hst5 j7 j13 hn13 hs13 i13 j77 hn7)) | (go_at_call 9; go_loud ((refine (HP.out g wb _ _ HSTA.out).mono ?_); rintro e1 w4 ⟨rfl, hf4, ho4, hst4⟩; have HST4 := Aside0.mk hst4; have k7 := BFr.blk hf4 HK7.out (by decide); have k10 := BFr.blk hf4 HK10.out (by decide); have k13 := BFr.blk hf4 HK13.out (by decide); have HC7 := Aside0.mk k7; have HC13 := Aside0.mk k13; have z0 : w4.cell? ⟨w2.heap.size, 0, none⟩ = some (.int .i64 (n : Int)) := (blk_cell k7 0).trans rfl; have z1 : w4.cell? ⟨w2.heap.size, 1, none⟩ = some (.int .i64 (c : Int)) := (blk_cell k7 1).trans rfl; have z2 : w4.cell? ⟨w2.heap.size, 2, none⟩ = some (.slice A L.length cp) := (blk_cell k7 2).trans rfl; have y1 : w4.cell? ⟨wr.heap.size, 1, none⟩ = some (.int .i64 xt) := (blk_cell k10 1).trans rfl; have y2 : w4.cell? ⟨wr.heap.size, 2, none⟩ = some (.int .i64 xa) := (blk_cell k10 2).trans rfl; have y3 : w4.cell? ⟨wr.heap.size, 3, none⟩ = some (.int .i64 fr) := (blk_cell k10 3).trans rfl; have y4 : w4.cell? ⟨wr.heap.size, 4, none⟩ = some (.int .i64 tp) := (blk_cell k10 4).trans rfl; have y5 : w4.cell? ⟨wr.heap.size, 5, none⟩ = some (.string tx) := (blk_cell k10 5).trans rfl; clear hf4 ho4 hst4 k7 k10 k13)))
                try clear x0 x1 x2 n0 n1 n2 q0 q1 q2 v0 v1 v2 o0 o1 o2
                try clear z0 z1 z2
                try clear y1 y2 y3 y4 y5
                try clear b0 b1 b2 b3 b4 b5
                try clear a0 a1 a2 a3 a4 a5 s0 s1 s2 r0 r1 r2 r3 r4 r5
                go_loopg [16] 9 (fun kq v16 w' => ∃ (k : Nat) (kk : Int), v16 = .int .i64 kk ∧ Aside0 (kk = (k : Int) - 2) ∧ Aside0 (k + kq = 9) ∧ Aside0 (St wb w' g (placesL n c) (mL L') (.slice A5 L'.length c5) L') ∧ Aside0 (w'.heap[w2.heap.size]? = some (.cells #[.int .i64 (n : Int), .int .i64 (c : Int), .slice A5 L'.length c5] 41 (0, 0))))
                case atStart => exact ⟨0, -2, rfl, ⟨rfl⟩, ⟨rfl⟩, HST7, HK77⟩
                case round =>
                  clear HST7 HK77
                  obtain ⟨k, kk, rfl, HKK, HKQ, HSTk, HKk⟩ := hrel
                  have hkk := HKK.out
                  have hkq := HKQ.out
                  cases gk with
                  | zero =>
                    have m1 : decide (kk < 7) = false := decide_eq_false (by omega)
                    clear hkk hkq
                    go_wp2
                    go_roundg k1
                    case measure => omega
                    case rel => exact ⟨i + 1, L', _, by rw [HW.out], HI2, ⟨by have h1 := HLL.out; have h2 := HLL3.out; omega⟩, HSTk, HKk⟩
                  | succ k2 =>
                    have m1 : decide (kk < 7) = true := decide_eq_true (by omega)
                    have HWK : Aside0 (wrap64 (kk + 1) = kk + 1) := ⟨by unfold wrap64; omega⟩
                    have HK1 : Aside0 (kk + 1 = ((k + 1 : Nat) : Int) - 2) := ⟨by omega⟩
                    have HQ1 : Aside0 (k + 1 + k2 = 9) := ⟨by omega⟩
                    obtain ⟨r1, hr1⟩ : ∃ r1 : Int, ((mL L' kk).length : Int) = r1 := ⟨_, rfl⟩
                    obtain ⟨r2, hr2⟩ : ∃ r2 : Int, ((mL L' (wrap64 (100 + kk))).length : Int) = r2 := ⟨_, rfl⟩
                    have hl3 : L'.length < 199 := by have h1 := HLL3.out; have h2 := HLL.out; have h3 := HI2.out; have h4 := HN.out; omega
                    have HFr1 : Aside0 (sorrelref15_Waits.f 201 n c L' kk = some r1) := ⟨by rw [waits_is n c kk L' 201 hl3 (by decide), hr1]⟩
                    have HFr2 : Aside0 (sorrelref15_Waits.f 201 n c L' (wrap64 (100 + kk)) = some r2) := ⟨by rw [waits_is n c _ L' 201 hl3 (by decide), hr2]⟩
                    have HRr1 := Aside0.mk hr1
                    have HRr2 := Aside0.mk hr2
                    have q1 : (r1 != r1) = false := by simp
                    have q2 : (r2 != r2) = false := by simp
                    have f4 : wr.drew.heap[w2.heap.size]? = some (.cells #[.int .i64 (n : Int), .int .i64 (c : Int), .slice A5 L'.length c5] 41 (0, 0)) := HKk.out
                    have f0 : wr.drew.cell? ⟨w2.heap.size, 0, none⟩ = some (.int .i64 (n : Int)) := (blk_cell f4 0).trans rfl
                    have f1 : wr.drew.cell? ⟨w2.heap.size, 1, none⟩ = some (.int .i64 (c : Int)) := (blk_cell f4 1).trans rfl
                    have f2 : wr.drew.cell? ⟨w2.heap.size, 2, none⟩ = some (.slice A5 L'.length c5) := (blk_cell f4 2).trans rfl
                    have f3 := HSTk.out.step (below_drew (Below.refl _ _))
                    clear hkk hkq hr1 hr2 hl3
                    go_wp2
                    refine start_ (n := 18) (S := fun w' => w'.cell? ⟨w2.heap.size, 0, none⟩ = some (.int .i64 (n : Int)) ∧ w'.cell? ⟨w2.heap.size, 1, none⟩ = some (.int .i64 (c : Int)) ∧ w'.cell? ⟨w2.heap.size, 2, none⟩ = some (.slice A5 L'.length c5) ∧ St wb w' g (placesL n c) (mL L') (.slice A5 L'.length c5) L' ∧ w'.heap[w2.heap.size]? = some (.cells #[.int .i64 (n : Int), .int .i64 (c : Int), .slice A5 L'.length c5] 41 (0, 0))) (ds := []) #[false, false, false, false, false, false, false, false, false, false, false, false, false, false, false, false, false, false] (by kernel_rfl) rfl rfl ⟨f0, f1, f2, f3, f4⟩ (fun hHeld => ?_)
                    refine pure_ (i := 0) (N := some 157) (v := ?_) (a' := ?_) #[true, false, false, false, false, false, false, false, false, false, false, false, false, false, false, false, false, false] rfl rfl (by kernel_rfl) (fun _ _ _ h => h) (Or.inl ⟨by rfl, ?_⟩) ?_ ?_
                    rotate_left
                    · intro w'
                      go_simp
                      with_reducible rfl
                    rotate_left
                    · simp only [Act.put, List.setIfInBounds_toArray, List.set_cons_zero, List.set_cons_succ, i64_w, i32_w]
                      rfl
                    refine pure_ (i := 1) (N := some 158) (v := ?_) (a' := ?_) #[true, true, false, false, false, false, false, false, false, false, false, false, false, false, false, false, false, false] rfl rfl (by kernel_rfl) (fun _ _ _ h => h) (Or.inl ⟨by rfl, ?_⟩) ?_ ?_
                    rotate_left
                    · intro w'
                      go_simp
                      with_reducible rfl
                    rotate_left
                    · simp only [Act.put, List.setIfInBounds_toArray, List.set_cons_zero, List.set_cons_succ, i64_w, i32_w]
                      rfl
                    refine pure_ (i := 4) (N := some 161) (v := ?_) (a' := ?_) #[true, true, false, false, true, false, false, false, false, false, false, false, false, false, false, false, false, false] rfl rfl (by kernel_rfl) (fun _ _ _ h => h) (Or.inl ⟨by rfl, ?_⟩) ?_ ?_
                    rotate_left
                    · intro w'
                      go_simp
                      with_reducible rfl
                    rotate_left
                    · simp only [Act.put, List.setIfInBounds_toArray, List.set_cons_zero, List.set_cons_succ, i64_w, i32_w]
                      rfl
                    refine take_ (i := 3) (N := some 160) (v := ?_) (a' := ?_) #[true, true, false, true, true, false, false, false, false, false, false, false, false, false, false, false, false, false] rfl rfl (by kernel_rfl) (fun _ _ _ h => h) (Or.inl ⟨by rfl, ?_⟩) hHeld ?_ ?_
                    rotate_left
                    · rintro w' ⟨s0, s1, s2, s3, s4⟩
                      go_simp
                      with_reducible rfl
                    rotate_left
                    · simp only [Act.put, List.setIfInBounds_toArray, List.set_cons_zero, List.set_cons_succ, i64_w, i32_w]
                      rfl
                    refine one_ (i := 2) (N := some 159) #[true, true, true, true, true, false, false, false, false, false, false, false, false, false, false, false, false, false] rfl rfl (by kernel_rfl) (by decide) (fun K hK => ?_)
                    refine goes_ Try.func10 (by kernel_rfl) rfl #[.pointer (some ⟨g, 0, none⟩), .int .i64 kk] (by rfl) rfl rfl (by simp only [List.map_toArray, List.map_cons, List.map_nil]; rfl) ?_
                    with_reducible refine (waits_lit _ kk r1 _ hHeld.2.2.2.1.bag HRr1.out).mono ?_
                    rintro e1 _ ⟨rfl, rfl⟩
                    refine ⟨_, rfl, ?_⟩
                    refine hK.out _ _ ⟨hHeld.1, hHeld.2.1, hHeld.2.2.1, hHeld.2.2.2.1, hHeld.2.2.2.2⟩ (fun hHeld => ?_)
                    clear hK K
                    refine norm_ (a' := ?_) ?_ ?_
                    rotate_left
                    · show Act.put _ (some 159) _ = _
                      simp only [Act.put, List.setIfInBounds_toArray, List.set_cons_zero, List.set_cons_succ, i64_w, i32_w]
                      rfl
                    refine one_ (i := 5) (N := some 162) #[true, true, true, true, true, true, false, false, false, false, false, false, false, false, false, false, false, false] rfl rfl (by kernel_rfl) (by decide) (fun K hK => ?_)
                    refine goes_ Try.func22 (by kernel_rfl) rfl #[.agg #[.int .i64 (n : Int), .int .i64 (c : Int), .slice A5 L'.length c5], .int .i64 kk] (by rfl) rfl rfl (by simp only [List.map_toArray, List.map_cons, List.map_nil]; rfl) ?_
                    with_reducible refine (sorrelref15_Waits.calls 201 n c A5 c5 L' kk r1 _ (Kd.R_reads' hHeld.2.2.2.1.row).2.2 (Kd.R_reads' hHeld.2.2.2.1.row).2.1 HFr1.out).mono ?_
                    rintro e1 w8 ⟨rfl, hb8⟩
                    refine ⟨_, rfl, ?_⟩
                    refine hK.out _ _ ⟨(hb8.cell (World.block_lt_of_cell? _ _ hHeld.1)).trans hHeld.1, (hb8.cell (World.block_lt_of_cell? _ _ hHeld.2.1)).trans hHeld.2.1, (hb8.cell (World.block_lt_of_cell? _ _ hHeld.2.2.1)).trans hHeld.2.2.1, hHeld.2.2.2.1.step hb8, blk_below hHeld.2.2.2.2 hb8⟩ (fun hHeld => ?_)
                    clear hK K
                    refine norm_ (a' := ?_) ?_ ?_
                    rotate_left
                    · show Act.put _ (some 162) _ = _
                      simp only [Act.put, List.setIfInBounds_toArray, List.set_cons_zero, List.set_cons_succ, i64_w, i32_w]
                      rfl
                    refine pure_ (i := 6) (N := some 163) (v := ?_) (a' := ?_) #[true, true, true, true, true, true, true, false, false, false, false, false, false, false, false, false, false, false] rfl rfl (by kernel_rfl) (fun _ _ _ h => h) (Or.inl ⟨by rfl, ?_⟩) ?_ ?_
                    rotate_left
                    · intro w'
                      go_simp
                      with_reducible rfl
                    rotate_left
                    · simp only [Act.put, List.setIfInBounds_toArray, List.set_cons_zero, List.set_cons_succ, i64_w, i32_w]
                      rfl
                    refine pure_ (i := 7) (N := some 164) (v := ?_) (a' := ?_) #[true, true, true, true, true, true, true, true, false, false, false, false, false, false, false, false, false, false] rfl rfl (by kernel_rfl) (fun _ _ _ h => h) (Or.inl ⟨by rfl, ?_⟩) ?_ ?_
                    rotate_left
                    · intro w'
                      go_simp
                      with_reducible rfl
                    rotate_left
                    · simp only [Act.put, List.setIfInBounds_toArray, List.set_cons_zero, List.set_cons_succ, i64_w, i32_w]
                      rfl
                    refine pure_ (i := 8) (N := some 165) (v := ?_) (a' := ?_) #[true, true, true, true, true, true, true, true, true, false, false, false, false, false, false, false, false, false] rfl rfl (by kernel_rfl) (fun _ _ _ h => h) (Or.inl ⟨by rfl, ?_⟩) ?_ ?_
                    rotate_left
                    · intro w'
                      go_simp
                      with_reducible rfl
                    rotate_left
                    · simp only [Act.put, List.setIfInBounds_toArray, List.set_cons_zero, List.set_cons_succ, i64_w, i32_w]
                      rfl
                    refine pure_ (i := 9) (N := some 166) (v := ?_) (a' := ?_) #[true, true, true, true, true, true, true, true, true, true, false, false, false, false, false, false, false, false] rfl rfl (by kernel_rfl) (fun _ _ _ h => h) (Or.inl ⟨by rfl, ?_⟩) ?_ ?_
                    rotate_left
                    · intro w'
                      go_simp
                      with_reducible rfl
                    rotate_left
                    · simp only [Act.put, List.setIfInBounds_toArray, List.set_cons_zero, List.set_cons_succ, i64_w, i32_w]
                      rfl
                    refine pure_ (i := 10) (N := some 167) (v := ?_) (a' := ?_) #[true, true, true, true, true, true, true, true, true, true, true, false, false, false, false, false, false, false] rfl rfl (by kernel_rfl) (fun _ _ _ h => h) (Or.inl ⟨by rfl, ?_⟩) ?_ ?_
                    rotate_left
                    · intro w'
                      go_simp
                      with_reducible rfl
                    rotate_left
                    · simp only [Act.put, List.setIfInBounds_toArray, List.set_cons_zero, List.set_cons_succ, i64_w, i32_w]
                      rfl
                    refine pure_ (i := 13) (N := some 170) (v := ?_) (a' := ?_) #[true, true, true, true, true, true, true, true, true, true, true, false, false, true, false, false, false, false] rfl rfl (by kernel_rfl) (fun _ _ _ h => h) (Or.inl ⟨by rfl, ?_⟩) ?_ ?_
                    rotate_left
                    · intro w'
                      go_simp
                      with_reducible rfl
                    rotate_left
                    · simp only [Act.put, List.setIfInBounds_toArray, List.set_cons_zero, List.set_cons_succ, i64_w, i32_w]
                      rfl
                    refine pure_ (i := 14) (N := some 171) (v := ?_) (a' := ?_) #[true, true, true, true, true, true, true, true, true, true, true, false, false, true, true, false, false, false] rfl rfl (by kernel_rfl) (fun _ _ _ h => h) (Or.inl ⟨by rfl, ?_⟩) ?_ ?_
                    rotate_left
                    · intro w'
                      go_simp
                      with_reducible rfl
                    rotate_left
                    · simp only [Act.put, List.setIfInBounds_toArray, List.set_cons_zero, List.set_cons_succ, i64_w, i32_w]
                      rfl
                    refine take_ (i := 12) (N := some 169) (v := ?_) (a' := ?_) #[true, true, true, true, true, true, true, true, true, true, true, false, true, true, true, false, false, false] rfl rfl (by kernel_rfl) (fun _ _ _ h => h) (Or.inl ⟨by rfl, ?_⟩) hHeld ?_ ?_
                    rotate_left
                    · rintro w' ⟨s0, s1, s2, s3, s4⟩
                      go_simp
                      with_reducible rfl
                    rotate_left
                    · simp only [Act.put, List.setIfInBounds_toArray, List.set_cons_zero, List.set_cons_succ, i64_w, i32_w]
                      rfl
                    refine one_ (i := 11) (N := some 168) #[true, true, true, true, true, true, true, true, true, true, true, true, true, true, true, false, false, false] rfl rfl (by kernel_rfl) (by decide) (fun K hK => ?_)
                    refine goes_ Try.func10 (by kernel_rfl) rfl #[.pointer (some ⟨g, 0, none⟩), .int .i64 (wrap64 (100 + kk))] (by rfl) rfl rfl (by simp only [List.map_toArray, List.map_cons, List.map_nil]; rfl) ?_
                    with_reducible refine (waits_lit _ (wrap64 (100 + kk)) r2 _ hHeld.2.2.2.1.bag HRr2.out).mono ?_
                    rintro e1 _ ⟨rfl, rfl⟩
                    refine ⟨_, rfl, ?_⟩
                    refine hK.out _ _ ⟨hHeld.1, hHeld.2.1, hHeld.2.2.1, hHeld.2.2.2.1, hHeld.2.2.2.2⟩ (fun hHeld => ?_)
                    clear hK K
                    refine norm_ (a' := ?_) ?_ ?_
                    rotate_left
                    · show Act.put _ (some 168) _ = _
                      simp only [Act.put, List.setIfInBounds_toArray, List.set_cons_zero, List.set_cons_succ, i64_w, i32_w]
                      rfl
                    refine one_ (i := 15) (N := some 172) #[true, true, true, true, true, true, true, true, true, true, true, true, true, true, true, true, false, false] rfl rfl (by kernel_rfl) (by decide) (fun K hK => ?_)
                    refine goes_ Try.func22 (by kernel_rfl) rfl #[.agg #[.int .i64 (n : Int), .int .i64 (c : Int), .slice A5 L'.length c5], .int .i64 (wrap64 (100 + kk))] (by rfl) rfl rfl (by simp only [List.map_toArray, List.map_cons, List.map_nil]; rfl) ?_
                    with_reducible refine (sorrelref15_Waits.calls 201 n c A5 c5 L' (wrap64 (100 + kk)) r2 _ (Kd.R_reads' hHeld.2.2.2.1.row).2.2 (Kd.R_reads' hHeld.2.2.2.1.row).2.1 HFr2.out).mono ?_
                    rintro e1 w8 ⟨rfl, hb8⟩
                    refine ⟨_, rfl, ?_⟩
                    refine hK.out _ _ ⟨(hb8.cell (World.block_lt_of_cell? _ _ hHeld.1)).trans hHeld.1, (hb8.cell (World.block_lt_of_cell? _ _ hHeld.2.1)).trans hHeld.2.1, (hb8.cell (World.block_lt_of_cell? _ _ hHeld.2.2.1)).trans hHeld.2.2.1, hHeld.2.2.2.1.step hb8, blk_below hHeld.2.2.2.2 hb8⟩ (fun hHeld => ?_)
                    clear hK K
                    refine norm_ (a' := ?_) ?_ ?_
                    rotate_left
                    · show Act.put _ (some 172) _ = _
                      simp only [Act.put, List.setIfInBounds_toArray, List.set_cons_zero, List.set_cons_succ, i64_w, i32_w]
                      rfl
                    refine pure_ (i := 16) (N := some 173) (v := ?_) (a' := ?_) #[true, true, true, true, true, true, true, true, true, true, true, true, true, true, true, true, true, false] rfl rfl (by kernel_rfl) (fun _ _ _ h => h) (Or.inl ⟨by rfl, ?_⟩) ?_ ?_
                    rotate_left
                    · intro w'
                      go_simp
                      with_reducible rfl
                    rotate_left
                    · simp only [Act.put, List.setIfInBounds_toArray, List.set_cons_zero, List.set_cons_succ, i64_w, i32_w]
                      rfl
                    refine pure_ (i := 17) (N := some 174) (v := ?_) (a' := ?_) #[true, true, true, true, true, true, true, true, true, true, true, true, true, true, true, true, true, true] rfl rfl (by kernel_rfl) (fun _ _ _ h => h) (Or.inl ⟨by rfl, ?_⟩) ?_ ?_
                    rotate_left
                    · intro w'
                      go_simp
                      with_reducible rfl
                    rotate_left
                    · simp only [Act.put, List.setIfInBounds_toArray, List.set_cons_zero, List.set_cons_succ, i64_w, i32_w]
                      rfl
                    refine done_ (by kernel_rfl) ?_
                    obtain ⟨-, -, -, hst9, hk9⟩ := hHeld
                    have HST9 := Aside0.mk hst9
                    have HK9 := Aside0.mk hk9
                    clear hst9 hk9 f0 f1 f2 f3 f4
                    go_wp2
                    go_roundg k2
                    case measure => omega
                    case rel => exact ⟨k + 1, kk + 1, by rw [HWK.out], HK1, HQ1, HST9, HK9⟩
              · have g3 : (xk == 3) = false := beq_eq_false_iff_ne.mpr e3
                clear e1 e2 e3
                obtain ⟨e, L', hL', hf, hcall⟩ := clear_both n c HH.out.2.1 L xt HLL2.out HB.out.2.1.2
                try dsimp only at hcall hf
                have HP := Aside0.mk hcall
                have HPF := Aside0.mk hf
                have HLL3 := Aside0.mk hL'
                have qe : (e != e) = false := by simp
                clear hcall hf hL'
                have HSZ : Aside0 (wb.heap.size ≤ wr.heap.size) := ⟨HST.out.size⟩
                have HN7 : Aside0 (w2.heap.size ≠ wr.heap.size + 1) := ⟨by have := HNE.out; omega⟩
                have b0 : ((wr.alloc (.cells #[.int .i64 xk, .int .i64 xt, .int .i64 xa, .int .i64 fr, .int .i64 tp, .string tx] 48)).alloc (.cells #[.int .i64 (n : Int), .int .i64 (c : Int), .slice A L.length cp] 41)).cell? ⟨wr.heap.size, 0, none⟩ = some (.int .i64 xk) := (blk_cell HK10.out 0).trans rfl
                have b1 : ((wr.alloc (.cells #[.int .i64 xk, .int .i64 xt, .int .i64 xa, .int .i64 fr, .int .i64 tp, .string tx] 48)).alloc (.cells #[.int .i64 (n : Int), .int .i64 (c : Int), .slice A L.length cp] 41)).cell? ⟨wr.heap.size, 1, none⟩ = some (.int .i64 xt) := (blk_cell HK10.out 1).trans rfl
                have b2 : ((wr.alloc (.cells #[.int .i64 xk, .int .i64 xt, .int .i64 xa, .int .i64 fr, .int .i64 tp, .string tx] 48)).alloc (.cells #[.int .i64 (n : Int), .int .i64 (c : Int), .slice A L.length cp] 41)).cell? ⟨wr.heap.size, 2, none⟩ = some (.int .i64 xa) := (blk_cell HK10.out 2).trans rfl
                have b3 : ((wr.alloc (.cells #[.int .i64 xk, .int .i64 xt, .int .i64 xa, .int .i64 fr, .int .i64 tp, .string tx] 48)).alloc (.cells #[.int .i64 (n : Int), .int .i64 (c : Int), .slice A L.length cp] 41)).cell? ⟨wr.heap.size, 3, none⟩ = some (.int .i64 fr) := (blk_cell HK10.out 3).trans rfl
                have b4 : ((wr.alloc (.cells #[.int .i64 xk, .int .i64 xt, .int .i64 xa, .int .i64 fr, .int .i64 tp, .string tx] 48)).alloc (.cells #[.int .i64 (n : Int), .int .i64 (c : Int), .slice A L.length cp] 41)).cell? ⟨wr.heap.size, 4, none⟩ = some (.int .i64 tp) := (blk_cell HK10.out 4).trans rfl
                have b5 : ((wr.alloc (.cells #[.int .i64 xk, .int .i64 xt, .int .i64 xa, .int .i64 fr, .int .i64 tp, .string tx] 48)).alloc (.cells #[.int .i64 (n : Int), .int .i64 (c : Int), .slice A L.length cp] 41)).cell? ⟨wr.heap.size, 5, none⟩ = some (.string tx) := (blk_cell HK10.out 5).trans rfl
                go_wp2_with (first | (go_at_call 21; go_loud ((refine (sorrelref15_Clear.calls 201 n c (fun k => some k = (Value.slice A L.length cp).ownBlock) (.slice A L.length cp) L xt n c L' e wb _ HST4.out.below (Kd.R_tight rfl HST4.out.row) HPF.out).mono ?_); rintro e1 w5 ⟨v5, rfl, hR5, hb5, hk5⟩; obtain ⟨A5, c5, e5⟩ := Kd.R_slice hR5; subst e5; have hst5 := HST4.out.ref hR5 hb5 hk5; have j7 := HST4.out.ref_blk hk5 HC7.out (by decide); have j13 := HST4.out.ref_blk hk5 HC13.out (by decide); clear hR5 hb5 hk5; have x0 : w5.cell? ⟨wr.heap.size + 1, 0, none⟩ = some (.int .i64 (n : Int)) := (blk_cell j13 0).trans rfl; have x1 : w5.cell? ⟨wr.heap.size + 1, 1, none⟩ = some (.int .i64 (c : Int)) := (blk_cell j13 1).trans rfl; have x2 : w5.cell? ⟨wr.heap.size + 1, 2, none⟩ = some (.slice A L.length cp) := (blk_cell j13 2).trans rfl; have n0 := blk_frozen j13 0; have n1 := blk_frozen j13 1; have n2 := blk_frozen j13 2; have hn13 := hst5.other j13 (by decide) (by decide) (by decide); have hs13 := hst5.set3 j13 (by decide) (by decide) hn13.1 hn13.2 (Nat.le_trans HSZ.out (Nat.le_succ _)) (.int .i64 (n : Int)) (.int .i64 (c : Int)) (.slice A5 L'.length c5); have i13 : (((w5.setCell ⟨wr.heap.size + 1, 0, none⟩ (.int .i64 (n : Int))).setCell ⟨wr.heap.size + 1, 1, none⟩ (.int .i64 (c : Int))).setCell ⟨wr.heap.size + 1, 2, none⟩ (.slice A5 L'.length c5)).heap[wr.heap.size + 1]? = some (.cells #[.int .i64 (n : Int), .int .i64 (c : Int), .slice A5 L'.length c5] 41 (0, 0)) := put3 j13; have q0 : (((w5.setCell ⟨wr.heap.size + 1, 0, none⟩ (.int .i64 (n : Int))).setCell ⟨wr.heap.size + 1, 1, none⟩ (.int .i64 (c : Int))).setCell ⟨wr.heap.size + 1, 2, none⟩ (.slice A5 L'.length c5)).cell? ⟨wr.heap.size + 1, 0, none⟩ = some (.int .i64 (n : Int)) := (blk_cell i13 0).trans rfl; have q1 : (((w5.setCell ⟨wr.heap.size + 1, 0, none⟩ (.int .i64 (n : Int))).setCell ⟨wr.heap.size + 1, 1, none⟩ (.int .i64 (c : Int))).setCell ⟨wr.heap.size + 1, 2, none⟩ (.slice A5 L'.length c5)).cell? ⟨wr.heap.size + 1, 1, none⟩ = some (.int .i64 (c : Int)) := (blk_cell i13 1).trans rfl; have q2 : (((w5.setCell ⟨wr.heap.size + 1, 0, none⟩ (.int .i64 (n : Int))).setCell ⟨wr.heap.size + 1, 1, none⟩ (.int .i64 (c : Int))).setCell ⟨wr.heap.size + 1, 2, none⟩ (.slice A5 L'.length c5)).cell? ⟨wr.heap.size + 1, 2, none⟩ = some (.slice A5 L'.length c5) := (blk_cell i13 2).trans rfl; have j77 := blk_far (blk_far (blk_far j7 (p := ⟨wr.heap.size + 1, 0, none⟩) HN7.out (.int .i64 (n : Int))) (p := ⟨wr.heap.size + 1, 1, none⟩) HN7.out (.int .i64 (c : Int))) (p := ⟨wr.heap.size + 1, 2, none⟩) HN7.out (.slice A5 L'.length c5); have v0 : (((w5.setCell ⟨wr.heap.size + 1, 0, none⟩ (.int .i64 (n : Int))).setCell ⟨wr.heap.size + 1, 1, none⟩ (.int .i64 (c : Int))).setCell ⟨wr.heap.size + 1, 2, none⟩ (.slice A5 L'.length c5)).cell? ⟨w2.heap.size, 0, none⟩ = some (.int .i64 (n : Int)) := (blk_cell j77 0).trans rfl; have v1 : (((w5.setCell ⟨wr.heap.size + 1, 0, none⟩ (.int .i64 (n : Int))).setCell ⟨wr.heap.size + 1, 1, none⟩ (.int .i64 (c : Int))).setCell ⟨wr.heap.size + 1, 2, none⟩ (.slice A5 L'.length c5)).cell? ⟨w2.heap.size, 1, none⟩ = some (.int .i64 (c : Int)) := (blk_cell j77 1).trans rfl; have v2 : (((w5.setCell ⟨wr.heap.size + 1, 0, none⟩ (.int .i64 (n : Int))).setCell ⟨wr.heap.size + 1, 1, none⟩ (.int .i64 (c : Int))).setCell ⟨wr.heap.size + 1, 2, none⟩ (.slice A5 L'.length c5)).cell? ⟨w2.heap.size, 2, none⟩ = some (.slice A L.length cp) := (blk_cell j77 2).trans rfl; have o0 := blk_frozen j77 0; have o1 := blk_frozen j77 1; have o2 := blk_frozen j77 2; have hn7 := hs13.other j77 (by decide) (by decide) (by decide); have HST7 := Aside0.mk (hs13.set3 j77 (by decide) (by decide) hn7.1 hn7.2 HG7.out (.int .i64 (n : Int)) (.int .i64 (c : Int)) (.slice A5 L'.length c5)); have HK77 : Aside0 (((((((w5.setCell ⟨wr.heap.size + 1, 0, none⟩ (.int .i64 (n : Int))).setCell ⟨wr.heap.size + 1, 1, none⟩ (.int .i64 (c : Int))).setCell ⟨wr.heap.size + 1, 2, none⟩ (.slice A5 L'.length c5)).setCell ⟨w2.heap.size, 0, none⟩ (.int .i64 (n : Int))).setCell ⟨w2.heap.size, 1, none⟩ (.int .i64 (c : Int))).setCell ⟨w2.heap.size, 2, none⟩ (.slice A5 L'.length c5)).heap[w2.heap.size]? = some (.cells #[.int .i64 (n : Int), .int .i64 (c : Int), .slice A5 L'.length c5] 41 (0, 0))) := ⟨put3 j77⟩; clear hst5 j7 j13 hn13 hs13 i13 j77 hn7)) | (go_at_call 20; go_loud ((refine (HP.out g wb _ _ HSTA.out).mono ?_); rintro e1 w4 ⟨rfl, hf4, ho4, hst4⟩; have HST4 := Aside0.mk hst4; have k7 := BFr.blk hf4 HK7.out (by decide); have k10 := BFr.blk hf4 HK10.out (by decide); have k13 := BFr.blk hf4 HK13.out (by decide); have HC7 := Aside0.mk k7; have HC13 := Aside0.mk k13; have z0 : w4.cell? ⟨w2.heap.size, 0, none⟩ = some (.int .i64 (n : Int)) := (blk_cell k7 0).trans rfl; have z1 : w4.cell? ⟨w2.heap.size, 1, none⟩ = some (.int .i64 (c : Int)) := (blk_cell k7 1).trans rfl; have z2 : w4.cell? ⟨w2.heap.size, 2, none⟩ = some (.slice A L.length cp) := (blk_cell k7 2).trans rfl; have y1 : w4.cell? ⟨wr.heap.size, 1, none⟩ = some (.int .i64 xt) := (blk_cell k10 1).trans rfl; have y2 : w4.cell? ⟨wr.heap.size, 2, none⟩ = some (.int .i64 xa) := (blk_cell k10 2).trans rfl; have y3 : w4.cell? ⟨wr.heap.size, 3, none⟩ = some (.int .i64 fr) := (blk_cell k10 3).trans rfl; have y4 : w4.cell? ⟨wr.heap.size, 4, none⟩ = some (.int .i64 tp) := (blk_cell k10 4).trans rfl; have y5 : w4.cell? ⟨wr.heap.size, 5, none⟩ = some (.string tx) := (blk_cell k10 5).trans rfl; clear hf4 ho4 hst4 k7 k10 k13)))
                try clear x0 x1 x2 n0 n1 n2 q0 q1 q2 v0 v1 v2 o0 o1 o2
                try clear z0 z1 z2
                try clear y1 y2 y3 y4 y5
                try clear b0 b1 b2 b3 b4 b5
                try clear a0 a1 a2 a3 a4 a5 s0 s1 s2 r0 r1 r2 r3 r4 r5
                go_loopg [16] 9 (fun kq v16 w' => ∃ (k : Nat) (kk : Int), v16 = .int .i64 kk ∧ Aside0 (kk = (k : Int) - 2) ∧ Aside0 (k + kq = 9) ∧ Aside0 (St wb w' g (placesL n c) (mL L') (.slice A5 L'.length c5) L') ∧ Aside0 (w'.heap[w2.heap.size]? = some (.cells #[.int .i64 (n : Int), .int .i64 (c : Int), .slice A5 L'.length c5] 41 (0, 0))))
                case atStart => exact ⟨0, -2, rfl, ⟨rfl⟩, ⟨rfl⟩, HST7, HK77⟩
                case round =>
                  clear HST7 HK77
                  obtain ⟨k, kk, rfl, HKK, HKQ, HSTk, HKk⟩ := hrel
                  have hkk := HKK.out
                  have hkq := HKQ.out
                  cases gk with
                  | zero =>
                    have m1 : decide (kk < 7) = false := decide_eq_false (by omega)
                    clear hkk hkq
                    go_wp2
                    go_roundg k1
                    case measure => omega
                    case rel => exact ⟨i + 1, L', _, by rw [HW.out], HI2, ⟨by have h1 := HLL.out; have h2 := HLL3.out; omega⟩, HSTk, HKk⟩
                  | succ k2 =>
                    have m1 : decide (kk < 7) = true := decide_eq_true (by omega)
                    have HWK : Aside0 (wrap64 (kk + 1) = kk + 1) := ⟨by unfold wrap64; omega⟩
                    have HK1 : Aside0 (kk + 1 = ((k + 1 : Nat) : Int) - 2) := ⟨by omega⟩
                    have HQ1 : Aside0 (k + 1 + k2 = 9) := ⟨by omega⟩
                    obtain ⟨r1, hr1⟩ : ∃ r1 : Int, ((mL L' kk).length : Int) = r1 := ⟨_, rfl⟩
                    obtain ⟨r2, hr2⟩ : ∃ r2 : Int, ((mL L' (wrap64 (100 + kk))).length : Int) = r2 := ⟨_, rfl⟩
                    have hl3 : L'.length < 199 := by have h1 := HLL3.out; have h2 := HLL.out; have h3 := HI2.out; have h4 := HN.out; omega
                    have HFr1 : Aside0 (sorrelref15_Waits.f 201 n c L' kk = some r1) := ⟨by rw [waits_is n c kk L' 201 hl3 (by decide), hr1]⟩
                    have HFr2 : Aside0 (sorrelref15_Waits.f 201 n c L' (wrap64 (100 + kk)) = some r2) := ⟨by rw [waits_is n c _ L' 201 hl3 (by decide), hr2]⟩
                    have HRr1 := Aside0.mk hr1
                    have HRr2 := Aside0.mk hr2
                    have q1 : (r1 != r1) = false := by simp
                    have q2 : (r2 != r2) = false := by simp
                    have f4 : wr.drew.heap[w2.heap.size]? = some (.cells #[.int .i64 (n : Int), .int .i64 (c : Int), .slice A5 L'.length c5] 41 (0, 0)) := HKk.out
                    have f0 : wr.drew.cell? ⟨w2.heap.size, 0, none⟩ = some (.int .i64 (n : Int)) := (blk_cell f4 0).trans rfl
                    have f1 : wr.drew.cell? ⟨w2.heap.size, 1, none⟩ = some (.int .i64 (c : Int)) := (blk_cell f4 1).trans rfl
                    have f2 : wr.drew.cell? ⟨w2.heap.size, 2, none⟩ = some (.slice A5 L'.length c5) := (blk_cell f4 2).trans rfl
                    have f3 := HSTk.out.step (below_drew (Below.refl _ _))
                    clear hkk hkq hr1 hr2 hl3
                    go_wp2
                    refine start_ (n := 18) (S := fun w' => w'.cell? ⟨w2.heap.size, 0, none⟩ = some (.int .i64 (n : Int)) ∧ w'.cell? ⟨w2.heap.size, 1, none⟩ = some (.int .i64 (c : Int)) ∧ w'.cell? ⟨w2.heap.size, 2, none⟩ = some (.slice A5 L'.length c5) ∧ St wb w' g (placesL n c) (mL L') (.slice A5 L'.length c5) L' ∧ w'.heap[w2.heap.size]? = some (.cells #[.int .i64 (n : Int), .int .i64 (c : Int), .slice A5 L'.length c5] 41 (0, 0))) (ds := []) #[false, false, false, false, false, false, false, false, false, false, false, false, false, false, false, false, false, false] (by kernel_rfl) rfl rfl ⟨f0, f1, f2, f3, f4⟩ (fun hHeld => ?_)
                    refine pure_ (i := 0) (N := some 157) (v := ?_) (a' := ?_) #[true, false, false, false, false, false, false, false, false, false, false, false, false, false, false, false, false, false] rfl rfl (by kernel_rfl) (fun _ _ _ h => h) (Or.inl ⟨by rfl, ?_⟩) ?_ ?_
                    rotate_left
                    · intro w'
                      go_simp
                      with_reducible rfl
                    rotate_left
                    · simp only [Act.put, List.setIfInBounds_toArray, List.set_cons_zero, List.set_cons_succ, i64_w, i32_w]
                      rfl
                    refine pure_ (i := 1) (N := some 158) (v := ?_) (a' := ?_) #[true, true, false, false, false, false, false, false, false, false, false, false, false, false, false, false, false, false] rfl rfl (by kernel_rfl) (fun _ _ _ h => h) (Or.inl ⟨by rfl, ?_⟩) ?_ ?_
                    rotate_left
                    · intro w'
                      go_simp
                      with_reducible rfl
                    rotate_left
                    · simp only [Act.put, List.setIfInBounds_toArray, List.set_cons_zero, List.set_cons_succ, i64_w, i32_w]
                      rfl
                    refine pure_ (i := 4) (N := some 161) (v := ?_) (a' := ?_) #[true, true, false, false, true, false, false, false, false, false, false, false, false, false, false, false, false, false] rfl rfl (by kernel_rfl) (fun _ _ _ h => h) (Or.inl ⟨by rfl, ?_⟩) ?_ ?_
                    rotate_left
                    · intro w'
                      go_simp
                      with_reducible rfl
                    rotate_left
                    · simp only [Act.put, List.setIfInBounds_toArray, List.set_cons_zero, List.set_cons_succ, i64_w, i32_w]
                      rfl
                    refine take_ (i := 3) (N := some 160) (v := ?_) (a' := ?_) #[true, true, false, true, true, false, false, false, false, false, false, false, false, false, false, false, false, false] rfl rfl (by kernel_rfl) (fun _ _ _ h => h) (Or.inl ⟨by rfl, ?_⟩) hHeld ?_ ?_
                    rotate_left
                    · rintro w' ⟨s0, s1, s2, s3, s4⟩
                      go_simp
                      with_reducible rfl
                    rotate_left
                    · simp only [Act.put, List.setIfInBounds_toArray, List.set_cons_zero, List.set_cons_succ, i64_w, i32_w]
                      rfl
                    refine one_ (i := 2) (N := some 159) #[true, true, true, true, true, false, false, false, false, false, false, false, false, false, false, false, false, false] rfl rfl (by kernel_rfl) (by decide) (fun K hK => ?_)
                    refine goes_ Try.func10 (by kernel_rfl) rfl #[.pointer (some ⟨g, 0, none⟩), .int .i64 kk] (by rfl) rfl rfl (by simp only [List.map_toArray, List.map_cons, List.map_nil]; rfl) ?_
                    with_reducible refine (waits_lit _ kk r1 _ hHeld.2.2.2.1.bag HRr1.out).mono ?_
                    rintro e1 _ ⟨rfl, rfl⟩
                    refine ⟨_, rfl, ?_⟩
                    refine hK.out _ _ ⟨hHeld.1, hHeld.2.1, hHeld.2.2.1, hHeld.2.2.2.1, hHeld.2.2.2.2⟩ (fun hHeld => ?_)
                    clear hK K
                    refine norm_ (a' := ?_) ?_ ?_
                    rotate_left
                    · show Act.put _ (some 159) _ = _
                      simp only [Act.put, List.setIfInBounds_toArray, List.set_cons_zero, List.set_cons_succ, i64_w, i32_w]
                      rfl
                    refine one_ (i := 5) (N := some 162) #[true, true, true, true, true, true, false, false, false, false, false, false, false, false, false, false, false, false] rfl rfl (by kernel_rfl) (by decide) (fun K hK => ?_)
                    refine goes_ Try.func22 (by kernel_rfl) rfl #[.agg #[.int .i64 (n : Int), .int .i64 (c : Int), .slice A5 L'.length c5], .int .i64 kk] (by rfl) rfl rfl (by simp only [List.map_toArray, List.map_cons, List.map_nil]; rfl) ?_
                    with_reducible refine (sorrelref15_Waits.calls 201 n c A5 c5 L' kk r1 _ (Kd.R_reads' hHeld.2.2.2.1.row).2.2 (Kd.R_reads' hHeld.2.2.2.1.row).2.1 HFr1.out).mono ?_
                    rintro e1 w8 ⟨rfl, hb8⟩
                    refine ⟨_, rfl, ?_⟩
                    refine hK.out _ _ ⟨(hb8.cell (World.block_lt_of_cell? _ _ hHeld.1)).trans hHeld.1, (hb8.cell (World.block_lt_of_cell? _ _ hHeld.2.1)).trans hHeld.2.1, (hb8.cell (World.block_lt_of_cell? _ _ hHeld.2.2.1)).trans hHeld.2.2.1, hHeld.2.2.2.1.step hb8, blk_below hHeld.2.2.2.2 hb8⟩ (fun hHeld => ?_)
                    clear hK K
                    refine norm_ (a' := ?_) ?_ ?_
                    rotate_left
                    · show Act.put _ (some 162) _ = _
                      simp only [Act.put, List.setIfInBounds_toArray, List.set_cons_zero, List.set_cons_succ, i64_w, i32_w]
                      rfl
                    refine pure_ (i := 6) (N := some 163) (v := ?_) (a' := ?_) #[true, true, true, true, true, true, true, false, false, false, false, false, false, false, false, false, false, false] rfl rfl (by kernel_rfl) (fun _ _ _ h => h) (Or.inl ⟨by rfl, ?_⟩) ?_ ?_
                    rotate_left
                    · intro w'
                      go_simp
                      with_reducible rfl
                    rotate_left
                    · simp only [Act.put, List.setIfInBounds_toArray, List.set_cons_zero, List.set_cons_succ, i64_w, i32_w]
                      rfl
                    refine pure_ (i := 7) (N := some 164) (v := ?_) (a' := ?_) #[true, true, true, true, true, true, true, true, false, false, false, false, false, false, false, false, false, false] rfl rfl (by kernel_rfl) (fun _ _ _ h => h) (Or.inl ⟨by rfl, ?_⟩) ?_ ?_
                    rotate_left
                    · intro w'
                      go_simp
                      with_reducible rfl
                    rotate_left
                    · simp only [Act.put, List.setIfInBounds_toArray, List.set_cons_zero, List.set_cons_succ, i64_w, i32_w]
                      rfl
                    refine pure_ (i := 8) (N := some 165) (v := ?_) (a' := ?_) #[true, true, true, true, true, true, true, true, true, false, false, false, false, false, false, false, false, false] rfl rfl (by kernel_rfl) (fun _ _ _ h => h) (Or.inl ⟨by rfl, ?_⟩) ?_ ?_
                    rotate_left
                    · intro w'
                      go_simp
                      with_reducible rfl
                    rotate_left
                    · simp only [Act.put, List.setIfInBounds_toArray, List.set_cons_zero, List.set_cons_succ, i64_w, i32_w]
                      rfl
                    refine pure_ (i := 9) (N := some 166) (v := ?_) (a' := ?_) #[true, true, true, true, true, true, true, true, true, true, false, false, false, false, false, false, false, false] rfl rfl (by kernel_rfl) (fun _ _ _ h => h) (Or.inl ⟨by rfl, ?_⟩) ?_ ?_
                    rotate_left
                    · intro w'
                      go_simp
                      with_reducible rfl
                    rotate_left
                    · simp only [Act.put, List.setIfInBounds_toArray, List.set_cons_zero, List.set_cons_succ, i64_w, i32_w]
                      rfl
                    refine pure_ (i := 10) (N := some 167) (v := ?_) (a' := ?_) #[true, true, true, true, true, true, true, true, true, true, true, false, false, false, false, false, false, false] rfl rfl (by kernel_rfl) (fun _ _ _ h => h) (Or.inl ⟨by rfl, ?_⟩) ?_ ?_
                    rotate_left
                    · intro w'
                      go_simp
                      with_reducible rfl
                    rotate_left
                    · simp only [Act.put, List.setIfInBounds_toArray, List.set_cons_zero, List.set_cons_succ, i64_w, i32_w]
                      rfl
                    refine pure_ (i := 13) (N := some 170) (v := ?_) (a' := ?_) #[true, true, true, true, true, true, true, true, true, true, true, false, false, true, false, false, false, false] rfl rfl (by kernel_rfl) (fun _ _ _ h => h) (Or.inl ⟨by rfl, ?_⟩) ?_ ?_
                    rotate_left
                    · intro w'
                      go_simp
                      with_reducible rfl
                    rotate_left
                    · simp only [Act.put, List.setIfInBounds_toArray, List.set_cons_zero, List.set_cons_succ, i64_w, i32_w]
                      rfl
                    refine pure_ (i := 14) (N := some 171) (v := ?_) (a' := ?_) #[true, true, true, true, true, true, true, true, true, true, true, false, false, true, true, false, false, false] rfl rfl (by kernel_rfl) (fun _ _ _ h => h) (Or.inl ⟨by rfl, ?_⟩) ?_ ?_
                    rotate_left
                    · intro w'
                      go_simp
                      with_reducible rfl
                    rotate_left
                    · simp only [Act.put, List.setIfInBounds_toArray, List.set_cons_zero, List.set_cons_succ, i64_w, i32_w]
                      rfl
                    refine take_ (i := 12) (N := some 169) (v := ?_) (a' := ?_) #[true, true, true, true, true, true, true, true, true, true, true, false, true, true, true, false, false, false] rfl rfl (by kernel_rfl) (fun _ _ _ h => h) (Or.inl ⟨by rfl, ?_⟩) hHeld ?_ ?_
                    rotate_left
                    · rintro w' ⟨s0, s1, s2, s3, s4⟩
                      go_simp
                      with_reducible rfl
                    rotate_left
                    · simp only [Act.put, List.setIfInBounds_toArray, List.set_cons_zero, List.set_cons_succ, i64_w, i32_w]
                      rfl
                    refine one_ (i := 11) (N := some 168) #[true, true, true, true, true, true, true, true, true, true, true, true, true, true, true, false, false, false] rfl rfl (by kernel_rfl) (by decide) (fun K hK => ?_)
                    refine goes_ Try.func10 (by kernel_rfl) rfl #[.pointer (some ⟨g, 0, none⟩), .int .i64 (wrap64 (100 + kk))] (by rfl) rfl rfl (by simp only [List.map_toArray, List.map_cons, List.map_nil]; rfl) ?_
                    with_reducible refine (waits_lit _ (wrap64 (100 + kk)) r2 _ hHeld.2.2.2.1.bag HRr2.out).mono ?_
                    rintro e1 _ ⟨rfl, rfl⟩
                    refine ⟨_, rfl, ?_⟩
                    refine hK.out _ _ ⟨hHeld.1, hHeld.2.1, hHeld.2.2.1, hHeld.2.2.2.1, hHeld.2.2.2.2⟩ (fun hHeld => ?_)
                    clear hK K
                    refine norm_ (a' := ?_) ?_ ?_
                    rotate_left
                    · show Act.put _ (some 168) _ = _
                      simp only [Act.put, List.setIfInBounds_toArray, List.set_cons_zero, List.set_cons_succ, i64_w, i32_w]
                      rfl
                    refine one_ (i := 15) (N := some 172) #[true, true, true, true, true, true, true, true, true, true, true, true, true, true, true, true, false, false] rfl rfl (by kernel_rfl) (by decide) (fun K hK => ?_)
                    refine goes_ Try.func22 (by kernel_rfl) rfl #[.agg #[.int .i64 (n : Int), .int .i64 (c : Int), .slice A5 L'.length c5], .int .i64 (wrap64 (100 + kk))] (by rfl) rfl rfl (by simp only [List.map_toArray, List.map_cons, List.map_nil]; rfl) ?_
                    with_reducible refine (sorrelref15_Waits.calls 201 n c A5 c5 L' (wrap64 (100 + kk)) r2 _ (Kd.R_reads' hHeld.2.2.2.1.row).2.2 (Kd.R_reads' hHeld.2.2.2.1.row).2.1 HFr2.out).mono ?_
                    rintro e1 w8 ⟨rfl, hb8⟩
                    refine ⟨_, rfl, ?_⟩
                    refine hK.out _ _ ⟨(hb8.cell (World.block_lt_of_cell? _ _ hHeld.1)).trans hHeld.1, (hb8.cell (World.block_lt_of_cell? _ _ hHeld.2.1)).trans hHeld.2.1, (hb8.cell (World.block_lt_of_cell? _ _ hHeld.2.2.1)).trans hHeld.2.2.1, hHeld.2.2.2.1.step hb8, blk_below hHeld.2.2.2.2 hb8⟩ (fun hHeld => ?_)
                    clear hK K
                    refine norm_ (a' := ?_) ?_ ?_
                    rotate_left
                    · show Act.put _ (some 172) _ = _
                      simp only [Act.put, List.setIfInBounds_toArray, List.set_cons_zero, List.set_cons_succ, i64_w, i32_w]
                      rfl
                    refine pure_ (i := 16) (N := some 173) (v := ?_) (a' := ?_) #[true, true, true, true, true, true, true, true, true, true, true, true, true, true, true, true, true, false] rfl rfl (by kernel_rfl) (fun _ _ _ h => h) (Or.inl ⟨by rfl, ?_⟩) ?_ ?_
                    rotate_left
                    · intro w'
                      go_simp
                      with_reducible rfl
                    rotate_left
                    · simp only [Act.put, List.setIfInBounds_toArray, List.set_cons_zero, List.set_cons_succ, i64_w, i32_w]
                      rfl
                    refine pure_ (i := 17) (N := some 174) (v := ?_) (a' := ?_) #[true, true, true, true, true, true, true, true, true, true, true, true, true, true, true, true, true, true] rfl rfl (by kernel_rfl) (fun _ _ _ h => h) (Or.inl ⟨by rfl, ?_⟩) ?_ ?_
                    rotate_left
                    · intro w'
                      go_simp
                      with_reducible rfl
                    rotate_left
                    · simp only [Act.put, List.setIfInBounds_toArray, List.set_cons_zero, List.set_cons_succ, i64_w, i32_w]
                      rfl
                    refine done_ (by kernel_rfl) ?_
                    obtain ⟨-, -, -, hst9, hk9⟩ := hHeld
                    have HST9 := Aside0.mk hst9
                    have HK9 := Aside0.mk hk9
                    clear hst9 hk9 f0 f1 f2 f3 f4
                    go_wp2
                    go_roundg k2
                    case measure => omega
                    case rel => exact ⟨k + 1, kk + 1, by rw [HWK.out], HK1, HQ1, HST9, HK9⟩
end Go.Proofs.Ytgcehbigcokpaaa.XA
