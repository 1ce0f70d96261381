import Derived.Test.YtcbodnjdbnmfoaaXAx1
import Derived.Test.YtcbodnjdbnmfoaaVLib
namespace Go.Proofs.Ytcbodnjdbnmfoaa.XA
open Go.RowKit Go.Proofs.YtcbodnjdbnmfoaaW.PrintWords Go.Proofs.YtcbodnjdbnmfoaaW.PrintLast Go.Proofs.YtcbodnjdbnmfoaaW.PrintMore Go.Proofs.Ytcbodnjdbnmfoaa.XW Go.Proofs.Ytcbodnjdbnmfoaa.VLib
attribute [local go_sem high] max2_str unary_xor_u32 leq_str geq_str gtr_str
attribute [local go_sem] max2_int min2_int max_two min_two max_three min_three max_four min_four
set_option linter.unusedVariables false
set_option linter.unusedSimpArgs false
theorem at4 (a b c d : Int) (i : Nat) (h : i < 4) : (#[Value.int .u8 a, .int .u8 b, .int .u8 c, .int .u8 d])[i]? = some (.int .u8 ([a, b, c, d].getD i 0)) := by
  match i, h with
  | 0, _ => rfl
  | 1, _ => rfl
  | 2, _ => rfl
  | 3, _ => rfl
set_option maxHeartbeats 1600000 in
set_option maxRecDepth 100000 in
theorem apart_calls (k : Nat) (a0 a1 a2 a3 b0 b1 b2 b3 n j : Int) (s t : Int) (w : World) (hj : 1 + Go.bits .and .i64 n 3 = j) (h1 : 1 ≤ j) (h4 : j ≤ 4) (hs4 : (strOfNums [a0, a1, a2, a3]).size = 4) (ht4 : (strOfNums [b0, b1, b2, b3]).size = 4)
    (hs : crc_Sum.f k ((strOfNums [a0, a1, a2, a3]).extract 0 j.toNat) = some s) (ht : crc_Sum.f k ((strOfNums [b0, b1, b2, b3]).extract 0 j.toNat) = some t) (hsum : sorrellaw02_sums.f k = some true)
    (hlaw : (s == t) = (((strOfNums [a0, a1, a2, a3]).extract 0 j.toNat).toList == ((strOfNums [b0, b1, b2, b3]).extract 0 j.toNat).toList)) :
    Calls Try.prog 5 #[.agg #[.int .u8 a0, .int .u8 a1, .int .u8 a2, .int .u8 a3], .agg #[.int .u8 b0, .int .u8 b1, .int .u8 b2, .int .u8 b3], .int .i64 n] w fun e w' => e = .returned (.bool true) ∧ Below w.heap.size w w' := by
  have HS := Aside0.mk hs
  have HT := Aside0.mk ht
  have HU := Aside0.mk hsum
  have HL := Aside0.mk hlaw
  have HJ := Aside0.mk hj
  have q0 : decide (0 ≤ j) = true := decide_eq_true (by omega)
  clear hs ht hsum hlaw
  have q1 : 0 ≤ j := by omega
  have hcA : (convert 28 9 (.slice (some ⟨w.heap.size, 0, none⟩) 4 4)).run Try.prog ((w.alloc (Obj.cells #[.int .u8 a0, .int .u8 a1, .int .u8 a2, .int .u8 a3] 27)).alloc (Obj.cells #[.int .u8 b0, .int .u8 b1, .int .u8 b2, .int .u8 b3] 27)).drew = .ok (.string (strOfNums [a0, a1, a2, a3])) ((w.alloc (Obj.cells #[.int .u8 a0, .int .u8 a1, .int .u8 a2, .int .u8 a3] 27)).alloc (Obj.cells #[.int .u8 b0, .int .u8 b1, .int .u8 b2, .int .u8 b3] 27)).drew := by
    refine Go.run_convert_bytes_arg (P := Try.prog) (w := ((w.alloc (Obj.cells #[.int .u8 a0, .int .u8 a1, .int .u8 a2, .int .u8 a3] 27)).alloc (Obj.cells #[.int .u8 b0, .int .u8 b1, .int .u8 b2, .int .u8 b3] 27)).drew) 28 5 Try.underlying28 Try.underlying5 w.heap.size 0 4 4 [a0, a1, a2, a3] rfl (fun i hi => ?_) 9 Try.underlying9
    have hz : ((w.alloc (Obj.cells #[.int .u8 a0, .int .u8 a1, .int .u8 a2, .int .u8 a3] 27)).alloc (Obj.cells #[.int .u8 b0, .int .u8 b1, .int .u8 b2, .int .u8 b3] 27)).drew.heap[w.heap.size]? = some (Obj.cells #[.int .u8 a0, .int .u8 a1, .int .u8 a2, .int .u8 a3] 27 (0, 0)) := blk_drew (blk_alloc (heap_alloc_new w (Obj.cells #[.int .u8 a0, .int .u8 a1, .int .u8 a2, .int .u8 a3] 27)) _)
    rw [Nat.zero_add]; exact (blk_cell hz i).trans (at4 _ _ _ _ i hi)
  have hcB : (convert 28 9 (.slice (some ⟨w.heap.size + 1, 0, none⟩) 4 4)).run Try.prog ((w.alloc (Obj.cells #[.int .u8 a0, .int .u8 a1, .int .u8 a2, .int .u8 a3] 27)).alloc (Obj.cells #[.int .u8 b0, .int .u8 b1, .int .u8 b2, .int .u8 b3] 27)).drew = .ok (.string (strOfNums [b0, b1, b2, b3])) ((w.alloc (Obj.cells #[.int .u8 a0, .int .u8 a1, .int .u8 a2, .int .u8 a3] 27)).alloc (Obj.cells #[.int .u8 b0, .int .u8 b1, .int .u8 b2, .int .u8 b3] 27)).drew := by
    refine Go.run_convert_bytes_arg (P := Try.prog) (w := ((w.alloc (Obj.cells #[.int .u8 a0, .int .u8 a1, .int .u8 a2, .int .u8 a3] 27)).alloc (Obj.cells #[.int .u8 b0, .int .u8 b1, .int .u8 b2, .int .u8 b3] 27)).drew) 28 5 Try.underlying28 Try.underlying5 (w.heap.size + 1) 0 4 4 [b0, b1, b2, b3] rfl (fun i hi => ?_) 9 Try.underlying9
    have hz := heap_alloc_new (w.alloc (Obj.cells #[.int .u8 a0, .int .u8 a1, .int .u8 a2, .int .u8 a3] 27)) (Obj.cells #[.int .u8 b0, .int .u8 b1, .int .u8 b2, .int .u8 b3] 27)
    rw [show (w.alloc (Obj.cells #[.int .u8 a0, .int .u8 a1, .int .u8 a2, .int .u8 a3] 27)).heap.size = w.heap.size + 1 from by simp] at hz
    rw [Nat.zero_add]; exact (blk_cell (blk_drew hz) i).trans (at4 _ _ _ _ i hi)
  have HA := Aside0.mk hcA
  have HB := Aside0.mk hcB
  clear hcA hcB
  go_enter Try.func5, Try.ntmps5
  go_wp2
  refine start_ (n := 10) (S := fun w' => (convert 28 9 (.slice (some ⟨w.heap.size, 0, none⟩) 4 4)).run Try.prog w' = .ok (.string (strOfNums [a0, a1, a2, a3])) w' ∧ (convert 28 9 (.slice (some ⟨w.heap.size + 1, 0, none⟩) 4 4)).run Try.prog w' = .ok (.string (strOfNums [b0, b1, b2, b3])) w') (ds := []) #[false, false, false, false, false, false, false, false, false, false] (by kernel_rfl) rfl rfl ⟨HA.out, HB.out⟩ (fun hHeld => ?_)
  refine pure_ (i := 0) (N := some 13) (v := ?_) (a' := ?_) #[true, false, false, false, false, false, false, false, false, false] rfl rfl (by kernel_rfl) (fun _ _ _ h => h) (Or.inl ⟨by rfl, ?_⟩) ?_ ?_
  rotate_left
  · intro w'
    go_simp
    with_reducible rfl
  rotate_left
  · simp only [Act.put, List.setIfInBounds_toArray, List.set_cons_zero, List.set_cons_succ, i64_w, i32_w]
    rfl
  refine pure_ (i := 2) (N := some 15) (v := ?_) (a' := ?_) #[true, false, true, false, false, false, false, false, false, false] rfl rfl (by kernel_rfl) (fun _ _ _ h => h) (Or.inl ⟨by rfl, ?_⟩) ?_ ?_
  rotate_left
  · intro w'
    go_simp
    with_reducible rfl
  rotate_left
  · simp only [Act.put, List.setIfInBounds_toArray, List.set_cons_zero, List.set_cons_succ, i64_w, i32_w]
    rfl
  refine pure_ (i := 4) (N := some 17) (v := ?_) (a' := ?_) #[true, false, true, false, true, false, false, false, false, false] rfl rfl (by kernel_rfl) (fun _ _ _ h => h) (Or.inl ⟨by rfl, ?_⟩) ?_ ?_
  rotate_left
  · intro w'
    go_simp
    with_reducible rfl
  rotate_left
  · simp only [Act.put, List.setIfInBounds_toArray, List.set_cons_zero, List.set_cons_succ, i64_w, i32_w]
    rfl
  refine pure_ (i := 6) (N := some 19) (v := ?_) (a' := ?_) #[true, false, true, false, true, false, true, false, false, false] rfl rfl (by kernel_rfl) (fun _ _ _ h => h) (Or.inl ⟨by rfl, ?_⟩) ?_ ?_
  rotate_left
  · intro w'
    go_simp
    with_reducible rfl
  rotate_left
  · simp only [Act.put, List.setIfInBounds_toArray, List.set_cons_zero, List.set_cons_succ, i64_w, i32_w]
    rfl
  refine take_ (i := 1) (N := some 14) (v := ?_) (a' := ?_) #[true, true, true, false, true, false, true, false, false, false] rfl rfl (by kernel_rfl) (fun _ _ _ h => h) (Or.inl ⟨by rfl, ?_⟩) hHeld ?_ ?_
  rotate_left
  · rintro w' ⟨s0, s1⟩
    go_simp
    with_reducible rfl
  rotate_left
  · simp only [Act.put, List.setIfInBounds_toArray, List.set_cons_zero, List.set_cons_succ, i64_w, i32_w]
    rfl
  refine pure_ (i := 3) (N := some 16) (v := ?_) (a' := ?_) #[true, true, true, true, true, false, true, false, false, false] rfl rfl (by kernel_rfl) (fun _ _ _ h => h) (Or.inl ⟨by rfl, ?_⟩) ?_ ?_
  rotate_left
  · intro w'
    go_simp
    with_reducible rfl
  rotate_left
  · simp only [Act.put, List.setIfInBounds_toArray, List.set_cons_zero, List.set_cons_succ, i64_w, i32_w]
    rfl
  refine pure_ (i := 8) (N := some 8) (v := ?_) (a' := ?_) #[true, true, true, true, true, false, true, false, true, false] rfl rfl (by kernel_rfl) (fun _ _ _ h => h) (Or.inl ⟨by rfl, ?_⟩) ?_ ?_
  rotate_left
  · intro w'
    go_simp
    with_reducible rfl
  rotate_left
  · simp only [Act.put, List.setIfInBounds_toArray, List.set_cons_zero, List.set_cons_succ, i64_w, i32_w]
    rfl
  refine take_ (i := 5) (N := some 18) (v := ?_) (a' := ?_) #[true, true, true, true, true, true, true, false, true, false] rfl rfl (by kernel_rfl) (fun _ _ _ h => h) (Or.inl ⟨by rfl, ?_⟩) hHeld ?_ ?_
  rotate_left
  · rintro w' ⟨s0, s1⟩
    go_simp
    with_reducible rfl
  rotate_left
  · simp only [Act.put, List.setIfInBounds_toArray, List.set_cons_zero, List.set_cons_succ, i64_w, i32_w]
    rfl
  refine pure_ (i := 7) (N := some 20) (v := ?_) (a' := ?_) #[true, true, true, true, true, true, true, true, true, false] rfl rfl (by kernel_rfl) (fun _ _ _ h => h) (Or.inl ⟨by rfl, ?_⟩) ?_ ?_
  rotate_left
  · intro w'
    go_simp
    with_reducible rfl
  rotate_left
  · simp only [Act.put, List.setIfInBounds_toArray, List.set_cons_zero, List.set_cons_succ, i64_w, i32_w]
    rfl
  refine pure_ (i := 9) (N := some 9) (v := ?_) (a' := ?_) #[true, true, true, true, true, true, true, true, true, true] rfl rfl (by kernel_rfl) (fun _ _ _ h => h) (Or.inl ⟨by rfl, ?_⟩) ?_ ?_
  rotate_left
  · intro w'
    go_simp
    with_reducible rfl
  rotate_left
  · simp only [Act.put, List.setIfInBounds_toArray, List.set_cons_zero, List.set_cons_succ, i64_w, i32_w]
    rfl
  refine done_ (by kernel_rfl) ?_

  have c1 : ((s == t) == (((strOfNums [a0, a1, a2, a3]).extract 0 j.toNat).toList == ((strOfNums [b0, b1, b2, b3]).extract 0 j.toNat).toList)) = true := by rw [HL.out]; simp
  go_wp2_with (first | (go_at_call 10; (with_reducible refine (crc_Sum.calls k _ s _ HS.out).mono ?_); rintro e w' ⟨rfl, ⟨nd, rfl⟩⟩) | (go_at_call 10; (with_reducible refine (crc_Sum.calls k _ t _ HT.out).mono ?_); rintro e w' ⟨rfl, ⟨nd, rfl⟩⟩) | (go_at_call 9; (with_reducible refine (sorrellaw02_sums.calls k true _ HU.out).mono ?_); rintro e w' ⟨rfl, ⟨nd, rfl⟩⟩))
  go_ret
  exact ⟨rfl, by repeat (first | (with_reducible first | exact Below.refl _ _ | apply below_alloc | apply pw_below_drewN | apply below_drew1) | exact Below.refl _ _)⟩
end Go.Proofs.Ytcbodnjdbnmfoaa.XA
