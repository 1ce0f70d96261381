import Derived.Test.YtgcehbigcokpaaaMBag11
namespace Go.Proofs.Ytgcehbigcokpaaa.XA
open Go.RowKit Go.Proofs.YtgcehbigcokpaaaW.PrintWords Go.Proofs.YtgcehbigcokpaaaW.PrintLast Go.Proofs.YtgcehbigcokpaaaW.PrintMore Go.Proofs.Ytgcehbigcokpaaa.XW
attribute [local go_sem high] max2_str unary_xor_u32 leq_str geq_str gtr_str
attribute [local go_sem] max2_int min2_int max_two min_two max_three min_three max_four min_four
set_option linter.unusedVariables false
set_option linter.unusedSimpArgs false
/-- A bag that nobody made: nil, or the zero struct. -/
def NoBag (w : World) (p : Value) : Prop := p = .pointer none ∨ ∃ g, p = .pointer (some ⟨g, 0, none⟩) ∧ w.heap[g]? = some (.cells #[.map none, .slice none 0 0] 60 (0, 0))
theorem NoBag.below {w w1 : World} {p : Value} (h : NoBag w p) (hb : Below w.heap.size w w1) : NoBag w1 p := by
  rcases h with h | ⟨g, h1, h2⟩
  · exact .inl h
  · exact .inr ⟨g, h1, blk_below h2 hb⟩
set_option maxHeartbeats 1600000 in
set_option maxRecDepth 100000 in
theorem has_nil (p : Value) (A0 : Option Addr) (n c0 : Nat) (w : World) (h : NoBag w p) :
    Calls Try.prog 23 #[p, .slice A0 n c0] w fun e w' => e = .returned (.bool false) ∧ Below w.heap.size w w' := by
  rcases h with rfl | ⟨g, rfl, hg⟩
  · go_enter Try.func23, Try.ntmps23
    go_wp2
    go_ret
    exact ⟨rfl, below_alloc (Below.refl _ _) _⟩
  · have hg' := blk_alloc hg (.cells #[.pointer (some ⟨g, 0, none⟩)] 23)
    have hc0 : (w.alloc (.cells #[.pointer (some ⟨g, 0, none⟩)] 23)).cell? ⟨g, 0, none⟩ = some (.map none) := (blk_cell hg' 0).trans rfl
    have hnil := fun (w : World) (r : Option Nat) => Go.run_eql_map_nil (P := Try.prog) w 58 3 39 r Try.underlying58
    clear hg hg'
    go_enter Try.func23, Try.ntmps23
    go_wp2
    go_ret
    exact ⟨rfl, below_alloc (Below.refl _ _) _⟩
set_option maxHeartbeats 1600000 in
set_option maxRecDepth 100000 in
theorem put_nil (p : Value) (fr pl : Int) (tx : ByteArray) (w : World) (h : NoBag w p) :
    Calls Try.prog 8 #[p, .agg #[.int .i64 fr, .int .i64 pl, .string tx]] w fun e w' => e = .returned (.int .i64 1) ∧ Below w.heap.size w w' := by
  have HB0 := Aside0.mk (below_alloc (below_alloc (Below.refl w.heap.size w) (.cells #[.int .i64 fr, .int .i64 pl, .string tx] 30)) (.cells #[.int .i64 fr, .int .i64 pl] 3))
  have HN := Aside0.mk (h.below HB0.out)
  clear h
  go_enter Try.func8, Try.ntmps8
  go_wp2_with (go_at_call 23; go_loud ((refine (has_nil p _ _ _ _ HN.out).mono ?_); rintro e w2 ⟨rfl, hb2⟩; have HB2 := Aside0.mk (below_step HB0.out hb2); clear hb2))
  go_ret
  exact ⟨rfl, HB2.out⟩
set_option maxHeartbeats 1600000 in
set_option maxRecDepth 100000 in
theorem find_nil (p : Value) (pl at_ : Int) (w : World) (h : NoBag w p) :
    Calls Try.prog 24 #[p, .int .i64 pl, .int .i64 at_] w fun e w' => e = .returned (.tuple #[.agg #[.int .i64 0, .int .i64 0, .string ⟨#[]⟩], .int .i64 1]) ∧ Below w.heap.size w w' := by
  have HB0 := Aside0.mk (below_alloc (below_alloc (Below.refl w.heap.size w) (.cells #[.int .i64 0, .int .i64 0, .string ⟨#[]⟩] 30)) (.cells #[.int .i64 pl] 3))
  have HN := Aside0.mk (h.below HB0.out)
  have HK := Aside0.mk (blk_alloc (heap_alloc_new w (.cells #[.int .i64 0, .int .i64 0, .string ⟨#[]⟩] 30)) (.cells #[.int .i64 pl] 3))
  clear h
  go_enter Try.func24, Try.ntmps24
  go_wp2_with (go_at_call 23; go_loud ((refine (has_nil p _ _ _ _ HN.out).mono ?_); rintro e w2 ⟨rfl, hb2⟩; have HB2 := Aside0.mk (below_step HB0.out hb2); have hk := blk_below HK.out hb2; have HKw := Aside0.mk hk; have x0 : w2.cell? ⟨w.heap.size, 0, none⟩ = some (.int .i64 0) := (blk_cell hk 0).trans rfl; have x1 : w2.cell? ⟨w.heap.size, 1, none⟩ = some (.int .i64 0) := (blk_cell hk 1).trans rfl; have x2 : w2.cell? ⟨w.heap.size, 2, none⟩ = some (.string ⟨#[]⟩) := (blk_cell hk 2).trans rfl; have y0 := blk_frozen hk 0; have y1 := blk_frozen hk 1; have y2 := blk_frozen hk 2; clear hb2 hk))
  refine bodyPost_ret (results_ct rfl _ _ w.heap.size 30 #[.int .i64 0, .int .i64 0, .string ⟨#[]⟩] (0, 0) _ rfl (put3 HKw.out) Try.underlying30 rfl (by kernel_rfl)) rfl ?_
  exact ⟨rfl, below_set (below_set (below_set HB2.out (Nat.le_refl _)) (Nat.le_refl _)) (Nat.le_refl _)⟩
set_option maxHeartbeats 1600000 in
set_option maxRecDepth 100000 in
theorem twice_nil (p : Value) (pl at_ : Int) (w : World) (h : NoBag w p) :
    Calls Try.prog 9 #[p, .int .i64 pl, .int .i64 at_] w fun e w' => e = .returned (.int .i64 1) ∧ Below w.heap.size w w' := by
  have HN := Aside0.mk h
  clear h
  go_enter Try.func9, Try.ntmps9
  go_wp2_with (go_at_call 24; go_loud ((refine (find_nil p pl at_ _ HN.out).mono ?_); rintro e w2 ⟨rfl, hb2⟩; have HB2 := Aside0.mk hb2; clear hb2))
  go_ret
  exact ⟨rfl, below_alloc HB2.out _⟩
set_option maxHeartbeats 1600000 in
set_option maxRecDepth 100000 in
theorem clear_nil (p : Value) (pl : Int) (w : World) (h : NoBag w p) :
    Calls Try.prog 20 #[p, .int .i64 pl] w fun e w' => e = .returned (.int .i64 1) ∧ Below w.heap.size w w' := by
  have HB0 := Aside0.mk (below_alloc (Below.refl w.heap.size w) (.cells #[.int .i64 pl] 3))
  have HN := Aside0.mk (h.below HB0.out)
  clear h
  go_enter Try.func20, Try.ntmps20
  go_wp2_with (go_at_call 23; go_loud ((refine (has_nil p _ _ _ _ HN.out).mono ?_); rintro e w2 ⟨rfl, hb2⟩; have HB2 := Aside0.mk (below_step HB0.out hb2); clear hb2))
  go_ret
  exact ⟨rfl, HB2.out⟩
set_option maxHeartbeats 1600000 in
set_option maxRecDepth 100000 in
theorem take_nil (p : Value) (pl at_ : Int) (w : World) (h : NoBag w p) :
    Calls Try.prog 11 #[p, .int .i64 pl, .int .i64 at_] w fun e w' => e = .returned (.tuple #[.agg #[.int .i64 0, .int .i64 0, .string ⟨#[]⟩], .int .i64 1]) ∧ Below w.heap.size w w' := by
  have HB0 := Aside0.mk (below_alloc (Below.refl w.heap.size w) (.cells #[.int .i64 0, .int .i64 0, .string ⟨#[]⟩] 30))
  have HN := Aside0.mk (h.below HB0.out)
  have HK := Aside0.mk (heap_alloc_new w (.cells #[.int .i64 0, .int .i64 0, .string ⟨#[]⟩] 30))
  clear h
  go_enter Try.func11, Try.ntmps11
  go_wp2_with (go_at_call 24; go_loud ((refine (find_nil p pl at_ _ HN.out).mono ?_); rintro e w2 ⟨rfl, hb2⟩; have HB2 := Aside0.mk (below_alloc (below_step HB0.out hb2) (.cells #[.int .i64 0, .int .i64 0, .string ⟨#[]⟩] 30)); have hk := blk_alloc (blk_below HK.out hb2) (.cells #[.int .i64 0, .int .i64 0, .string ⟨#[]⟩] 30); have HKw := Aside0.mk hk; have x0 : (w2.alloc (.cells #[.int .i64 0, .int .i64 0, .string ⟨#[]⟩] 30)).cell? ⟨w.heap.size, 0, none⟩ = some (.int .i64 0) := (blk_cell hk 0).trans rfl; have x1 : (w2.alloc (.cells #[.int .i64 0, .int .i64 0, .string ⟨#[]⟩] 30)).cell? ⟨w.heap.size, 1, none⟩ = some (.int .i64 0) := (blk_cell hk 1).trans rfl; have x2 : (w2.alloc (.cells #[.int .i64 0, .int .i64 0, .string ⟨#[]⟩] 30)).cell? ⟨w.heap.size, 2, none⟩ = some (.string ⟨#[]⟩) := (blk_cell hk 2).trans rfl; have y0 := blk_frozen hk 0; have y1 := blk_frozen hk 1; have y2 := blk_frozen hk 2; clear hb2 hk))
  refine bodyPost_ret (results_ct rfl _ _ w.heap.size 30 #[.int .i64 0, .int .i64 0, .string ⟨#[]⟩] (0, 0) _ rfl (put3 HKw.out) Try.underlying30 rfl (by kernel_rfl)) rfl ?_
  exact ⟨rfl, below_set (below_set (below_set HB2.out (Nat.le_refl _)) (Nat.le_refl _)) (Nat.le_refl _)⟩
theorem look_none (w : World) (k : Int) : (Instr.lookup 58 (.map none) (.int .i64 k) false).run Try.prog w = .ok (.slice none 0 0) w := by
  have hf : Instr.findNow (.int .i64) (.int .i64 k) [] 0 = some none := rfl
  simp [Instr.lookup, run_underlying Try.underlying58, Go.MapKept.run_checkKey Try.underlying3 (show Go.MapKept.IsKey (.int .i64) (.int .i64 k) from rfl) true 9999, Go.MapKept.run_findKey Try.underlying3 hf, zero39]
set_option maxHeartbeats 1600000 in
set_option maxRecDepth 100000 in
theorem waits_nil (p : Value) (pl : Int) (w : World) (h : NoBag w p) :
    Calls Try.prog 10 #[p, .int .i64 pl] w fun e w' => e = .returned (.int .i64 0) ∧ w' = w := by
  rcases h with rfl | ⟨g, rfl, hg⟩
  · go_enter Try.func10, Try.ntmps10
    go_wp2
    go_ret
    exact ⟨rfl, rfl⟩
  · have hc0 : w.cell? ⟨g, 0, none⟩ = some (.map none) := (blk_cell hg 0).trans rfl
    have hlk := fun w => look_none w pl
    clear hg
    go_enter Try.func10, Try.ntmps10
    go_wp2
    go_ret
    exact ⟨rfl, rfl⟩
set_option maxHeartbeats 1600000 in
set_option maxRecDepth 100000 in
theorem places_nil (p : Value) (w : World) (h : NoBag w p) :
    Calls Try.prog 15 #[p] w fun e w' => (∃ A c, e = .returned (.slice A 0 c)) ∧ Below w.heap.size w w' := by
  rcases h with rfl | ⟨g, rfl, hg⟩
  · go_enter Try.func15, Try.ntmps15
    go_wp2
    go_ret
    exact ⟨⟨_, _, rfl⟩, Below.refl _ _⟩
  · have hc0 : w.cell? ⟨g, 1, none⟩ = some (.slice none 0 0) := (blk_cell hg 1).trans rfl
    clear hg
    go_enter Try.func15, Try.ntmps15
    go_wp2_with (go_at_call 26; go_loud ((refine (clone_calls none 0 [] _ (Kd.C_nil _ _) (by decide)).mono ?_); rintro e w2 ⟨v, rfl, ho, hb⟩; obtain ⟨A, c, hv, -, -⟩ := Kd.R_reads ho; subst hv; have HB2 := Aside0.mk hb; clear ho hb))
    go_ret
    exact ⟨⟨_, _, rfl⟩, HB2.out⟩
end Go.Proofs.Ytgcehbigcokpaaa.XA
