import Derived.Laws.EntriesVeiled
import Derived.Test.YtlmoafkmhenejaakNMTab6
import Derived.Test.YtlmoafkmhenejaakNMTab0
section
namespace Go.Proofs.Ytlmoafkmhenejaa.VLib
end Go.Proofs.Ytlmoafkmhenejaa.VLib
namespace Go.Proofs.Ytlmoafkmhenejaa.Bld
end Go.Proofs.Ytlmoafkmhenejaa.Bld
namespace Go.Proofs.YtlmoafkmhenejaaW.PrintWords
end Go.Proofs.YtlmoafkmhenejaaW.PrintWords
namespace Go.Proofs.YtlmoafkmhenejaaW.PrintLast
end Go.Proofs.YtlmoafkmhenejaaW.PrintLast
namespace Go.Proofs.YtlmoafkmhenejaaW.PrintMore
end Go.Proofs.YtlmoafkmhenejaaW.PrintMore
namespace Go.Proofs.Ytlmoafkmhenejaa.XW
end Go.Proofs.Ytlmoafkmhenejaa.XW
namespace Go.Proofs.Ytlmoafkmhenejaa.XA
open Go.Proofs.Ytlmoafkmhenejaa.VLib Go.Proofs.Ytlmoafkmhenejaa.Bld Go.RowKit Go.Proofs.YtlmoafkmhenejaaW.PrintWords Go.Proofs.YtlmoafkmhenejaaW.PrintLast Go.Proofs.YtlmoafkmhenejaaW.PrintMore Go.Proofs.Ytlmoafkmhenejaa.XW
attribute [local go_sem high] max2_str unary_xor_u32 leq_str geq_str gtr_str
attribute [local go_sem] max2_int min2_int max_two min_two max_three min_three max_four min_four
set_option linter.unusedVariables false
set_option linter.unusedSimpArgs false
theorem freeze_far {w : World} {p : Addr} {n k : Nat} (hk : k ≠ p.block) : (w.freeze p n).heap[k]? = w.heap[k]? := by
  unfold World.freeze
  split
  · rfl
  · simp only [Array.getElem?_modify]
    rw [if_neg (fun e => hk e.symm)]
set_option maxHeartbeats 2000000 in
set_option maxRecDepth 100000 in
theorem String_at (B b : Nat) (v : Value) (u : Bool) (l : List UInt8) (w : World) (h : Bd w B b v u l) (h0 : l ≠ []) :
    Calls Try.prog 44 #[.pointer (some ⟨b, 0, none⟩)] w fun e w' => e = .returned (.string ⟨l.toArray⟩) ∧ Below B w w' ∧ w.heap.size ≤ w'.heap.size ∧ ∀ k, some k ≠ v.ownBlock → w'.heap[k]? = w.heap[k]? := by
  obtain ⟨hB, hbk, hown⟩ := h
  have cellsB : Try.prog.cellsOf 5 = 1 := by kernel_rfl
  have hl0 : l.length ≠ 0 := by simpa using h0
  obtain ⟨g, cap, cur, rfl, hbg, hg, hnc, hcm, hcs, htake⟩ : ∃ g cap cur, v = .slice (some ⟨g, 0, none⟩) l.length cap ∧ B ≤ g ∧ w.heap[g]? = some (.cells cur 5 (0, 0)) ∧ l.length ≤ cap ∧ cap ≤ maxLen ∧ cur.size = cap * 1 ∧ cur.toList.take (l.length * 1) = Lib.byteCells l := by
    rcases hown.2 with ⟨_, hz⟩ | ⟨g, cap, cur, hv, r⟩
    · exact absurd hz hl0
    · exact ⟨g, cap, cur, hv, r⟩
  have c1 : w.drew.cell? ⟨b, 1, none⟩ = some (.slice (some ⟨g, 0, none⟩) l.length cap) := (blk_cell (blk_drew hbk) 1).trans rfl
  have hSD : (Builtin.unsafeSliceData_ #[47] 101 #[.slice (some ⟨g, 0, none⟩) l.length cap]).run Try.prog w.drew = .ok (.pointer (some ⟨g, 0, none⟩)) w.drew :=
    Lib.run_unsafeSliceData_row _ _ _ _ _ _ (by omega)
  have hUS : (Builtin.unsafeString_ #[101, 3] 9 #[.pointer (some ⟨g, 0, none⟩), .int .i64 l.length]).run Try.prog w.drew = .ok (.string ⟨l.toArray⟩) (w.drew.freeze ⟨g, 0, none⟩ l.length) := by
    refine Lib.run_unsafeString_row w.drew 101 3 9 5 Try.underlying101 cellsB g cur.size (by have hg' : w.drew.heap[g]? = some (.cells cur 5 (0, 0)) := hg; simp [World.shape?, hg']) l h0 (by omega) (by unfold maxLen at hcm; omega) ?_
    intro j x hx
    exact hown.cells (g := g) rfl j (.int .u8 x.toNat) (by simp [Lib.byteCells, hx])
  go_enter Try.func44, Try.ntmps44
  go_wp2
  go_region
  all_goals (go_wp2; go_ret; exact ⟨rfl, Lib.below_freeze (Below.drew (Below.refl B w)) (p := ⟨g, 0, none⟩) hbg _, (Lib.below_freeze (Below.drew (Below.refl B w)) (p := ⟨g, 0, none⟩) hbg _).size, fun k hk => freeze_far (p := ⟨g, 0, none⟩) (fun e => hk (by rw [e]; rfl))⟩)
theorem build_boxes (w w1 : World) (hb : Below w.heap.size w w1) : Below w.heap.size w ((((w1.alloc (.cells #[.pointer none, .slice none 0 0] 71)).alloc (.cells #[.pointer none, .slice none 0 0] 71)).alloc (.cells #[.func (Fn.func 33) #[] #[.pointer (some ⟨w1.heap.size + 1, 0, none⟩)]] 77)).alloc (.cells #[.func (Fn.func 36) #[] #[.pointer (some ⟨w1.heap.size + 1, 0, none⟩)]] 79)) ∧ Two ((((w1.alloc (.cells #[.pointer none, .slice none 0 0] 71)).alloc (.cells #[.pointer none, .slice none 0 0] 71)).alloc (.cells #[.func (Fn.func 33) #[] #[.pointer (some ⟨w1.heap.size + 1, 0, none⟩)]] 77)).alloc (.cells #[.func (Fn.func 36) #[] #[.pointer (some ⟨w1.heap.size + 1, 0, none⟩)]] 79)) w.heap.size (w1.heap.size + 1) w1.heap.size (.slice none 0 0) (.slice none 0 0) false false [] [] ∧
    ((((w1.alloc (.cells #[.pointer none, .slice none 0 0] 71)).alloc (.cells #[.pointer none, .slice none 0 0] 71)).alloc (.cells #[.func (Fn.func 33) #[] #[.pointer (some ⟨w1.heap.size + 1, 0, none⟩)]] 77)).alloc (.cells #[.func (Fn.func 36) #[] #[.pointer (some ⟨w1.heap.size + 1, 0, none⟩)]] 79)).heap[w1.heap.size + 1 + 1]? = some (.cells #[.func (Fn.func 33) #[] #[.pointer (some ⟨w1.heap.size + 1, 0, none⟩)]] 77 (0, 0)) ∧ ((((w1.alloc (.cells #[.pointer none, .slice none 0 0] 71)).alloc (.cells #[.pointer none, .slice none 0 0] 71)).alloc (.cells #[.func (Fn.func 33) #[] #[.pointer (some ⟨w1.heap.size + 1, 0, none⟩)]] 77)).alloc (.cells #[.func (Fn.func 36) #[] #[.pointer (some ⟨w1.heap.size + 1, 0, none⟩)]] 79)).heap[w1.heap.size + 1 + 1 + 1]? = some (.cells #[.func (Fn.func 36) #[] #[.pointer (some ⟨w1.heap.size + 1, 0, none⟩)]] 79 (0, 0)) := by
  have s1 : (w1.alloc (.cells #[.pointer none, .slice none 0 0] 71)).heap.size = w1.heap.size + 1 := by simp
  have s2 : ((w1.alloc (.cells #[.pointer none, .slice none 0 0] 71)).alloc (.cells #[.pointer none, .slice none 0 0] 71)).heap.size = w1.heap.size + 1 + 1 := by simp
  have hB := hb.size
  have d1 := Bd.new w1 w.heap.size hB
  have d2 := Bd.new (w1.alloc (.cells #[.pointer none, .slice none 0 0] 71)) w.heap.size (by rw [s1]; omega)
  rw [s1] at d2
  have t1 := below_alloc (Below.refl (w1.alloc (.cells #[.pointer none, .slice none 0 0] 71)).heap.size (w1.alloc (.cells #[.pointer none, .slice none 0 0] 71))) (.cells #[.pointer none, .slice none 0 0] 71)
  obtain ⟨V2, hV2⟩ : ∃ V2, (w1.alloc (.cells #[.pointer none, .slice none 0 0] 71)).alloc (.cells #[.pointer none, .slice none 0 0] 71) = V2 := ⟨_, rfl⟩
  have two2 : Two V2 w.heap.size (w1.heap.size + 1) w1.heap.size (.slice none 0 0) (.slice none 0 0) false false [] [] := by
    rw [← hV2]; exact ⟨d2, d1.below t1, by omega, fun k hk => by simp [Value.ownBlock] at hk⟩
  have b2 : Below w.heap.size w V2 := by rw [← hV2]; exact below_alloc (below_alloc hb _) _
  rw [hV2] at s2 ⊢
  have g3 := heap_alloc_new V2 (.cells #[.func (Fn.func 33) #[] #[.pointer (some ⟨w1.heap.size + 1, 0, none⟩)]] 77)
  rw [s2] at g3
  have e3 := two2.below (below_alloc (Below.refl _ _) (.cells #[.func (Fn.func 33) #[] #[.pointer (some ⟨w1.heap.size + 1, 0, none⟩)]] 77))
  have b3 := below_alloc b2 (.cells #[.func (Fn.func 33) #[] #[.pointer (some ⟨w1.heap.size + 1, 0, none⟩)]] 77)
  have s3 : (V2.alloc (.cells #[.func (Fn.func 33) #[] #[.pointer (some ⟨w1.heap.size + 1, 0, none⟩)]] 77)).heap.size = w1.heap.size + 1 + 1 + 1 := by simp [s2]
  obtain ⟨V3, hV3⟩ : ∃ V3, V2.alloc (.cells #[.func (Fn.func 33) #[] #[.pointer (some ⟨w1.heap.size + 1, 0, none⟩)]] 77) = V3 := ⟨_, rfl⟩
  rw [hV3] at g3 e3 b3 s3 ⊢
  have g4 := heap_alloc_new V3 (.cells #[.func (Fn.func 36) #[] #[.pointer (some ⟨w1.heap.size + 1, 0, none⟩)]] 79)
  rw [s3] at g4
  exact ⟨below_alloc b3 _, e3.below (below_alloc (Below.refl _ _) _), blk_alloc g3 _, g4⟩
theorem Two.read {w w1 : World} {B f b : Nat} {vf vb : Value} {uf ub : Bool} {fs bs : List UInt8} (h : Two w B f b vf vb uf ub fs bs) (hk : ∀ k, some k ≠ vf.ownBlock → w1.heap[k]? = w.heap[k]?) : Bd w1 B b vb ub bs :=
  h.body.step (hk b (fun e => Lib.ownBlock_ne h.foot.2.2 h.body.2.1 (by decide) e.symm)) (fun k hk' => hk k (fun e => h.apart k e.symm hk'))
def buildF (kk K : Nat) (l : List S43) : Option (ByteArray × Int) :=
  if l.length = 0 then some (⟨#[]⟩, 1) else
    (block_Check.f kk l).bind fun e0 => if e0 = 0 then
      ((varint_Put.f kk (((l.length + 15) / 16 : Nat) : Int)).bind fun p0 => (chunkF kk K l p0.1.data.toList []).bind fun r => (bloom_Make.f kk (keysL l)).bind fun bt => (varint_Text.f kk bt.1).bind fun tx =>
        (crc_Seal.f kk ⟨(r.1 ++ tx.1.data.toList).toArray⟩).bind fun sl => (varint_Fix.f (sl.size : Int)).bind fun fx =>
          if p0.1.size ≤ 140737488355328 ∧ r.1.length + tx.1.size ≤ 140737488355328 ∧ r.1 ++ tx.1.data.toList ≠ [] ∧ r.2 ≠ [] ∧ l.length ≤ 500000 ∧ r.2.length + sl.size + fx.1.size ≤ 140737488355328 then some ((⟨r.2.toArray⟩ : ByteArray) ++ sl ++ fx.1, 0) else none)
      else some (⟨#[]⟩, 1)
set_option maxHeartbeats 2000000 in
set_option maxRecDepth 100000 in
theorem build_calls (kk K : Nat) (A : Option Addr) (c : Nat) (l : List S43) (r1 : ByteArray) (r2 : Int) (w : World) (hC : Kd.C k43 w A l.length l) (hc : l.length ≤ c) (h : buildF kk K l = some (r1, r2)) :
    Calls Try.prog 13 #[.slice A l.length c] w fun e w' => e = .returned (.tuple #[.string r1, .int .i64 r2]) ∧ Below w.heap.size w w' := by
  have HC := Aside0.mk hC
  have HCC := Aside0.mk hc
  unfold buildF at h
  by_cases q0 : l.length = 0
  · rw [if_pos q0] at h
    simp only [Option.some.injEq, Prod.mk.injEq] at h
    obtain ⟨rfl, rfl⟩ := h
    have c1 : ((l.length : Int) == 0) = true := beq_iff_eq.mpr (by omega)
    clear q0 hC hc
    go_enter Try.func13, Try.ntmps13
    go_wp2
    go_ret2
    exact ⟨rfl, Below.refl _ _⟩
  · rw [if_neg q0] at h
    obtain ⟨e0, hk, h⟩ := Option.bind_eq_some_iff.mp h
    have HK := Aside0.mk hk
    have c1 : ((l.length : Int) == 0) = false := beq_eq_false_iff_ne.mpr (by omega)
    clear hk hC hc
    by_cases q1 : e0 = 0
    · rw [if_pos q1] at h
      subst q1
      obtain ⟨⟨n0, z0⟩, hp0, h⟩ := Option.bind_eq_some_iff.mp h
      obtain ⟨⟨fs, bs⟩, hch, h⟩ := Option.bind_eq_some_iff.mp h
      obtain ⟨⟨bt, z1⟩, hbt, h⟩ := Option.bind_eq_some_iff.mp h
      obtain ⟨⟨tx, z2⟩, htx, h⟩ := Option.bind_eq_some_iff.mp h
      obtain ⟨sl, hsl, h⟩ := Option.bind_eq_some_iff.mp h
      obtain ⟨⟨fx, z3⟩, hfx, h⟩ := Option.bind_eq_some_iff.mp h
      dsimp only at h hch htx hsl hfx
      by_cases qs : n0.size ≤ 140737488355328 ∧ fs.length + tx.size ≤ 140737488355328 ∧ fs ++ tx.data.toList ≠ [] ∧ bs ≠ [] ∧ l.length ≤ 500000 ∧ bs.length + sl.size + fx.size ≤ 140737488355328
      · rw [if_pos qs] at h
        simp only [Option.some.injEq, Prod.mk.injEq] at h
        obtain ⟨rfl, rfl⟩ := h
        have HP0 := Aside0.mk hp0
        have HCH := Aside0.mk hch
        have HBT := Aside0.mk hbt
        have HTX := Aside0.mk htx
        have HSL := Aside0.mk hsl
        have HFX := Aside0.mk hfx
        have HQS := Aside0.mk qs
        have hlq := qs.2.2.2.2.1
        have hlz := qs.2.2.2.2.2
        have g1 : (9223372036854775807 < bs.length + sl.size) = False := eq_false (by omega)
        have g2 : (9223372036854775807 < bs.length + sl.size + fx.size) = False := eq_false (by omega)
        have g3 : decide (9223372036854775807 < bs.length + sl.size) = false := decide_eq_false (by omega)
        have g4 : decide (9223372036854775807 < bs.length + sl.size + fx.size) = false := decide_eq_false (by omega)
        have HL6 : Aside0 (l.length ≤ 1000000) := ⟨by omega⟩
        have HL7 : Aside0 (l.length < 1000000) := ⟨by omega⟩
        have w3_ : Aside0 (wrap64 (Int.tdiv ((l.length : Int) + 15) 16) = (((l.length + 15) / 16 : Nat) : Int)) := ⟨by rw [Int.tdiv_eq_ediv_of_nonneg (by omega)]; unfold wrap64; omega⟩
        have w1_ : Aside0 (wrap64 ((l.length : Int) + 16) = (l.length : Int) + 16) := ⟨by unfold wrap64; omega⟩
        have w2_ : Aside0 (wrap64 ((l.length : Int) + 15) = (l.length : Int) + 15) := ⟨by unfold wrap64; omega⟩
        have w4_ : Aside0 (wrap64 ((l.length : Int) + 16 - 1) = (l.length : Int) + 15) := ⟨by unfold wrap64; omega⟩
        obtain ⟨nb, hnb⟩ : ∃ nb, (l.length + 15) / 16 = nb := ⟨_, rfl⟩
        rw [hnb] at w3_ HP0
        clear hnb
        clear hp0 hch hbt htx hsl hfx qs q0 hlq hlz
        have v1_ := w1_.out
        have v2_ := w2_.out
        have v3_ := w3_.out
        have v4_ := w4_.out
        go_enter Try.func13, Try.ntmps13
        go_wp2_with (first
          | (go_at_call 44; go_loud ((with_reducible refine (String_at w.heap.size w1.heap.size vb6 ub6 bs _ HBD12.out HQS.out.2.2.2.1).mono ?_); rintro e w13 ⟨rfl, hb13, -, -⟩; have HB13 := Aside0.mk (HB12.out.trans hb13); clear hb13))
          | (go_at_call 45; go_loud ((with_reducible refine (varint_Fix.calls sl.size fx z3 _ HFX.out).mono ?_); rintro e w12 ⟨rfl, hb12⟩; have HB12 := Aside0.mk (HB11.out.trans (below_at_ hb12 HB11.out.size)); have HBD12 := Aside0.mk (HBD11.out.below hb12); clear hb12))
          | (go_at_call 43; go_loud ((with_reducible refine (crc_Seal.calls kk ⟨(fs ++ tx.data.toList).toArray⟩ sl _ HSL.out).mono ?_); rintro e w11 ⟨rfl, hb11⟩; have HB11 := Aside0.mk (HB10.out.trans (below_at_ hb11 HB10.out.size)); have HBD11 := Aside0.mk (HBD10.out.below hb11); clear hb11))
          | (go_at_call 44; go_loud ((with_reducible refine (String_at w.heap.size (w1.heap.size + 1) vf9 true (fs ++ tx.data.toList) _ HT9.out.foot HQS.out.2.2.1).mono ?_); rintro e w10 ⟨rfl, hb10, hs10, hk10⟩; have HB10 := Aside0.mk (HB9.out.trans hb10); have HBD10 := Aside0.mk (HT9.out.read hk10); clear hb10 hs10 hk10))
          | (go_at_call 36; go_loud ((with_reducible refine (text_calls kk w.heap.size (w1.heap.size + 1) vf6 uf6 fs bt tx z2 _ HT8.out.foot HTX.out HQS.out.2.1 HB8.out.size).mono ?_); rintro e w9 ⟨vf9, rfl, h9, hb9, hk9, hat9⟩; have HT9 := Aside0.mk (HT8.out.wrote h9 hk9 hat9); have HB9 := Aside0.mk (HB8.out.trans hb9); clear h9 hb9 hk9 hat9))
          | (go_at_call 41; go_loud ((with_reducible refine (bloom_Make.calls kk A7 c7 (keysL l) bt z1 _ (Kd.R_reads' HR7.out).2.2 (Kd.R_reads' HR7.out).2.1 HBT.out).mono ?_); rintro e w8 ⟨rfl, hb8⟩; have HB8 := Aside0.mk (HB7.out.trans (below_at_ hb8 HB7.out.size)); have HT8 := Aside0.mk (HT7.out.below hb8); have g79 := blk_below G79d.out hb8; have x79 : w8.cell? ⟨w1.heap.size + 1 + 1 + 1, 0, none⟩ = some (.func (Fn.func 36) #[] #[.pointer (some ⟨w1.heap.size + 1, 0, none⟩)]) := (blk_cell g79 0).trans rfl; clear hb8 g79))
          | (go_at_call 42; go_loud ((with_reducible refine (keys_calls A c l _ (Kd.C_below HC.out HB6.out) HL7.out).mono ?_); rintro e w7 ⟨v7, rfl, hR7, hb7⟩; obtain ⟨A7, c7, e7⟩ := Kd.R_slice hR7; subst e7; have HR7 := Aside0.mk hR7; have HB7 := Aside0.mk (HB6.out.trans (below_at_ hb7 HB6.out.size)); have HT7 := Aside0.mk (HT6.out.below hb7); have G79d := Aside0.mk (blk_below G79c.out hb7); clear hR7 hb7))
          | (go_at_call 38; go_loud ((with_reducible refine (chunks_calls kk (w1.heap.size + 1) w1.heap.size (w1.heap.size + 1 + 1 + 1) (w1.heap.size + 1 + 1) vf5 (.slice none 0 0) true false n0.data.toList [] fs bs A c K l w _ HT5.out G79b.out G77b.out HB5.out HC.out HCC.out HL6.out HCH.out).mono ?_); rintro e w6 ⟨vf6, vb6, uf6, ub6, rfl, hT6, hb6, hk6⟩; have HT6 := Aside0.mk hT6; have HB6 := Aside0.mk hb6; have G79c := Aside0.mk (hk6 _ _ 79 _ (by decide) (by decide) G79b.out); clear hT6 hb6 hk6))
          | (go_at_call 33; go_loud ((with_reducible refine (num_calls kk w.heap.size (w1.heap.size + 1) (.slice none 0 0) false [] (nb : Int) n0 z0 _ HT4.out.foot HP0.out (by simpa using HQS.out.1) HB4.out.size).mono ?_); rintro e w5 ⟨vf5, rfl, h5, hb5, hk5, hat5⟩; have hT5 := HT4.out.wrote h5 hk5 hat5; rw [List.nil_append] at hT5; have HT5 := Aside0.mk hT5; have HB5 := Aside0.mk (HB4.out.trans hb5); have hK5 := Bd.keepT HT4.out.foot hk5; have g77 := hK5 _ _ 77 _ (by decide) (by decide) G77.out; have g79 := hK5 _ _ 79 _ (by decide) (by decide) G79.out; have G77b := Aside0.mk g77; have G79b := Aside0.mk g79; clear h5 hb5 hk5 hat5 hT5 hK5 g77 g79))
          | (go_at_call 32; go_loud ((with_reducible refine (block_Check.calls kk A c l _ _ HC.out HCC.out HK.out).mono ?_); rintro e w1 ⟨rfl, hb1⟩; have HB1 := Aside0.mk hb1; obtain ⟨hb4, hT, g77, g79⟩ := build_boxes w w1 hb1; have HB4 := Aside0.mk hb4; have HT4 := Aside0.mk hT; have G77 := Aside0.mk g77; have G79 := Aside0.mk g79; have x77 : ((((w1.alloc (.cells #[.pointer none, .slice none 0 0] 71)).alloc (.cells #[.pointer none, .slice none 0 0] 71)).alloc (.cells #[.func (Fn.func 33) #[] #[.pointer (some ⟨w1.heap.size + 1, 0, none⟩)]] 77)).alloc (.cells #[.func (Fn.func 36) #[] #[.pointer (some ⟨w1.heap.size + 1, 0, none⟩)]] 79)).cell? ⟨w1.heap.size + 1 + 1, 0, none⟩ = some (.func (Fn.func 33) #[] #[.pointer (some ⟨w1.heap.size + 1, 0, none⟩)]) := (blk_cell g77 0).trans rfl; clear hb4 hT g77 g79; clear hb1)))
        go_ret2
        exact ⟨rfl, HB13.out⟩
      · rw [if_neg qs] at h
        exact absurd h (by simp)
    · rw [if_neg q1] at h
      simp only [Option.some.injEq, Prod.mk.injEq] at h
      obtain ⟨rfl, rfl⟩ := h
      have c2 : (e0 == 0) = false := beq_eq_false_iff_ne.mpr q1
      have c3 : (e0 != 0) = true := bne_iff_ne.mpr q1
      clear q0 q1
      go_enter Try.func13, Try.ntmps13
      go_wp2_with (go_at_call 32; go_loud ((with_reducible refine (block_Check.calls kk A c l _ _ HC.out HCC.out HK.out).mono ?_); rintro e w1 ⟨rfl, hb1⟩; have HB1 := Aside0.mk hb1; clear hb1))
      go_ret2
      exact ⟨rfl, HB1.out⟩
end Go.Proofs.Ytlmoafkmhenejaa.XA
end
section
namespace Go.Proofs.Ytlmoafkmhenejaa.VLib
end Go.Proofs.Ytlmoafkmhenejaa.VLib
namespace Go.Proofs.YtlmoafkmhenejaaW.PrintWords
end Go.Proofs.YtlmoafkmhenejaaW.PrintWords
namespace Go.Proofs.YtlmoafkmhenejaaW.PrintLast
end Go.Proofs.YtlmoafkmhenejaaW.PrintLast
namespace Go.Proofs.YtlmoafkmhenejaaW.PrintMore
end Go.Proofs.YtlmoafkmhenejaaW.PrintMore
namespace Go.Proofs.Ytlmoafkmhenejaa.XW
end Go.Proofs.Ytlmoafkmhenejaa.XW
namespace Go.Proofs.Ytlmoafkmhenejaa.XA
open Go.Proofs.Ytlmoafkmhenejaa.VLib Go.RowKit Go.Proofs.YtlmoafkmhenejaaW.PrintWords Go.Proofs.YtlmoafkmhenejaaW.PrintLast Go.Proofs.YtlmoafkmhenejaaW.PrintMore Go.Proofs.Ytlmoafkmhenejaa.XW
attribute [local go_sem high] max2_str unary_xor_u32 leq_str geq_str gtr_str
attribute [local go_sem] max2_int min2_int max_two min_two max_three min_three max_four min_four
set_option linter.unusedVariables false
set_option linter.unusedSimpArgs false
def TabAt (w : World) (p : Value) (l : List S43) (bits : ByteArray) : Prop :=
  (p = .pointer none ∧ l = [] ∧ bits = ⟨#[]⟩) ∨ ∃ g A c, p = .pointer (some ⟨g, 0, none⟩) ∧ w.heap[g]? = some (.cells #[.slice A l.length c, .string bits] 65 (0, 0)) ∧ Kd.C k43 w A l.length l ∧ l.length ≤ c
theorem TabAt.below {w w' : World} {p : Value} {l : List S43} {bits : ByteArray} (h : TabAt w p l bits) (hb : Below w.heap.size w w') : TabAt w' p l bits := by
  rcases h with h | ⟨g, A, c, h1, h2, h3, h4⟩
  · exact .inl h
  · exact .inr ⟨g, A, c, h1, blk_below h2 hb, Kd.C_below h3 hb, h4⟩
theorem TabAt.some {w : World} {p : Value} {l : List S43} {bits : ByteArray} (h : TabAt w p l bits) (hl : 0 < l.length) : ∃ g A c, p = .pointer (some ⟨g, 0, none⟩) ∧ w.heap[g]? = some (.cells #[.slice A l.length c, .string bits] 65 (0, 0)) ∧ Kd.C k43 w A l.length l ∧ l.length ≤ c := by
  rcases h with ⟨-, rfl, -⟩ | h
  · exact absurd hl (by simp)
  · exact h
set_option maxHeartbeats 1600000 in
set_option maxRecDepth 100000 in
theorem len_calls (p : Value) (l : List S43) (bits : ByteArray) (w : World) (h : TabAt w p l bits) :
    Calls Try.prog 18 #[p] w fun e w' => e = .returned (.int .i64 (l.length : Int)) ∧ w' = w := by
  rcases h with ⟨rfl, rfl, -⟩ | ⟨g, A, c, rfl, hg, hC, hc⟩
  · go_enter Try.func18, Try.ntmps18
    go_wp2
    go_ret
    exact ⟨rfl, rfl⟩
  · have x0 : w.cell? ⟨g, 0, none⟩ = some (.slice A l.length c) := (blk_cell hg 0).trans rfl
    clear hg hC hc
    go_enter Try.func18, Try.ntmps18
    go_wp2
    go_ret
    exact ⟨rfl, rfl⟩
set_option maxHeartbeats 1600000 in
set_option maxRecDepth 100000 in
theorem may_none (p : Value) (bits key : ByteArray) (w : World) (h : TabAt w p [] bits) :
    Calls Try.prog 23 #[p, .string key] w fun e w' => e = .returned (.bool false) ∧ w' = w := by
  have HT := Aside0.mk h
  clear h
  go_enter Try.func23, Try.ntmps23
  go_wp2_with (go_at_call 18; go_loud ((refine (len_calls p [] bits _ HT.out).mono ?_); rintro e _ ⟨rfl, rfl⟩))
  go_ret
  exact ⟨rfl, rfl⟩
set_option maxHeartbeats 1600000 in
set_option maxRecDepth 100000 in
theorem may_some (k : Nat) (p : Value) (l : List S43) (bits key : ByteArray) (b : Bool) (w : World) (h : TabAt w p l bits) (hl : 0 < l.length) (hb : bloom_Has.f k bits key = some b) :
    Calls Try.prog 23 #[p, .string key] w fun e w' => e = .returned (.bool b) ∧ Below w.heap.size w w' := by
  have HT := Aside0.mk h
  have HH := Aside0.mk hb
  obtain ⟨g, A, c, rfl, hg, -, -⟩ := h.some hl
  have x1 : w.cell? ⟨g, 1, none⟩ = some (.string bits) := (blk_cell hg 1).trans rfl
  have c1 : decide (0 < (l.length : Int)) = true := decide_eq_true (by omega)
  have c2 : decide (0 < l.length) = true := decide_eq_true hl
  clear h hb hg hl
  go_enter Try.func23, Try.ntmps23
  go_wp2_with (first | (go_at_call 61; go_loud ((refine (bloom_Has.calls k bits key b _ HH.out).mono ?_); rintro e w2 ⟨rfl, hb2⟩; have HB2 := Aside0.mk hb2; clear hb2)) | (go_at_call 18; go_loud ((refine (len_calls _ l bits _ HT.out).mono ?_); rintro e _ ⟨rfl, rfl⟩)))
  go_ret
  exact ⟨rfl, HB2.out⟩
set_option maxHeartbeats 1600000 in
set_option maxRecDepth 100000 in
theorem ends_some (p : Value) (l : List S43) (bits : ByteArray) (w : World) (h : TabAt w p l bits) (hl : 0 < l.length) (hn : l.length < 1000000) :
    Calls Try.prog 29 #[p] w fun e w' => e = .returned (.tuple #[.string (rd_T43 l 0).f0, .string (rd_T43 l ((l.length : Int) - 1)).f0]) ∧ Below w.heap.size w w' := by
  have HT := Aside0.mk h
  obtain ⟨g, A, c, rfl, hg, hC, -⟩ := h.some hl
  have x0 : w.cell? ⟨g, 0, none⟩ = some (.slice A l.length c) := (blk_cell hg 0).trans rfl
  obtain ⟨ad, ea, a0, -, -, -⟩ := at_T43 hC 0 (by omega) (by omega)
  obtain ⟨ad', ea', b0, -, -, -⟩ := at_T43 hC ((l.length : Int) - 1) (by omega) (by omega)
  rw [ea] at ea'
  injection ea' with ea'
  subst ea'
  rw [show (0 : Int).toNat * 4 = 0 from rfl] at a0
  have a00 : w.cell? ad = some (.string (rd_T43 l 0).f0) := a0
  have c1 : ((l.length : Int) == 0) = false := beq_eq_false_iff_ne.mpr (by omega)
  have c3 : (l.length == 0) = false := beq_eq_false_iff_ne.mpr (by omega)
  have p1 : (0 < (l.length : Int)) = True := eq_true (by omega)
  have p2 : (0 < l.length) = True := eq_true hl
  have p3 : (0 ≤ (l.length : Int) - 1) = True := eq_true (by omega)
  have p4 : ((l.length : Int) - 1 < (l.length : Int)) = True := eq_true (by omega)
  have p5 : (1 ≤ (l.length : Int)) = True := eq_true (by omega)
  cases ea
  obtain ⟨K0, hK0⟩ : ∃ K, (rd_T43 l 0).f0 = K := ⟨_, rfl⟩
  obtain ⟨K1, hK1⟩ : ∃ K, (rd_T43 l ((l.length : Int) - 1)).f0 = K := ⟨_, rfl⟩
  rw [hK0] at a0 a00 ⊢
  rw [hK1] at b0 ⊢
  obtain ⟨m, hm⟩ : ∃ m : Int, (l.length : Int) - 1 = m := ⟨_, rfl⟩
  rw [hm] at p3 p4 b0
  have hw : wrap64 ((l.length : Int) - 1) = m := by unfold wrap64; omega
  clear h hg hC hl hK0 hK1 hn p5 hm
  go_enter Try.func29, Try.ntmps29
  go_wp2_with (go_at_call 18; go_loud ((refine (len_calls _ l bits _ HT.out).mono ?_); rintro e _ ⟨rfl, rfl⟩))
  go_quiet (fail)
  go_wp2
  go_ret2
  exact ⟨rfl, pw_below_drewN (Below.refl _ _) nq⟩
set_option maxHeartbeats 1600000 in
set_option maxRecDepth 100000 in
theorem range_calls (p : Value) (l r : List S43) (bits lo hi : ByteArray) (w : World) (h : TabAt w p l bits) (hr : span_Clip.f l lo hi = some r) :
    Calls Try.prog 20 #[p, .agg #[.string lo, .string hi]] w fun e w' => ∃ v, e = .returned v ∧ Kd.R k43 43 w' w.heap.size (fun _ => True) v r ∧ Below w.heap.size w w' := by
  have HB1 := Aside0.mk (below_alloc (Below.refl w.heap.size w) (.cells #[.string lo, .string hi] 38))
  rcases h with ⟨rfl, rfl, -⟩ | ⟨g, A, c, rfl, hg, hC, hc⟩
  · have er : r = [] := by
      unfold span_Clip.f at hr
      rw [if_pos (by simp)] at hr
      unfold span_Clip.l0 at hr
      exact (Option.some.inj hr).symm
    subst er
    clear hr
    go_enter Try.func20, Try.ntmps20
    go_wp2
    go_ret
    exact ⟨_, rfl, Kd.R_nil _ _ _ _ _, HB1.out⟩
  · have hk := heap_alloc_new w (.cells #[.string lo, .string hi] 38)
    have HC1 := Aside0.mk (Kd.C_alloc hC (.cells #[.string lo, .string hi] 38))
    have HC2 := Aside0.mk hc
    have HR := Aside0.mk hr
    have x0 : (w.alloc (.cells #[.string lo, .string hi] 38)).cell? ⟨g, 0, none⟩ = some (.slice A l.length c) := (blk_cell (blk_alloc hg (.cells #[.string lo, .string hi] 38)) 0).trans rfl
    have y0 : (w.alloc (.cells #[.string lo, .string hi] 38)).cell? ⟨w.heap.size, 0, none⟩ = some (.string lo) := (blk_cell hk 0).trans rfl
    have y1 : (w.alloc (.cells #[.string lo, .string hi] 38)).cell? ⟨w.heap.size, 1, none⟩ = some (.string hi) := (blk_cell hk 1).trans rfl
    have HS1 : Aside0 ((w.alloc (.cells #[.string lo, .string hi] 38)).heap.size = w.heap.size + 1) := ⟨by simp⟩
    obtain ⟨w1, hw1⟩ : ∃ w1, w.alloc (.cells #[.string lo, .string hi] 38) = w1 := ⟨_, rfl⟩
    rw [hw1] at x0 y0 y1 HC1 HB1 HS1
    have HWE := Aside0.mk hw1
    clear hg hC hc hr hk hw1
    go_enter Try.func20, Try.ntmps20
    go_wp2
    rw [HWE.out]
    go_still_tail 5, (by kernel_rfl)
    change wpList _ _ _ _ _ w1.drew
    have HCd := Aside0.mk (Kd.C_drew HC1.out)
    have HBd := Aside0.mk (below_drew HB1.out)
    go_wp2_with (go_at_call 59; go_loud ((refine (span_Clip.calls A c l lo hi r _ HCd.out HC2.out HR.out).mono ?_); rintro e w2 ⟨v2, rfl, hR2, hb2⟩; obtain ⟨A2, c2, e2⟩ := Kd.R_slice hR2; subst e2; have HR2 := Aside0.mk hR2; have HB2 := Aside0.mk (below_step HBd.out hb2); clear hR2 hb2))
    go_ret
    exact ⟨_, rfl, Kd.R_lower HR2.out (by rw [show w1.drew.heap.size = w.heap.size + 1 from HS1.out]; omega), HB2.out⟩
end Go.Proofs.Ytlmoafkmhenejaa.XA
end
