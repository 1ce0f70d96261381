import Derived.Test.YtlmoafkmhenejaakNXAx4
import Derived.Test.YtlmoafkmhenejaakNBld
import Derived.Test.YtlmoafkmhenejaakNVLib
import Derived.StillTailTactics
namespace Go.Proofs.Ytlmoafkmhenejaa.VLib
end Go.Proofs.Ytlmoafkmhenejaa.VLib
namespace Go.Proofs.Ytlmoafkmhenejaa.Bld
end Go.Proofs.Ytlmoafkmhenejaa.Bld
namespace Go.Proofs.YtlmoafkmhenejaaW.PrintWords
end Go.Proofs.YtlmoafkmhenejaaW.PrintWords
namespace Go.Proofs.YtlmoafkmhenejaaW.PrintLast
end Go.Proofs.YtlmoafkmhenejaaW.PrintLast
namespace Go.Proofs.YtlmoafkmhenejaaW.PrintMore
end Go.Proofs.YtlmoafkmhenejaaW.PrintMore
namespace Go.Proofs.Ytlmoafkmhenejaa.XW
end Go.Proofs.Ytlmoafkmhenejaa.XW
namespace Go.Proofs.Ytlmoafkmhenejaa.XA
open Go.Proofs.Ytlmoafkmhenejaa.VLib Go.Proofs.Ytlmoafkmhenejaa.Bld Go.RowKit Go.Proofs.YtlmoafkmhenejaaW.PrintWords Go.Proofs.YtlmoafkmhenejaaW.PrintLast Go.Proofs.YtlmoafkmhenejaaW.PrintMore Go.Proofs.Ytlmoafkmhenejaa.XW
attribute [local go_sem high] max2_str unary_xor_u32 leq_str geq_str gtr_str
attribute [local go_sem] max2_int min2_int max_two min_two max_three min_three max_four min_four
set_option linter.unusedVariables false
set_option linter.unusedSimpArgs false
theorem append_str_at {P : Program} (w : World) (base : Nat) (t u ty e : TypeId) (i : TypeInfo) (ht : P.underlying t = some (.slice e)) (hu : P.underlying u = some .string) (hi : P.info? e = some i) (hz : i.zero = some (.int .u8 0))
    (hsize : i.size = 1) (hby : i.bytes = 1) (v : Value) (n : Nat) (xs : List Value) (hown : w.ownsRow base e 1 v n xs) (s : ByteArray) (hbytes : n + s.size ≤ 140737488355328) (v' : Value) (w' : World)
    (hr' : (Builtin.append_ #[t, u] ty #[v, .string s]).run P w = .ok v' w') : v'.ownBlock = v.ownBlock ∨ v'.ownBlock = some w.heap.size := by
  have hxl : xs.length = n := by simpa using hown.1
  rcases hown.2 with ⟨rfl, rfl⟩ | ⟨g, cap, cur, rfl, hbg, hg, hnc, hcm, hcs, htake⟩
  · by_cases hm : s.size = 0
    · have hf := Lib.run_firstCells_string (P := P) w 1 s
      rw [hm] at hf
      have hr : (Builtin.append_ #[t, u] ty #[.slice none 0 0, .string s]).run P w = .ok (.slice none 0 0) w := by
        simp [Builtin.append_, run_underlying ht, run_underlying hu, sizeOf, typeInfo, hi, hsize, Builtin.lenOf, hm, hf]
      rw [hr] at hr'
      injection hr' with hv _
      rw [← hv]
      exact .inl rfl
    · have hr := run_append_nil_string (P := P) w t u ty e i (.int .u8 0) ht hu hi hz s (by omega) (by omega) (by rw [hby]; omega)
      rw [hr] at hr'
      injection hr' with hv _
      rw [← hv]
      exact .inr rfl
  · by_cases hroom : n + s.size ≤ cap
    · have hcs' : cur.size = cap := by simpa using hcs
      have hr := Lib.run_append_room_string (P := P) w t u ty e i ht hu hi hsize g n cap cur hg s hroom (by omega)
      rw [hr] at hr'
      injection hr' with hv _
      rw [← hv]
      exact .inl rfl
    · have holds : ∀ j u, xs[j]? = some u → w.cell? ((⟨g, 0, none⟩ : Addr).add j) = some u := hown.cells (g := g) rfl
      have hr := Lib.run_append_grow_string (P := P) w t u ty e i (.int .u8 0) ht hu hi hz ⟨g, 0, none⟩ n cap xs (by rw [hsize]; simpa using hxl) holds s (by omega) (by omega) (by rw [hby]; exact growslice_fits (by omega) (by omega))
      rw [hr] at hr'
      injection hr' with hv _
      rw [← hv]
      exact .inr rfl
theorem wpList_append_str_at {P : Program} {w : World} {ops : Array Oper} {rest : List Oper} {o : Oper} {a : Act} {Q : Exit → Act → World → Prop} (hgd : o.guard = none) (sl x : Operand) (t u : TypeId)
    (ho : o.op = .call { callee := .builtin .append, args := #[sl, x], argTypes := #[t, u] })
    (base : Nat) (e : TypeId) (i : TypeInfo) (ht : P.underlying t = some (.slice e)) (hu : P.underlying u = some .string) (hi : P.info? e = some i) (hz : i.zero = some (.int .u8 0))
    (hsize : i.size = 1) (hby : i.bytes = 1)
    (v : Value) (n : Nat) (xs : List Value) (hs : a.eval sl = v) (hown : w.ownsRow base e 1 v n xs) (s : ByteArray) (hx : a.eval x = .string s)
    (h63 : n + s.size ≤ maxLen) (hbytes : n + s.size ≤ 140737488355328) (hbase : base ≤ w.heap.size)
    (h : ∀ v' w', w'.ownsRow base e 1 v' (n + s.size) (xs ++ Lib.strCells s) → w.grownBy w' v.ownBlock → (v'.ownBlock = v.ownBlock ∨ v'.ownBlock = some w.heap.size) → wpList P ops Q rest (a.put o.dst v') w') : wpList P ops Q (o :: rest) a w := by
  refine wpList_plain hgd fun K hK => ?_
  obtain ⟨v', w', hr, h2, h3, h4⟩ := Lib.run_append_own_string (P := P) w base t u o.type e i ht hu hi hz hsize hby v n xs hown s h63 hbytes hbase
  have hat := append_str_at w base t u o.type e i ht hu hi hz hsize hby v n xs hown s hbytes v' w' hr
  unfold Oper.wp execOp
  simp only [ho, resolve, invoke, builtin, Sem.run_bind, Sem.run_pure, Result.andThen_ok, List.map_toArray, List.map_cons, List.map_nil, hs, hx, hr]
  exact hK _ _ (h v' w' h2 h3 hat)
set_option maxHeartbeats 2000000 in
set_option maxRecDepth 100000 in
theorem WriteString_at (B b : Nat) (v : Value) (u : Bool) (bs : List UInt8) (s : ByteArray) (w : World) (h : Bd w B b v u bs) (hlen : bs.length + s.size ≤ 140737488355328) (hBw : B ≤ w.heap.size) :
    Calls Try.prog 35 #[.pointer (some ⟨b, 0, none⟩), .string s] w fun e w' => ∃ v', e = .returned (.tuple #[.int .i64 s.size, .nilIface]) ∧ Bd w' B b v' true (bs ++ s.data.toList) ∧ Below B w w' ∧ KeepBut w w' b v.ownBlock ∧ (v'.ownBlock = v.ownBlock ∨ ∃ k, v'.ownBlock = some k ∧ w.heap.size ≤ k) := by
  have infoB : (Try.prog.info? 5).map (fun i => (i.zero, i.size, i.bytes)) = some (some (.int .u8 0), 1, 1) := by kernel_rfl
  obtain ⟨i0, hi, hz0, hz1, hz2⟩ := info_parts infoB
  go_enter Try.func35, Try.ntmps35
  go_wp2_with (go_at_call 68; refine (copyCheck_any B b v u bs w h).mono ?_)
  rintro e w1 ⟨rfl, h1, hb1, hk1⟩
  obtain ⟨hB, hbk, hown⟩ := h1
  have hne := Bd.ne (u := true) ⟨hB, hbk, hown⟩
  have hlt := blk_lt hbk
  simp only [if_true] at hbk
  have c0 : w1.cell? ⟨b, 0, none⟩ = some (.pointer (some ⟨b, 0, none⟩)) := (blk_cell hbk 0).trans rfl
  have c1 : w1.cell? ⟨b, 1, none⟩ = some v := (blk_cell hbk 1).trans rfl
  go_wp2_with (at_builtin; refine wpList_append_str_at rfl _ _ 47 9 rfl B 5 i0 Try.underlying47 Try.underlying9 hi hz0 hz1 hz2 _ _ _ rfl hown s rfl ?c3 ?c4 ?c5 ?_)
  case c3 => unfold maxLen; omega
  case c4 => omega
  case c5 => have := hb1.size; omega
  intro v' w2 hown' hgrow hat
  have hb2 : w2.heap[b]? = some (.cells #[.pointer (some ⟨b, 0, none⟩), v] 71 (0, 0)) := blk_grown hbk hgrow (fun e => hne e.symm)
  have d0 : w2.cell? ⟨b, 0, none⟩ = some (.pointer (some ⟨b, 0, none⟩)) := (blk_cell hb2 0).trans rfl
  have d1 : w2.cell? ⟨b, 1, none⟩ = some v := (blk_cell hb2 1).trans rfl
  have f1 : w2.frozen? ⟨b, 1, none⟩ = false := blk_frozen hb2 1
  obtain ⟨ao, n', cap, rfl⟩ : ∃ ao n' cap, v' = .slice ao n' cap := by
    rcases hown'.2 with ⟨hv, _⟩ | ⟨g, cap, cur, hv, _⟩
    · exact ⟨_, _, _, hv⟩
    · exact ⟨_, _, _, hv⟩
  go_wp2
  go_ret2
  have hcells : Lib.byteCells (bs ++ s.data.toList) = Lib.byteCells bs ++ Lib.strCells s := by rw [Lib.byteCells_append, Lib.strCells_eq]
  have hl : (bs ++ s.data.toList).length = bs.length + s.size := by rw [List.length_append, Array.length_toList]; rfl
  have hown2 : w2.ownsRow B 5 1 (.slice ao n' cap) (bs ++ s.data.toList).length (Lib.byteCells (bs ++ s.data.toList)) := by rw [hcells, hl]; exact hown'
  have hne2 := Lib.ownBlock_ne hown2 hb2 (show (71 : Nat) ≠ 5 by decide)
  refine ⟨.slice ao n' cap, rfl, ⟨hB, blk_put hb2 1 _ rfl, own_move hown2 (fun k hk => Below.heap_setCell _ _ _ _ (fun e => hne2 (hk.trans (congrArg some e))))⟩, ?_, ?_, ?_⟩
  · exact (hb1.grown hgrow (by have := hb1.size; omega) (fun k hk => (hown.lt k hk).1)).setCell (p := ⟨b, 1, none⟩) hB _
  · refine ⟨Nat.le_trans hk1.1 (Nat.le_trans hgrow.size (by simp [World.setCell])), fun i hi h1 h2 => ?_⟩
    rw [Below.heap_setCell _ _ _ _ h1, hgrow.block i (Nat.lt_of_lt_of_le hi hk1.1) h2]
    exact hk1.2 i hi h1 (by simp)
  · rcases hat with h | h
    · exact .inl h
    · exact .inr ⟨_, h, hk1.1⟩
structure Two (w : World) (B f b : Nat) (vf vb : Value) (uf ub : Bool) (fs bs : List UInt8) : Prop where
  foot : Bd w B f vf uf fs
  body : Bd w B b vb ub bs
  ne : f ≠ b
  apart : ∀ k, vf.ownBlock = some k → vb.ownBlock ≠ some k
theorem Two.below {w w1 : World} {B f b : Nat} {vf vb : Value} {uf ub : Bool} {fs bs : List UInt8} (h : Two w B f b vf vb uf ub fs bs) (hb : Below w.heap.size w w1) : Two w1 B f b vf vb uf ub fs bs :=
  ⟨h.foot.below hb, h.body.below hb, h.ne, h.apart⟩
theorem Two.swap {w : World} {B f b : Nat} {vf vb : Value} {uf ub : Bool} {fs bs : List UInt8} (h : Two w B f b vf vb uf ub fs bs) : Two w B b f vb vf ub uf bs fs :=
  ⟨h.body, h.foot, fun e => h.ne e.symm, fun k hk e => h.apart k e hk⟩
theorem Two.wrote {w w1 : World} {B f b : Nat} {vf vb vf' : Value} {uf ub uf' : Bool} {fs bs fs' : List UInt8} (h : Two w B f b vf vb uf ub fs bs) (h1 : Bd w1 B f vf' uf' fs') (hk : KeepBut w w1 f vf.ownBlock) (hat : vf'.ownBlock = vf.ownBlock ∨ ∃ k, vf'.ownBlock = some k ∧ w.heap.size ≤ k) : Two w1 B f b vf' vb uf' ub fs' bs := by
  have hbf : vf.ownBlock ≠ some b := Lib.ownBlock_ne h.foot.2.2 h.body.2.1 (by decide)
  have hfb : vb.ownBlock ≠ some f := Lib.ownBlock_ne h.body.2.2 h.foot.2.1 (by decide)
  refine ⟨h1, h.body.step (hk.2 b h.body.lt (fun e => h.ne e.symm) (fun e => hbf e.symm)) (fun k hk' => ?_), h.ne, fun k hk' e => ?_⟩
  · refine hk.2 k (own_lt h.body.2.2 k hk') (fun e => hfb (by rw [hk', e])) (fun e => h.apart k e.symm hk')
  · rcases hat with h' | ⟨j, hj, hle⟩
    · exact h.apart k (h'.symm.trans hk') e
    · rw [hj] at hk'
      injection hk' with hk'
      have := own_lt h.body.2.2 k e
      omega
set_option maxHeartbeats 2000000 in
set_option maxRecDepth 100000 in
theorem num_calls (kk B b : Nat) (v : Value) (u : Bool) (bs : List UInt8) (n : Int) (s : ByteArray) (er : Int) (w : World) (h : Bd w B b v u bs) (hp : varint_Put.f kk n = some (s, er)) (hlen : bs.length + s.size ≤ 140737488355328) (hBw : B ≤ w.heap.size) :
    Calls Try.prog 33 #[.int .i64 n, .pointer (some ⟨b, 0, none⟩)] w fun e w' => ∃ v', e = .returned (.tuple #[]) ∧ Bd w' B b v' true (bs ++ s.data.toList) ∧ Below B w w' ∧ KeepBut w w' b v.ownBlock ∧ (v'.ownBlock = v.ownBlock ∨ ∃ k, v'.ownBlock = some k ∧ w.heap.size ≤ k) := by
  have HH := Aside0.mk h
  have HP := Aside0.mk hp
  have HL := Aside0.mk hlen
  have HZ := Aside0.mk hBw
  clear h hp hlen hBw
  go_enter Try.func33, Try.ntmps33
  go_wp2_with (first | (go_at_call 35; go_loud ((refine (WriteString_at B b v u bs s _ (HH.out.below HB1.out) HL.out (Nat.le_trans HZ.out HB1.out.size)).mono ?_); rintro e w2 ⟨v2, rfl, h2, hb2, hk2, hat2⟩; have H2 := Aside0.mk h2; have HB2 := Aside0.mk hb2; have HK2 := Aside0.mk hk2; have HAT := Aside0.mk hat2; clear h2 hb2 hk2 hat2)) | (go_at_call 34; go_loud ((refine (varint_Put.calls kk n s er _ HP.out).mono ?_); rintro e w1 ⟨rfl, hb1⟩; have HB1 := Aside0.mk hb1; clear hb1)))
  refine bodyPost_end (v := .tuple #[]) (results_none (by rfl) _ _ _) rfl ?_
  have hb1 := HB1.out
  refine ⟨v2, rfl, H2.out, ⟨HB2.out.os.trans hb1.os, HB2.out.tape.trans hb1.tape, HB2.out.output.trans hb1.output, Nat.le_trans hb1.size HB2.out.size, fun k hk => (HB2.out.block k hk).trans (hb1.block k (Nat.lt_of_lt_of_le hk HZ.out))⟩, ⟨Nat.le_trans hb1.size HK2.out.1, fun i hi h1 h2 => (HK2.out.2 i (Nat.lt_of_lt_of_le hi hb1.size) h1 h2).trans (hb1.block i hi)⟩, ?_⟩
  rcases HAT.out with h | ⟨k, h, hle⟩
  · exact .inl h
  · exact .inr ⟨k, h, Nat.le_trans hb1.size hle⟩
set_option maxHeartbeats 2000000 in
set_option maxRecDepth 100000 in
theorem text_calls (kk B b : Nat) (v : Value) (u : Bool) (bs : List UInt8) (n s : ByteArray) (er : Int) (w : World) (h : Bd w B b v u bs) (hp : varint_Text.f kk n = some (s, er)) (hlen : bs.length + s.size ≤ 140737488355328) (hBw : B ≤ w.heap.size) :
    Calls Try.prog 36 #[.string n, .pointer (some ⟨b, 0, none⟩)] w fun e w' => ∃ v', e = .returned (.tuple #[]) ∧ Bd w' B b v' true (bs ++ s.data.toList) ∧ Below B w w' ∧ KeepBut w w' b v.ownBlock ∧ (v'.ownBlock = v.ownBlock ∨ ∃ k, v'.ownBlock = some k ∧ w.heap.size ≤ k) := by
  have HH := Aside0.mk h
  have HP := Aside0.mk hp
  have HL := Aside0.mk hlen
  have HZ := Aside0.mk hBw
  clear h hp hlen hBw
  go_enter Try.func36, Try.ntmps36
  go_wp2_with (first | (go_at_call 35; go_loud ((refine (WriteString_at B b v u bs s _ (HH.out.below HB1.out) HL.out (Nat.le_trans HZ.out HB1.out.size)).mono ?_); rintro e w2 ⟨v2, rfl, h2, hb2, hk2, hat2⟩; have H2 := Aside0.mk h2; have HB2 := Aside0.mk hb2; have HK2 := Aside0.mk hk2; have HAT := Aside0.mk hat2; clear h2 hb2 hk2 hat2)) | (go_at_call 37; go_loud ((refine (varint_Text.calls kk n s er _ HP.out).mono ?_); rintro e w1 ⟨rfl, hb1⟩; have HB1 := Aside0.mk hb1; clear hb1)))
  refine bodyPost_end (v := .tuple #[]) (results_none (by rfl) _ _ _) rfl ?_
  have hb1 := HB1.out
  refine ⟨v2, rfl, H2.out, ⟨HB2.out.os.trans hb1.os, HB2.out.tape.trans hb1.tape, HB2.out.output.trans hb1.output, Nat.le_trans hb1.size HB2.out.size, fun k hk => (HB2.out.block k hk).trans (hb1.block k (Nat.lt_of_lt_of_le hk HZ.out))⟩, ⟨Nat.le_trans hb1.size HK2.out.1, fun i hi h1 h2 => (HK2.out.2 i (Nat.lt_of_lt_of_le hi hb1.size) h1 h2).trans (hb1.block i hi)⟩, ?_⟩
  rcases HAT.out with h | ⟨k, h, hle⟩
  · exact .inl h
  · exact .inr ⟨k, h, Nat.le_trans hb1.size hle⟩
end Go.Proofs.Ytlmoafkmhenejaa.XA
