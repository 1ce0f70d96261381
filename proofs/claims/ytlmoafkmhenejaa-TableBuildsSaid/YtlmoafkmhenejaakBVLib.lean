import Derived.Test.YtlmoafkmhenejaakBWWords
import Derived.Test.YtlmoafkmhenejaakBWLast
import Derived.Laws.BitsLemmas
import Derived.Test.YtlmoafkmhenejaakBXAx4
import Derived.Test.YtlmoafkmhenejaakBOpn
import Derived.StillTailTactics
import Derived.Test.YtlmoafkmhenejaakBXAx0
section
namespace Go.Proofs.YtlmoafkmhenejaaW.PrintWords
end Go.Proofs.YtlmoafkmhenejaaW.PrintWords
namespace Go.Proofs.YtlmoafkmhenejaaW.PrintLast
end Go.Proofs.YtlmoafkmhenejaaW.PrintLast
namespace Go.Proofs.YtlmoafkmhenejaaW.PrintMore
end Go.Proofs.YtlmoafkmhenejaaW.PrintMore
namespace Go.Proofs.Ytlmoafkmhenejaa.VLib
open Go.RowKit Go.Proofs.YtlmoafkmhenejaaW.PrintWords Go.Proofs.YtlmoafkmhenejaaW.PrintLast Go.Proofs.YtlmoafkmhenejaaW.PrintMore
theorem w64 {n : Int} (h0 : -9223372036854775808 ≤ n) (h1 : n ≤ 9223372036854775807) : wrap64 n = n := by
  unfold wrap64; omega
theorem wraps_i64 (n : Int) (h₀ : 0 ≤ n) (h₁ : n < 2 ^ 63) : IntKind.i64.wrap n = n := by rw [IntKind.wrap_i64]; omega
theorem or128_nat : ∀ a : Fin 256, (a.val ||| 128) = a.val % 128 + 128 := by decide +kernel
theorem or128 (x : Int) (h0 : 0 ≤ x) (h1 : x < 256) : Go.bits .or .u8 x 128 = x % 128 + 128 := by
  obtain ⟨a, rfl⟩ := Int.eq_ofNat_of_zero_le h0
  have ha : a < 256 := by omega
  have := (bits_nat .u8 8 (by decide) wraps_u8 a 128 (by omega) (by decide)).2
  have e := or128_nat ⟨a, ha⟩
  simp only at e
  rw [show ((128 : Int)) = ((128 : Nat) : Int) from rfl, this, e]
  omega
theorem and127_i64 (x : Int) (h0 : 0 ≤ x) (h1 : x < 9223372036854775808) : Go.bits .and .i64 x 127 = x % 128 :=
  bits_mask .i64 63 (by decide) wraps_i64 7 (by decide) x h0 (by simpa using h1)
theorem or128_i64 (x : Int) (h0 : 0 ≤ x) (h1 : x < 128) : Go.bits .or .i64 x 128 = x + 128 := by
  obtain ⟨a, rfl⟩ := Int.eq_ofNat_of_zero_le h0
  have ha : a < 256 := by omega
  have := (bits_nat .i64 63 (by decide) wraps_i64 a 128 (by omega) (by decide)).2
  have e := or128_nat ⟨a, ha⟩
  simp only at e
  rw [show ((128 : Int)) = ((128 : Nat) : Int) from rfl, this, e]
  omega
def bs (l : List UInt8) : ByteArray := ⟨l.toArray⟩
theorem bs_list (l : List UInt8) : (bs l).data.toList = l := rfl
theorem bs_size (l : List UInt8) : (bs l).size = l.length := by unfold bs ByteArray.size; simp
theorem bs_of (s : ByteArray) : bs s.data.toList = s := by cases s; rfl
theorem ext_list {a b : ByteArray} (h : a.data.toList = b.data.toList) : a = b := by rw [← bs_of a, ← bs_of b, h]
theorem len_list (s : ByteArray) : s.data.toList.length = s.size := data_length s
theorem bs_append (a b : List UInt8) : bs a ++ bs b = bs (a ++ b) := by
  apply ext_list; simp [bs]
theorem list_append (a b : ByteArray) : (a ++ b).data.toList = a.data.toList ++ b.data.toList := by simp
theorem size_append (a b : ByteArray) : (a ++ b).size = a.size + b.size := by simp
theorem toList_data (s : ByteArray) : s.toList = s.data.toList := by
  have : ∀ (n i : Nat) (r : List UInt8), s.size - i = n → i ≤ s.size → ByteArray.toList.loop s i r = r.reverse ++ s.data.toList.drop i := by
    intro n
    induction n with
    | zero =>
      intro i r h hi; have : s.data.toList.drop i = [] := List.drop_eq_nil_of_le (by rw [len_list]; omega); rw [ByteArray.toList.loop, if_neg (by omega), this, List.append_nil]
    | succ n ih =>
      intro i r h hi; have hlt : i < s.size := by omega
      rw [ByteArray.toList.loop, if_pos hlt, ih (i + 1) _ (by omega) (by omega)]; have hd : s.data.toList.drop i = s.data.toList[i]'(by rw [len_list]; exact hlt) :: s.data.toList.drop (i + 1) := (List.getElem_cons_drop (by rw [len_list]; exact hlt)).symm; rw [hd, List.reverse_cons, List.append_assoc]
      congr 1
      simp only [List.cons_append, List.nil_append, List.cons.injEq, and_true]
      show s.data[i]! = _
      rw [getElem!_pos s.data i hlt]
      simp
  have h := this s.size 0 [] (by omega) (by omega)
  unfold ByteArray.toList
  rw [h]; rfl
theorem toList_inj {a b : ByteArray} : a.toList = b.toList ↔ a = b := by
  rw [toList_data, toList_data]; exact ⟨ext_list, fun h => by rw [h]⟩
theorem bt_list (s : ByteArray) (i : Nat) (h : i < s.data.toList.length) : bt s (i : Int) = ((s.data.toList[i]'h).toNat : Int) := by
  have h' : i < s.size := by rw [← len_list]; exact h
  unfold bt
  rw [dif_pos (by simpa using h')]
  simp; rfl
theorem extract_list (s : ByteArray) (a b : Nat) : (s.extract a b).data.toList = (s.data.toList.take b).drop a := by
  rw [ByteArray.data_extract, Array.toList_extract, List.extract_eq_take_drop, List.drop_take]
theorem nums_bs (xs : List Int) : strOfNums xs = bs (xs.map fun n => UInt8.ofNat n.toNat) := rfl
def enc (n : Nat) : List UInt8 := if _h : n < 128 then [UInt8.ofNat n] else UInt8.ofNat (n % 128 + 128) :: enc (n / 128)
theorem enc_lt {n : Nat} (h : n < 128) : enc n = [UInt8.ofNat n] := by rw [enc, dif_pos h]
theorem enc_ge {n : Nat} (h : ¬ n < 128) : enc n = UInt8.ofNat (n % 128 + 128) :: enc (n / 128) := by rw [enc, dif_neg h]
theorem enc_pos (n : Nat) : 1 ≤ (enc n).length := by rw [enc]; split <;> simp
theorem enc_len (f : Nat) : ∀ n, n < 128 ^ (f + 1) → (enc n).length ≤ f + 1 := by
  induction f with
  | zero => intro n h; rw [enc_lt (by simpa using h)]; simp
  | succ f ih =>
    intro n h
    by_cases c : n < 128
    · rw [enc_lt c]; simp
    · rw [enc_ge c]
      have : n / 128 < 128 ^ (f + 1) := by
        rw [Nat.div_lt_iff_lt_mul (by decide)]
        rwa [Nat.pow_succ] at h
      have := ih _ this; simp only [List.length_cons]; omega
theorem enc9 {n : Nat} (h : n ≤ 4611686018427387904) : (enc n).length ≤ 9 := enc_len 8 n (by omega)
theorem u8_eta (b : UInt8) : UInt8.ofNat b.toNat = b := by simp
theorem drop_cons (s : ByteArray) (i : Nat) (h : i < s.data.toList.length) : s.data.toList.drop i = s.data.toList[i]'h :: s.data.toList.drop (i + 1) := (List.getElem_cons_drop h).symm
end Go.Proofs.Ytlmoafkmhenejaa.VLib
end
section
namespace Go.Proofs.Ytlmoafkmhenejaa.VLib
end Go.Proofs.Ytlmoafkmhenejaa.VLib
namespace Go.Proofs.Ytlmoafkmhenejaa.Bld
end Go.Proofs.Ytlmoafkmhenejaa.Bld
namespace Go.Proofs.YtlmoafkmhenejaaW.PrintWords
end Go.Proofs.YtlmoafkmhenejaaW.PrintWords
namespace Go.Proofs.YtlmoafkmhenejaaW.PrintLast
end Go.Proofs.YtlmoafkmhenejaaW.PrintLast
namespace Go.Proofs.YtlmoafkmhenejaaW.PrintMore
end Go.Proofs.YtlmoafkmhenejaaW.PrintMore
namespace Go.Proofs.Ytlmoafkmhenejaa.XW
end Go.Proofs.Ytlmoafkmhenejaa.XW
namespace Go.Proofs.Ytlmoafkmhenejaa.XA
open Go.Proofs.Ytlmoafkmhenejaa.VLib Go.Proofs.Ytlmoafkmhenejaa.Bld Go.RowKit Go.Proofs.YtlmoafkmhenejaaW.PrintWords Go.Proofs.YtlmoafkmhenejaaW.PrintLast Go.Proofs.YtlmoafkmhenejaaW.PrintMore Go.Proofs.Ytlmoafkmhenejaa.XW
attribute [local go_sem high] max2_str unary_xor_u32 leq_str geq_str gtr_str
attribute [local go_sem] max2_int min2_int max_two min_two max_three min_three max_four min_four
set_option linter.unusedVariables false
set_option linter.unusedSimpArgs false
theorem append_str_at {P : Program} (w : World) (base : Nat) (t u ty e : TypeId) (i : TypeInfo) (ht : P.underlying t = some (.slice e)) (hu : P.underlying u = some .string) (hi : P.info? e = some i) (hz : i.zero = some (.int .u8 0))
    (hsize : i.size = 1) (hby : i.bytes = 1) (v : Value) (n : Nat) (xs : List Value) (hown : w.ownsRow base e 1 v n xs) (s : ByteArray) (hbytes : n + s.size ≤ 140737488355328) (v' : Value) (w' : World)
    (hr' : (Builtin.append_ #[t, u] ty #[v, .string s]).run P w = .ok v' w') : v'.ownBlock = v.ownBlock ∨ v'.ownBlock = some w.heap.size := by
  have hxl : xs.length = n := by simpa using hown.1
  rcases hown.2 with ⟨rfl, rfl⟩ | ⟨g, cap, cur, rfl, hbg, hg, hnc, hcm, hcs, htake⟩
  · by_cases hm : s.size = 0
    · have hf := Lib.run_firstCells_string (P := P) w 1 s; rw [hm] at hf
      have hr : (Builtin.append_ #[t, u] ty #[.slice none 0 0, .string s]).run P w = .ok (.slice none 0 0) w := by
        simp [Builtin.append_, run_underlying ht, run_underlying hu, sizeOf, typeInfo, hi, hsize, Builtin.lenOf, hm, hf]
      rw [hr] at hr'; injection hr' with hv _
      rw [← hv]; exact .inl rfl
    · have hr := run_append_nil_string (P := P) w t u ty e i (.int .u8 0) ht hu hi hz s (by omega) (by omega) (by rw [hby]; omega); rw [hr] at hr'; injection hr' with hv _
      rw [← hv]; exact .inr rfl
  · by_cases hroom : n + s.size ≤ cap
    · have hcs' : cur.size = cap := by simpa using hcs
      have hr := Lib.run_append_room_string (P := P) w t u ty e i ht hu hi hsize g n cap cur hg s hroom (by omega); rw [hr] at hr'; injection hr' with hv _
      rw [← hv]; exact .inl rfl
    · have holds : ∀ j u, xs[j]? = some u → w.cell? ((⟨g, 0, none⟩ : Addr).add j) = some u := hown.cells (g := g) rfl; have hr := Lib.run_append_grow_string (P := P) w t u ty e i (.int .u8 0) ht hu hi hz ⟨g, 0, none⟩ n cap xs (by rw [hsize]; simpa using hxl) holds s (by omega) (by omega) (by rw [hby]; exact growslice_fits (by omega) (by omega)); rw [hr] at hr'; injection hr' with hv _
      rw [← hv]; exact .inr rfl
theorem wpList_append_str_at {P : Program} {w : World} {ops : Array Oper} {rest : List Oper} {o : Oper} {a : Act} {Q : Exit → Act → World → Prop} (hgd : o.guard = none) (sl x : Operand) (t u : TypeId)
    (ho : o.op = .call { callee := .builtin .append, args := #[sl, x], argTypes := #[t, u] })
    (base : Nat) (e : TypeId) (i : TypeInfo) (ht : P.underlying t = some (.slice e)) (hu : P.underlying u = some .string) (hi : P.info? e = some i) (hz : i.zero = some (.int .u8 0))
    (hsize : i.size = 1) (hby : i.bytes = 1)
    (v : Value) (n : Nat) (xs : List Value) (hs : a.eval sl = v) (hown : w.ownsRow base e 1 v n xs) (s : ByteArray) (hx : a.eval x = .string s)
    (h63 : n + s.size ≤ maxLen) (hbytes : n + s.size ≤ 140737488355328) (hbase : base ≤ w.heap.size)
    (h : ∀ v' w', w'.ownsRow base e 1 v' (n + s.size) (xs ++ Lib.strCells s) → w.grownBy w' v.ownBlock → (v'.ownBlock = v.ownBlock ∨ v'.ownBlock = some w.heap.size) → wpList P ops Q rest (a.put o.dst v') w') : wpList P ops Q (o :: rest) a w := by
  refine wpList_plain hgd fun K hK => ?_
  obtain ⟨v', w', hr, h2, h3, h4⟩ := Lib.run_append_own_string (P := P) w base t u o.type e i ht hu hi hz hsize hby v n xs hown s h63 hbytes hbase
  have hat := append_str_at w base t u o.type e i ht hu hi hz hsize hby v n xs hown s hbytes v' w' hr
  unfold Oper.wp execOp
  simp only [ho, resolve, invoke, builtin, Sem.run_bind, Sem.run_pure, Result.andThen_ok, List.map_toArray, List.map_cons, List.map_nil, hs, hx, hr]
  exact hK _ _ (h v' w' h2 h3 hat)
set_option maxHeartbeats 2000000 in
set_option maxRecDepth 100000 in
theorem WriteString_at (B b : Nat) (v : Value) (u : Bool) (bs : List UInt8) (s : ByteArray) (w : World) (h : Bd w B b v u bs) (hlen : bs.length + s.size ≤ 140737488355328) (hBw : B ≤ w.heap.size) :
    Calls Try.prog 35 #[.pointer (some ⟨b, 0, none⟩), .string s] w fun e w' => ∃ v', e = .returned (.tuple #[.int .i64 s.size, .nilIface]) ∧ Bd w' B b v' true (bs ++ s.data.toList) ∧ Below B w w' ∧ KeepBut w w' b v.ownBlock ∧ (v'.ownBlock = v.ownBlock ∨ ∃ k, v'.ownBlock = some k ∧ w.heap.size ≤ k) := by
  have infoB : (Try.prog.info? 5).map (fun i => (i.zero, i.size, i.bytes)) = some (some (.int .u8 0), 1, 1) := by kernel_rfl
  obtain ⟨i0, hi, hz0, hz1, hz2⟩ := info_parts infoB
  go_enter Try.func35, Try.ntmps35
  go_wp2_with (go_at_call 68; refine (copyCheck_any B b v u bs w h).mono ?_)
  rintro e w1 ⟨rfl, h1, hb1, hk1⟩
  obtain ⟨hB, hbk, hown⟩ := h1
  have hne := Bd.ne (u := true) ⟨hB, hbk, hown⟩
  have hlt := blk_lt hbk
  simp only [if_true] at hbk
  have c0 : w1.cell? ⟨b, 0, none⟩ = some (.pointer (some ⟨b, 0, none⟩)) := (blk_cell hbk 0).trans rfl
  have c1 : w1.cell? ⟨b, 1, none⟩ = some v := (blk_cell hbk 1).trans rfl
  go_wp2_with (at_builtin; refine wpList_append_str_at rfl _ _ 47 9 rfl B 5 i0 Try.underlying47 Try.underlying9 hi hz0 hz1 hz2 _ _ _ rfl hown s rfl ?c3 ?c4 ?c5 ?_)
  case c3 => unfold maxLen; omega
  case c4 => omega
  case c5 => have := hb1.size; omega
  intro v' w2 hown' hgrow hat
  have hb2 : w2.heap[b]? = some (.cells #[.pointer (some ⟨b, 0, none⟩), v] 71 (0, 0)) := blk_grown hbk hgrow (fun e => hne e.symm)
  have d0 : w2.cell? ⟨b, 0, none⟩ = some (.pointer (some ⟨b, 0, none⟩)) := (blk_cell hb2 0).trans rfl
  have d1 : w2.cell? ⟨b, 1, none⟩ = some v := (blk_cell hb2 1).trans rfl
  have f1 : w2.frozen? ⟨b, 1, none⟩ = false := blk_frozen hb2 1
  obtain ⟨ao, n', cap, rfl⟩ : ∃ ao n' cap, v' = .slice ao n' cap := by
    rcases hown'.2 with ⟨hv, _⟩ | ⟨g, cap, cur, hv, _⟩
    · exact ⟨_, _, _, hv⟩
    · exact ⟨_, _, _, hv⟩
  go_wp2
  go_ret2
  have hcells : Lib.byteCells (bs ++ s.data.toList) = Lib.byteCells bs ++ Lib.strCells s := by rw [Lib.byteCells_append, Lib.strCells_eq]
  have hl : (bs ++ s.data.toList).length = bs.length + s.size := by rw [List.length_append, Array.length_toList]; rfl
  have hown2 : w2.ownsRow B 5 1 (.slice ao n' cap) (bs ++ s.data.toList).length (Lib.byteCells (bs ++ s.data.toList)) := by rw [hcells, hl]; exact hown'
  have hne2 := Lib.ownBlock_ne hown2 hb2 (show (71 : Nat) ≠ 5 by decide)
  refine ⟨.slice ao n' cap, rfl, ⟨hB, blk_put hb2 1 _ rfl, own_move hown2 (fun k hk => Below.heap_setCell _ _ _ _ (fun e => hne2 (hk.trans (congrArg some e))))⟩, ?_, ?_, ?_⟩
  · exact (hb1.grown hgrow (by have := hb1.size; omega) (fun k hk => (hown.lt k hk).1)).setCell (p := ⟨b, 1, none⟩) hB _
  · refine ⟨Nat.le_trans hk1.1 (Nat.le_trans hgrow.size (by simp [World.setCell])), fun i hi h1 h2 => ?_⟩; rw [Below.heap_setCell _ _ _ _ h1, hgrow.block i (Nat.lt_of_lt_of_le hi hk1.1) h2]; exact hk1.2 i hi h1 (by simp)
  · rcases hat with h | h
    · exact .inl h
    · exact .inr ⟨_, h, hk1.1⟩
structure Two (w : World) (B f b : Nat) (vf vb : Value) (uf ub : Bool) (fs bs : List UInt8) : Prop where
  foot : Bd w B f vf uf fs
  body : Bd w B b vb ub bs
  ne : f ≠ b
  apart : ∀ k, vf.ownBlock = some k → vb.ownBlock ≠ some k
theorem Two.below {w w1 : World} {B f b : Nat} {vf vb : Value} {uf ub : Bool} {fs bs : List UInt8} (h : Two w B f b vf vb uf ub fs bs) (hb : Below w.heap.size w w1) : Two w1 B f b vf vb uf ub fs bs :=
  ⟨h.foot.below hb, h.body.below hb, h.ne, h.apart⟩
theorem Two.swap {w : World} {B f b : Nat} {vf vb : Value} {uf ub : Bool} {fs bs : List UInt8} (h : Two w B f b vf vb uf ub fs bs) : Two w B b f vb vf ub uf bs fs :=
  ⟨h.body, h.foot, fun e => h.ne e.symm, fun k hk e => h.apart k e hk⟩
theorem Two.wrote {w w1 : World} {B f b : Nat} {vf vb vf' : Value} {uf ub uf' : Bool} {fs bs fs' : List UInt8} (h : Two w B f b vf vb uf ub fs bs) (h1 : Bd w1 B f vf' uf' fs') (hk : KeepBut w w1 f vf.ownBlock) (hat : vf'.ownBlock = vf.ownBlock ∨ ∃ k, vf'.ownBlock = some k ∧ w.heap.size ≤ k) : Two w1 B f b vf' vb uf' ub fs' bs := by
  have hbf : vf.ownBlock ≠ some b := Lib.ownBlock_ne h.foot.2.2 h.body.2.1 (by decide)
  have hfb : vb.ownBlock ≠ some f := Lib.ownBlock_ne h.body.2.2 h.foot.2.1 (by decide)
  refine ⟨h1, h.body.step (hk.2 b h.body.lt (fun e => h.ne e.symm) (fun e => hbf e.symm)) (fun k hk' => ?_), h.ne, fun k hk' e => ?_⟩
  · refine hk.2 k (own_lt h.body.2.2 k hk') (fun e => hfb (by rw [hk', e])) (fun e => h.apart k e.symm hk')
  · rcases hat with h' | ⟨j, hj, hle⟩
    · exact h.apart k (h'.symm.trans hk') e
    · rw [hj] at hk'; injection hk' with hk'
      have := own_lt h.body.2.2 k e
      omega
set_option maxHeartbeats 2000000 in
set_option maxRecDepth 100000 in
theorem num_calls (kk B b : Nat) (v : Value) (u : Bool) (bs : List UInt8) (n : Int) (s : ByteArray) (er : Int) (w : World) (h : Bd w B b v u bs) (hp : varint_Put.f kk n = some (s, er)) (hlen : bs.length + s.size ≤ 140737488355328) (hBw : B ≤ w.heap.size) :
    Calls Try.prog 33 #[.int .i64 n, .pointer (some ⟨b, 0, none⟩)] w fun e w' => ∃ v', e = .returned (.tuple #[]) ∧ Bd w' B b v' true (bs ++ s.data.toList) ∧ Below B w w' ∧ KeepBut w w' b v.ownBlock ∧ (v'.ownBlock = v.ownBlock ∨ ∃ k, v'.ownBlock = some k ∧ w.heap.size ≤ k) := by
  have HH := Aside0.mk h
  have HP := Aside0.mk hp
  have HL := Aside0.mk hlen
  have HZ := Aside0.mk hBw
  clear h hp hlen hBw
  go_enter Try.func33, Try.ntmps33
  go_wp2_with (first | (go_at_call 35; go_loud ((refine (WriteString_at B b v u bs s _ (HH.out.below HB1.out) HL.out (Nat.le_trans HZ.out HB1.out.size)).mono ?_); rintro e w2 ⟨v2, rfl, h2, hb2, hk2, hat2⟩; have H2 := Aside0.mk h2; have HB2 := Aside0.mk hb2; have HK2 := Aside0.mk hk2; have HAT := Aside0.mk hat2; clear h2 hb2 hk2 hat2)) | (go_at_call 34; go_loud ((refine (varint_Put.calls kk n s er _ HP.out).mono ?_); rintro e w1 ⟨rfl, hb1⟩; have HB1 := Aside0.mk hb1; clear hb1)))
  refine bodyPost_end (v := .tuple #[]) (results_none (by rfl) _ _ _) rfl ?_
  have hb1 := HB1.out
  refine ⟨v2, rfl, H2.out, ⟨HB2.out.os.trans hb1.os, HB2.out.tape.trans hb1.tape, HB2.out.output.trans hb1.output, Nat.le_trans hb1.size HB2.out.size, fun k hk => (HB2.out.block k hk).trans (hb1.block k (Nat.lt_of_lt_of_le hk HZ.out))⟩, ⟨Nat.le_trans hb1.size HK2.out.1, fun i hi h1 h2 => (HK2.out.2 i (Nat.lt_of_lt_of_le hi hb1.size) h1 h2).trans (hb1.block i hi)⟩, ?_⟩
  rcases HAT.out with h | ⟨k, h, hle⟩
  · exact .inl h
  · exact .inr ⟨k, h, Nat.le_trans hb1.size hle⟩
set_option maxHeartbeats 2000000 in
set_option maxRecDepth 100000 in
theorem text_calls (kk B b : Nat) (v : Value) (u : Bool) (bs : List UInt8) (n s : ByteArray) (er : Int) (w : World) (h : Bd w B b v u bs) (hp : varint_Text.f kk n = some (s, er)) (hlen : bs.length + s.size ≤ 140737488355328) (hBw : B ≤ w.heap.size) :
    Calls Try.prog 36 #[.string n, .pointer (some ⟨b, 0, none⟩)] w fun e w' => ∃ v', e = .returned (.tuple #[]) ∧ Bd w' B b v' true (bs ++ s.data.toList) ∧ Below B w w' ∧ KeepBut w w' b v.ownBlock ∧ (v'.ownBlock = v.ownBlock ∨ ∃ k, v'.ownBlock = some k ∧ w.heap.size ≤ k) := by
  have HH := Aside0.mk h
  have HP := Aside0.mk hp
  have HL := Aside0.mk hlen
  have HZ := Aside0.mk hBw
  clear h hp hlen hBw
  go_enter Try.func36, Try.ntmps36
  go_wp2_with (first | (go_at_call 35; go_loud ((refine (WriteString_at B b v u bs s _ (HH.out.below HB1.out) HL.out (Nat.le_trans HZ.out HB1.out.size)).mono ?_); rintro e w2 ⟨v2, rfl, h2, hb2, hk2, hat2⟩; have H2 := Aside0.mk h2; have HB2 := Aside0.mk hb2; have HK2 := Aside0.mk hk2; have HAT := Aside0.mk hat2; clear h2 hb2 hk2 hat2)) | (go_at_call 37; go_loud ((refine (varint_Text.calls kk n s er _ HP.out).mono ?_); rintro e w1 ⟨rfl, hb1⟩; have HB1 := Aside0.mk hb1; clear hb1)))
  refine bodyPost_end (v := .tuple #[]) (results_none (by rfl) _ _ _) rfl ?_
  have hb1 := HB1.out
  refine ⟨v2, rfl, H2.out, ⟨HB2.out.os.trans hb1.os, HB2.out.tape.trans hb1.tape, HB2.out.output.trans hb1.output, Nat.le_trans hb1.size HB2.out.size, fun k hk => (HB2.out.block k hk).trans (hb1.block k (Nat.lt_of_lt_of_le hk HZ.out))⟩, ⟨Nat.le_trans hb1.size HK2.out.1, fun i hi h1 h2 => (HK2.out.2 i (Nat.lt_of_lt_of_le hi hb1.size) h1 h2).trans (hb1.block i hi)⟩, ?_⟩
  rcases HAT.out with h | ⟨k, h, hle⟩
  · exact .inl h
  · exact .inr ⟨k, h, Nat.le_trans hb1.size hle⟩
end Go.Proofs.Ytlmoafkmhenejaa.XA
end
section
namespace Go.Proofs.Ytlmoafkmhenejaa.VLib
end Go.Proofs.Ytlmoafkmhenejaa.VLib
namespace Go.Proofs.Ytlmoafkmhenejaa.Bld
end Go.Proofs.Ytlmoafkmhenejaa.Bld
namespace Go.Proofs.YtlmoafkmhenejaaW.PrintWords
end Go.Proofs.YtlmoafkmhenejaaW.PrintWords
namespace Go.Proofs.YtlmoafkmhenejaaW.PrintLast
end Go.Proofs.YtlmoafkmhenejaaW.PrintLast
namespace Go.Proofs.YtlmoafkmhenejaaW.PrintMore
end Go.Proofs.YtlmoafkmhenejaaW.PrintMore
namespace Go.Proofs.Ytlmoafkmhenejaa.XW
end Go.Proofs.Ytlmoafkmhenejaa.XW
namespace Go.Proofs.Ytlmoafkmhenejaa.XA
open Go.Proofs.Ytlmoafkmhenejaa.VLib Go.Proofs.Ytlmoafkmhenejaa.Bld Go.RowKit Go.Proofs.YtlmoafkmhenejaaW.PrintWords Go.Proofs.YtlmoafkmhenejaaW.PrintLast Go.Proofs.YtlmoafkmhenejaaW.PrintMore Go.Proofs.Ytlmoafkmhenejaa.XW
attribute [local go_sem high] max2_str unary_xor_u32 leq_str geq_str gtr_str
attribute [local go_sem] max2_int min2_int max_two min_two max_three min_three max_four min_four
set_option linter.unusedVariables false
set_option linter.unusedSimpArgs false
theorem below_at_ {B : Nat} {w w1 : World} (h : Below w.heap.size w w1) (hB : B ≤ w.heap.size) : Below B w w1 := ⟨h.os, h.tape, h.output, h.size, fun k hk => h.block k (Nat.lt_of_lt_of_le hk hB)⟩
def chunkF (kk : Nat) : Nat → List S43 → List UInt8 → List UInt8 → Option (List UInt8 × List UInt8)
  | 0, _, _, _ => none
  | n + 1, l, fs, bs => if l.length = 0 then some (fs, bs) else
    (block_Put.f kk (l.take 16)).bind fun p => (varint_Text.f kk (rd_T43 (l.take 16) 0).f0).bind fun t => (varint_Put.f kk (p.1.size : Int)).bind fun q =>
      if fs.length + t.1.size + q.1.size ≤ 140737488355328 ∧ bs.length + p.1.size ≤ 140737488355328 then chunkF kk n (l.drop 16) (fs ++ t.1.data.toList ++ q.1.data.toList) (bs ++ p.1.data.toList) else none
set_option maxHeartbeats 2000000 in
set_option maxRecDepth 100000 in
theorem part_calls (kk f b gt gn : Nat) (vf vb : Value) (uf ub : Bool) (fs bs : List UInt8) (A : Option Addr) (c : Nat) (l : List S43) (w0 w : World) (bb tx nn : ByteArray) (e1 e2 e3 : Int) (hT : Two w w0.heap.size f b vf vb uf ub fs bs)
    (hgt : w.heap[gt]? = some (.cells #[.func (Fn.func 36) #[] #[.pointer (some ⟨f, 0, none⟩)]] 79 (0, 0))) (hgn : w.heap[gn]? = some (.cells #[.func (Fn.func 33) #[] #[.pointer (some ⟨f, 0, none⟩)]] 77 (0, 0))) (h0 : Below w0.heap.size w0 w) (hC : Kd.C k43 w0 A l.length l) (hc : l.length ≤ c) (hl : 0 < l.length)
    (hP : block_Put.f kk l = some (bb, e1)) (hX : varint_Text.f kk (rd_T43 l 0).f0 = some (tx, e2)) (hN : varint_Put.f kk (bb.size : Int) = some (nn, e3)) (hf : fs.length + tx.size + nn.size ≤ 140737488355328) (hb : bs.length + bb.size ≤ 140737488355328) :
    Calls Try.prog 39 #[.slice A l.length c, .pointer (some ⟨b, 0, none⟩), .pointer (some ⟨gt, 0, none⟩), .pointer (some ⟨gn, 0, none⟩)] w fun e w' => ∃ vf' vb', e = .returned (.tuple #[]) ∧ Two w' w0.heap.size f b vf' vb' true true (fs ++ tx.data.toList ++ nn.data.toList) (bs ++ bb.data.toList) ∧ Below w0.heap.size w0 w' ∧ KeepT w w' := by
  have HT := Aside0.mk hT
  have HGT := Aside0.mk hgt
  have HGN := Aside0.mk hgn
  have H0 := Aside0.mk h0
  have HC := Aside0.mk hC
  have HCC := Aside0.mk hc
  have HP := Aside0.mk hP
  have HX := Aside0.mk hX
  have HN := Aside0.mk hN
  have HF := Aside0.mk hf
  have HBB := Aside0.mk hb
  have HS := Aside0.mk h0.size
  obtain ⟨ad, ea, a0, -, -, -⟩ := at_T43 hC 0 (by omega) (by omega)
  rw [show (0 : Int).toNat * 4 = 0 from rfl] at a0
  have HA0 : Aside0 (w0.cell? ad = some (.string (rd_T43 l 0).f0)) := ⟨a0⟩
  obtain ⟨K, hK⟩ : ∃ K, (rd_T43 l 0).f0 = K := ⟨_, rfl⟩
  rw [hK] at HA0 HX
  have p1 : (0 < (l.length : Int)) = True := eq_true (by omega)
  have p2 : (0 < l.length) = True := eq_true hl
  have HLS : Aside0 ((tx.data.toList).length = tx.size) := ⟨by rw [Array.length_toList]; rfl⟩
  clear hT hgt hgn h0 hC hc hP hX hN hf hb a0 hl hK
  cases ea
  go_enter Try.func39, Try.ntmps39
  go_wp2_with (first
    | (go_at_call 35; go_loud ((refine (WriteString_at w0.heap.size b vb ub bs bb _ (HT1.out.body) HBB.out (Nat.le_trans HS.out HB1.out.size)).mono ?_); rintro e w2 ⟨vb2, rfl, h2, hb2, hk2, hat2⟩; have hT2 := (HT1.out.swap.wrote h2 hk2 hat2).swap; have HT2 := Aside0.mk hT2; have hK2 := Bd.keepT HT1.out.body hk2; have HB2 := Aside0.mk ((H0.out.trans (below_at_ HB1.out HS.out)).trans hb2); have HKT2 := Aside0.mk ((KeepT.of_below HB1.out).trans hK2); have g79 := HKT2.out gt _ 79 _ (by decide) (by decide) HGT.out; have g77 := HKT2.out gn _ 77 _ (by decide) (by decide) HGN.out; have HG79 := Aside0.mk g79; have HG77 := Aside0.mk g77; have x79 : w2.cell? ⟨gt, 0, none⟩ = some (.func (Fn.func 36) #[] #[.pointer (some ⟨f, 0, none⟩)]) := (blk_cell g79 0).trans rfl; have xk : w2.cell? ad = some (.string K) := (HB2.out.cell (World.block_lt_of_cell? w0 _ HA0.out)).trans HA0.out; have xk0 : w2.cell? (ad.add 0) = some (.string K) := xk; clear h2 hb2 hk2 hat2 hT2 hK2 g79 g77))
    | (go_at_call 40; go_loud ((refine (block_Put.calls kk _ c l bb e1 _ (Kd.C_below HC.out H0.out) HCC.out HP.out).mono ?_); rintro e w1 ⟨rfl, hb1⟩; have HB1 := Aside0.mk hb1; have HT1 := Aside0.mk (HT.out.below hb1); clear hb1)))
  go_still_tail 5, (by kernel_rfl)
  change wpList _ _ _ _ _ w2.drew
  have HTd := Aside0.mk (HT2.out.below (below_drew (Below.refl _ _)))
  have HBd := Aside0.mk (below_drew HB2.out)
  have HSd : Aside0 (w0.heap.size ≤ w2.drew.heap.size) := ⟨HBd.out.size⟩
  have HGd : Aside0 (w2.drew.heap[gn]? = some (.cells #[.func (Fn.func 33) #[] #[.pointer (some ⟨f, 0, none⟩)]] 77 (0, 0))) := ⟨blk_drew HG77.out⟩
  clear x79 xk xk0
  go_wp2_with (first
    | (go_at_call 33; go_loud ((refine (num_calls kk w0.heap.size f vf3 true (fs ++ tx.data.toList) bb.size nn e3 _ HT3.out.foot HN.out (by rw [List.length_append, HLS.out]; exact HF.out) HB3.out.size).mono ?_); rintro e w4 ⟨vf4, rfl, h4, hb4, hk4, hat4⟩; have HT4 := Aside0.mk (HT3.out.wrote h4 hk4 hat4); have HB4 := Aside0.mk (HB3.out.trans hb4); have HK4 := Aside0.mk (HK3.out.trans (Bd.keepT HT3.out.foot hk4)); clear h4 hb4 hk4 hat4))
    | (go_at_call 36; go_loud ((refine (text_calls kk w0.heap.size f vf uf fs K tx e2 _ HTd.out.foot HX.out (by have := HF.out; omega) HSd.out).mono ?_); rintro e w3 ⟨vf3, rfl, h3, hb3, hk3, hat3⟩; have HT3 := Aside0.mk (HTd.out.wrote h3 hk3 hat3); have HB3 := Aside0.mk (HBd.out.trans hb3); have hk3' := Bd.keepT HTd.out.foot hk3; have HK3 := Aside0.mk ((HKT2.out.trans (KeepT.of_below (below_drew (Below.refl _ _)))).trans hk3'); have g77 := hk3' gn _ 77 _ (by decide) (by decide) HGd.out; have x77 : w3.cell? ⟨gn, 0, none⟩ = some (.func (Fn.func 33) #[] #[.pointer (some ⟨f, 0, none⟩)]) := (blk_cell g77 0).trans rfl; clear h3 hb3 hk3 hat3 hk3' g77)))
  refine bodyPost_end (v := .tuple #[]) (results_none (by rfl) _ _ _) rfl ?_
  exact ⟨vf4, vb2, rfl, HT4.out, HB4.out, HK4.out⟩
set_option maxHeartbeats 2000000 in
set_option maxRecDepth 100000 in
theorem chunks_calls (kk f b gt gn : Nat) (vf vb : Value) (uf ub : Bool) (fs bs fs' bs' : List UInt8) (A : Option Addr) (c N : Nat) (l : List S43) (w0 w : World) (hT : Two w w0.heap.size f b vf vb uf ub fs bs)
    (hgt : w.heap[gt]? = some (.cells #[.func (Fn.func 36) #[] #[.pointer (some ⟨f, 0, none⟩)]] 79 (0, 0))) (hgn : w.heap[gn]? = some (.cells #[.func (Fn.func 33) #[] #[.pointer (some ⟨f, 0, none⟩)]] 77 (0, 0))) (h0 : Below w0.heap.size w0 w) (hC : Kd.C k43 w0 A l.length l) (hc : l.length ≤ c) (hn : l.length ≤ 1000000) (h : chunkF kk N l fs bs = some (fs', bs')) :
    Calls Try.prog 38 #[.slice A l.length c, .func (Fn.func 39) #[] #[.pointer (some ⟨b, 0, none⟩), .pointer (some ⟨gt, 0, none⟩), .pointer (some ⟨gn, 0, none⟩)]] w fun e w' => ∃ vf' vb' uf' ub', e = .returned (.tuple #[]) ∧ Two w' w0.heap.size f b vf' vb' uf' ub' fs' bs' ∧ Below w0.heap.size w0 w' ∧ KeepT w w' := by
  have HT := Aside0.mk hT
  have HGT := Aside0.mk hgt
  have HGN := Aside0.mk hgn
  have H0 := Aside0.mk h0
  have HC := Aside0.mk hC
  have HCC := Aside0.mk hc
  have HN := Aside0.mk hn
  have HH := Aside0.mk h
  clear hT hgt hgn h0 hC hc hn h
  go_enter Try.func38, Try.ntmps38
  go_wp2
  go_loopg [0, 4] N (fun kq v0 v4 w' => ∃ (A1 : Option Addr) (c1 : Nat) (l1 : List S43) (fs1 bs1 : List UInt8) (vf1 vb1 : Value) (uf1 ub1 : Bool), v0 = .slice A1 l1.length c1 ∧ Aside0 (chunkF kk kq l1 fs1 bs1 = some (fs', bs')) ∧ Aside0 (kq ≤ N) ∧ Aside0 (Kd.C k43 w0 A1 l1.length l1) ∧ Aside0 (l1.length ≤ c1) ∧ Aside0 (l1.length ≤ 1000000) ∧ Aside0 (Two w' w0.heap.size f b vf1 vb1 uf1 ub1 fs1 bs1) ∧ Aside0 (Below w0.heap.size w0 w') ∧ Aside0 (KeepT w w'))
  case atStart => exact ⟨A, c, l, fs, bs, vf, vb, uf, ub, rfl, HH, ⟨Nat.le_refl _⟩, HC, HCC, HN, HT, H0, ⟨KeepT.refl _⟩⟩
  case round =>
    clear HH HC HCC HN HT H0; obtain ⟨A1, c1, l1, fs1, bs1, vf1, vb1, uf1, ub1, rfl, HA, HKQ, HC, HCC, HN, HT, HB, HK⟩ := hrel
    cases gk with
    | zero => exact absurd HA.out (by simp [chunkF])
    | succ k1 =>
      have H := HA.out; clear HA; simp only [chunkF] at H
      by_cases q : l1.length = 0
      · rw [if_pos q] at H; have e1 : decide (0 < (l1.length : Int)) = false := decide_eq_false (by omega); have e2 : decide (0 < l1.length) = false := decide_eq_false (by omega); simp only [Option.some.injEq, Prod.mk.injEq] at H; obtain ⟨rfl, rfl⟩ := H; clear q; go_wp2; refine bodyPost_end (v := .tuple #[]) (results_none (by rfl) _ _ _) rfl ?_; exact ⟨vf1, vb1, uf1, ub1, rfl, HT.out, HB.out, HK.out⟩
      · rw [if_neg q] at H; have e1 : decide (0 < (l1.length : Int)) = true := decide_eq_true (by omega); have e2 : decide (0 < l1.length) = true := decide_eq_true (by omega); obtain ⟨⟨bb, z1⟩, hP, H⟩ := Option.bind_eq_some_iff.mp H; obtain ⟨⟨tx, z2⟩, hX, H⟩ := Option.bind_eq_some_iff.mp H; obtain ⟨⟨nn, z3⟩, hN, H⟩ := Option.bind_eq_some_iff.mp H; dsimp only at H hN
        by_cases qs : fs1.length + tx.size + nn.size ≤ 140737488355328 ∧ bs1.length + bb.size ≤ 140737488355328
        · rw [if_pos qs] at H; have hn := HN.out; have hcc := HCC.out
          obtain ⟨m, hm, hm2⟩ : ∃ m : Nat, (if (l1.length : Int) < 16 then (l1.length : Int) else 16) = (m : Int) ∧ m = min 16 l1.length := by
            by_cases h16 : (l1.length : Int) < 16
            · exact ⟨l1.length, by rw [if_pos h16], by omega⟩
            · exact ⟨16, by rw [if_neg h16]; rfl, by omega⟩
          have htk : l1.take 16 = l1.take m := by rw [hm2, ← List.take_take, List.take_of_length_le (Nat.le_refl l1.length)] <;> simp [List.take_take]
          have hdr : l1.drop 16 = l1.drop m := by
            by_cases h16 : l1.length < 16
            · rw [List.drop_eq_nil_of_le (by omega), List.drop_eq_nil_of_le (by omega)]
            · rw [show m = 16 from by omega]
          rw [htk] at hP hX; rw [hdr] at H; have hCt := Kd.C_take HC.out (m := m) (by omega); have hCd := Kd.C_drop HC.out (m := m) (c := c1) (by omega) hcc; have htl : (l1.take m).length = m := by rw [List.length_take]; omega
          have hdl : (l1.drop m).length = l1.length - m := List.length_drop; obtain ⟨i0, hi0, _, hsz0, _⟩ := info_parts info43; have hcut1 := cut_to (P := Try.prog) 22 43 .i64 Try.underlying22 hi0 A1 l1.length c1 (m : Int) (by omega) (by omega) hcc; have hcut2 := cut_from (P := Try.prog) 22 43 .i64 Try.underlying22 hi0 4 hsz0 A1 l1.length c1 (m : Int) (by omega) (by omega); rw [Int.toNat_natCast] at hcut1 hcut2; obtain ⟨A2, hA2⟩ : ∃ A2, (if c1 = m then A1 else A1.map (·.add (m * 4))) = A2 := ⟨_, rfl⟩; obtain ⟨c2, hc2⟩ : ∃ c2, c1 - m = c2 := ⟨_, rfl⟩; have hCd' : Kd.C k43 w0 A2 (l1.drop m).length (l1.drop m) := by rw [← hA2]; exact hCd
          rw [hA2, hc2, ← hdl] at hcut2; obtain ⟨pt, hpt⟩ : ∃ pt, l1.take m = pt := ⟨_, rfl⟩; obtain ⟨rs, hrs⟩ : ∃ rs, l1.drop m = rs := ⟨_, rfl⟩; rw [hrs] at hcut2 hCd' H; rw [hpt] at hP hX hCt htl; rw [← htl] at hcut1 hm hcut2; have HP := Aside0.mk hP; have HX := Aside0.mk hX; have HNN := Aside0.mk hN; have HQS := Aside0.mk qs; have HCT := Aside0.mk hCt; have HCD := Aside0.mk hCd'; have HL1 : Aside0 (0 < pt.length ∧ pt.length ≤ c1) := ⟨by omega⟩; have HL2 : Aside0 (rs.length ≤ c2 ∧ rs.length ≤ 1000000) := ⟨by rw [← hrs, hdl]; omega⟩; have H' := Aside0.mk H; clear hP hX hN qs hCt hCd hCd' hn hcc htk hdr htl hdl hi0 hsz0 hA2 hc2 hpt hrs H q hm2; have HG1 := Aside0.mk (HK.out gt _ 79 _ (by decide) (by decide) HGT.out); have HG2 := Aside0.mk (HK.out gn _ 77 _ (by decide) (by decide) HGN.out)
          go_wp2_with (go_at_call 39; go_loud ((refine (part_calls kk f b gt gn vf1 vb1 uf1 ub1 fs1 bs1 A1 c1 pt w0 wr bb tx nn z1 z2 z3 HT.out HG1.out HG2.out HB.out HCT.out HL1.out.2 HL1.out.1 HP.out HX.out HNN.out HQS.out.1 HQS.out.2).mono ?_); rintro e w9 ⟨vf9, vb9, rfl, hT9, hb9, hk9⟩; have HT9 := Aside0.mk hT9; have HB9 := Aside0.mk hb9; have HK9 := Aside0.mk (HK.out.trans hk9); clear hT9 hb9 hk9))
          go_roundg k1
          case measure => have := HKQ.out; omega
          case rel => exact ⟨A2, c2, rs, _, _, vf9, vb9, true, true, rfl, H', ⟨by have := HKQ.out; omega⟩, HCD, ⟨HL2.out.1⟩, ⟨HL2.out.2⟩, HT9, HB9, HK9⟩
        · rw [if_neg qs] at H; exact absurd H (by simp)
end Go.Proofs.Ytlmoafkmhenejaa.XA
end
section
namespace Go.Proofs.YtlmoafkmhenejaaW.PrintWords
end Go.Proofs.YtlmoafkmhenejaaW.PrintWords
namespace Go.Proofs.YtlmoafkmhenejaaW.PrintLast
end Go.Proofs.YtlmoafkmhenejaaW.PrintLast
namespace Go.Proofs.YtlmoafkmhenejaaW.PrintMore
end Go.Proofs.YtlmoafkmhenejaaW.PrintMore
namespace Go.Proofs.Ytlmoafkmhenejaa.XW
end Go.Proofs.Ytlmoafkmhenejaa.XW
namespace Go.Proofs.Ytlmoafkmhenejaa.XA
open Go.RowKit Go.Proofs.YtlmoafkmhenejaaW.PrintWords Go.Proofs.YtlmoafkmhenejaaW.PrintLast Go.Proofs.YtlmoafkmhenejaaW.PrintMore Go.Proofs.Ytlmoafkmhenejaa.XW
attribute [local go_sem high] max2_str unary_xor_u32 leq_str geq_str gtr_str
attribute [local go_sem] max2_int min2_int max_two min_two max_three min_three max_four min_four   -- for this text's walks alone
set_option linter.unusedVariables false
set_option linter.unusedSimpArgs false
theorem eqA43 (d : Nat) (w : World) (x0 y0 : ByteArray) (x1 y1 : ByteArray) (x2 y2 : Bool) (x3 y3 : Int) :
    (Op.equalIn (d + 2) 43 (.agg #[.string x0, .string x1, .bool x2, .int .i64 x3]) (.agg #[.string y0, .string y1, .bool y2, .int .i64 y3])).run Try.prog w = .ok (x0.toList == y0.toList && (x1.toList == y1.toList && (x2 == y2 && (x3 == y3)))) w := by
  refine eqA_of Try.underlying43 (by kernel_rfl) ?_
  refine eqf_cons (by rfl) (by go_simp; rfl) (by go_simp; rfl) (by go_simp) ?_
  refine eqf_cons (by rfl) (by go_simp; rfl) (by go_simp; rfl) (by go_simp) ?_
  refine eqf_cons (by rfl) (by go_simp; rfl) (by go_simp; rfl) (by go_simp) ?_
  exact eqf_last (by rfl) (by go_simp; rfl) (by go_simp; rfl) (by go_simp)
end Go.Proofs.Ytlmoafkmhenejaa.XA
end
