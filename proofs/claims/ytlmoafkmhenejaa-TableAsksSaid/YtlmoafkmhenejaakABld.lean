import Derived.Test.YtlmoafkmhenejaaProg
import Derived.Test.YtlmoafkmhenejaakAWLast
import Derived.Lib.Strings
import Derived.Lib.Slices
import Derived.Lib.Walk
import Derived.Lib.Builder
import Derived.Lib.AppendStr
import Derived.Lib.UnsafeStr
import Derived.Lib.MakeNoZero
import Derived.WalkKit
import Derived.Laws.Externs
import Derived.Laws.IdiomCopy
import Derived.Laws.BitsLemmas
import Derived.RegionTactic
import Derived.BigRegion
import Derived.Below
import Derived.Deep.Draws
import Derived.Deep.AppendLies
import Derived.Maps.AppendAt
import Derived.OwnWalk
import Derived.Laws.BytesArg
import Derived.Laws.MakeOwn
import Derived.Laws.OwnMore
import Derived.Deep.OwnRows
import Derived.Tactics
import Derived.Lib.ConvBytes
import Derived.Laws.Slices
import Derived.KernelRfl
import Derived.RowKit3
import Derived.Deep.LoopGhost
import Derived.Deep.QuietTactic
import Derived.BigQuiet
import Derived.WideLaws
import Derived.Deep.DeepCutAuto
import Derived.Deep.CutBlock
import Derived.Deep.RegionHeld3
import Derived.Laws.Rows
import Derived.ArgAppend
import Derived.OrdersHeld
import Derived.RowKit
import Derived.Test.YtlmoafkmhenejaakAWWords
import Derived.Test.YtlmoafkmhenejaakAOpn
section
namespace Go.Proofs.YtlmoafkmhenejaaW.PrintWords
end Go.Proofs.YtlmoafkmhenejaaW.PrintWords
set_option linter.unusedVariables false
namespace Go.Proofs.Ytlmoafkmhenejaa.Bld
open Go.RowKit Go.Proofs.YtlmoafkmhenejaaW.PrintWords
def Bd (w : World) (B b : Nat) (v : Value) (u : Bool) (bs : List UInt8) : Prop :=
  B ≤ b ∧ w.heap[b]? = some (.cells #[.pointer (if u then some ⟨b, 0, none⟩ else none), v] 71 (0, 0)) ∧ w.ownsRow B 5 1 v bs.length (Lib.byteCells bs)
theorem Bd.new (w : World) (B : Nat) (hB : B ≤ w.heap.size) : Bd (w.alloc (.cells #[.pointer none, .slice none 0 0] 71)) B w.heap.size (.slice none 0 0) false [] :=
  ⟨hB, heap_alloc_new w _, World.ownsRow_nil _ _ _ _⟩
theorem Bd.ne {w : World} {B b : Nat} {v : Value} {u : Bool} {bs : List UInt8} (h : Bd w B b v u bs) : v.ownBlock ≠ some b := Lib.ownBlock_ne h.2.2 h.2.1 (by decide)
theorem Bd.lt {w : World} {B b : Nat} {v : Value} {u : Bool} {bs : List UInt8} (h : Bd w B b v u bs) : b < w.heap.size := blk_lt h.2.1
theorem Bd.step {w w1 : World} {B b : Nat} {v : Value} {u : Bool} {bs : List UInt8} (h : Bd w B b v u bs) (h1 : w1.heap[b]? = w.heap[b]?) (h2 : ∀ k, v.ownBlock = some k → w1.heap[k]? = w.heap[k]?) : Bd w1 B b v u bs :=
  ⟨h.1, h1.trans h.2.1, own_move h.2.2 h2⟩
theorem Bd.below {w w1 : World} {B b : Nat} {v : Value} {u : Bool} {bs : List UInt8} (h : Bd w B b v u bs) (hb : Below w.heap.size w w1) : Bd w1 B b v u bs :=
  h.step (hb.block b h.lt) (fun k hk => hb.block k (own_lt h.2.2 k hk))
theorem Bd.drewN {w : World} {B b : Nat} {v : Value} {u : Bool} {bs : List UInt8} (h : Bd w B b v u bs) (n : Nat) : Bd (w.drewN n) B b v u bs := h
theorem Bd.far {w : World} {B b g t : Nat} {v : Value} {u : Bool} {bs : List UInt8} {cs : Array Value} {fr : Nat × Nat} (h : Bd w B b v u bs) (hg : w.heap[g]? = some (.cells cs t fr)) (h1 : t ≠ 71) (h2 : t ≠ 5) : g ≠ b ∧ some g ≠ v.ownBlock := by
  refine ⟨fun e => ?_, fun e => Lib.ownBlock_ne h.2.2 hg h2 e.symm⟩
  subst e
  rw [h.2.1] at hg
  simp only [Option.some.injEq, Obj.cells.injEq] at hg
  exact h1 hg.2.1.symm
def KeepT (w w' : World) : Prop := ∀ (g : Nat) (cs : Array Value) (t : TypeId) (fr : Nat × Nat), t ≠ 71 → t ≠ 5 → w.heap[g]? = some (.cells cs t fr) → w'.heap[g]? = some (.cells cs t fr)
theorem KeepT.refl (w : World) : KeepT w w := fun _ _ _ _ _ _ h => h
theorem KeepT.trans {a b c : World} (h : KeepT a b) (k : KeepT b c) : KeepT a c := fun g cs t fr h1 h2 h3 => k g cs t fr h1 h2 (h g cs t fr h1 h2 h3)
theorem KeepT.of_below {w w' : World} (h : Below w.heap.size w w') : KeepT w w' := fun g cs t fr _ _ h3 => blk_below h3 h
theorem Bd.keepT {w w' : World} {B b : Nat} {v : Value} {u : Bool} {bs : List UInt8} (h : Bd w B b v u bs) (hk : KeepBut w w' b v.ownBlock) : KeepT w w' := fun g cs t fr h1 h2 h3 => by
  obtain ⟨n1, n2⟩ := h.far h3 h1 h2
  exact (hk.2 g (blk_lt h3) n1 n2).trans h3
set_option maxHeartbeats 1000000 in
set_option maxRecDepth 100000 in
theorem copyCheck_used (b : Nat) (w : World) (h0 : w.cell? ⟨b, 0, none⟩ = some (.pointer (some ⟨b, 0, none⟩))) :
    Calls Try.prog 68 #[.pointer (some ⟨b, 0, none⟩)] w fun e w' => e = .returned (.tuple #[]) ∧ w' = w := by
  have sizeB : (Try.prog.info? 71).map (·.size) = some 2 := by kernel_rfl
  obtain ⟨j, hj, _⟩ := Option.map_eq_some_iff.1 sizeB
  go_enter Try.func68, Try.ntmps68
  go_wp2
  rw [Lib.run_neq_ptr_same w _ Try.underlying69 hj]
  go_wp2
  go_end0
  exact ⟨rfl, rfl⟩
set_option maxHeartbeats 1000000 in
set_option maxRecDepth 100000 in
theorem copyCheck_fresh (b : Nat) (w : World) (h0 : w.cell? ⟨b, 0, none⟩ = some (.pointer none)) (hsh : w.shape? b = some (71, 2)) (hfz : w.frozen? ⟨b, 0, none⟩ = false) :
    Calls Try.prog 68 #[.pointer (some ⟨b, 0, none⟩)] w fun e w' => e = .returned (.tuple #[]) ∧ w' = w.setCell ⟨b, 0, none⟩ (.pointer (some ⟨b, 0, none⟩)) := by
  have sizeB : (Try.prog.info? 71).map (·.size) = some 2 := by kernel_rfl
  have liesB : liesAt Try.prog Try.prog.depth 71 (2 / Try.prog.cellsOf 71) 0 71 1 = true := by kernel_rfl
  obtain ⟨j, hj, hjs⟩ := Option.map_eq_some_iff.1 sizeB
  go_enter Try.func68, Try.ntmps68
  go_wp2
  rw [Lib.run_to_unsafe w ⟨b, 0, none⟩ Try.underlying69 Try.underlying115 hj (by rw [hjs]; decide) hsh (Nat.zero_lt_succ 1)]
  simp only [Result.andThen]
  rw [Oper.upon_value]
  go_wp2
  rw [run_callFunc_extern Try.func104 (by kernel_rfl) (by kernel_rfl) (by kernel_rfl) (e := Extern.AbiNoEscape.same) (by kernel_rfl)]
  rw [Lib.run_noEscape]
  simp only [Result.andThen]
  rw [Oper.upon_value]
  go_wp2
  rw [Lib.run_from_unsafe w ⟨b, 0, none⟩ Try.underlying115 Try.underlying69 hj hsh liesB]
  simp only [Result.andThen]
  rw [Oper.upon_value]
  go_wp2
  go_end0
  exact ⟨rfl, rfl⟩
theorem copyCheck_any (B b : Nat) (v : Value) (u : Bool) (bs : List UInt8) (w : World) (h : Bd w B b v u bs) :
    Calls Try.prog 68 #[.pointer (some ⟨b, 0, none⟩)] w fun e w' => e = .returned (.tuple #[]) ∧ Bd w' B b v true bs ∧ Below B w w' ∧ KeepBut w w' b none := by
  cases u with
  | true =>
    refine (copyCheck_used b w ((blk_cell h.2.1 0).trans rfl)).mono ?_; rintro e w' ⟨rfl, rfl⟩; exact ⟨rfl, h, Below.refl _ _, KeepBut.refl _ _ _⟩
  | false =>
    refine (copyCheck_fresh b w ((blk_cell h.2.1 0).trans rfl) (by have := h.2.1; simp [World.shape?, this]) (blk_frozen h.2.1 0)).mono ?_; rintro e w' ⟨rfl, rfl⟩; refine ⟨rfl, ⟨h.1, blk_put h.2.1 0 _ rfl, own_move h.2.2 (fun k hk => Below.heap_setCell _ _ _ _ (fun e => h.ne (hk.trans (congrArg some e))))⟩, (Below.refl B w).setCell (p := ⟨b, 0, none⟩) h.1 _, KeepBut.set_ (KeepBut.refl _ _ _) _ _⟩
set_option maxHeartbeats 2000000 in
set_option maxRecDepth 100000 in
theorem WriteString_any (B b : Nat) (v : Value) (u : Bool) (bs : List UInt8) (s : ByteArray) (w : World) (h : Bd w B b v u bs) (hlen : bs.length + s.size ≤ 140737488355328) (hBw : B ≤ w.heap.size) :
    Calls Try.prog 35 #[.pointer (some ⟨b, 0, none⟩), .string s] w fun e w' => ∃ v', e = .returned (.tuple #[.int .i64 s.size, .nilIface]) ∧ Bd w' B b v' true (bs ++ s.data.toList) ∧ Below B w w' ∧ KeepBut w w' b v.ownBlock := by
  have infoB : (Try.prog.info? 5).map (fun i => (i.zero, i.size, i.bytes)) = some (some (.int .u8 0), 1, 1) := by kernel_rfl
  obtain ⟨i0, hi, hz0, hz1, hz2⟩ := info_parts infoB
  go_enter Try.func35, Try.ntmps35
  go_wp2_with (go_at_call 68; refine (copyCheck_any B b v u bs w h).mono ?_)
  rintro e w1 ⟨rfl, h1, hb1, hk1⟩
  obtain ⟨hB, hbk, hown⟩ := h1
  have hne := Bd.ne (u := true) ⟨hB, hbk, hown⟩
  have hlt := blk_lt hbk
  simp only [if_true] at hbk
  have c0 : w1.cell? ⟨b, 0, none⟩ = some (.pointer (some ⟨b, 0, none⟩)) := (blk_cell hbk 0).trans rfl
  have c1 : w1.cell? ⟨b, 1, none⟩ = some v := (blk_cell hbk 1).trans rfl
  go_wp2_with (at_builtin; refine Lib.wpList_append_own_string _ rfl _ _ 47 9 rfl B 5 i0 Try.underlying47 Try.underlying9 hi hz0 hz1 hz2 _ _ _ rfl hown s rfl ?c3 ?c4 ?c5 ?_)
  case c3 => unfold maxLen; omega
  case c4 => omega
  case c5 => have := hb1.size; omega
  intro v' w2 hown' hgrow hat
  have hb2 : w2.heap[b]? = some (.cells #[.pointer (some ⟨b, 0, none⟩), v] 71 (0, 0)) := blk_grown hbk hgrow (fun e => hne e.symm)
  have d0 : w2.cell? ⟨b, 0, none⟩ = some (.pointer (some ⟨b, 0, none⟩)) := (blk_cell hb2 0).trans rfl
  have d1 : w2.cell? ⟨b, 1, none⟩ = some v := (blk_cell hb2 1).trans rfl
  have f1 : w2.frozen? ⟨b, 1, none⟩ = false := blk_frozen hb2 1
  obtain ⟨ao, n', cap, rfl⟩ : ∃ ao n' cap, v' = .slice ao n' cap := by
    rcases hown'.2 with ⟨hv, _⟩ | ⟨g, cap, cur, hv, _⟩
    · exact ⟨_, _, _, hv⟩
    · exact ⟨_, _, _, hv⟩
  go_wp2
  go_ret2
  have hcells : Lib.byteCells (bs ++ s.data.toList) = Lib.byteCells bs ++ Lib.strCells s := by rw [Lib.byteCells_append, Lib.strCells_eq]
  have hl : (bs ++ s.data.toList).length = bs.length + s.size := by rw [List.length_append, Array.length_toList]; rfl
  have hown2 : w2.ownsRow B 5 1 (.slice ao n' cap) (bs ++ s.data.toList).length (Lib.byteCells (bs ++ s.data.toList)) := by rw [hcells, hl]; exact hown'
  have hne2 := Lib.ownBlock_ne hown2 hb2 (show (71 : Nat) ≠ 5 by decide)
  refine ⟨.slice ao n' cap, rfl, ⟨hB, blk_put hb2 1 _ rfl, own_move hown2 (fun k hk => Below.heap_setCell _ _ _ _ (fun e => hne2 (hk.trans (congrArg some e))))⟩, ?_, ?_⟩
  · exact (hb1.grown hgrow (by have := hb1.size; omega) (fun k hk => (hown.lt k hk).1)).setCell (p := ⟨b, 1, none⟩) hB _
  · refine ⟨Nat.le_trans hk1.1 (Nat.le_trans hgrow.size (by simp [World.setCell])), fun i hi h1 h2 => ?_⟩; rw [Below.heap_setCell _ _ _ _ h1, hgrow.block i (Nat.lt_of_lt_of_le hi hk1.1) h2]; exact hk1.2 i hi h1 (by simp)
set_option maxHeartbeats 2000000 in
set_option maxRecDepth 100000 in
theorem String_any (B b : Nat) (v : Value) (u : Bool) (l : List UInt8) (w : World) (h : Bd w B b v u l) (h0 : l ≠ []) :
    Calls Try.prog 44 #[.pointer (some ⟨b, 0, none⟩)] w fun e w' => e = .returned (.string ⟨l.toArray⟩) ∧ Below B w w' := by
  obtain ⟨hB, hbk, hown⟩ := h
  have cellsB : Try.prog.cellsOf 5 = 1 := by kernel_rfl
  have hl0 : l.length ≠ 0 := by simpa using h0
  obtain ⟨g, cap, cur, rfl, hbg, hg, hnc, hcm, hcs, htake⟩ : ∃ g cap cur, v = .slice (some ⟨g, 0, none⟩) l.length cap ∧ B ≤ g ∧ w.heap[g]? = some (.cells cur 5 (0, 0)) ∧ l.length ≤ cap ∧ cap ≤ maxLen ∧ cur.size = cap * 1 ∧ cur.toList.take (l.length * 1) = Lib.byteCells l := by
    rcases hown.2 with ⟨_, hz⟩ | ⟨g, cap, cur, hv, r⟩
    · exact absurd hz hl0
    · exact ⟨g, cap, cur, hv, r⟩
  have c1 : w.drew.cell? ⟨b, 1, none⟩ = some (.slice (some ⟨g, 0, none⟩) l.length cap) := (blk_cell (blk_drew hbk) 1).trans rfl
  have hSD : (Builtin.unsafeSliceData_ #[47] 101 #[.slice (some ⟨g, 0, none⟩) l.length cap]).run Try.prog w.drew = .ok (.pointer (some ⟨g, 0, none⟩)) w.drew :=
    Lib.run_unsafeSliceData_row _ _ _ _ _ _ (by omega)
  have hUS : (Builtin.unsafeString_ #[101, 3] 9 #[.pointer (some ⟨g, 0, none⟩), .int .i64 l.length]).run Try.prog w.drew = .ok (.string ⟨l.toArray⟩) (w.drew.freeze ⟨g, 0, none⟩ l.length) := by
    refine Lib.run_unsafeString_row w.drew 101 3 9 5 Try.underlying101 cellsB g cur.size (by have hg' : w.drew.heap[g]? = some (.cells cur 5 (0, 0)) := hg; simp [World.shape?, hg']) l h0 (by omega) (by unfold maxLen at hcm; omega) ?_; intro j x hx; exact hown.cells (g := g) rfl j (.int .u8 x.toNat) (by simp [Lib.byteCells, hx])
  go_enter Try.func44, Try.ntmps44
  go_wp2
  go_region
  all_goals (go_wp2; go_ret; exact ⟨rfl, Lib.below_freeze (Below.drew (Below.refl B w)) (p := ⟨g, 0, none⟩) hbg _⟩)
end Go.Proofs.Ytlmoafkmhenejaa.Bld
end
section
namespace Go.Proofs.YtlmoafkmhenejaaW.PrintWords
end Go.Proofs.YtlmoafkmhenejaaW.PrintWords
namespace Go.Proofs.YtlmoafkmhenejaaW.PrintLast
end Go.Proofs.YtlmoafkmhenejaaW.PrintLast
namespace Go.Proofs.YtlmoafkmhenejaaW.PrintMore
end Go.Proofs.YtlmoafkmhenejaaW.PrintMore
namespace Go.Proofs.Ytlmoafkmhenejaa.XW
end Go.Proofs.Ytlmoafkmhenejaa.XW
namespace Go.Proofs.Ytlmoafkmhenejaa.XA
open Go.RowKit Go.Proofs.YtlmoafkmhenejaaW.PrintWords Go.Proofs.YtlmoafkmhenejaaW.PrintLast Go.Proofs.YtlmoafkmhenejaaW.PrintMore Go.Proofs.Ytlmoafkmhenejaa.XW
attribute [local go_sem high] max2_str unary_xor_u32 leq_str geq_str gtr_str
attribute [local go_sem] max2_int min2_int max_two min_two max_three min_three max_four min_four   -- for this text's walks alone
set_option linter.unusedVariables false
set_option linter.unusedSimpArgs false
def errW : Option Int → Value
  | none => .nilIface
  | some c => .iface 0 (.int .i64 c)
theorem errW_none : errW none = .nilIface := rfl
theorem errW_some (c : Int) : errW (some c) = .iface 0 (.int .i64 c) := rfl
theorem info3 : (Try.prog.info? 3).map (fun i => (i.zero, i.size, i.bytes)) = some (some (.int .i64 0), 1, 8) := by kernel_rfl
theorem info5 : (Try.prog.info? 5).map (fun i => (i.zero, i.size, i.bytes)) = some (some (.int .u8 0), 1, 1) := by kernel_rfl
theorem info9 : (Try.prog.info? 9).map (fun i => (i.zero, i.size, i.bytes)) = some (some (.string ⟨#[]⟩), 1, 16) := by kernel_rfl
theorem info43 : (Try.prog.info? 43).map (fun i => (i.zero, i.size, i.bytes)) = some (some (.agg #[(.string ⟨#[]⟩), (.string ⟨#[]⟩), (.bool false), (.int .i64 0)]), 4, 48) := by kernel_rfl
structure S43 where
  f0 : ByteArray
  f1 : ByteArray
  f2 : Bool
  f3 : Int
def z43 : S43 := ⟨(⟨#[]⟩ : ByteArray), (⟨#[]⟩ : ByteArray), false, (0 : Int)⟩
def k43 : Kd S43 := Kd.iso (Kd.pair Kd.string (Kd.pair Kd.string (Kd.pair Kd.bool (Kd.int .i64)))) (fun x : S43 => (x.f0, x.f1, x.f2, x.f3))
theorem k43_open {w : World} {x : S43} {cs : List Value} (h : k43.K w x cs) : cs = [.string x.f0, .string x.f1, .bool x.f2, .int .i64 x.f3] := by
  obtain ⟨_, _, rfl, rfl, ⟨_, _, rfl, rfl, ⟨_, _, rfl, rfl, rfl⟩⟩⟩ := h
  exact rfl
theorem k43_mkM (w : World) (base : Nat) (ok : Nat → Prop) (x : S43)  : k43.M w base ok x [.string x.f0, .string x.f1, .bool x.f2, .int .i64 x.f3] := ⟨[.string x.f0], [.string x.f1, .bool x.f2, .int .i64 x.f3], rfl, rfl, ⟨[.string x.f1], [.bool x.f2, .int .i64 x.f3], rfl, rfl, ⟨[.bool x.f2], [.int .i64 x.f3], rfl, rfl, rfl⟩⟩⟩
def rd_T43 (xs : List S43) (i : Int) : S43 := xs.getD i.toNat z43
theorem at_T43 {w : World} {A : Option Addr} {n : Nat} {xs : List S43} (h : Kd.C k43 w A n xs) (i : Int) (h0 : 0 ≤ i) (h1 : i < n) : ∃ ad , A = some ad ∧ w.cell? (ad.add (i.toNat * 4)) = some (.string (rd_T43 xs i).f0) ∧ w.cell? ⟨(ad.add (i.toNat * 4)).block, (ad.add (i.toNat * 4)).off + 1, none⟩ = some (.string (rd_T43 xs i).f1) ∧ w.cell? ⟨(ad.add (i.toNat * 4)).block, (ad.add (i.toNat * 4)).off + 2, none⟩ = some (.bool (rd_T43 xs i).f2) ∧ w.cell? ⟨(ad.add (i.toNat * 4)).block, (ad.add (i.toNat * 4)).off + 3, none⟩ = some (.int .i64 (rd_T43 xs i).f3) := by
  obtain ⟨ad, c, e, _, hK, hc0⟩ := Kd.C_get h z43 i h0 h1
  have hc : ∀ j u, c[j]? = some u → w.cell? (ad.add (i.toNat * 4 + j)) = some u := hc0
  obtain rfl := k43_open hK
  exact ⟨ad, e, hc 0 _ rfl, by rw [← add_field _ _ 1 (by omega)]; exact hc 1 _ rfl, by rw [← add_field _ _ 2 (by omega)]; exact hc 2 _ rfl, by rw [← add_field _ _ 3 (by omega)]; exact hc 3 _ rfl⟩
end Go.Proofs.Ytlmoafkmhenejaa.XA
end
