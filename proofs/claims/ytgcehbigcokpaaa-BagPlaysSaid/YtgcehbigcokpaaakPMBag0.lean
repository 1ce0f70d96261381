import Derived.Test.YtgcehbigcokpaaakPXAx0
import Derived.MapKept
import Derived.Maps.OwnOps
import Derived.StillTailTactics
import Derived.Deep.QuietTactic
import Derived.BigQuiet
import Derived.Outline
namespace Go.Proofs.YtgcehbigcokpaaaW.PrintWords
end Go.Proofs.YtgcehbigcokpaaaW.PrintWords
namespace Go.Proofs.YtgcehbigcokpaaaW.PrintLast
end Go.Proofs.YtgcehbigcokpaaaW.PrintLast
namespace Go.Proofs.YtgcehbigcokpaaaW.PrintMore
end Go.Proofs.YtgcehbigcokpaaaW.PrintMore
namespace Go.Proofs.Ytgcehbigcokpaaa.XW
end Go.Proofs.Ytgcehbigcokpaaa.XW
namespace Go.Proofs.Ytgcehbigcokpaaa.XA
open Go.RowKit Go.Proofs.YtgcehbigcokpaaaW.PrintWords Go.Proofs.YtgcehbigcokpaaaW.PrintLast Go.Proofs.YtgcehbigcokpaaaW.PrintMore Go.Proofs.Ytgcehbigcokpaaa.XW
open Go.MapKept
set_option linter.unusedVariables false
def upd (m : Int → List S30) (k : Int) (l : List S30) : Int → List S30 := fun j => if j = k then l else m j
theorem upd_same (m : Int → List S30) (k : Int) (l : List S30) : upd m k l k = l := if_pos rfl
theorem upd_other (m : Int → List S30) {k j : Int} (l : List S30) (h : j ≠ k) : upd m k l j = m j := if_neg h
def MapAt (w : World) (b0 q : Nat) (m : Int → List S30) : Prop :=
  ∃ es clock, w.heap[q]? = some (.map es clock) ∧ (∀ x ∈ es.toList, ∃ k, x.key = .int .i64 k ∧ Kd.R k30 30 w b0 (fun _ => True) x.val (m k)) ∧ (es.toList.map (·.key)).Nodup ∧
    (∀ k, (∀ x ∈ es.toList, x.key ≠ .int .i64 k) → m k = []) ∧ (∀ x ∈ es.toList, ∀ y ∈ es.toList, x.key ≠ y.key → x.val.ownBlock = none ∨ x.val.ownBlock ≠ y.val.ownBlock)
theorem MapAt.keys {es : Array MapEntry} {w : World} {b0 : Nat} {m : Int → List S30} (h : ∀ x ∈ es.toList, ∃ k, x.key = .int .i64 k ∧ Kd.R k30 30 w b0 (fun _ => True) x.val (m k)) : ∀ x ∈ es.toList, IsKey (.int .i64) x.key := by
  intro x hx
  obtain ⟨k, hk, _⟩ := h x hx
  rw [hk]; rfl
theorem k30_E : k30.E = [] := rfl
theorem row_ne_map {w : World} {b0 : Nat} {v : Value} {l : List S30} {q : Nat} {es : Array MapEntry} {clock : Nat} (h : Kd.R k30 30 w b0 (fun _ => True) v l) (hq : w.heap[q]? = some (.map es clock)) : ∀ k, some q = some k → some k ≠ v.ownBlock := by
  intro k hk e
  injection hk with hk
  subst hk
  obtain ⟨cells, hc⟩ := Kd.R_typed h q e.symm
  rw [hq] at hc
  cases hc
theorem nodup_inj {es : Array MapEntry} (h : (es.toList.map (·.key)).Nodup) {i j : Nat} {x y : MapEntry} (hi : es.toList[i]? = some x) (hj : es.toList[j]? = some y) (e : x.key = y.key) : i = j := by
  have hi' : (es.toList.map (·.key))[i]? = some x.key := by rw [List.getElem?_map, hi]; rfl
  have hj' : (es.toList.map (·.key))[j]? = some y.key := by rw [List.getElem?_map, hj]; rfl
  rw [← e] at hj'
  have li : i < (es.toList.map (·.key)).length := (List.getElem?_eq_some_iff.1 hi').1
  exact (List.getElem?_inj li h).1 (hi'.trans hj'.symm)
structure BFr (w w' : World) : Prop where
  os : w'.os = w.os
  tape : w'.tape = w.tape
  output : w'.output = w.output
  size : w.heap.size ≤ w'.heap.size
  block : ∀ (k : Nat) (o : Obj), w.heap[k]? = some o → (∀ c f, o ≠ .cells c 30 f) → (∀ es cl, o ≠ .map es cl) → w'.heap[k]? = some o
theorem BFr.trans {a b c : World} (h : BFr a b) (k : BFr b c) : BFr a c :=
  ⟨k.os.trans h.os, k.tape.trans h.tape, k.output.trans h.output, Nat.le_trans h.size k.size, fun i o h1 h2 h3 => k.block i o (h.block i o h1 h2 h3) h2 h3⟩
theorem BFr.of_below {a b : World} (h : Below a.heap.size a b) : BFr a b := ⟨h.os, h.tape, h.output, h.size, fun k o h1 _ _ => blk_below h1 h⟩
theorem BFr.of_row {a b : World} {b0 : Nat} {v : Value} {l : List S30} (hR : Kd.R k30 30 a b0 (fun _ => True) v l) (h : a.grownBy b v.ownBlock) : BFr a b :=
  ⟨h.os, h.tape, h.output, h.size, fun k o h1 h2 _ => (h.block k (blk_lt h1) (fun e => by
    obtain ⟨cells, hc⟩ := Kd.R_typed hR k e.symm
    rw [h1] at hc
    exact h2 cells (0, 0) (Option.some.inj hc))).trans h1⟩
theorem BFr.of_map {a b : World} {q : Nat} {es : Array MapEntry} {cl : Nat} (hq : a.heap[q]? = some (.map es cl)) (h : a.grownBy b (some q)) : BFr a b :=
  ⟨h.os, h.tape, h.output, h.size, fun k o h1 _ h3 => (h.block k (blk_lt h1) (fun e => by
    injection e with e
    subst e
    rw [h1] at hq
    exact h3 es cl (Option.some.inj hq))).trans h1⟩
def MapNot (w : World) (q gb : Nat) : Prop := ∀ es cl, w.heap[q]? = some (.map es cl) → ∀ x ∈ es.toList, x.val.ownBlock ≠ some gb
def LookAt (P : Program) (t : TypeId) (w : World) (b0 q : Nat) (m : Int → List S30) (k : Int) (v : Value) : Prop :=
  (∀ w' : World, w'.heap[q]? = w.heap[q]? → (Instr.lookup t (.map (some q)) (.int .i64 k) false).run P w' = .ok v w') ∧ Kd.R k30 30 w b0 (fun _ => True) v (m k) ∧ q < w.heap.size ∧
    ∀ (w1 : World) (v1 : Value) (l1 : List S30), w.grownBy w1 v.ownBlock → (v1.ownBlock = none ∨ v1.ownBlock = v.ownBlock ∨ ∃ b, v1.ownBlock = some b ∧ w.heap.size ≤ b) → Kd.R k30 30 w1 b0 (fun _ => True) v1 l1 →
      ∃ w2, (Instr.mapUpdate t (.map (some q)) (.int .i64 k) v1).run P w1 = .ok () w2 ∧ MapAt w2 b0 q (upd m k l1) ∧ w1.grownBy w2 (some q) ∧ BFr w1 w2 ∧ ∀ gb, MapNot w q gb → v1.ownBlock ≠ some gb → MapNot w2 q gb
theorem LookAt.below {P : Program} {t : TypeId} {w w1 : World} {b0 q : Nat} {m : Int → List S30} {k : Int} {v : Value} (h : LookAt P t w b0 q m k v) (hb : Below w.heap.size w w1) : LookAt P t w1 b0 q m k v := by
  obtain ⟨h1, h2, h3, h4⟩ := h
  refine ⟨fun w' hw' => h1 w' (hw'.trans (hb.block q h3)), Kd.R_below h2 hb, Nat.lt_of_lt_of_le h3 hb.size, fun w2 v1 l1 hg hat hR => ?_⟩
  have hat' : v1.ownBlock = none ∨ v1.ownBlock = v.ownBlock ∨ ∃ b, v1.ownBlock = some b ∧ w.heap.size ≤ b := by
    rcases hat with h | h | ⟨b, h, hle⟩
    · exact .inl h
    · exact .inr (.inl h)
    · exact .inr (.inr ⟨b, h, Nat.le_trans hb.size hle⟩)
  obtain ⟨w3, g1, g2, g3, g4, g5⟩ := h4 w2 v1 l1 ((grown_of_below hb _).trans hg) hat' hR
  exact ⟨w3, g1, g2, g3, g4, fun gb hn => g5 gb (fun es cl hq => hn es cl ((hb.block q h3).trans hq))⟩
theorem MapAt.look {P : Program} {w : World} {b0 q : Nat} {m : Int → List S30} (h : MapAt w b0 q m) {t kt et : TypeId} (ht : P.underlying t = some (.map kt et)) (hkt : P.underlying kt = some (.int .i64)) (hz : ∀ w, (zeroValue et).run P w = .ok (.slice none 0 0) w) (k : Int) :
    ∃ v, LookAt P t w b0 q m k v ∧ ∀ gb, MapNot w q gb → v.ownBlock ≠ some gb := by
  obtain ⟨es, clock, hq, hes, hnd, hmiss, hap⟩ := h
  have hkey : IsKey (.int .i64) (.int .i64 k) := rfl
  have hks := MapAt.keys hes
  -- what lies at other places stays
  have stay : ∀ (v : Value) (w1 : World) (v1 : Value) (l1 : List S30), (∀ x ∈ es.toList, x.key ≠ .int .i64 k → x.val.ownBlock = none ∨ x.val.ownBlock ≠ v.ownBlock) → w.grownBy w1 v.ownBlock → Kd.R k30 30 w1 b0 (fun _ => True) v1 l1 → ∀ x ∈ es.toList, x.key ≠ .int .i64 k → ∃ j, x.key = .int .i64 j ∧ Kd.R k30 30 w1 b0 (fun _ => True) x.val (upd m k l1 j) := by
    intro v w1 v1 l1 hv hg _ x hx hne
    obtain ⟨j, hj, hR⟩ := hes x hx
    refine ⟨j, hj, ?_⟩
    rw [upd_other _ _ (fun e => hne (by rw [hj, e]))]
    exact Kd.R_grown2 hR k30_E hg (fun g hg' e => by
      rcases hv x hx hne with h | h
      · rw [h] at e; cases e
      · exact h (by rw [← e, ← hg']))
  have lt_old : ∀ x ∈ es.toList, ∀ b, x.val.ownBlock = some b → b < w.heap.size := by
    intro x hx b hb
    obtain ⟨j, _, hR⟩ := hes x hx
    exact Kd.R_lt hR b hb
  have apart1 : ∀ (v v1 : Value), (∀ x ∈ es.toList, x.key ≠ .int .i64 k → x.val.ownBlock = none ∨ x.val.ownBlock ≠ v.ownBlock) → (v1.ownBlock = none ∨ v1.ownBlock = v.ownBlock ∨ ∃ b, v1.ownBlock = some b ∧ w.heap.size ≤ b) → ∀ x ∈ es.toList, x.key ≠ .int .i64 k → (x.val.ownBlock = none ∨ x.val.ownBlock ≠ v1.ownBlock) ∧ (v1.ownBlock = none ∨ v1.ownBlock ≠ x.val.ownBlock) := by
    intro v v1 hv hat x hx hne
    have key : x.val.ownBlock = none ∨ x.val.ownBlock ≠ v1.ownBlock := by
      rcases hat with h1 | h1 | ⟨b, h1, h2⟩
      · cases hxo : x.val.ownBlock with
        | none => exact .inl rfl
        | some b => exact .inr (by rw [h1]; simp)
      · rw [h1]; exact hv x hx hne
      · cases hxo : x.val.ownBlock with
        | none => exact .inl rfl
        | some b' =>
          refine .inr (fun e => ?_)
          rw [h1] at e
          injection e with e
          have := lt_old x hx b' hxo
          omega
    refine ⟨key, ?_⟩
    cases hv1 : v1.ownBlock with
    | none => exact .inl rfl
    | some b =>
      refine .inr (fun e => ?_)
      rcases key with h | h
      · rw [h] at e; cases e
      · exact h (e.symm.trans hv1.symm)
  have hlook : ∀ a, Instr.findNow (.int .i64) (.int .i64 k) es.toList 0 = some a → ∀ w1, (Instr.findKey kt (.int .i64 k) es.toList).run P w1 = .ok a w1 := fun a ha w1 => run_findKey hkt ha
  rcases findNow_spec hkey es.toList 0 hks with ⟨hf, hno⟩ | ⟨j, e, hf, hj, hej⟩
  · refine ⟨.slice none 0 0, ⟨?_, ?_, blk_lt hq, ?_⟩, fun gb _ => by simp [Value.ownBlock]⟩
    · intro w' hw'
      simp [Instr.lookup, run_underlying ht, Go.MapKept.run_getObj_map (hw'.trans hq), run_checkKey hkt hkey es.isEmpty 9999, hlook _ hf w', hz]
    · rw [hmiss k hno]; exact Kd.R_nil _ _ _ _ _
    · intro w1 v1 l1 hg hat hR
      have hv : ∀ x ∈ es.toList, x.key ≠ .int .i64 k → x.val.ownBlock = none ∨ x.val.ownBlock ≠ (Value.slice none 0 0).ownBlock := by
        intro x hx _
        cases hxo : x.val.ownBlock with
        | none => exact .inl rfl
        | some b => exact .inr (by simp [Value.ownBlock])
      have hq1 : w1.heap[q]? = some (.map es clock) := (hg.block q (blk_lt hq) (by simp [Value.ownBlock])).trans hq
      refine ⟨{ w1 with heap := w1.heap.setIfInBounds q (.map (es.push { key := .int .i64 k, val := v1, born := clock }) (clock + 1)) }, ?_, ?_, ?_⟩
      · simp [Instr.mapUpdate, run_underlying ht, Go.MapKept.run_getObj_map hq1, run_checkKey hkt hkey false 9999, hlook _ hf w1, Go.MapKept.run_setObj_map _ hq1]
      · have hg2 : w1.grownBy { w1 with heap := w1.heap.setIfInBounds q (.map (es.push { key := .int .i64 k, val := v1, born := clock }) (clock + 1)) } (some q) := ⟨rfl, rfl, rfl, by simp, fun i _ hi => (heap_set hq1).2 i (fun e => hi (by rw [e]))⟩
        refine ⟨_, _, (heap_set hq1).1, ?_, ?_, ?_, ?_⟩
        · intro x hx
          rw [Array.toList_push, List.mem_append, List.mem_singleton] at hx
          rcases hx with hx | rfl
          · obtain ⟨j', h1, h2⟩ := stay _ w1 v1 l1 hv hg hR x hx (hno x hx)
            exact ⟨j', h1, Kd.R_grown2 h2 k30_E hg2 (row_ne_map h2 hq1)⟩
          · refine ⟨k, rfl, ?_⟩
            rw [upd_same]
            exact Kd.R_grown2 hR k30_E hg2 (row_ne_map hR hq1)
        · rw [Array.toList_push, List.map_append, List.map_cons, List.map_nil]
          refine List.nodup_append.2 ⟨hnd, by simp, ?_⟩
          intro a ha b hb
          rw [List.mem_singleton] at hb
          subst hb
          obtain ⟨x, hx, rfl⟩ := List.mem_map.1 ha
          exact hno x hx
        · intro k' hk'
          have h1 : k' ≠ k := fun e => hk' { key := .int .i64 k, val := v1, born := clock } (by simp) (by rw [e])
          rw [upd_other _ _ h1]
          exact hmiss k' (fun x hx => hk' x (by rw [Array.toList_push]; exact List.mem_append_left _ hx))
        · intro x hx y hy hne
          rw [Array.toList_push, List.mem_append, List.mem_singleton] at hx hy
          rcases hx with hx | rfl <;> rcases hy with hy | rfl
          · exact hap x hx y hy hne
          · exact (apart1 _ v1 hv hat x hx (hno x hx)).1
          · exact (apart1 _ v1 hv hat y hy (hno y hy)).2
          · exact absurd rfl hne
      · have hg2 : w1.grownBy { w1 with heap := w1.heap.setIfInBounds q (.map (es.push { key := .int .i64 k, val := v1, born := clock }) (clock + 1)) } (some q) := ⟨rfl, rfl, rfl, by simp, fun i _ hi => (heap_set hq1).2 i (fun e => hi (by rw [e]))⟩
        refine ⟨hg2, BFr.of_map hq1 hg2, fun gb hn hv1 es2 cl2 hq2 x hx => ?_⟩
        have hq2' := (heap_set (o' := .map (es.push { key := .int .i64 k, val := v1, born := clock }) (clock + 1)) hq1).1.symm.trans hq2
        injection hq2' with hq2'
        injection hq2' with he2 _
        subst he2
        rw [Array.toList_push, List.mem_append, List.mem_singleton] at hx
        rcases hx with hx | rfl
        · exact hn es clock hq x hx
        · exact hv1
  · rw [Nat.zero_add] at hf
    have hm : e ∈ es.toList := List.mem_of_getElem? hj
    have hRe : Kd.R k30 30 w b0 (fun _ => True) e.val (m k) := by
      obtain ⟨k', h1, h2⟩ := hes e hm
      rw [hej] at h1
      injection h1 with _ h1
      rw [h1]; exact h2
    have hv : ∀ x ∈ es.toList, x.key ≠ .int .i64 k → x.val.ownBlock = none ∨ x.val.ownBlock ≠ e.val.ownBlock := fun x hx hne => hap x hx e hm (by rw [hej]; exact hne)
    have hja : es[j]? = some e := by rw [← Array.getElem?_toList]; exact hj
    refine ⟨e.val, ⟨?_, hRe, blk_lt hq, ?_⟩, fun gb hn => hn es clock hq e hm⟩
    · intro w' hw'
      simp [Instr.lookup, run_underlying ht, Go.MapKept.run_getObj_map (hw'.trans hq), run_checkKey hkt hkey es.isEmpty 9999, hlook _ hf w']
    · intro w1 v1 l1 hg hat hR
      have hq1 : w1.heap[q]? = some (.map es clock) := (hg.block q (blk_lt hq) (fun e1 => row_ne_map hRe hq q rfl e1)).trans hq
      have hks1 : (Instr.keyThatStays ((es[j]?.map (·.key)).getD (.int .i64 k)) (.int .i64 k)).run P w1 = .ok (.int .i64 k) w1 := by
        rw [hja]
        show (Instr.keyThatStays e.key (.int .i64 k)).run P w1 = _
        rw [hej]; exact run_keyThatStays hkey
      have hg2 : w1.grownBy { w1 with heap := w1.heap.setIfInBounds q (.map (es.modify j fun e => { e with key := .int .i64 k, val := v1 }) clock) } (some q) := ⟨rfl, rfl, rfl, by simp, fun i _ hi => (heap_set hq1).2 i (fun e => hi (by rw [e]))⟩
      have hmem : ∀ x ∈ (es.modify j fun e => { e with key := .int .i64 k, val := v1 }).toList, (x ∈ es.toList ∧ x.key ≠ .int .i64 k) ∨ (x.key = .int .i64 k ∧ x.val = v1) := by
        intro x hx
        obtain ⟨i, hi⟩ := List.getElem?_of_mem hx
        rw [Array.getElem?_toList, Array.getElem?_modify] at hi
        by_cases c : j = i
        · subst c
          rw [if_pos rfl, hja] at hi
          have := (Option.some.inj hi).symm
          exact .inr ⟨by rw [this], by rw [this]⟩
        · rw [if_neg c] at hi
          have hi' : es.toList[i]? = some x := by rw [Array.getElem?_toList]; exact hi
          exact .inl ⟨List.mem_of_getElem? hi', fun e1 => c (nodup_inj hnd hj hi' (hej.trans e1.symm))⟩
      refine ⟨_, ?_, ?_, hg2, BFr.of_map hq1 hg2, fun gb hn hv1 es2 cl2 hq2 x hx => by
        have hq2' := (heap_set (o' := .map (es.modify j fun e => { e with key := .int .i64 k, val := v1 }) clock) hq1).1.symm.trans hq2
        injection hq2' with hq2'
        injection hq2' with he2 _
        subst he2
        rcases hmem x hx with ⟨h1, _⟩ | ⟨_, h2⟩
        · exact hn es clock hq x h1
        · rw [h2]; exact hv1⟩
      · have hks2 : (Instr.keyThatStays e.key (.int .i64 k)).run P w1 = .ok (.int .i64 k) w1 := by rw [hej]; exact run_keyThatStays hkey
        simp [Instr.mapUpdate, run_underlying ht, Go.MapKept.run_getObj_map hq1, run_checkKey hkt hkey false 9999, hlook _ hf w1, hja, hks2, Go.MapKept.run_setObj_map _ hq1]
      · refine ⟨_, _, (heap_set hq1).1, ?_, ?_, ?_, ?_⟩
        · intro x hx
          rcases hmem x hx with ⟨h1, h2⟩ | ⟨h1, h2⟩
          · obtain ⟨j', h3, h4⟩ := stay _ w1 v1 l1 hv hg hR x h1 h2
            exact ⟨j', h3, Kd.R_grown2 h4 k30_E hg2 (row_ne_map h4 hq1)⟩
          · refine ⟨k, h1, ?_⟩
            rw [upd_same, h2]
            exact Kd.R_grown2 hR k30_E hg2 (row_ne_map hR hq1)
        · rw [modify_keys j _ (fun x hx => by rw [hja] at hx; rw [← Option.some.inj hx, hej])]
          exact hnd
        · intro k' hk'
          have h1 : k' ≠ k := fun e1 => hk' { e with key := .int .i64 k, val := v1 } (by
            refine List.mem_of_getElem? (i := j) ?_
            rw [Array.getElem?_toList, Array.getElem?_modify, if_pos rfl, hja]; rfl) (by rw [e1])
          rw [upd_other _ _ h1]
          refine hmiss k' (fun x hx e1 => ?_)
          obtain ⟨i, hi⟩ := List.getElem?_of_mem hx
          by_cases c : j = i
          · subst c
            rw [hj] at hi
            rw [← Option.some.inj hi, hej] at e1
            injection e1 with _ e1
            exact h1 e1.symm
          · exact hk' x (by
              refine List.mem_of_getElem? (i := i) ?_
              rw [Array.getElem?_toList, Array.getElem?_modify, if_neg c, ← Array.getElem?_toList]; exact hi) e1
        · intro x hx y hy hne
          rcases hmem x hx with ⟨h1, h2⟩ | ⟨h1, h2⟩ <;> rcases hmem y hy with ⟨h3, h4⟩ | ⟨h3, h4⟩
          · exact hap x h1 y h3 hne
          · rw [h4]; exact (apart1 _ v1 hv hat x h1 h2).1
          · rw [h2]; exact (apart1 _ v1 hv hat y h3 h4).2
          · exact absurd (h1.trans h3.symm) hne
theorem MapAt.below {w w1 : World} {b0 q : Nat} {m : Int → List S30} (h : MapAt w b0 q m) (hb : Below w.heap.size w w1) : MapAt w1 b0 q m := by
  obtain ⟨es, clock, h1, h2, h3, h4, h5⟩ := h
  refine ⟨es, clock, blk_below h1 hb, fun x hx => ?_, h3, h4, h5⟩
  obtain ⟨k, hk, hR⟩ := h2 x hx
  exact ⟨k, hk, Kd.R_below hR hb⟩
theorem MapAt.new (w : World) (b0 : Nat) : MapAt (w.alloc (.map #[] 0)) b0 w.heap.size (fun _ => []) :=
  ⟨#[], 0, heap_alloc_new w _, by simp, by simp, fun _ _ => rfl, by simp⟩
theorem MapAt.not_new {w : World} {b0 q : Nat} {m : Int → List S30} (h : MapAt w b0 q m) (gb : Nat) (hgb : w.heap.size ≤ gb) : MapNot w q gb := by
  obtain ⟨es, clock, h1, h2, h3, h4, h5⟩ := h
  intro es2 cl2 hq2 x hx e
  rw [h1] at hq2
  injection hq2 with hq2
  injection hq2 with he _
  subst he
  obtain ⟨k, _, hR⟩ := h2 x hx
  have := Kd.R_lt hR gb e
  omega
theorem MapAt.far {w : World} {b0 q gb : Nat} {m : Int → List S30} (h : MapAt w b0 q m) (hn : MapNot w q gb) (hq : gb ≠ q) (j : Nat) (u : Value) : MapAt (w.setCell ⟨gb, j, none⟩ u) b0 q m := by
  obtain ⟨es, clock, h1, h2, h3, h4, h5⟩ := h
  refine ⟨es, clock, (Below.heap_setCell w ⟨gb, j, none⟩ u q (fun e => hq e.symm)).trans h1, fun x hx => ?_, h3, h4, h5⟩
  obtain ⟨k, hk, hR⟩ := h2 x hx
  refine ⟨k, hk, Kd.R_mono (Kd.R_far (Kd.R_tight rfl hR) (p := ⟨gb, j, none⟩) (fun k hk e => ?_) u) (fun _ _ => trivial)⟩
  exact hn es clock h1 x hx (by rw [← hk, e])
theorem MapNot.far {w : World} {q gb : Nat} (h : MapNot w q gb) (hq : gb ≠ q) (j : Nat) (u : Value) : MapNot (w.setCell ⟨gb, j, none⟩ u) q gb := fun es cl he => h es cl ((Below.heap_setCell w ⟨gb, j, none⟩ u q (fun e => hq e.symm)).symm.trans he)
def NotIn (w : World) (g k : Nat) : Prop := ∀ q V, w.heap[g]? = some (.cells #[.map (some q), V] 60 (0, 0)) → k ≠ q ∧ MapNot w q k
def Bag (w : World) (b0 g : Nat) (ps : List Int) (m : Int → List S30) : Prop :=
  ∃ q V, w.heap[g]? = some (.cells #[.map (some q), V] 60 (0, 0)) ∧ b0 ≤ g ∧ b0 ≤ q ∧ Kd.R (Kd.int .i64) 3 w b0 (fun _ => True) V ps ∧ MapAt w b0 q m
theorem Bag.below {w w1 : World} {b0 g : Nat} {ps : List Int} {m : Int → List S30} (h : Bag w b0 g ps m) (hb : Below w.heap.size w w1) : Bag w1 b0 g ps m := by
  obtain ⟨q, V, h1, h2, h3, h4, h5⟩ := h
  exact ⟨q, V, blk_below h1 hb, h2, h3, Kd.R_below h4 hb, h5.below hb⟩
theorem MapAt.at {w : World} {b0 q : Nat} {m : Int → List S30} (h : MapAt w b0 q m) : ∃ es cl, w.heap[q]? = some (.map es cl) := by
  obtain ⟨es, cl, hq, _⟩ := h
  exact ⟨es, cl, hq⟩
theorem BFr.ints {w w1 : World} {base : Nat} {V : Value} {ps : List Int} (h : BFr w w1) (hR : Kd.R (Kd.int .i64) 3 w base (fun _ => True) V ps) : Kd.R (Kd.int .i64) 3 w1 base (fun _ => True) V ps :=
  Kd.R_mono (Kd.R_move (Kd.R_tight rfl hR) (fun k hk => by
    obtain ⟨cells, hc⟩ := Kd.R_typed hR k hk.symm
    rw [hc]
    exact h.block k _ hc (fun c f e => by cases e) (fun es cl e => by cases e))) (fun _ _ => trivial)
theorem Bag.put {w w1 w2 : World} {b0 g q : Nat} {V : Value} {ps : List Int} {m' : Int → List S30} (hg : w.heap[g]? = some (.cells #[.map (some q), V] 60 (0, 0))) (h1 : b0 ≤ g) (h2 : b0 ≤ q) (hV : Kd.R (Kd.int .i64) 3 w b0 (fun _ => True) V ps) (hf : BFr w w1) (hf2 : BFr w1 w2) (hm : MapAt w2 b0 q m') : Bag w2 b0 g ps m' :=
  ⟨q, V, (hf.trans hf2).block g _ hg (fun c f e => by cases e) (fun es cl e => by cases e), h1, h2, (hf.trans hf2).ints hV, hm⟩
theorem Bag.not_new {w : World} {b0 g : Nat} {ps : List Int} {m : Int → List S30} (h : Bag w b0 g ps m) (o : Obj) : NotIn (w.alloc o) g w.heap.size := by
  obtain ⟨q, V, h1, h2, h3, h4, h5⟩ := h
  intro q' V' h'
  have h1' := (blk_alloc h1 o).symm.trans h'
  injection h1' with h1'
  injection h1' with h1' _ _
  have hq : q = q' := by
    have := congrArg (fun a => a[0]?) h1'
    simp at this
    exact this
  subst hq
  obtain ⟨es, cl, hq⟩ := h5.at
  have hlt := blk_lt hq
  refine ⟨by omega, fun es2 cl2 hq2 => ?_⟩
  exact h5.not_new w.heap.size (Nat.le_refl _) es2 cl2 ((Below.heap_alloc w o q hlt).symm.trans hq2)
end Go.Proofs.Ytgcehbigcokpaaa.XA
