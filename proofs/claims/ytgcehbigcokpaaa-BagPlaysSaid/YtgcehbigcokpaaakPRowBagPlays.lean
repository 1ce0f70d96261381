/- A bag has the document's letters -/
import Derived.Test.YtgcehbigcokpaaaRows
import Derived.Test.YtgcehbigcokpaaakPOpn
import Derived.Test.YtgcehbigcokpaaakPMBag20
import Derived.WalkKit
import Derived.ProofKit
import Derived.OpenShut
import Derived.ShutString
import Derived.ChangeOld
import Derived.Below
import Derived.SizedLaws
import Derived.Carry
namespace Go.Proofs.Ytgcehbigcokpaaa.Opn
end Go.Proofs.Ytgcehbigcokpaaa.Opn
namespace Go.Proofs.YtgcehbigcokpaaaW.PrintWords
end Go.Proofs.YtgcehbigcokpaaaW.PrintWords
namespace Go.Proofs.Ytgcehbigcokpaaa.XA
end Go.Proofs.Ytgcehbigcokpaaa.XA
namespace Go.Proofs.Ytgcehbigcokpaaa.rowBagPlays
open Go.ChangeShapes Go.WideShapes Go.ChangeAt Go.RowKit Go.Proofs.Ytgcehbigcokpaaa.Opn Go.Proofs.YtgcehbigcokpaaaW.PrintWords Go.Proofs.Ytgcehbigcokpaaa.XA
open Go.ChangeMaps (open_string shut_string)
set_option linter.unusedVariables false
theorem own : ownKnob Try.prog.godebug = none := by kernel_rfl
theorem laidOut : laidOutB Try.prog = true := by kernel_rfl
theorem opI3 : Opens Try.prog 3 (Kd.int .i64) (fun x => (Lit.int .i64 (x)).wf = true) := opens_int Try.underlying3 (by kernel_rfl)
theorem opS9 : Opens Try.prog 9 Kd.string (fun x => (x).size ≤ maxLen) := opens_string Try.underlying9 (by kernel_rfl)
theorem opT30 : Opens Try.prog 30 k30 (fun x => ((Lit.int .i64 (x.f0)).wf = true) ∧ ((Lit.int .i64 (x.f1)).wf = true) ∧ ((x.f2).size ≤ maxLen)) := opens_struct Try.underlying30 (by kernel_rfl) (opensF_cons (i := 0) rfl rfl opI3 (opensF_cons (i := 1) rfl rfl opI3 (opensF_last (i := 2) rfl rfl opS9))) (fun b => ⟨b.1, b.2.1, b.2.2⟩) (fun _ => rfl)
theorem opT48 : Opens Try.prog 48 k48 (fun z => (Lit.int .i64 z.f0).wf = true ∧ (Lit.int .i64 z.f1).wf = true ∧ (Lit.int .i64 z.f2).wf = true ∧ (Lit.int .i64 z.f3.f0).wf = true ∧ (Lit.int .i64 z.f3.f1).wf = true ∧ z.f3.f2.size ≤ maxLen) := opens_struct Try.underlying48 (by kernel_rfl) (opensF_cons (i := 0) rfl rfl opI3 (opensF_cons (i := 1) rfl rfl opI3 (opensF_cons (i := 2) rfl rfl opI3 (opensF_last (i := 3) rfl rfl opT30)))) (fun b => ⟨b.1, b.2.1, b.2.2.1, b.2.2.2⟩) (fun _ => rfl)
theorem opL38 : Opens Try.prog 38 (Kd.slice 48 k48) (fun l => l.length ≤ maxLen ∧ ∀ z ∈ l, (Lit.int .i64 z.f0).wf = true ∧ (Lit.int .i64 z.f1).wf = true ∧ (Lit.int .i64 z.f2).wf = true ∧ (Lit.int .i64 z.f3.f0).wf = true ∧ (Lit.int .i64 z.f3.f1).wf = true ∧ z.f3.f2.size ≤ maxLen) := opens_slice Try.underlying38 (by kernel_rfl) opT48
theorem top_ints2 {H : Type} {enc : TypeId × Value → H} {w : World} {base : Nat} {spare : Nat → Bool} {held : Bool} {cs : Array Value} {x : DataW H} {ps : List MemPlace} (h : DataW.Trod enc Try.prog w base spare held 37 (.agg cs) x ps) : ∃ a b : Int, cs = #[.int .i64 a, .int .i64 b] := by
  obtain ⟨l, ⟨hl, hcl, hK⟩, _, hok⟩ := top_agg (opens_array (n := 2) (d := Kd.int .i64) (hs := by decide) Try.underlying37 (by kernel_rfl) opI3) h
  match l, hl with
  | [a, b], _ =>
    have k0 : (cs.toList.drop 0).take 1 = [Value.int .i64 a] := hK 0 a rfl
    have k1 : (cs.toList.drop 1).take 1 = [Value.int .i64 b] := hK 1 b rfl
    refine ⟨a, b, ?_⟩
    have hcl' : cs.toList.length = 2 := hcl
    obtain ⟨m⟩ := cs
    match m, hcl' with
    | [p, q], _ => simp_all
set_option maxRecDepth 100000 in
theorem lifted (os : Os) (started : os.Started) (H : Type) (enc : TypeId × Value → H) :
    ReturnsInHanded {} Try.checked os 4 .any (Rows.bagPlaysSpec.pre6 enc Try.prog Try.f4 Rows.bagPlaysRow.domain false) (Rows.bagPlaysSpec.post enc Try.prog Try.f4 false true false false) := by
  refine returnsInHanded_of_change_sized (C := Try.checked) own started (by kernel_rfl) Try.func4
    (ChangeSpec.witness6 (enc := enc) (C := Try.checked) false ⟨#[], #[(.agg #[.int .i64 0, .int .i64 0]), .slice none 0 0], []⟩ 8 (by kernel_rfl) (by kernel_rfl) (by kernel_rfl) (by kernel_rfl)) ?_
  intro W base args ds gs before hval0 hW hcnd hsz0 _
  have hsz : (DataW.weightsEach Try.prog (Try.f4.params.toList ++ Rows.bagPlaysSpec.plain.varTypes Try.prog) (ds ++ gs)).all (· ≤ reachBytes) = true := hsz0
  have hval : ∀ (j : Nat) t v, Try.f4.params[j]? = some t → args[j]? = some v → Value.okWide Try.prog W .any base t v := hval0
  have hW' := hW
  obtain ⟨p, q, hA0, hV, rfl, hfz, hnd⟩ := hW
  have hA : DataW.TrodAll enc Try.prog W 0 (fun _ => true) true Try.f4.params.toList args.toList ds p := hA0
  rw [Try.params4] at hA hval hsz
  obtain ⟨v0, vs0, d0, ds0, p0, q0, hargs, rfl, rfl, h0, r0⟩ := trodAll_cons hA
  obtain ⟨v1, vs1, d1, ds1, p1, q1, hargs1, rfl, rfl, h1, r1⟩ := trodAll_cons r0
  obtain ⟨rfl, rfl, rfl⟩ := trodAll_nil r1
  obtain rfl : args = #[v0, v1] := by cases args; simp_all
  obtain ⟨rfl, rfl⟩ := trodVars_none hV
  have k0 := h0
  have lt0 : ∀ x ∈ p0, x.block < W.heap.size := by obtain ⟨m, hm⟩ := k0; exact DataW.trod_lt m _ _ _ hm
  obtain ⟨cs0, rfl, _⟩ := okWide_array Try.underlying37 (hval 0 37 v0 rfl rfl)
  obtain ⟨b0_0, b0_1, rfl⟩ := top_ints2 h0
  have k1 := h1
  have lt1 : ∀ x ∈ p1, x.block < W.heap.size := by obtain ⟨m, hm⟩ := k1; exact DataW.trod_lt m _ _ _ hm
  obtain ⟨a1, len1, cap1, rfl⟩ := okWide_slice Try.underlying38 (hval 1 38 v1 rfl rfl)
  obtain ⟨l1, rfl, hC1, hl1, w1⟩ := top_slice opL38 h1
  clear hA0 hval0 hsz0 hsz
  refine (XA.law_plays b0_0 b0_1 a1 cap1 l1  hC1 hl1 w1).mono ?_
  rintro e W' ⟨rfl, bel⟩
  exact ⟨_, rfl, _, _, _, [], _, [], hW', trodAll_mk1 (shut_bool Try.underlying4 _), (trodAll_cons_mk (Below.trod laidOut (by kernel_rfl) (of_decide_eq_true (by kernel_rfl)) k0 bel lt0) (trodAll_cons_mk (Below.trod laidOut (by kernel_rfl) (of_decide_eq_true (by kernel_rfl)) k1 bel lt1) trodAll_mk0)), rfl, bel.frame _, fun h => by cases h⟩
theorem over : Rows.bagPlaysRow.holds Try.pinned (OpenSpec.ofChange Rows.bagPlaysSpec) :=
  OpenClaim.holds_of_wide 4 Try.f4 rfl rfl rfl rfl rfl rfl rfl ⟨rfl, rfl, rfl, rfl, rfl⟩ rfl rfl rfl rfl rfl (by kernel_rfl) Try.func4 (by kernel_rfl)
    (of_decide_eq_true (by kernel_rfl)) (by unfold Func.isWrapper; first | (rw [if_pos (by decide +kernel)]; kernel_rfl) | (rw [if_neg (by decide +kernel)]; exact ⟨rfl, rfl⟩))
    (fun os started H enc _ => lifted os started H enc)
end Go.Proofs.Ytgcehbigcokpaaa.rowBagPlays
namespace Go.Proofs.Ytgcehbigcokpaaa
theorem rowBagPlays_holds : Rows.BagPlaysSaid := rowBagPlays.over
end Go.Proofs.Ytgcehbigcokpaaa
