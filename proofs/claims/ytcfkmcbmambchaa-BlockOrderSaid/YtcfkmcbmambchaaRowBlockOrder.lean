/- Entries stand in one order (BlockOrder): for any three entries the statement's function returns true. -/
import Derived.Test.YtcfkmcbmambchaaRows
import Derived.Test.YtcfkmcbmambchaaXAx17
import Derived.Test.YtcfkmcbmambchaaOpn
import Derived.Test.YtcfkmcbmambchaaXPureBlockOrder
import Derived.WalkKit
import Derived.ProofKit
import Derived.OpenShut
import Derived.ShutString
import Derived.ChangeOld
import Derived.Below
import Derived.SizedLaws
import Derived.Carry
namespace Go.Proofs.Ytcfkmcbmambchaa.rowBlockOrder
open Go.ChangeShapes Go.WideShapes Go.ChangeAt Go.RowKit Go.Proofs.Ytcfkmcbmambchaa.Opn Go.Proofs.Ytcfkmcbmambchaa.XA Go.Proofs.YtcfkmcbmambchaaW.PrintWords
open Go.ChangeMaps (open_string shut_string)
set_option linter.unusedVariables false
theorem own : ownKnob Try.prog.godebug = none := by kernel_rfl
theorem laidOut : laidOutB Try.prog = true := by kernel_rfl
theorem opS9 : Opens Try.prog 9 Kd.string (fun x => (x).size ≤ maxLen) := opens_string Try.underlying9 (by kernel_rfl)
theorem opB4 : Opens Try.prog 4 Kd.bool (fun x => True) := opens_bool Try.underlying4 (by kernel_rfl)
theorem opI3 : Opens Try.prog 3 (Kd.int .i64) (fun x => (Lit.int .i64 (x)).wf = true) := opens_int Try.underlying3 (by kernel_rfl)
theorem opT36 : Opens Try.prog 36 k36 (fun x => ((x.f0).size ≤ maxLen) ∧ ((x.f1).size ≤ maxLen) ∧ (True) ∧ ((Lit.int .i64 (x.f3)).wf = true)) := opens_struct Try.underlying36 (by kernel_rfl) (opensF_cons (i := 0) rfl rfl opS9 (opensF_cons (i := 1) rfl rfl opS9 (opensF_cons (i := 2) rfl rfl opB4 (opensF_last (i := 3) rfl rfl opI3)))) (fun b => ⟨b.1, b.2.1, b.2.2.1, b.2.2.2⟩) (fun _ => rfl)
set_option maxRecDepth 100000 in
theorem lifted (os : Os) (started : os.Started) (H : Type) (enc : TypeId × Value → H) :
    ReturnsInHanded {} Try.checked os 8 .any (Rows.blockOrderSpec.pre6 enc Try.prog Try.f8 Rows.blockOrderRow.domain false) (Rows.blockOrderSpec.post enc Try.prog Try.f8 false true false false) := by
  refine returnsInHanded_of_change_sized (C := Try.checked) own started (by kernel_rfl) Try.func8
    (ChangeSpec.witness6 (enc := enc) (C := Try.checked) false ⟨#[], #[(.agg #[.string ByteArray.empty, .string ByteArray.empty, .bool false, .int .i64 0]), (.agg #[.string ByteArray.empty, .string ByteArray.empty, .bool false, .int .i64 0]), (.agg #[.string ByteArray.empty, .string ByteArray.empty, .bool false, .int .i64 0])], []⟩ 8 (by kernel_rfl) (by kernel_rfl) (by kernel_rfl) (by kernel_rfl)) ?_
  intro W base args ds gs before hval0 hW hcnd hsz0 _
  have hsz : (DataW.weightsEach Try.prog (Try.f8.params.toList ++ Rows.blockOrderSpec.plain.varTypes Try.prog) (ds ++ gs)).all (· ≤ reachBytes) = true := hsz0
  have hval : ∀ (j : Nat) t v, Try.f8.params[j]? = some t → args[j]? = some v → Value.okWide Try.prog W .any base t v := hval0
  have hW' := hW
  obtain ⟨p, q, hA0, hV, rfl, hfz, hnd⟩ := hW
  have hA : DataW.TrodAll enc Try.prog W 0 (fun _ => true) true Try.f8.params.toList args.toList ds p := hA0
  rw [Try.params8] at hA hval hsz
  obtain ⟨v0, vs0, d0, ds0, p0, q0, hargs, rfl, rfl, h0, r0⟩ := trodAll_cons hA
  obtain ⟨v1, vs1, d1, ds1, p1, q1, hargs1, rfl, rfl, h1, r1⟩ := trodAll_cons r0
  obtain ⟨v2, vs2, d2, ds2, p2, q2, hargs2, rfl, rfl, h2, r2⟩ := trodAll_cons r1
  obtain ⟨rfl, rfl, rfl⟩ := trodAll_nil r2
  obtain rfl : args = #[v0, v1, v2] := by cases args; simp_all
  obtain ⟨rfl, rfl⟩ := trodVars_none hV
  have k0 := h0
  have lt0 : ∀ x ∈ p0, x.block < W.heap.size := by obtain ⟨m, hm⟩ := k0; exact DataW.trod_lt m _ _ _ hm
  obtain ⟨cs0, rfl, _⟩ := okWide_struct Try.underlying36 (hval 0 36 v0 rfl rfl)
  obtain ⟨x0, hK0, w0⟩ := top_agg opT36 h0
  have e0 : cs0 = #[.string x0.f0, .string x0.f1, .bool x0.f2, .int .i64 x0.f3] := by
    have h_ := k36_open hK0
    cases cs0; simpa using h_
  subst e0
  have k1 := h1
  have lt1 : ∀ x ∈ p1, x.block < W.heap.size := by obtain ⟨m, hm⟩ := k1; exact DataW.trod_lt m _ _ _ hm
  obtain ⟨cs1, rfl, _⟩ := okWide_struct Try.underlying36 (hval 1 36 v1 rfl rfl)
  obtain ⟨x1, hK1, w1⟩ := top_agg opT36 h1
  have e1 : cs1 = #[.string x1.f0, .string x1.f1, .bool x1.f2, .int .i64 x1.f3] := by
    have h_ := k36_open hK1
    cases cs1; simpa using h_
  subst e1
  have k2 := h2
  have lt2 : ∀ x ∈ p2, x.block < W.heap.size := by obtain ⟨m, hm⟩ := k2; exact DataW.trod_lt m _ _ _ hm
  obtain ⟨cs2, rfl, _⟩ := okWide_struct Try.underlying36 (hval 2 36 v2 rfl rfl)
  obtain ⟨x2, hK2, w2⟩ := top_agg opT36 h2
  have e2 : cs2 = #[.string x2.f0, .string x2.f1, .bool x2.f2, .int .i64 x2.f3] := by
    have h_ := k36_open hK2
    cases cs2; simpa using h_
  subst e2
  clear hA0 hval0 hsz0 hsz
  obtain ⟨k, h⟩ := XPure.BlockOrder x0 x1 x2 w0 w1 w2
  refine (sorrellaw09_BlockOrder.calls k (x0.f0) (x0.f1) (x0.f2) (x0.f3) (x1.f0) (x1.f1) (x1.f2) (x1.f3) (x2.f0) (x2.f1) (x2.f2) (x2.f3) true W h).mono ?_
  rintro e W' ⟨rfl, bel_⟩
  have bel : Below W.heap.size W W' := bel_
  exact ⟨_, rfl, _, _, _, [], _, [], hW', trodAll_mk1 (shut_bool Try.underlying4 _), (trodAll_cons_mk (Below.trod laidOut (by kernel_rfl) (of_decide_eq_true (by kernel_rfl)) k0 bel lt0) (trodAll_cons_mk (Below.trod laidOut (by kernel_rfl) (of_decide_eq_true (by kernel_rfl)) k1 bel lt1) (trodAll_cons_mk (Below.trod laidOut (by kernel_rfl) (of_decide_eq_true (by kernel_rfl)) k2 bel lt2) trodAll_mk0))), rfl, bel.frame _, fun h => by cases h⟩
theorem over : Rows.blockOrderRow.holds Try.pinned (OpenSpec.ofChange Rows.blockOrderSpec) :=
  OpenClaim.holds_of_wide 8 Try.f8 rfl rfl rfl rfl rfl rfl rfl ⟨rfl, rfl, rfl, rfl, rfl⟩ rfl rfl rfl rfl rfl (by kernel_rfl) Try.func8 (by kernel_rfl)
    (of_decide_eq_true (by kernel_rfl)) (by unfold Func.isWrapper; first | (rw [if_pos (by decide +kernel)]; kernel_rfl) | (rw [if_neg (by decide +kernel)]; exact ⟨rfl, rfl⟩))
    (fun os started H enc _ => lifted os started H enc)
end Go.Proofs.Ytcfkmcbmambchaa.rowBlockOrder
namespace Go.Proofs.Ytcfkmcbmambchaa
theorem rowBlockOrder_holds : Rows.BlockOrderSaid := rowBlockOrder.over
end Go.Proofs.Ytcfkmcbmambchaa
