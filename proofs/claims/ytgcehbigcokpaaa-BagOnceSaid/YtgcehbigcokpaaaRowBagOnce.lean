/- Each letter is taken once -/
import Derived.Test.YtgcehbigcokpaaaRows
import Derived.Test.YtgcehbigcokpaaaOpn
import Derived.Test.YtgcehbigcokpaaaMBag15
import Derived.WalkKit
import Derived.ProofKit
import Derived.OpenShut
import Derived.ShutString
import Derived.ChangeOld
import Derived.Below
import Derived.SizedLaws
import Derived.Carry
namespace Go.Proofs.Ytgcehbigcokpaaa.rowBagOnce
open Go.ChangeShapes Go.WideShapes Go.ChangeAt Go.RowKit Go.Proofs.Ytgcehbigcokpaaa.Opn Go.Proofs.YtgcehbigcokpaaaW.PrintWords Go.Proofs.Ytgcehbigcokpaaa.XA
open Go.ChangeMaps (open_string shut_string)
set_option linter.unusedVariables false
theorem own : ownKnob Try.prog.godebug = none := by kernel_rfl
theorem laidOut : laidOutB Try.prog = true := by kernel_rfl
theorem opI3 : Opens Try.prog 3 (Kd.int .i64) (fun x => (Lit.int .i64 (x)).wf = true) := opens_int Try.underlying3 (by kernel_rfl)
theorem opS9 : Opens Try.prog 9 Kd.string (fun x => (x).size ≤ maxLen) := opens_string Try.underlying9 (by kernel_rfl)
theorem opT30 : Opens Try.prog 30 k30 (fun x => ((Lit.int .i64 (x.f0)).wf = true) ∧ ((Lit.int .i64 (x.f1)).wf = true) ∧ ((x.f2).size ≤ maxLen)) := opens_struct Try.underlying30 (by kernel_rfl) (opensF_cons (i := 0) rfl rfl opI3 (opensF_cons (i := 1) rfl rfl opI3 (opensF_last (i := 2) rfl rfl opS9))) (fun b => ⟨b.1, b.2.1, b.2.2⟩) (fun _ => rfl)
theorem opL22 : Opens Try.prog 22 (Kd.slice 3 (Kd.int .i64)) (fun x => (x).length ≤ maxLen ∧ ∀ y1 ∈ x, (Lit.int .i64 (y1)).wf = true) := opens_slice Try.underlying22 (by kernel_rfl) opI3
set_option maxRecDepth 100000 in
theorem lifted (os : Os) (started : os.Started) (H : Type) (enc : TypeId × Value → H) :
    ReturnsInHanded {} Try.checked os 3 .any (Rows.bagOnceSpec.pre6 enc Try.prog Try.f3 Rows.bagOnceRow.domain false) (Rows.bagOnceSpec.post enc Try.prog Try.f3 false true false false) := by
  refine returnsInHanded_of_change_sized (C := Try.checked) own started (by kernel_rfl) Try.func3
    (ChangeSpec.witness6 (enc := enc) (C := Try.checked) false ⟨#[], #[.int .i64 0, .int .i64 0, .slice none 0 0], []⟩ 8 (by kernel_rfl) (by kernel_rfl) (by kernel_rfl) (by kernel_rfl)) ?_
  intro W base args ds gs before hval0 hW hcnd hsz0 _
  have hsz : (DataW.weightsEach Try.prog (Try.f3.params.toList ++ Rows.bagOnceSpec.plain.varTypes Try.prog) (ds ++ gs)).all (· ≤ reachBytes) = true := hsz0
  have hval : ∀ (j : Nat) t v, Try.f3.params[j]? = some t → args[j]? = some v → Value.okWide Try.prog W .any base t v := hval0
  have hW' := hW
  obtain ⟨p, q, hA0, hV, rfl, hfz, hnd⟩ := hW
  have hA : DataW.TrodAll enc Try.prog W 0 (fun _ => true) true Try.f3.params.toList args.toList ds p := hA0
  rw [Try.params3] at hA hval hsz
  obtain ⟨v0, vs0, d0, ds0, p0, q0, hargs, rfl, rfl, h0, r0⟩ := trodAll_cons hA
  obtain ⟨v1, vs1, d1, ds1, p1, q1, hargs1, rfl, rfl, h1, r1⟩ := trodAll_cons r0
  obtain ⟨v2, vs2, d2, ds2, p2, q2, hargs2, rfl, rfl, h2, r2⟩ := trodAll_cons r1
  obtain ⟨rfl, rfl, rfl⟩ := trodAll_nil r2
  obtain rfl : args = #[v0, v1, v2] := by cases args; simp_all
  obtain ⟨rfl, rfl⟩ := trodVars_none hV
  obtain ⟨x0, rfl, rfl, rfl, w0⟩ := open_int Try.underlying3 (hval 0 3 v0 rfl rfl) h0
  obtain ⟨x1, rfl, rfl, rfl, w1⟩ := open_int Try.underlying3 (hval 1 3 v1 rfl rfl) h1
  have k2 := h2
  have lt2 : ∀ x ∈ p2, x.block < W.heap.size := by obtain ⟨m, hm⟩ := k2; exact DataW.trod_lt m _ _ _ hm
  obtain ⟨a2, len2, cap2, rfl⟩ := okWide_slice Try.underlying22 (hval 2 22 v2 rfl rfl)
  obtain ⟨l2, rfl, hC2, hl2, w2⟩ := top_slice opL22 h2
  clear hA0 hval0 hsz0 hsz
  refine (XA.law_once x0 x1 a2 cap2 l2 w0 w1 hC2 hl2 w2).mono ?_
  rintro e W' ⟨rfl, bel⟩
  exact ⟨_, rfl, _, _, _, [], _, [], hW', trodAll_mk1 (shut_bool Try.underlying4 _), (trodAll_cons_mk (shut_int Try.underlying3 w0) (trodAll_cons_mk (shut_int Try.underlying3 w1) (trodAll_cons_mk (Below.trod laidOut (by kernel_rfl) (of_decide_eq_true (by kernel_rfl)) k2 bel lt2) trodAll_mk0))), rfl, bel.frame _, fun h => by cases h⟩
theorem over : Rows.bagOnceRow.holds Try.pinned (OpenSpec.ofChange Rows.bagOnceSpec) :=
  OpenClaim.holds_of_wide 3 Try.f3 rfl rfl rfl rfl rfl rfl rfl ⟨rfl, rfl, rfl, rfl, rfl⟩ rfl rfl rfl rfl rfl (by kernel_rfl) Try.func3 (by kernel_rfl)
    (of_decide_eq_true (by kernel_rfl)) (by unfold Func.isWrapper; first | (rw [if_pos (by decide +kernel)]; kernel_rfl) | (rw [if_neg (by decide +kernel)]; exact ⟨rfl, rfl⟩))
    (fun os started H enc _ => lifted os started H enc)
end Go.Proofs.Ytgcehbigcokpaaa.rowBagOnce
namespace Go.Proofs.Ytgcehbigcokpaaa
theorem rowBagOnce_holds : Rows.BagOnceSaid := rowBagOnce.over
end Go.Proofs.Ytgcehbigcokpaaa
