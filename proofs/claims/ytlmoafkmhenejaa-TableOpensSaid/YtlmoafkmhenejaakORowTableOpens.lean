/- The table of any bytes. -/
import Derived.Test.YtlmoafkmhenejaaRows
import Derived.Test.YtlmoafkmhenejaakOOpn
import Derived.Test.YtlmoafkmhenejaakOMTab24
import Derived.WalkKit
import Derived.ProofKit
import Derived.OpenShut
import Derived.ShutString
import Derived.ChangeOld
import Derived.Below
import Derived.SizedLaws
import Derived.Carry
namespace Go.Proofs.Ytlmoafkmhenejaa.Opn
end Go.Proofs.Ytlmoafkmhenejaa.Opn
namespace Go.Proofs.YtlmoafkmhenejaaW.PrintWords
end Go.Proofs.YtlmoafkmhenejaaW.PrintWords
namespace Go.Proofs.Ytlmoafkmhenejaa.XA
end Go.Proofs.Ytlmoafkmhenejaa.XA
namespace Go.Proofs.Ytlmoafkmhenejaa.rowTableOpens
open Go.ChangeShapes Go.WideShapes Go.ChangeAt Go.RowKit Go.Proofs.Ytlmoafkmhenejaa.Opn Go.Proofs.YtlmoafkmhenejaaW.PrintWords Go.Proofs.Ytlmoafkmhenejaa.XA
open Go.ChangeMaps (open_string shut_string)
set_option linter.unusedVariables false
theorem own : ownKnob Try.prog.godebug = none := by kernel_rfl
theorem laidOut : laidOutB Try.prog = true := by kernel_rfl
theorem opI3 : Opens Try.prog 3 (Kd.int .i64) (fun x => (Lit.int .i64 (x)).wf = true) := opens_int Try.underlying3 (by kernel_rfl)
theorem opB4 : Opens Try.prog 4 Kd.bool (fun x => True) := opens_bool Try.underlying4 (by kernel_rfl)
theorem opS9 : Opens Try.prog 9 Kd.string (fun x => (x).size ≤ maxLen) := opens_string Try.underlying9 (by kernel_rfl)
theorem opT38 : Opens Try.prog 38 k38 (fun x => (x.f0).size ≤ maxLen ∧ (x.f1).size ≤ maxLen) := opens_struct Try.underlying38 (by kernel_rfl) (opensF_cons (i := 0) rfl rfl opS9 (opensF_last (i := 1) rfl rfl opS9)) (fun b => ⟨b.1, b.2⟩) (fun _ => rfl)
theorem opT43 : Opens Try.prog 43 k43 (fun x => ((x.f0).size ≤ maxLen) ∧ ((x.f1).size ≤ maxLen) ∧ (True) ∧ ((Lit.int .i64 (x.f3)).wf = true)) := opens_struct Try.underlying43 (by kernel_rfl) (opensF_cons (i := 0) rfl rfl opS9 (opensF_cons (i := 1) rfl rfl opS9 (opensF_cons (i := 2) rfl rfl opB4 (opensF_last (i := 3) rfl rfl opI3)))) (fun b => ⟨b.1, b.2.1, b.2.2.1, b.2.2.2⟩) (fun _ => rfl)
theorem opL22 : Opens Try.prog 22 (Kd.slice 43 k43) (fun x => (x).length ≤ maxLen ∧ ∀ y1 ∈ x, ((y1.f0).size ≤ maxLen) ∧ ((y1.f1).size ≤ maxLen) ∧ (True) ∧ ((Lit.int .i64 (y1.f3)).wf = true)) := opens_slice Try.underlying22 (by kernel_rfl) opT43
set_option maxRecDepth 100000 in
theorem lifted (os : Os) (started : os.Started) (H : Type) (enc : TypeId × Value → H) :
    ReturnsInHanded {} Try.checked os 4 .any (Rows.tableOpensSpec.pre6 enc Try.prog Try.f4 Rows.tableOpensRow.domain false) (Rows.tableOpensSpec.post enc Try.prog Try.f4 false true false false) := by
  refine returnsInHanded_of_change_sized (C := Try.checked) own started (by kernel_rfl) Try.func4
    (ChangeSpec.witness6 (enc := enc) (C := Try.checked) false ⟨#[], #[.string ByteArray.empty], []⟩ 8 (by kernel_rfl) (by kernel_rfl) (by kernel_rfl) (by kernel_rfl)) ?_
  intro W base args ds gs before hval0 hW hcnd hsz0 _
  have hsz : (DataW.weightsEach Try.prog (Try.f4.params.toList ++ Rows.tableOpensSpec.plain.varTypes Try.prog) (ds ++ gs)).all (· ≤ reachBytes) = true := hsz0
  have hval : ∀ (j : Nat) t v, Try.f4.params[j]? = some t → args[j]? = some v → Value.okWide Try.prog W .any base t v := hval0
  have hW' := hW
  obtain ⟨p, q, hA0, hV, rfl, hfz, hnd⟩ := hW
  have hA : DataW.TrodAll enc Try.prog W 0 (fun _ => true) true Try.f4.params.toList args.toList ds p := hA0
  rw [Try.params4] at hA hval hsz
  obtain ⟨v0, vs0, d0, ds0, p0, q0, hargs, rfl, rfl, h0, r0⟩ := trodAll_cons hA
  obtain ⟨rfl, rfl, rfl⟩ := trodAll_nil r0
  obtain rfl : args = #[v0] := by cases args; simp_all
  obtain ⟨rfl, rfl⟩ := trodVars_none hV
  obtain ⟨x0, rfl, rfl, rfl, y0⟩ := open_string Try.underlying9 (hval 0 9 v0 rfl rfl) h0
  have w0 : x0.size ≤ 140737488351232 := by
    have z := sized_string hsz (j := 0) (t := 9) rfl rfl; rw [Array.length_toList] at z; exact z
  clear hA0 hval0 hsz0 hsz
  refine (XA.law_opens x0 w0 W).mono ?_
  rintro e W' ⟨rfl, bel⟩
  exact ⟨_, rfl, _, _, _, [], _, [], hW', trodAll_mk1 (shut_bool Try.underlying4 _), (trodAll_cons_mk (shut_string Try.underlying9 y0) trodAll_mk0), rfl, bel.frame _, fun h => by cases h⟩
theorem over : Rows.tableOpensRow.holds Try.pinned (OpenSpec.ofChange Rows.tableOpensSpec) :=
  OpenClaim.holds_of_wide 4 Try.f4 rfl rfl rfl rfl rfl rfl rfl ⟨rfl, rfl, rfl, rfl, rfl⟩ rfl rfl rfl rfl rfl (by kernel_rfl) Try.func4 (by kernel_rfl)
    (of_decide_eq_true (by kernel_rfl)) (by unfold Func.isWrapper; first | (rw [if_pos (by decide +kernel)]; kernel_rfl) | (rw [if_neg (by decide +kernel)]; exact ⟨rfl, rfl⟩))
    (fun os started H enc _ => lifted os started H enc)
end Go.Proofs.Ytlmoafkmhenejaa.rowTableOpens
namespace Go.Proofs.Ytlmoafkmhenejaa
theorem rowTableOpens_holds : Rows.TableOpensSaid := rowTableOpens.over
end Go.Proofs.Ytlmoafkmhenejaa
