/- What a table tells of any key, any range. -/
import Derived.Test.YtlmoafkmhenejaaRows
import Derived.Test.YtlmoafkmhenejaakAOpn
import Derived.Test.YtlmoafkmhenejaakAMTab21
import Derived.WalkKit
import Derived.ProofKit
import Derived.OpenShut
import Derived.ShutString
import Derived.ChangeOld
import Derived.Below
import Derived.SizedLaws
import Derived.Carry
namespace Go.Proofs.Ytlmoafkmhenejaa.Opn
end Go.Proofs.Ytlmoafkmhenejaa.Opn
namespace Go.Proofs.YtlmoafkmhenejaaW.PrintWords
end Go.Proofs.YtlmoafkmhenejaaW.PrintWords
namespace Go.Proofs.Ytlmoafkmhenejaa.XA
end Go.Proofs.Ytlmoafkmhenejaa.XA
namespace Go.Proofs.Ytlmoafkmhenejaa.rowTableAsks
open Go.ChangeShapes Go.WideShapes Go.ChangeAt Go.RowKit Go.Proofs.Ytlmoafkmhenejaa.Opn Go.Proofs.YtlmoafkmhenejaaW.PrintWords Go.Proofs.Ytlmoafkmhenejaa.XA
open Go.ChangeMaps (open_string shut_string)
set_option linter.unusedVariables false
theorem own : ownKnob Try.prog.godebug = none := by kernel_rfl
theorem laidOut : laidOutB Try.prog = true := by kernel_rfl
theorem opI3 : Opens Try.prog 3 (Kd.int .i64) (fun x => (Lit.int .i64 (x)).wf = true) := opens_int Try.underlying3 (by kernel_rfl)
theorem opB4 : Opens Try.prog 4 Kd.bool (fun x => True) := opens_bool Try.underlying4 (by kernel_rfl)
theorem opS9 : Opens Try.prog 9 Kd.string (fun x => (x).size ≤ maxLen) := opens_string Try.underlying9 (by kernel_rfl)
theorem opT38 : Opens Try.prog 38 k38 (fun x => (x.f0).size ≤ maxLen ∧ (x.f1).size ≤ maxLen) := opens_struct Try.underlying38 (by kernel_rfl) (opensF_cons (i := 0) rfl rfl opS9 (opensF_last (i := 1) rfl rfl opS9)) (fun b => ⟨b.1, b.2⟩) (fun _ => rfl)
theorem opT43 : Opens Try.prog 43 k43 (fun x => ((x.f0).size ≤ maxLen) ∧ ((x.f1).size ≤ maxLen) ∧ (True) ∧ ((Lit.int .i64 (x.f3)).wf = true)) := opens_struct Try.underlying43 (by kernel_rfl) (opensF_cons (i := 0) rfl rfl opS9 (opensF_cons (i := 1) rfl rfl opS9 (opensF_cons (i := 2) rfl rfl opB4 (opensF_last (i := 3) rfl rfl opI3)))) (fun b => ⟨b.1, b.2.1, b.2.2.1, b.2.2.2⟩) (fun _ => rfl)
theorem opL22 : Opens Try.prog 22 (Kd.slice 43 k43) (fun x => (x).length ≤ maxLen ∧ ∀ y1 ∈ x, ((y1.f0).size ≤ maxLen) ∧ ((y1.f1).size ≤ maxLen) ∧ (True) ∧ ((Lit.int .i64 (y1.f3)).wf = true)) := opens_slice Try.underlying22 (by kernel_rfl) opT43
theorem top_ints2 {H : Type} {enc : TypeId × Value → H} {w : World} {base : Nat} {spare : Nat → Bool} {held : Bool} {cs : Array Value} {x : DataW H} {ps : List MemPlace} (h : DataW.Trod enc Try.prog w base spare held 50 (.agg cs) x ps) : ∃ a b : Int, cs = #[.int .i64 a, .int .i64 b] ∧ (Lit.int .i64 a).wf = true ∧ (Lit.int .i64 b).wf = true := by
  obtain ⟨l, ⟨hl, hcl, hK⟩, _, hok⟩ := top_agg (opens_array (n := 2) (d := Kd.int .i64) (hs := by decide) Try.underlying50 (by kernel_rfl) opI3) h
  match l, hl with
  | [a, b], _ =>
    have k0 : (cs.toList.drop 0).take 1 = [Value.int .i64 a] := hK 0 a rfl; have k1 : (cs.toList.drop 1).take 1 = [Value.int .i64 b] := hK 1 b rfl; refine ⟨a, b, ?_, hok a (by simp), hok b (by simp)⟩; have hcl' : cs.toList.length = 2 := hcl; obtain ⟨m⟩ := cs
    match m, hcl' with
    | [p, q], _ => simp_all
set_option maxRecDepth 100000 in
theorem lifted (os : Os) (started : os.Started) (H : Type) (enc : TypeId × Value → H) :
    ReturnsInHanded {} Try.checked os 8 .any (Rows.tableAsksSpec.pre6 enc Try.prog Try.f8 Rows.tableAsksRow.domain false) (Rows.tableAsksSpec.post enc Try.prog Try.f8 false true false false) := by
  refine returnsInHanded_of_change_sized (C := Try.checked) own started (by kernel_rfl) Try.func8
    (ChangeSpec.witness6 (enc := enc) (C := Try.checked) false ⟨#[], #[.slice none 0 0, .agg #[.string ByteArray.empty, .string ByteArray.empty], (.agg #[.int .i64 0, .int .i64 0])], []⟩ 8 (by kernel_rfl) (by kernel_rfl) (by kernel_rfl) (by kernel_rfl)) ?_
  intro W base args ds gs before hval0 hW hcnd hsz0 _
  have hsz : (DataW.weightsEach Try.prog (Try.f8.params.toList ++ Rows.tableAsksSpec.plain.varTypes Try.prog) (ds ++ gs)).all (· ≤ reachBytes) = true := hsz0
  have hval : ∀ (j : Nat) t v, Try.f8.params[j]? = some t → args[j]? = some v → Value.okWide Try.prog W .any base t v := hval0
  have hW' := hW
  obtain ⟨p, q, hA0, hV, rfl, hfz, hnd⟩ := hW
  have hA : DataW.TrodAll enc Try.prog W 0 (fun _ => true) true Try.f8.params.toList args.toList ds p := hA0
  rw [Try.params8] at hA hval hsz
  obtain ⟨v0, vs0, d0, ds0, p0, q0, hargs, rfl, rfl, h0, r0⟩ := trodAll_cons hA
  obtain ⟨v1, vs1, d1, ds1, p1, q1, hargs1, rfl, rfl, h1, r1⟩ := trodAll_cons r0
  obtain ⟨v2, vs2, d2, ds2, p2, q2, hargs2, rfl, rfl, h2, r2⟩ := trodAll_cons r1
  obtain ⟨rfl, rfl, rfl⟩ := trodAll_nil r2
  obtain rfl : args = #[v0, v1, v2] := by cases args; simp_all
  obtain ⟨rfl, rfl⟩ := trodVars_none hV
  have k0 := h0
  have lt0 : ∀ x ∈ p0, x.block < W.heap.size := by obtain ⟨m, hm⟩ := k0; exact DataW.trod_lt m _ _ _ hm
  obtain ⟨a0, len0, cap0, rfl⟩ := okWide_slice Try.underlying22 (hval 0 22 v0 rfl rfl)
  obtain ⟨l0, rfl, hC0, hl0, w0⟩ := top_slice opL22 h0
  have k1 := h1
  have lt1 : ∀ x ∈ p1, x.block < W.heap.size := by obtain ⟨m, hm⟩ := k1; exact DataW.trod_lt m _ _ _ hm
  obtain ⟨cs1, rfl, _⟩ := okWide_struct Try.underlying38 (hval 1 38 v1 rfl rfl)
  obtain ⟨x1, hK1, w1⟩ := top_agg opT38 h1
  have e1 : cs1 = #[.string x1.f0, .string x1.f1] := by
    have z_ := k38_open hK1; cases cs1
    simpa using z_
  subst e1
  have k2 := h2
  have lt2 : ∀ x ∈ p2, x.block < W.heap.size := by obtain ⟨m, hm⟩ := k2; exact DataW.trod_lt m _ _ _ hm
  obtain ⟨cs2, rfl, _⟩ := okWide_array Try.underlying50 (hval 2 50 v2 rfl rfl)
  obtain ⟨b2_0, b2_1, rfl, u2_0, u2_1⟩ := top_ints2 h2
  clear hA0 hval0 hsz0 hsz
  refine (XA.law_asks a0 cap0 l0 x1 b2_0 b2_1 hC0 hl0 w0 w1 u2_0 u2_1).mono ?_
  rintro e W' ⟨rfl, bel⟩
  exact ⟨_, rfl, _, _, _, [], _, [], hW', trodAll_mk1 (shut_bool Try.underlying4 _), (trodAll_cons_mk (Below.trod laidOut (by kernel_rfl) (of_decide_eq_true (by kernel_rfl)) k0 bel lt0) (trodAll_cons_mk (Below.trod laidOut (by kernel_rfl) (of_decide_eq_true (by kernel_rfl)) k1 bel lt1) (trodAll_cons_mk (Below.trod laidOut (by kernel_rfl) (of_decide_eq_true (by kernel_rfl)) k2 bel lt2) trodAll_mk0))), rfl, bel.frame _, fun h => by cases h⟩
theorem over : Rows.tableAsksRow.holds Try.pinned (OpenSpec.ofChange Rows.tableAsksSpec) :=
  OpenClaim.holds_of_wide 8 Try.f8 rfl rfl rfl rfl rfl rfl rfl ⟨rfl, rfl, rfl, rfl, rfl⟩ rfl rfl rfl rfl rfl (by kernel_rfl) Try.func8 (by kernel_rfl)
    (of_decide_eq_true (by kernel_rfl)) (by unfold Func.isWrapper; first | (rw [if_pos (by decide +kernel)]; kernel_rfl) | (rw [if_neg (by decide +kernel)]; exact ⟨rfl, rfl⟩))
    (fun os started H enc _ => lifted os started H enc)
end Go.Proofs.Ytlmoafkmhenejaa.rowTableAsks
namespace Go.Proofs.Ytlmoafkmhenejaa
theorem rowTableAsks_holds : Rows.TableAsksSaid := rowTableAsks.over
end Go.Proofs.Ytlmoafkmhenejaa
