/-
  No cell of these rows narrows 'for every input' (looked for: loops, veiled, ifaces, maps, wideKeys, modest, calm, conditions, laid).
  DERIVED. THE GIVEN ROWS OF THIS SEAT. 6 by the template 'for every input the law returns true; each argument reads behind the call as it read before'; 0 by the template 'total and deterministic' (their statements: YtffmndbgbooedaaTotals.lean).
  GIVEN WITH THE SEED: the statements are not yours to turn. If you find one false, say at which input.
  Laid BY PROGRAM, IN A SANDBOX (cutbox-rows.mjs): the forced cells as the released guide's own fill.sh prints them over the translation 81e169c1fc176817… (all of the seat's roots in one cut). By AI agents, Wed Nov 11 2026. No macro, syntax, notation, axiom, sorry.
-/
import Derived.Test.YtffmndbgbooedaaChecked
import GoSem.Claim
import GoSem.ClaimJoined
import GoSem.ClaimMapViews
import Derived.JoinedTies
import Derived.KernelRfl
namespace Go.Proofs.Ytffmndbgbooedaa
/- THE CELL 'sum', in the pinned program and in every row, IS THE sha256 OF THE DUMP (.gsa) THAT YtffmndbgbooedaaProg.lean LOADS. Nothing in Lean hashes anything: it is a label: what it is worth is what the hold of that sum in a sandbox is worth. -/
noncomputable def Try.pinned : Pinned := { name := "ytffmndbgbooedaa", sum := "81e169c1fc176817815349dc9b4927375f06f25637308eb2871f4c5671414d55", checked := Try.checked }
namespace Rows
def none {H : Type} : Left H := { results := [], args := [] }

/-- 'sorrellaw04.SpanKeys': WHATEVER THE INPUT: true; the input reads as it did. -/
def spanKeysSpec : ChangeSpec := { name := "spanKeys", fn := fun _ => fun
  | [d1, d2] => { results := [.lit (.bool true)], args := [d1, d2] }
  | _ => none }
def spanKeysRow : OpenClaim := { program := "ytffmndbgbooedaa", sum := "81e169c1fc176817815349dc9b4927375f06f25637308eb2871f4c5671414d55", func := "sorrel/sorrellaw04.SpanKeys", spec := "spanKeys", apart := false }
def SpanKeysSaid : Prop := spanKeysRow.holds Try.pinned (OpenSpec.ofChange spanKeysSpec)

/-- ITS FALSE NEIGHBOUR: 'it returns false'. Refute it at one input. -/
def spanKeysWrong : ChangeSpec := { name := "spanKeys", fn := fun _ => fun
  | [d1, d2] => { results := [.lit (.bool false)], args := [d1, d2] }
  | _ => none }
def SpanKeysWrongFalsely : Prop := spanKeysRow.holds Try.pinned (OpenSpec.ofChange spanKeysWrong)

/-- 'sorrellaw04.SpanBack': WHATEVER THE INPUT: true; the input reads as it did. -/
def spanBackSpec : ChangeSpec := { name := "spanBack", fn := fun _ => fun
  | [d1, d2, d3] => { results := [.lit (.bool true)], args := [d1, d2, d3] }
  | _ => none }
def spanBackRow : OpenClaim := { program := "ytffmndbgbooedaa", sum := "81e169c1fc176817815349dc9b4927375f06f25637308eb2871f4c5671414d55", func := "sorrel/sorrellaw04.SpanBack", spec := "spanBack", apart := false }
def SpanBackSaid : Prop := spanBackRow.holds Try.pinned (OpenSpec.ofChange spanBackSpec)

/-- ITS FALSE NEIGHBOUR: 'it returns false'. Refute it at one input. -/
def spanBackWrong : ChangeSpec := { name := "spanBack", fn := fun _ => fun
  | [d1, d2, d3] => { results := [.lit (.bool false)], args := [d1, d2, d3] }
  | _ => none }
def SpanBackWrongFalsely : Prop := spanBackRow.holds Try.pinned (OpenSpec.ofChange spanBackWrong)

/-- 'sorrellaw04.SpanMeets': WHATEVER THE INPUT: true; the input reads as it did. -/
def spanMeetsSpec : ChangeSpec := { name := "spanMeets", fn := fun _ => fun
  | [d1, d2, d3] => { results := [.lit (.bool true)], args := [d1, d2, d3] }
  | _ => none }
def spanMeetsRow : OpenClaim := { program := "ytffmndbgbooedaa", sum := "81e169c1fc176817815349dc9b4927375f06f25637308eb2871f4c5671414d55", func := "sorrel/sorrellaw04.SpanMeets", spec := "spanMeets", apart := false }
def SpanMeetsSaid : Prop := spanMeetsRow.holds Try.pinned (OpenSpec.ofChange spanMeetsSpec)

/-- ITS FALSE NEIGHBOUR: 'it returns false'. Refute it at one input. -/
def spanMeetsWrong : ChangeSpec := { name := "spanMeets", fn := fun _ => fun
  | [d1, d2, d3] => { results := [.lit (.bool false)], args := [d1, d2, d3] }
  | _ => none }
def SpanMeetsWrongFalsely : Prop := spanMeetsRow.holds Try.pinned (OpenSpec.ofChange spanMeetsWrong)

/-- 'sorrellaw04.SpanCovers': WHATEVER THE INPUT: true; the input reads as it did. -/
def spanCoversSpec : ChangeSpec := { name := "spanCovers", fn := fun _ => fun
  | [d1, d2] => { results := [.lit (.bool true)], args := [d1, d2] }
  | _ => none }
def spanCoversRow : OpenClaim := { program := "ytffmndbgbooedaa", sum := "81e169c1fc176817815349dc9b4927375f06f25637308eb2871f4c5671414d55", func := "sorrel/sorrellaw04.SpanCovers", spec := "spanCovers", apart := false }
def SpanCoversSaid : Prop := spanCoversRow.holds Try.pinned (OpenSpec.ofChange spanCoversSpec)

/-- ITS FALSE NEIGHBOUR: 'it returns false'. Refute it at one input. -/
def spanCoversWrong : ChangeSpec := { name := "spanCovers", fn := fun _ => fun
  | [d1, d2] => { results := [.lit (.bool false)], args := [d1, d2] }
  | _ => none }
def SpanCoversWrongFalsely : Prop := spanCoversRow.holds Try.pinned (OpenSpec.ofChange spanCoversWrong)

/-- 'sorrellaw04.SpanMany': WHATEVER THE INPUT: true; the input reads as it did. -/
def spanManySpec : ChangeSpec := { name := "spanMany", fn := fun _ => fun
  | [d1, d2] => { results := [.lit (.bool true)], args := [d1, d2] }
  | _ => none }
def spanManyRow : OpenClaim := { program := "ytffmndbgbooedaa", sum := "81e169c1fc176817815349dc9b4927375f06f25637308eb2871f4c5671414d55", func := "sorrel/sorrellaw04.SpanMany", spec := "spanMany", apart := false }
def SpanManySaid : Prop := spanManyRow.holds Try.pinned (OpenSpec.ofChange spanManySpec)

/-- ITS FALSE NEIGHBOUR: 'it returns false'. Refute it at one input. -/
def spanManyWrong : ChangeSpec := { name := "spanMany", fn := fun _ => fun
  | [d1, d2] => { results := [.lit (.bool false)], args := [d1, d2] }
  | _ => none }
def SpanManyWrongFalsely : Prop := spanManyRow.holds Try.pinned (OpenSpec.ofChange spanManyWrong)

/-- 'sorrellaw04.SpanClips': WHATEVER THE INPUT: true; the input reads as it did. -/
def spanClipsSpec : ChangeSpec := { name := "spanClips", fn := fun _ => fun
  | [d1, d2, d3] => { results := [.lit (.bool true)], args := [d1, d2, d3] }
  | _ => none }
def spanClipsRow : OpenClaim := { program := "ytffmndbgbooedaa", sum := "81e169c1fc176817815349dc9b4927375f06f25637308eb2871f4c5671414d55", func := "sorrel/sorrellaw04.SpanClips", spec := "spanClips", unfollowed := true, recurses := true, apart := false }
def SpanClipsSaid : Prop := spanClipsRow.holds Try.pinned (OpenSpec.ofChange spanClipsSpec)

/-- ITS FALSE NEIGHBOUR: 'it returns false'. Refute it at one input. -/
def spanClipsWrong : ChangeSpec := { name := "spanClips", fn := fun _ => fun
  | [d1, d2, d3] => { results := [.lit (.bool false)], args := [d1, d2, d3] }
  | _ => none }
def SpanClipsWrongFalsely : Prop := spanClipsRow.holds Try.pinned (OpenSpec.ofChange spanClipsWrong)

/- THE SECOND FORM. 'bulk': how many values and letters a reading holds, each counted each time it is reached (what is shared counts as often as it is met; a slice's spare places count too). A statement '..UptoSaid' is the law's where the arguments, and the package variables that the reading takes, are together of bulk at most 1048576: NARROWER than '..Said'. Prove '..Said' where nothing that the law and all that it calls make is longer than what came in: it says more and counts as full. Else prove '..UptoSaid'. A law counts once. -/
mutual
def uptoBulk {H : Type} : DataW H → Nat
  | .lit (.string bytes) => bytes.length + 1
  | .lit _ => 1
  | .nil => 1
  | .ptr d => uptoBulk d + 1
  | .slice elems spare => uptoBulkAll elems + uptoBulkAll spare + 1
  | .agg parts => uptoBulkAll parts + 1
  | .iface _ d => uptoBulk d + 1
  | .map entries => uptoBulkEntries entries + 1
  | .held _ => 1
def uptoBulkAll {H : Type} : List (DataW H) → Nat
  | [] => 0
  | d :: r => uptoBulk d + uptoBulkAll r
def uptoBulkEntries {H : Type} : List (Lit × DataW H) → Nat
  | [] => 0
  | x :: r => uptoBulkEntry x + uptoBulkEntries r
def uptoBulkEntry {H : Type} : Lit × DataW H → Nat
  | (.string bytes, d) => bytes.length + uptoBulk d + 1
  | (_, d) => uptoBulk d + 1
 end
def uptoSmall : (H : Type) → List (DataW H) → Bool := fun _ ds => decide (uptoBulkAll ds ≤ 1048576)
def OpenSpec.upto (s : _root_.Go.ChangeSpec) : _root_.Go.OpenSpec := { _root_.Go.OpenSpec.ofChange s with cond := some uptoSmall }

/-- 'sorrellaw04.SpanKeys', WHERE WHAT IT READS IS OF BULK AT MOST 1048576: true; the input reads as it did. -/
def spanKeysUptoRow : OpenClaim := { program := "ytffmndbgbooedaa", sum := "81e169c1fc176817815349dc9b4927375f06f25637308eb2871f4c5671414d55", func := "sorrel/sorrellaw04.SpanKeys", spec := "spanKeys", apart := false, narrowed := true }
def SpanKeysUptoSaid : Prop := spanKeysUptoRow.holds Try.pinned (OpenSpec.upto spanKeysSpec)

/-- 'sorrellaw04.SpanBack', WHERE WHAT IT READS IS OF BULK AT MOST 1048576: true; the input reads as it did. -/
def spanBackUptoRow : OpenClaim := { program := "ytffmndbgbooedaa", sum := "81e169c1fc176817815349dc9b4927375f06f25637308eb2871f4c5671414d55", func := "sorrel/sorrellaw04.SpanBack", spec := "spanBack", apart := false, narrowed := true }
def SpanBackUptoSaid : Prop := spanBackUptoRow.holds Try.pinned (OpenSpec.upto spanBackSpec)

/-- 'sorrellaw04.SpanMeets', WHERE WHAT IT READS IS OF BULK AT MOST 1048576: true; the input reads as it did. -/
def spanMeetsUptoRow : OpenClaim := { program := "ytffmndbgbooedaa", sum := "81e169c1fc176817815349dc9b4927375f06f25637308eb2871f4c5671414d55", func := "sorrel/sorrellaw04.SpanMeets", spec := "spanMeets", apart := false, narrowed := true }
def SpanMeetsUptoSaid : Prop := spanMeetsUptoRow.holds Try.pinned (OpenSpec.upto spanMeetsSpec)

/-- 'sorrellaw04.SpanCovers', WHERE WHAT IT READS IS OF BULK AT MOST 1048576: true; the input reads as it did. -/
def spanCoversUptoRow : OpenClaim := { program := "ytffmndbgbooedaa", sum := "81e169c1fc176817815349dc9b4927375f06f25637308eb2871f4c5671414d55", func := "sorrel/sorrellaw04.SpanCovers", spec := "spanCovers", apart := false, narrowed := true }
def SpanCoversUptoSaid : Prop := spanCoversUptoRow.holds Try.pinned (OpenSpec.upto spanCoversSpec)

/-- 'sorrellaw04.SpanMany', WHERE WHAT IT READS IS OF BULK AT MOST 1048576: true; the input reads as it did. -/
def spanManyUptoRow : OpenClaim := { program := "ytffmndbgbooedaa", sum := "81e169c1fc176817815349dc9b4927375f06f25637308eb2871f4c5671414d55", func := "sorrel/sorrellaw04.SpanMany", spec := "spanMany", apart := false, narrowed := true }
def SpanManyUptoSaid : Prop := spanManyUptoRow.holds Try.pinned (OpenSpec.upto spanManySpec)

/-- 'sorrellaw04.SpanClips', WHERE WHAT IT READS IS OF BULK AT MOST 1048576: true; the input reads as it did. -/
def spanClipsUptoRow : OpenClaim := { program := "ytffmndbgbooedaa", sum := "81e169c1fc176817815349dc9b4927375f06f25637308eb2871f4c5671414d55", func := "sorrel/sorrellaw04.SpanClips", spec := "spanClips", unfollowed := true, recurses := true, apart := false, narrowed := true }
def SpanClipsUptoSaid : Prop := spanClipsUptoRow.holds Try.pinned (OpenSpec.upto spanClipsSpec)

end Rows
end Go.Proofs.Ytffmndbgbooedaa
