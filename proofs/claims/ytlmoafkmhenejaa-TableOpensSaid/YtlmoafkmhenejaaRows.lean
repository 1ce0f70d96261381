/-
  No cell of these rows narrows 'for every input' (looked for: loops, veiled, ifaces, maps, wideKeys, modest, calm, conditions, laid).
  DERIVED. THE GIVEN ROWS OF THIS SEAT. 8 by the template 'for every input the law returns true; each argument reads behind the call as it read before'; 0 by the template 'total and deterministic' (their statements: YtlmoafkmhenejaaTotals.lean).
  GIVEN WITH THE SEED: the statements are not yours to turn. If you find one false, say at which input.
  Laid BY PROGRAM, IN A SANDBOX (cutbox-rows.mjs): the forced cells as the released guide's own fill.sh prints them over the translation cedee5ce0a98d52d… (all of the seat's roots in one cut). By AI agents, Wed Nov 11 2026. No macro, syntax, notation, axiom, sorry.
-/
import Derived.Test.YtlmoafkmhenejaaChecked
import GoSem.Claim
import GoSem.ClaimJoined
import GoSem.ClaimMapViews
import Derived.JoinedTies
import Derived.KernelRfl
namespace Go.Proofs.Ytlmoafkmhenejaa
/- THE CELL 'sum', in the pinned program and in every row, IS THE sha256 OF THE DUMP (.gsa) THAT YtlmoafkmhenejaaProg.lean LOADS. Nothing in Lean hashes anything: it is a label: what it is worth is what the hold of that sum in a sandbox is worth. -/
noncomputable def Try.pinned : Pinned := { name := "ytlmoafkmhenejaa", sum := "cedee5ce0a98d52d6f31e2e5d5c147eda2e0703cd8b01417a6b51ee7471ec82e", checked := Try.checked }
namespace Rows
def none {H : Type} : Left H := { results := [], args := [] }

/-- 'sorrellaw10.TableBuilds': WHATEVER THE INPUT: true; the input reads as it did. -/
def tableBuildsSpec : ChangeSpec := { name := "tableBuilds", fn := fun _ => fun
  | [d] => { results := [.lit (.bool true)], args := [d] }
  | _ => none }
def tableBuildsRow : OpenClaim := { program := "ytlmoafkmhenejaa", sum := "cedee5ce0a98d52d6f31e2e5d5c147eda2e0703cd8b01417a6b51ee7471ec82e", func := "sorrel/sorrellaw10.TableBuilds", spec := "tableBuilds", inPlace := ["internal/abi.NoEscape"], unfollowed := true, recurses := true, apart := false }
def TableBuildsSaid : Prop := tableBuildsRow.holds Try.pinned (OpenSpec.ofChange tableBuildsSpec)

/-- ITS FALSE NEIGHBOUR: 'it returns false'. Refute it at one input. -/
def tableBuildsWrong : ChangeSpec := { name := "tableBuilds", fn := fun _ => fun
  | [d] => { results := [.lit (.bool false)], args := [d] }
  | _ => none }
def TableBuildsWrongFalsely : Prop := tableBuildsRow.holds Try.pinned (OpenSpec.ofChange tableBuildsWrong)

/-- 'sorrellaw10.TableOpens': WHATEVER THE INPUT: true; the input reads as it did. -/
def tableOpensSpec : ChangeSpec := { name := "tableOpens", fn := fun _ => fun
  | [d] => { results := [.lit (.bool true)], args := [d] }
  | _ => none }
def tableOpensRow : OpenClaim := { program := "ytlmoafkmhenejaa", sum := "cedee5ce0a98d52d6f31e2e5d5c147eda2e0703cd8b01417a6b51ee7471ec82e", func := "sorrel/sorrellaw10.TableOpens", spec := "tableOpens", inPlace := ["internal/abi.NoEscape"], unfollowed := true, recurses := true, apart := false }
def TableOpensSaid : Prop := tableOpensRow.holds Try.pinned (OpenSpec.ofChange tableOpensSpec)

/-- ITS FALSE NEIGHBOUR: 'it returns false'. Refute it at one input. -/
def tableOpensWrong : ChangeSpec := { name := "tableOpens", fn := fun _ => fun
  | [d] => { results := [.lit (.bool false)], args := [d] }
  | _ => none }
def TableOpensWrongFalsely : Prop := tableOpensRow.holds Try.pinned (OpenSpec.ofChange tableOpensWrong)

/-- 'sorrellaw10.TableMay': WHATEVER THE INPUT: true; the input reads as it did. -/
def tableMaySpec : ChangeSpec := { name := "tableMay", fn := fun _ => fun
  | [d1, d2] => { results := [.lit (.bool true)], args := [d1, d2] }
  | _ => none }
def tableMayRow : OpenClaim := { program := "ytlmoafkmhenejaa", sum := "cedee5ce0a98d52d6f31e2e5d5c147eda2e0703cd8b01417a6b51ee7471ec82e", func := "sorrel/sorrellaw10.TableMay", spec := "tableMay", inPlace := ["internal/abi.NoEscape"], unfollowed := true, recurses := true, apart := false }
def TableMaySaid : Prop := tableMayRow.holds Try.pinned (OpenSpec.ofChange tableMaySpec)

/-- ITS FALSE NEIGHBOUR: 'it returns false'. Refute it at one input. -/
def tableMayWrong : ChangeSpec := { name := "tableMay", fn := fun _ => fun
  | [d1, d2] => { results := [.lit (.bool false)], args := [d1, d2] }
  | _ => none }
def TableMayWrongFalsely : Prop := tableMayRow.holds Try.pinned (OpenSpec.ofChange tableMayWrong)

/-- 'sorrellaw10.TableMany': WHATEVER THE INPUT: true; the input reads as it did. -/
def tableManySpec : ChangeSpec := { name := "tableMany", fn := fun _ => fun
  | [d1, d2] => { results := [.lit (.bool true)], args := [d1, d2] }
  | _ => none }
def tableManyRow : OpenClaim := { program := "ytlmoafkmhenejaa", sum := "cedee5ce0a98d52d6f31e2e5d5c147eda2e0703cd8b01417a6b51ee7471ec82e", func := "sorrel/sorrellaw10.TableMany", spec := "tableMany", inPlace := ["internal/abi.NoEscape"], unfollowed := true, recurses := true, apart := false }
def TableManySaid : Prop := tableManyRow.holds Try.pinned (OpenSpec.ofChange tableManySpec)

/-- ITS FALSE NEIGHBOUR: 'it returns false'. Refute it at one input. -/
def tableManyWrong : ChangeSpec := { name := "tableMany", fn := fun _ => fun
  | [d1, d2] => { results := [.lit (.bool false)], args := [d1, d2] }
  | _ => none }
def TableManyWrongFalsely : Prop := tableManyRow.holds Try.pinned (OpenSpec.ofChange tableManyWrong)

/-- 'sorrellaw10.TableParts': WHATEVER THE INPUT: true; the input reads as it did. -/
def tablePartsSpec : ChangeSpec := { name := "tableParts", fn := fun _ => fun
  | [d1, d2, d3] => { results := [.lit (.bool true)], args := [d1, d2, d3] }
  | _ => none }
def tablePartsRow : OpenClaim := { program := "ytlmoafkmhenejaa", sum := "cedee5ce0a98d52d6f31e2e5d5c147eda2e0703cd8b01417a6b51ee7471ec82e", func := "sorrel/sorrellaw10.TableParts", spec := "tableParts", inPlace := ["internal/abi.NoEscape"], unfollowed := true, recurses := true, apart := false }
def TablePartsSaid : Prop := tablePartsRow.holds Try.pinned (OpenSpec.ofChange tablePartsSpec)

/-- ITS FALSE NEIGHBOUR: 'it returns false'. Refute it at one input. -/
def tablePartsWrong : ChangeSpec := { name := "tableParts", fn := fun _ => fun
  | [d1, d2, d3] => { results := [.lit (.bool false)], args := [d1, d2, d3] }
  | _ => none }
def TablePartsWrongFalsely : Prop := tablePartsRow.holds Try.pinned (OpenSpec.ofChange tablePartsWrong)

/-- 'sorrellaw10.TableAsks': WHATEVER THE INPUT: true; the input reads as it did. -/
def tableAsksSpec : ChangeSpec := { name := "tableAsks", fn := fun _ => fun
  | [d1, d2, d3] => { results := [.lit (.bool true)], args := [d1, d2, d3] }
  | _ => none }
def tableAsksRow : OpenClaim := { program := "ytlmoafkmhenejaa", sum := "cedee5ce0a98d52d6f31e2e5d5c147eda2e0703cd8b01417a6b51ee7471ec82e", func := "sorrel/sorrellaw10.TableAsks", spec := "tableAsks", inPlace := ["internal/abi.NoEscape"], unfollowed := true, recurses := true, apart := false }
def TableAsksSaid : Prop := tableAsksRow.holds Try.pinned (OpenSpec.ofChange tableAsksSpec)

/-- ITS FALSE NEIGHBOUR: 'it returns false'. Refute it at one input. -/
def tableAsksWrong : ChangeSpec := { name := "tableAsks", fn := fun _ => fun
  | [d1, d2, d3] => { results := [.lit (.bool false)], args := [d1, d2, d3] }
  | _ => none }
def TableAsksWrongFalsely : Prop := tableAsksRow.holds Try.pinned (OpenSpec.ofChange tableAsksWrong)

/-- 'sorrellaw10.TableChunks': WHATEVER THE INPUT: true; the input reads as it did. -/
def tableChunksSpec : ChangeSpec := { name := "tableChunks", fn := fun _ => fun
  | [d1, d2] => { results := [.lit (.bool true)], args := [d1, d2] }
  | _ => none }
def tableChunksRow : OpenClaim := { program := "ytlmoafkmhenejaa", sum := "cedee5ce0a98d52d6f31e2e5d5c147eda2e0703cd8b01417a6b51ee7471ec82e", func := "sorrel/sorrellaw10.TableChunks", spec := "tableChunks", inPlace := ["internal/abi.NoEscape"], unfollowed := true, recurses := true, apart := false }
def TableChunksSaid : Prop := tableChunksRow.holds Try.pinned (OpenSpec.ofChange tableChunksSpec)

/-- ITS FALSE NEIGHBOUR: 'it returns false'. Refute it at one input. -/
def tableChunksWrong : ChangeSpec := { name := "tableChunks", fn := fun _ => fun
  | [d1, d2] => { results := [.lit (.bool false)], args := [d1, d2] }
  | _ => none }
def TableChunksWrongFalsely : Prop := tableChunksRow.holds Try.pinned (OpenSpec.ofChange tableChunksWrong)

/-- 'sorrellaw10.TableNobody': WHATEVER THE INPUT: true; the input reads as it did. -/
def tableNobodySpec : ChangeSpec := { name := "tableNobody", fn := fun _ => fun
  | [d1, d2, d3] => { results := [.lit (.bool true)], args := [d1, d2, d3] }
  | _ => none }
def tableNobodyRow : OpenClaim := { program := "ytlmoafkmhenejaa", sum := "cedee5ce0a98d52d6f31e2e5d5c147eda2e0703cd8b01417a6b51ee7471ec82e", func := "sorrel/sorrellaw10.TableNobody", spec := "tableNobody", inPlace := ["internal/abi.NoEscape"], unfollowed := true, recurses := true, apart := false }
def TableNobodySaid : Prop := tableNobodyRow.holds Try.pinned (OpenSpec.ofChange tableNobodySpec)

/-- ITS FALSE NEIGHBOUR: 'it returns false'. Refute it at one input. -/
def tableNobodyWrong : ChangeSpec := { name := "tableNobody", fn := fun _ => fun
  | [d1, d2, d3] => { results := [.lit (.bool false)], args := [d1, d2, d3] }
  | _ => none }
def TableNobodyWrongFalsely : Prop := tableNobodyRow.holds Try.pinned (OpenSpec.ofChange tableNobodyWrong)

/- THE SECOND FORM. 'bulk': how many values and letters a reading holds, each counted each time it is reached (what is shared counts as often as it is met; a slice's spare places count too). A statement '..UptoSaid' is the law's where the arguments, and the package variables that the reading takes, are together of bulk at most 1048576: NARROWER than '..Said'. Prove '..Said' where nothing that the law and all that it calls make is longer than what came in: it says more and counts as full. Else prove '..UptoSaid'. A law counts once. -/
mutual
def uptoBulk {H : Type} : DataW H → Nat
  | .lit (.string bytes) => bytes.length + 1
  | .lit _ => 1
  | .nil => 1
  | .ptr d => uptoBulk d + 1
  | .slice elems spare => uptoBulkAll elems + uptoBulkAll spare + 1
  | .agg parts => uptoBulkAll parts + 1
  | .iface _ d => uptoBulk d + 1
  | .map entries => uptoBulkEntries entries + 1
  | .held _ => 1
def uptoBulkAll {H : Type} : List (DataW H) → Nat
  | [] => 0
  | d :: r => uptoBulk d + uptoBulkAll r
def uptoBulkEntries {H : Type} : List (Lit × DataW H) → Nat
  | [] => 0
  | x :: r => uptoBulkEntry x + uptoBulkEntries r
def uptoBulkEntry {H : Type} : Lit × DataW H → Nat
  | (.string bytes, d) => bytes.length + uptoBulk d + 1
  | (_, d) => uptoBulk d + 1
 end
def uptoSmall : (H : Type) → List (DataW H) → Bool := fun _ ds => decide (uptoBulkAll ds ≤ 1048576)
def OpenSpec.upto (s : _root_.Go.ChangeSpec) : _root_.Go.OpenSpec := { _root_.Go.OpenSpec.ofChange s with cond := some uptoSmall }

/-- 'sorrellaw10.TableBuilds', WHERE WHAT IT READS IS OF BULK AT MOST 1048576: true; the input reads as it did. -/
def tableBuildsUptoRow : OpenClaim := { program := "ytlmoafkmhenejaa", sum := "cedee5ce0a98d52d6f31e2e5d5c147eda2e0703cd8b01417a6b51ee7471ec82e", func := "sorrel/sorrellaw10.TableBuilds", spec := "tableBuilds", inPlace := ["internal/abi.NoEscape"], unfollowed := true, recurses := true, apart := false, narrowed := true }
def TableBuildsUptoSaid : Prop := tableBuildsUptoRow.holds Try.pinned (OpenSpec.upto tableBuildsSpec)

/-- 'sorrellaw10.TableOpens', WHERE WHAT IT READS IS OF BULK AT MOST 1048576: true; the input reads as it did. -/
def tableOpensUptoRow : OpenClaim := { program := "ytlmoafkmhenejaa", sum := "cedee5ce0a98d52d6f31e2e5d5c147eda2e0703cd8b01417a6b51ee7471ec82e", func := "sorrel/sorrellaw10.TableOpens", spec := "tableOpens", inPlace := ["internal/abi.NoEscape"], unfollowed := true, recurses := true, apart := false, narrowed := true }
def TableOpensUptoSaid : Prop := tableOpensUptoRow.holds Try.pinned (OpenSpec.upto tableOpensSpec)

/-- 'sorrellaw10.TableMay', WHERE WHAT IT READS IS OF BULK AT MOST 1048576: true; the input reads as it did. -/
def tableMayUptoRow : OpenClaim := { program := "ytlmoafkmhenejaa", sum := "cedee5ce0a98d52d6f31e2e5d5c147eda2e0703cd8b01417a6b51ee7471ec82e", func := "sorrel/sorrellaw10.TableMay", spec := "tableMay", inPlace := ["internal/abi.NoEscape"], unfollowed := true, recurses := true, apart := false, narrowed := true }
def TableMayUptoSaid : Prop := tableMayUptoRow.holds Try.pinned (OpenSpec.upto tableMaySpec)

/-- 'sorrellaw10.TableMany', WHERE WHAT IT READS IS OF BULK AT MOST 1048576: true; the input reads as it did. -/
def tableManyUptoRow : OpenClaim := { program := "ytlmoafkmhenejaa", sum := "cedee5ce0a98d52d6f31e2e5d5c147eda2e0703cd8b01417a6b51ee7471ec82e", func := "sorrel/sorrellaw10.TableMany", spec := "tableMany", inPlace := ["internal/abi.NoEscape"], unfollowed := true, recurses := true, apart := false, narrowed := true }
def TableManyUptoSaid : Prop := tableManyUptoRow.holds Try.pinned (OpenSpec.upto tableManySpec)

/-- 'sorrellaw10.TableParts', WHERE WHAT IT READS IS OF BULK AT MOST 1048576: true; the input reads as it did. -/
def tablePartsUptoRow : OpenClaim := { program := "ytlmoafkmhenejaa", sum := "cedee5ce0a98d52d6f31e2e5d5c147eda2e0703cd8b01417a6b51ee7471ec82e", func := "sorrel/sorrellaw10.TableParts", spec := "tableParts", inPlace := ["internal/abi.NoEscape"], unfollowed := true, recurses := true, apart := false, narrowed := true }
def TablePartsUptoSaid : Prop := tablePartsUptoRow.holds Try.pinned (OpenSpec.upto tablePartsSpec)

/-- 'sorrellaw10.TableAsks', WHERE WHAT IT READS IS OF BULK AT MOST 1048576: true; the input reads as it did. -/
def tableAsksUptoRow : OpenClaim := { program := "ytlmoafkmhenejaa", sum := "cedee5ce0a98d52d6f31e2e5d5c147eda2e0703cd8b01417a6b51ee7471ec82e", func := "sorrel/sorrellaw10.TableAsks", spec := "tableAsks", inPlace := ["internal/abi.NoEscape"], unfollowed := true, recurses := true, apart := false, narrowed := true }
def TableAsksUptoSaid : Prop := tableAsksUptoRow.holds Try.pinned (OpenSpec.upto tableAsksSpec)

/-- 'sorrellaw10.TableChunks', WHERE WHAT IT READS IS OF BULK AT MOST 1048576: true; the input reads as it did. -/
def tableChunksUptoRow : OpenClaim := { program := "ytlmoafkmhenejaa", sum := "cedee5ce0a98d52d6f31e2e5d5c147eda2e0703cd8b01417a6b51ee7471ec82e", func := "sorrel/sorrellaw10.TableChunks", spec := "tableChunks", inPlace := ["internal/abi.NoEscape"], unfollowed := true, recurses := true, apart := false, narrowed := true }
def TableChunksUptoSaid : Prop := tableChunksUptoRow.holds Try.pinned (OpenSpec.upto tableChunksSpec)

/-- 'sorrellaw10.TableNobody', WHERE WHAT IT READS IS OF BULK AT MOST 1048576: true; the input reads as it did. -/
def tableNobodyUptoRow : OpenClaim := { program := "ytlmoafkmhenejaa", sum := "cedee5ce0a98d52d6f31e2e5d5c147eda2e0703cd8b01417a6b51ee7471ec82e", func := "sorrel/sorrellaw10.TableNobody", spec := "tableNobody", inPlace := ["internal/abi.NoEscape"], unfollowed := true, recurses := true, apart := false, narrowed := true }
def TableNobodyUptoSaid : Prop := tableNobodyUptoRow.holds Try.pinned (OpenSpec.upto tableNobodySpec)

end Rows
end Go.Proofs.Ytlmoafkmhenejaa
