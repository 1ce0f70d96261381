/-
  No cell of these rows narrows 'for every input' (looked for: loops, veiled, ifaces, maps, wideKeys, modest, calm, conditions, laid).
  DERIVED. THE GIVEN ROWS OF THIS SEAT. 6 by the template 'for every input the law returns true; each argument reads behind the call as it read before'; 0 by the template 'total and deterministic' (their statements: YthjgnnldpepdfaaTotals.lean).
  GIVEN WITH THE SEED: the statements are not yours to turn. If you find one false, say at which input.
  Laid BY PROGRAM, IN A SANDBOX (cutbox-rows.mjs): the forced cells as the released guide's own fill.sh prints them over the translation 1edfd3179ac51423… (all of the seat's roots in one cut). By AI agents, Wed Nov 11 2026. No macro, syntax, notation, axiom, sorry.
-/
import Derived.Test.YthjgnnldpepdfaaChecked
import GoSem.Claim
import GoSem.ClaimJoined
import GoSem.ClaimMapViews
import Derived.JoinedTies
import Derived.KernelRfl
namespace Go.Proofs.Ythjgnnldpepdfaa
/- THE CELL 'sum', in the pinned program and in every row, IS THE sha256 OF THE DUMP (.gsa) THAT YthjgnnldpepdfaaProg.lean LOADS. Nothing in Lean hashes anything: it is a label: what it is worth is what the hold of that sum in a sandbox is worth. -/
noncomputable def Try.pinned : Pinned := { name := "ythjgnnldpepdfaa", sum := "1edfd3179ac514234e9647b82994b86033201b70242274d5440a6a779bf4ff64", checked := Try.checked }
namespace Rows
def none {H : Type} : Left H := { results := [], args := [] }

/-- 'sorrellaw08.BloomMakes': WHATEVER THE INPUT: true; the input reads as it did. -/
def bloomMakesSpec : ChangeSpec := { name := "bloomMakes", fn := fun _ => fun
  | [d] => { results := [.lit (.bool true)], args := [d] }
  | _ => none }
def bloomMakesRow : OpenClaim := { program := "ythjgnnldpepdfaa", sum := "1edfd3179ac514234e9647b82994b86033201b70242274d5440a6a779bf4ff64", func := "sorrel/sorrellaw08.BloomMakes", spec := "bloomMakes", unfollowed := true, recurses := true, apart := false }
def BloomMakesSaid : Prop := bloomMakesRow.holds Try.pinned (OpenSpec.ofChange bloomMakesSpec)

/-- ITS FALSE NEIGHBOUR: 'it returns false'. Refute it at one input. -/
def bloomMakesWrong : ChangeSpec := { name := "bloomMakes", fn := fun _ => fun
  | [d] => { results := [.lit (.bool false)], args := [d] }
  | _ => none }
def BloomMakesWrongFalsely : Prop := bloomMakesRow.holds Try.pinned (OpenSpec.ofChange bloomMakesWrong)

/-- 'sorrellaw08.BloomHas': WHATEVER THE INPUT: true; the input reads as it did. -/
def bloomHasSpec : ChangeSpec := { name := "bloomHas", fn := fun _ => fun
  | [d1, d2, d3] => { results := [.lit (.bool true)], args := [d1, d2, d3] }
  | _ => none }
def bloomHasRow : OpenClaim := { program := "ythjgnnldpepdfaa", sum := "1edfd3179ac514234e9647b82994b86033201b70242274d5440a6a779bf4ff64", func := "sorrel/sorrellaw08.BloomHas", spec := "bloomHas", unfollowed := true, recurses := true, apart := false }
def BloomHasSaid : Prop := bloomHasRow.holds Try.pinned (OpenSpec.ofChange bloomHasSpec)

/-- ITS FALSE NEIGHBOUR: 'it returns false'. Refute it at one input. -/
def bloomHasWrong : ChangeSpec := { name := "bloomHas", fn := fun _ => fun
  | [d1, d2, d3] => { results := [.lit (.bool false)], args := [d1, d2, d3] }
  | _ => none }
def BloomHasWrongFalsely : Prop := bloomHasRow.holds Try.pinned (OpenSpec.ofChange bloomHasWrong)

/-- 'sorrellaw08.BloomAll': WHATEVER THE INPUT: true; the input reads as it did. -/
def bloomAllSpec : ChangeSpec := { name := "bloomAll", fn := fun _ => fun
  | [d] => { results := [.lit (.bool true)], args := [d] }
  | _ => none }
def bloomAllRow : OpenClaim := { program := "ythjgnnldpepdfaa", sum := "1edfd3179ac514234e9647b82994b86033201b70242274d5440a6a779bf4ff64", func := "sorrel/sorrellaw08.BloomAll", spec := "bloomAll", unfollowed := true, recurses := true, apart := false }
def BloomAllSaid : Prop := bloomAllRow.holds Try.pinned (OpenSpec.ofChange bloomAllSpec)

/-- ITS FALSE NEIGHBOUR: 'it returns false'. Refute it at one input. -/
def bloomAllWrong : ChangeSpec := { name := "bloomAll", fn := fun _ => fun
  | [d] => { results := [.lit (.bool false)], args := [d] }
  | _ => none }
def BloomAllWrongFalsely : Prop := bloomAllRow.holds Try.pinned (OpenSpec.ofChange bloomAllWrong)

/-- 'sorrellaw08.BloomMore': WHATEVER THE INPUT: true; the input reads as it did. -/
def bloomMoreSpec : ChangeSpec := { name := "bloomMore", fn := fun _ => fun
  | [d1, d2, d3] => { results := [.lit (.bool true)], args := [d1, d2, d3] }
  | _ => none }
def bloomMoreRow : OpenClaim := { program := "ythjgnnldpepdfaa", sum := "1edfd3179ac514234e9647b82994b86033201b70242274d5440a6a779bf4ff64", func := "sorrel/sorrellaw08.BloomMore", spec := "bloomMore", unfollowed := true, recurses := true, apart := false }
def BloomMoreSaid : Prop := bloomMoreRow.holds Try.pinned (OpenSpec.ofChange bloomMoreSpec)

/-- ITS FALSE NEIGHBOUR: 'it returns false'. Refute it at one input. -/
def bloomMoreWrong : ChangeSpec := { name := "bloomMore", fn := fun _ => fun
  | [d1, d2, d3] => { results := [.lit (.bool false)], args := [d1, d2, d3] }
  | _ => none }
def BloomMoreWrongFalsely : Prop := bloomMoreRow.holds Try.pinned (OpenSpec.ofChange bloomMoreWrong)

/-- 'sorrellaw08.BloomFull': WHATEVER THE INPUT: true; the input reads as it did. -/
def bloomFullSpec : ChangeSpec := { name := "bloomFull", fn := fun _ => fun
  | [d] => { results := [.lit (.bool true)], args := [d] }
  | _ => none }
def bloomFullRow : OpenClaim := { program := "ythjgnnldpepdfaa", sum := "1edfd3179ac514234e9647b82994b86033201b70242274d5440a6a779bf4ff64", func := "sorrel/sorrellaw08.BloomFull", spec := "bloomFull", unfollowed := true, recurses := true, apart := false }
def BloomFullSaid : Prop := bloomFullRow.holds Try.pinned (OpenSpec.ofChange bloomFullSpec)

/-- ITS FALSE NEIGHBOUR: 'it returns false'. Refute it at one input. -/
def bloomFullWrong : ChangeSpec := { name := "bloomFull", fn := fun _ => fun
  | [d] => { results := [.lit (.bool false)], args := [d] }
  | _ => none }
def BloomFullWrongFalsely : Prop := bloomFullRow.holds Try.pinned (OpenSpec.ofChange bloomFullWrong)

/-- 'sorrellaw08.BloomSizes': WHATEVER THE INPUT: true; the input reads as it did. -/
def bloomSizesSpec : ChangeSpec := { name := "bloomSizes", fn := fun _ => fun
  | [d1, d2] => { results := [.lit (.bool true)], args := [d1, d2] }
  | _ => none }
def bloomSizesRow : OpenClaim := { program := "ythjgnnldpepdfaa", sum := "1edfd3179ac514234e9647b82994b86033201b70242274d5440a6a779bf4ff64", func := "sorrel/sorrellaw08.BloomSizes", spec := "bloomSizes", unfollowed := true, recurses := true, apart := false }
def BloomSizesSaid : Prop := bloomSizesRow.holds Try.pinned (OpenSpec.ofChange bloomSizesSpec)

/-- ITS FALSE NEIGHBOUR: 'it returns false'. Refute it at one input. -/
def bloomSizesWrong : ChangeSpec := { name := "bloomSizes", fn := fun _ => fun
  | [d1, d2] => { results := [.lit (.bool false)], args := [d1, d2] }
  | _ => none }
def BloomSizesWrongFalsely : Prop := bloomSizesRow.holds Try.pinned (OpenSpec.ofChange bloomSizesWrong)

/- THE SECOND FORM. 'bulk': how many values and letters a reading holds, each counted each time it is reached (what is shared counts as often as it is met; a slice's spare places count too). A statement '..UptoSaid' is the law's where the arguments, and the package variables that the reading takes, are together of bulk at most 1048576: NARROWER than '..Said'. Prove '..Said' where nothing that the law and all that it calls make is longer than what came in: it says more and counts as full. Else prove '..UptoSaid'. A law counts once. -/
mutual
def uptoBulk {H : Type} : DataW H → Nat
  | .lit (.string bytes) => bytes.length + 1
  | .lit _ => 1
  | .nil => 1
  | .ptr d => uptoBulk d + 1
  | .slice elems spare => uptoBulkAll elems + uptoBulkAll spare + 1
  | .agg parts => uptoBulkAll parts + 1
  | .iface _ d => uptoBulk d + 1
  | .map entries => uptoBulkEntries entries + 1
  | .held _ => 1
def uptoBulkAll {H : Type} : List (DataW H) → Nat
  | [] => 0
  | d :: r => uptoBulk d + uptoBulkAll r
def uptoBulkEntries {H : Type} : List (Lit × DataW H) → Nat
  | [] => 0
  | x :: r => uptoBulkEntry x + uptoBulkEntries r
def uptoBulkEntry {H : Type} : Lit × DataW H → Nat
  | (.string bytes, d) => bytes.length + uptoBulk d + 1
  | (_, d) => uptoBulk d + 1
 end
def uptoSmall : (H : Type) → List (DataW H) → Bool := fun _ ds => decide (uptoBulkAll ds ≤ 1048576)
def OpenSpec.upto (s : _root_.Go.ChangeSpec) : _root_.Go.OpenSpec := { _root_.Go.OpenSpec.ofChange s with cond := some uptoSmall }

/-- 'sorrellaw08.BloomMakes', WHERE WHAT IT READS IS OF BULK AT MOST 1048576: true; the input reads as it did. -/
def bloomMakesUptoRow : OpenClaim := { program := "ythjgnnldpepdfaa", sum := "1edfd3179ac514234e9647b82994b86033201b70242274d5440a6a779bf4ff64", func := "sorrel/sorrellaw08.BloomMakes", spec := "bloomMakes", unfollowed := true, recurses := true, apart := false, narrowed := true }
def BloomMakesUptoSaid : Prop := bloomMakesUptoRow.holds Try.pinned (OpenSpec.upto bloomMakesSpec)

/-- 'sorrellaw08.BloomHas', WHERE WHAT IT READS IS OF BULK AT MOST 1048576: true; the input reads as it did. -/
def bloomHasUptoRow : OpenClaim := { program := "ythjgnnldpepdfaa", sum := "1edfd3179ac514234e9647b82994b86033201b70242274d5440a6a779bf4ff64", func := "sorrel/sorrellaw08.BloomHas", spec := "bloomHas", unfollowed := true, recurses := true, apart := false, narrowed := true }
def BloomHasUptoSaid : Prop := bloomHasUptoRow.holds Try.pinned (OpenSpec.upto bloomHasSpec)

/-- 'sorrellaw08.BloomAll', WHERE WHAT IT READS IS OF BULK AT MOST 1048576: true; the input reads as it did. -/
def bloomAllUptoRow : OpenClaim := { program := "ythjgnnldpepdfaa", sum := "1edfd3179ac514234e9647b82994b86033201b70242274d5440a6a779bf4ff64", func := "sorrel/sorrellaw08.BloomAll", spec := "bloomAll", unfollowed := true, recurses := true, apart := false, narrowed := true }
def BloomAllUptoSaid : Prop := bloomAllUptoRow.holds Try.pinned (OpenSpec.upto bloomAllSpec)

/-- 'sorrellaw08.BloomMore', WHERE WHAT IT READS IS OF BULK AT MOST 1048576: true; the input reads as it did. -/
def bloomMoreUptoRow : OpenClaim := { program := "ythjgnnldpepdfaa", sum := "1edfd3179ac514234e9647b82994b86033201b70242274d5440a6a779bf4ff64", func := "sorrel/sorrellaw08.BloomMore", spec := "bloomMore", unfollowed := true, recurses := true, apart := false, narrowed := true }
def BloomMoreUptoSaid : Prop := bloomMoreUptoRow.holds Try.pinned (OpenSpec.upto bloomMoreSpec)

/-- 'sorrellaw08.BloomFull', WHERE WHAT IT READS IS OF BULK AT MOST 1048576: true; the input reads as it did. -/
def bloomFullUptoRow : OpenClaim := { program := "ythjgnnldpepdfaa", sum := "1edfd3179ac514234e9647b82994b86033201b70242274d5440a6a779bf4ff64", func := "sorrel/sorrellaw08.BloomFull", spec := "bloomFull", unfollowed := true, recurses := true, apart := false, narrowed := true }
def BloomFullUptoSaid : Prop := bloomFullUptoRow.holds Try.pinned (OpenSpec.upto bloomFullSpec)

/-- 'sorrellaw08.BloomSizes', WHERE WHAT IT READS IS OF BULK AT MOST 1048576: true; the input reads as it did. -/
def bloomSizesUptoRow : OpenClaim := { program := "ythjgnnldpepdfaa", sum := "1edfd3179ac514234e9647b82994b86033201b70242274d5440a6a779bf4ff64", func := "sorrel/sorrellaw08.BloomSizes", spec := "bloomSizes", unfollowed := true, recurses := true, apart := false, narrowed := true }
def BloomSizesUptoSaid : Prop := bloomSizesUptoRow.holds Try.pinned (OpenSpec.upto bloomSizesSpec)

end Rows
end Go.Proofs.Ythjgnnldpepdfaa
