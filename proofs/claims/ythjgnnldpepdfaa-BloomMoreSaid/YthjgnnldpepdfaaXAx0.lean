-- Written by a program of this session (wip/xprint.py) out of the translation.
import Derived.Test.YthjgnnldpepdfaaProg
import Derived.Below
import Derived.Deep.Draws
import Derived.Deep.AppendLies
import Derived.Maps.AppendAt
import Derived.OwnWalk
import Derived.Laws.BytesArg
import Derived.Laws.MakeOwn
import Derived.Laws.OwnMore
import Derived.Deep.OwnRows
import Derived.Tactics
import Derived.Lib.ConvBytes
import Derived.Laws.Slices
import Derived.WalkKit
import Derived.KernelRfl
import Derived.RowKit3
import Derived.Deep.LoopGhost
import Derived.Deep.QuietTactic
import Derived.BigQuiet
import Derived.WideLaws
import Derived.Deep.DeepCutAuto
import Derived.Deep.CutBlock
import Derived.Deep.RegionHeld3
import Derived.Laws.Rows
import Derived.Lib.AppendStr
import Derived.ArgAppend
import Derived.Laws.IdiomCopy
import Derived.OrdersHeld
import Derived.Laws.BitsLemmas
import Derived.RowKit
import Derived.Test.YthjgnnldpepdfaaWWords
import Derived.Test.YthjgnnldpepdfaaWLast
import Derived.Test.YthjgnnldpepdfaaWTab
import Derived.Test.YthjgnnldpepdfaaWFour
import Derived.Test.YthjgnnldpepdfaaWQPut
import Derived.Test.YthjgnnldpepdfaaWApart
import Derived.Test.YthjgnnldpepdfaaWArr
import Derived.Test.YthjgnnldpepdfaaWZeros
import Derived.Test.YthjgnnldpepdfaaWFoot
import Derived.Test.YthjgnnldpepdfaaWKept
import Derived.Test.YthjgnnldpepdfaaWShare
import Derived.Test.YthjgnnldpepdfaaWN
import Derived.Test.YthjgnnldpepdfaaWFootNe
import Derived.Test.YthjgnnldpepdfaaWAt
import Derived.Test.YthjgnnldpepdfaaWEqStruct
import Derived.Test.YthjgnnldpepdfaaWRepsOne
import Derived.Test.YthjgnnldpepdfaaWInv
import Derived.Test.YthjgnnldpepdfaaWInvWords
import Derived.Test.YthjgnnldpepdfaaWGuard
import Derived.Test.YthjgnnldpepdfaaWNEv
import Derived.Test.YthjgnnldpepdfaaWMore
import Derived.Test.YthjgnnldpepdfaaXW
namespace Go.Proofs.Ythjgnnldpepdfaa.XA
open Go.RowKit Go.Proofs.YthjgnnldpepdfaaW.PrintWords Go.Proofs.YthjgnnldpepdfaaW.PrintLast Go.Proofs.YthjgnnldpepdfaaW.PrintMore Go.Proofs.Ythjgnnldpepdfaa.XW
attribute [local go_sem high] max2_str unary_xor_u32 leq_str geq_str gtr_str
attribute [local go_sem] max2_int min2_int max_two min_two max_three min_three max_four min_four   -- for this text's walks alone
set_option linter.unusedVariables false
set_option linter.unusedSimpArgs false



def errW : Option Int → Value
  | none => .nilIface
  | some c => .iface 0 (.int .i64 c)
theorem errW_none : errW none = .nilIface := rfl
theorem errW_some (c : Int) : errW (some c) = .iface 0 (.int .i64 c) := rfl

theorem info5 : (Try.prog.info? 5).map (fun i => (i.zero, i.size, i.bytes)) = some (some (.int .u8 0), 1, 1) := by kernel_rfl
theorem info9 : (Try.prog.info? 9).map (fun i => (i.zero, i.size, i.bytes)) = some (some (.string ⟨#[]⟩), 1, 16) := by kernel_rfl
-- the values' own types

end Go.Proofs.Ythjgnnldpepdfaa.XA
