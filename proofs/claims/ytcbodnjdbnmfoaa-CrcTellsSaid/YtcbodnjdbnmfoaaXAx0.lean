-- Written by a program of this session (wip/xprint.py) out of the translation.
import Derived.Test.YtcbodnjdbnmfoaaProg
import Derived.Below
import Derived.Deep.Draws
import Derived.Deep.AppendLies
import Derived.Maps.AppendAt
import Derived.OwnWalk
import Derived.Laws.BytesArg
import Derived.Laws.MakeOwn
import Derived.Laws.OwnMore
import Derived.Deep.OwnRows
import Derived.Tactics
import Derived.Lib.ConvBytes
import Derived.Laws.Slices
import Derived.WalkKit
import Derived.KernelRfl
import Derived.RowKit3
import Derived.Deep.LoopGhost
import Derived.Deep.QuietTactic
import Derived.BigQuiet
import Derived.WideLaws
import Derived.Deep.DeepCutAuto
import Derived.Deep.CutBlock
import Derived.Deep.RegionHeld3
import Derived.Laws.Rows
import Derived.Lib.AppendStr
import Derived.ArgAppend
import Derived.Laws.IdiomCopy
import Derived.OrdersHeld
import Derived.Laws.BitsLemmas
import Derived.RowKit
import Derived.Test.YtcbodnjdbnmfoaaWWords
import Derived.Test.YtcbodnjdbnmfoaaWLast
import Derived.Test.YtcbodnjdbnmfoaaWTab
import Derived.Test.YtcbodnjdbnmfoaaWFour
import Derived.Test.YtcbodnjdbnmfoaaWQPut
import Derived.Test.YtcbodnjdbnmfoaaWApart
import Derived.Test.YtcbodnjdbnmfoaaWArr
import Derived.Test.YtcbodnjdbnmfoaaWZeros
import Derived.Test.YtcbodnjdbnmfoaaWFoot
import Derived.Test.YtcbodnjdbnmfoaaWKept
import Derived.Test.YtcbodnjdbnmfoaaWShare
import Derived.Test.YtcbodnjdbnmfoaaWN
import Derived.Test.YtcbodnjdbnmfoaaWFootNe
import Derived.Test.YtcbodnjdbnmfoaaWAt
import Derived.Test.YtcbodnjdbnmfoaaWEqStruct
import Derived.Test.YtcbodnjdbnmfoaaWRepsOne
import Derived.Test.YtcbodnjdbnmfoaaWInv
import Derived.Test.YtcbodnjdbnmfoaaWInvWords
import Derived.Test.YtcbodnjdbnmfoaaWGuard
import Derived.Test.YtcbodnjdbnmfoaaWNEv
import Derived.Test.YtcbodnjdbnmfoaaWMore
import Derived.Test.YtcbodnjdbnmfoaaXW
namespace Go.Proofs.Ytcbodnjdbnmfoaa.XA
open Go.RowKit Go.Proofs.YtcbodnjdbnmfoaaW.PrintWords Go.Proofs.YtcbodnjdbnmfoaaW.PrintLast Go.Proofs.YtcbodnjdbnmfoaaW.PrintMore Go.Proofs.Ytcbodnjdbnmfoaa.XW
attribute [local go_sem high] max2_str unary_xor_u32 leq_str geq_str gtr_str
attribute [local go_sem] max2_int min2_int max_two min_two max_three min_three max_four min_four   -- for this text's walks alone
set_option linter.unusedVariables false
set_option linter.unusedSimpArgs false



def errW : Option Int → Value
  | none => .nilIface
  | some c => .iface 0 (.int .i64 c)
theorem errW_none : errW none = .nilIface := rfl
theorem errW_some (c : Int) : errW (some c) = .iface 0 (.int .i64 c) := rfl

theorem info5 : (Try.prog.info? 5).map (fun i => (i.zero, i.size, i.bytes)) = some (some (.int .u8 0), 1, 1) := by kernel_rfl
-- the values' own types

end Go.Proofs.Ytcbodnjdbnmfoaa.XA
