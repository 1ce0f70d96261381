-- Written by a program of this session (wip/xprint.py) out of the translation.
import Derived.Test.YtgcmgbjinommpaaProg
import Derived.Below
import Derived.Deep.Draws
import Derived.Deep.AppendLies
import Derived.Maps.AppendAt
import Derived.OwnWalk
import Derived.Laws.BytesArg
import Derived.Laws.MakeOwn
import Derived.Laws.OwnMore
import Derived.Deep.OwnRows
import Derived.Tactics
import Derived.Lib.ConvBytes
import Derived.Laws.Slices
import Derived.WalkKit
import Derived.KernelRfl
import Derived.RowKit3
import Derived.Deep.LoopGhost
import Derived.Deep.QuietTactic
import Derived.BigQuiet
import Derived.WideLaws
import Derived.Deep.DeepCutAuto
import Derived.Deep.CutBlock
import Derived.Deep.RegionHeld3
import Derived.Laws.Rows
import Derived.Lib.AppendStr
import Derived.ArgAppend
import Derived.Laws.IdiomCopy
import Derived.OrdersHeld
import Derived.Laws.BitsLemmas
import Derived.RowKit
import Derived.Test.YtgcmgbjinommpaaWWords
import Derived.Test.YtgcmgbjinommpaaWLast
import Derived.Test.YtgcmgbjinommpaaWTab
import Derived.Test.YtgcmgbjinommpaaWFour
import Derived.Test.YtgcmgbjinommpaaWQPut
import Derived.Test.YtgcmgbjinommpaaWApart
import Derived.Test.YtgcmgbjinommpaaWArr
import Derived.Test.YtgcmgbjinommpaaWZeros
import Derived.Test.YtgcmgbjinommpaaWFoot
import Derived.Test.YtgcmgbjinommpaaWKept
import Derived.Test.YtgcmgbjinommpaaWShare
import Derived.Test.YtgcmgbjinommpaaWN
import Derived.Test.YtgcmgbjinommpaaWFootNe
import Derived.Test.YtgcmgbjinommpaaWAt
import Derived.Test.YtgcmgbjinommpaaWEqStruct
import Derived.Test.YtgcmgbjinommpaaWRepsOne
import Derived.Test.YtgcmgbjinommpaaWInv
import Derived.Test.YtgcmgbjinommpaaWInvWords
import Derived.Test.YtgcmgbjinommpaaWGuard
import Derived.Test.YtgcmgbjinommpaaWNEv
import Derived.Test.YtgcmgbjinommpaaWMore
import Derived.Test.YtgcmgbjinommpaaXW
namespace Go.Proofs.Ytgcmgbjinommpaa.XA
open Go.RowKit Go.Proofs.YtgcmgbjinommpaaW.PrintWords Go.Proofs.YtgcmgbjinommpaaW.PrintLast Go.Proofs.YtgcmgbjinommpaaW.PrintMore Go.Proofs.Ytgcmgbjinommpaa.XW
attribute [local go_sem high] max2_str unary_xor_u32 leq_str geq_str gtr_str
attribute [local go_sem] max2_int min2_int max_two min_two max_three min_three max_four min_four   -- for this text's walks alone
set_option linter.unusedVariables false
set_option linter.unusedSimpArgs false



def errW : Option Int → Value
  | none => .nilIface
  | some c => .iface 0 (.int .i64 c)
theorem errW_none : errW none = .nilIface := rfl
theorem errW_some (c : Int) : errW (some c) = .iface 0 (.int .i64 c) := rfl

theorem info3 : (Try.prog.info? 3).map (fun i => (i.zero, i.size, i.bytes)) = some (some (.int .i64 0), 1, 8) := by kernel_rfl
theorem info5 : (Try.prog.info? 5).map (fun i => (i.zero, i.size, i.bytes)) = some (some (.int .u8 0), 1, 1) := by kernel_rfl
-- the values' own types

end Go.Proofs.Ytgcmgbjinommpaa.XA
