-- Written by a program of this session (wip/xprint.py) out of the translation.
import Derived.Test.YtlgcnpdikchllaaProg
import Derived.Below
import Derived.Deep.Draws
import Derived.Deep.AppendLies
import Derived.Maps.AppendAt
import Derived.OwnWalk
import Derived.Laws.BytesArg
import Derived.Laws.MakeOwn
import Derived.Laws.OwnMore
import Derived.Deep.OwnRows
import Derived.Tactics
import Derived.Lib.ConvBytes
import Derived.Laws.Slices
import Derived.WalkKit
import Derived.KernelRfl
import Derived.RowKit3
import Derived.Deep.LoopGhost
import Derived.Deep.QuietTactic
import Derived.BigQuiet
import Derived.WideLaws
import Derived.Deep.DeepCutAuto
import Derived.Deep.CutBlock
import Derived.Deep.RegionHeld3
import Derived.Laws.Rows
import Derived.Lib.AppendStr
import Derived.ArgAppend
import Derived.Laws.IdiomCopy
import Derived.OrdersHeld
import Derived.Laws.BitsLemmas
import Derived.RowKit
import Derived.Test.YtlgcnpdikchllaaWWords
import Derived.Test.YtlgcnpdikchllaaWLast
import Derived.Test.YtlgcnpdikchllaaWTab
import Derived.Test.YtlgcnpdikchllaaWFour
import Derived.Test.YtlgcnpdikchllaaWQPut
import Derived.Test.YtlgcnpdikchllaaWApart
import Derived.Test.YtlgcnpdikchllaaWArr
import Derived.Test.YtlgcnpdikchllaaWZeros
import Derived.Test.YtlgcnpdikchllaaWFoot
import Derived.Test.YtlgcnpdikchllaaWKept
import Derived.Test.YtlgcnpdikchllaaWShare
import Derived.Test.YtlgcnpdikchllaaWN
import Derived.Test.YtlgcnpdikchllaaWFootNe
import Derived.Test.YtlgcnpdikchllaaWAt
import Derived.Test.YtlgcnpdikchllaaWEqStruct
import Derived.Test.YtlgcnpdikchllaaWRepsOne
import Derived.Test.YtlgcnpdikchllaaWInv
import Derived.Test.YtlgcnpdikchllaaWInvWords
import Derived.Test.YtlgcnpdikchllaaWGuard
import Derived.Test.YtlgcnpdikchllaaWNEv
import Derived.Test.YtlgcnpdikchllaaWMore
import Derived.Test.YtlgcnpdikchllaaXW
namespace Go.Proofs.Ytlgcnpdikchllaa.XA
open Go.RowKit Go.Proofs.YtlgcnpdikchllaaW.PrintWords Go.Proofs.YtlgcnpdikchllaaW.PrintLast Go.Proofs.YtlgcnpdikchllaaW.PrintMore Go.Proofs.Ytlgcnpdikchllaa.XW
attribute [local go_sem high] max2_str unary_xor_u32 leq_str geq_str gtr_str
attribute [local go_sem] max2_int min2_int max_two min_two max_three min_three max_four min_four   -- for this text's walks alone
set_option linter.unusedVariables false
set_option linter.unusedSimpArgs false



def errW : Option Int → Value
  | none => .nilIface
  | some c => .iface 0 (.int .i64 c)
theorem errW_none : errW none = .nilIface := rfl
theorem errW_some (c : Int) : errW (some c) = .iface 0 (.int .i64 c) := rfl

theorem info3 : (Try.prog.info? 3).map (fun i => (i.zero, i.size, i.bytes)) = some (some (.int .i64 0), 1, 8) := by kernel_rfl
theorem info5 : (Try.prog.info? 5).map (fun i => (i.zero, i.size, i.bytes)) = some (some (.int .u8 0), 1, 1) := by kernel_rfl
theorem info9 : (Try.prog.info? 9).map (fun i => (i.zero, i.size, i.bytes)) = some (some (.string ⟨#[]⟩), 1, 16) := by kernel_rfl
-- the values' own types

end Go.Proofs.Ytlgcnpdikchllaa.XA
