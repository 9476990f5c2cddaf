-- Written by a program of this session that drives the print of the kit, with contracts of its own beside the printed ones. Lean checks it.
import Derived.Test.YtpalgpgeicpaoaaProg
import Derived.Below
import Derived.Deep.Draws
import Derived.Deep.AppendLies
import Derived.Maps.AppendAt
import Derived.OwnWalk
import Derived.Laws.BytesArg
import Derived.Laws.MakeOwn
import Derived.Laws.OwnMore
import Derived.Deep.OwnRows
import Derived.Tactics
import Derived.Lib.ConvBytes
import Derived.Laws.Slices
import Derived.WalkKit
import Derived.KernelRfl
import Derived.RowKit3
import Derived.Deep.LoopGhost
import Derived.Deep.QuietTactic
import Derived.BigQuiet
import Derived.WideLaws
import Derived.Deep.DeepCutAuto
import Derived.Deep.CutBlock
import Derived.Deep.RegionHeld3
import Derived.Laws.Rows
import Derived.Lib.AppendStr
import Derived.ArgAppend
import Derived.Laws.IdiomCopy
import Derived.OrdersHeld
import Derived.Laws.BitsLemmas
import Derived.RowKit
import Derived.Test.YtpalgpgeicpaoaaWWords
import Derived.Test.YtpalgpgeicpaoaaWLast
import Derived.Test.YtpalgpgeicpaoaaWTab
import Derived.Test.YtpalgpgeicpaoaaWFour
import Derived.Test.YtpalgpgeicpaoaaWQPut
import Derived.Test.YtpalgpgeicpaoaaWApart
import Derived.Test.YtpalgpgeicpaoaaWArr
import Derived.Test.YtpalgpgeicpaoaaWZeros
import Derived.Test.YtpalgpgeicpaoaaWFoot
import Derived.Test.YtpalgpgeicpaoaaWKept
import Derived.Test.YtpalgpgeicpaoaaWShare
import Derived.Test.YtpalgpgeicpaoaaWN
import Derived.Test.YtpalgpgeicpaoaaWFootNe
import Derived.Test.YtpalgpgeicpaoaaWAt
import Derived.Test.YtpalgpgeicpaoaaWEqStruct
import Derived.Test.YtpalgpgeicpaoaaWRepsOne
import Derived.Test.YtpalgpgeicpaoaaWInv
import Derived.Test.YtpalgpgeicpaoaaWInvWords
import Derived.Test.YtpalgpgeicpaoaaWGuard
import Derived.Test.YtpalgpgeicpaoaaWNEv
import Derived.Test.YtpalgpgeicpaoaaWMore
namespace Go.Proofs.Ytpalgpgeicpaoaa.QFnSchedTurns
open Go.RowKit Go.Proofs.YtpalgpgeicpaoaaW.PrintWords Go.Proofs.YtpalgpgeicpaoaaW.PrintLast Go.Proofs.YtpalgpgeicpaoaaW.PrintMore
attribute [local go_sem] max2_int min2_int max_two min_two max_three min_three max_four min_four   -- for this text's walks alone
set_option linter.unusedVariables false
set_option linter.unusedSimpArgs false



def errW : Option Int → Value
  | none => .nilIface
  | some c => .iface 0 (.int .i64 c)
theorem errW_none : errW none = .nilIface := rfl
theorem errW_some (c : Int) : errW (some c) = .iface 0 (.int .i64 c) := rfl

theorem info3 : (Try.prog.info? 3).map (fun i => (i.zero, i.size, i.bytes)) = some (some (.int .i64 0), 1, 8) := by kernel_rfl
theorem info5 : (Try.prog.info? 5).map (fun i => (i.zero, i.size, i.bytes)) = some (some (.int .u8 0), 1, 1) := by kernel_rfl
-- the values' own types

end Go.Proofs.Ytpalgpgeicpaoaa.QFnSchedTurns
