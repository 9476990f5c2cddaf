-- Written by a program of this session that drives the print of the kit, with contracts of its own beside the printed ones. Lean checks it.
import Derived.Test.YtaihpphekkiemaaProg
import Derived.Below
import Derived.Deep.Draws
import Derived.Deep.AppendLies
import Derived.Maps.AppendAt
import Derived.OwnWalk
import Derived.Laws.BytesArg
import Derived.Laws.MakeOwn
import Derived.Laws.OwnMore
import Derived.Deep.OwnRows
import Derived.Tactics
import Derived.Lib.ConvBytes
import Derived.Laws.Slices
import Derived.WalkKit
import Derived.KernelRfl
import Derived.RowKit3
import Derived.Deep.LoopGhost
import Derived.Deep.QuietTactic
import Derived.BigQuiet
import Derived.WideLaws
import Derived.Deep.DeepCutAuto
import Derived.Deep.CutBlock
import Derived.Deep.RegionHeld3
import Derived.Laws.Rows
import Derived.Lib.AppendStr
import Derived.ArgAppend
import Derived.Laws.IdiomCopy
import Derived.OrdersHeld
import Derived.Laws.BitsLemmas
import Derived.RowKit
import Derived.BigFrame
import Derived.Deep.Heap
import Derived.Laws.IdiomCopy
import Derived.OpenShut
import Derived.Test.YtaihpphekkiemaaShelf
import Derived.Test.YtaihpphekkiemaaWWords
import Derived.Test.YtaihpphekkiemaaWLast
import Derived.Test.YtaihpphekkiemaaWTab
import Derived.Test.YtaihpphekkiemaaWFour
import Derived.Test.YtaihpphekkiemaaWQPut
import Derived.Test.YtaihpphekkiemaaWApart
import Derived.Test.YtaihpphekkiemaaWArr
import Derived.Test.YtaihpphekkiemaaWZeros
import Derived.Test.YtaihpphekkiemaaWFoot
import Derived.Test.YtaihpphekkiemaaWKept
import Derived.Test.YtaihpphekkiemaaWShare
import Derived.Test.YtaihpphekkiemaaWN
import Derived.Test.YtaihpphekkiemaaWFootNe
import Derived.Test.YtaihpphekkiemaaWAt
import Derived.Test.YtaihpphekkiemaaWEqStruct
import Derived.Test.YtaihpphekkiemaaWRepsOne
import Derived.Test.YtaihpphekkiemaaWInv
import Derived.Test.YtaihpphekkiemaaWInvWords
import Derived.Test.YtaihpphekkiemaaWGuard
import Derived.Test.YtaihpphekkiemaaWNEv
import Derived.Test.YtaihpphekkiemaaWMore
namespace Go.Proofs.Ytaihpphekkiemaa.QFnExactThingCopy
open Go.RowKit Go.Proofs.YtaihpphekkiemaaW.PrintWords Go.Proofs.YtaihpphekkiemaaW.PrintLast Go.Proofs.YtaihpphekkiemaaW.PrintMore
attribute [local go_sem] max2_int min2_int max_two min_two max_three min_three max_four min_four   -- for this text's walks alone
set_option linter.unusedVariables false
set_option linter.unusedSimpArgs false



def errW : Option Int → Value
  | none => .nilIface
  | some c => .iface 0 (.int .i64 c)
theorem errW_none : errW none = .nilIface := rfl
theorem errW_some (c : Int) : errW (some c) = .iface 0 (.int .i64 c) := rfl

theorem info3 : (Try.prog.info? 3).map (fun i => (i.zero, i.size, i.bytes)) = some (some (.int .i64 0), 1, 8) := by kernel_rfl
-- the values' own types

end Go.Proofs.Ytaihpphekkiemaa.QFnExactThingCopy
