-- Written by a program of this session that drives the print of the kit, with contracts of its own beside the printed ones. Lean checks it.
import Derived.Test.YtnkcoooifjjmbaaProg
import Derived.Below
import Derived.Deep.Draws
import Derived.Deep.AppendLies
import Derived.Maps.AppendAt
import Derived.OwnWalk
import Derived.Laws.BytesArg
import Derived.Laws.MakeOwn
import Derived.Laws.OwnMore
import Derived.Deep.OwnRows
import Derived.Tactics
import Derived.Lib.ConvBytes
import Derived.Laws.Slices
import Derived.WalkKit
import Derived.KernelRfl
import Derived.RowKit3
import Derived.Deep.LoopGhost
import Derived.Deep.QuietTactic
import Derived.BigQuiet
import Derived.WideLaws
import Derived.Deep.DeepCutAuto
import Derived.Deep.CutBlock
import Derived.Deep.RegionHeld3
import Derived.Laws.Rows
import Derived.Lib.AppendStr
import Derived.ArgAppend
import Derived.Laws.IdiomCopy
import Derived.OrdersHeld
import Derived.Laws.BitsLemmas
import Derived.RowKit
import Derived.RegionTactic
import Derived.Test.YtnkcoooifjjmbaaWWords
import Derived.Test.YtnkcoooifjjmbaaWLast
import Derived.Test.YtnkcoooifjjmbaaWTab
import Derived.Test.YtnkcoooifjjmbaaWFour
import Derived.Test.YtnkcoooifjjmbaaWQPut
import Derived.Test.YtnkcoooifjjmbaaWApart
import Derived.Test.YtnkcoooifjjmbaaWArr
import Derived.Test.YtnkcoooifjjmbaaWZeros
import Derived.Test.YtnkcoooifjjmbaaWFoot
import Derived.Test.YtnkcoooifjjmbaaWKept
import Derived.Test.YtnkcoooifjjmbaaWShare
import Derived.Test.YtnkcoooifjjmbaaWN
import Derived.Test.YtnkcoooifjjmbaaWFootNe
import Derived.Test.YtnkcoooifjjmbaaWAt
import Derived.Test.YtnkcoooifjjmbaaWEqStruct
import Derived.Test.YtnkcoooifjjmbaaWRepsOne
import Derived.Test.YtnkcoooifjjmbaaWInv
import Derived.Test.YtnkcoooifjjmbaaWInvWords
import Derived.Test.YtnkcoooifjjmbaaWGuard
import Derived.Test.YtnkcoooifjjmbaaWNEv
import Derived.Test.YtnkcoooifjjmbaaWMore
namespace Go.Proofs.Ytnkcoooifjjmbaa.QFnExactOpPlain
open Go.RowKit Go.Proofs.YtnkcoooifjjmbaaW.PrintWords Go.Proofs.YtnkcoooifjjmbaaW.PrintLast Go.Proofs.YtnkcoooifjjmbaaW.PrintMore
attribute [local go_sem] max2_int min2_int max_two min_two max_three min_three max_four min_four   -- for this text's walks alone
set_option linter.unusedVariables false
set_option linter.unusedSimpArgs false



def errW : Option Int → Value
  | none => .nilIface
  | some c => .iface 0 (.int .i64 c)
theorem errW_none : errW none = .nilIface := rfl
theorem errW_some (c : Int) : errW (some c) = .iface 0 (.int .i64 c) := rfl

-- the values' own types

end Go.Proofs.Ytnkcoooifjjmbaa.QFnExactOpPlain
