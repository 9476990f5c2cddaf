-- Written by a program of this session that drives the print of the kit, with contracts of its own beside the printed ones. Lean checks it.
import Derived.Test.YtnkcoooifjjmbaaDoorProg
import Derived.Below
import Derived.Deep.Draws
import Derived.Deep.AppendLies
import Derived.Maps.AppendAt
import Derived.OwnWalk
import Derived.Laws.BytesArg
import Derived.Laws.MakeOwn
import Derived.Laws.OwnMore
import Derived.Deep.OwnRows
import Derived.Tactics
import Derived.Lib.ConvBytes
import Derived.Laws.Slices
import Derived.WalkKit
import Derived.KernelRfl
import Derived.RowKit3
import Derived.Deep.LoopGhost
import Derived.Deep.QuietTactic
import Derived.BigQuiet
import Derived.WideLaws
import Derived.Deep.DeepCutAuto
import Derived.Deep.CutBlock
import Derived.Deep.RegionHeld3
import Derived.Laws.Rows
import Derived.Lib.AppendStr
import Derived.ArgAppend
import Derived.Laws.IdiomCopy
import Derived.OrdersHeld
import Derived.Laws.BitsLemmas
import Derived.RowKit
import Derived.Deep.Heap
import Derived.Deep.RegionWith
import Derived.Lib.ItoaLen
import Derived.Lib.SliceRun
import Derived.Lib.SmallJoins
import Derived.OpenShut
import Derived.RegionTactic
import Derived.Test.YtnkcoooifjjmbaaDoorShelf
import Derived.Test.YtnkcoooifjjmbaaDoorWWords
import Derived.Test.YtnkcoooifjjmbaaDoorWLast
import Derived.Test.YtnkcoooifjjmbaaDoorWTab
import Derived.Test.YtnkcoooifjjmbaaDoorWFour
import Derived.Test.YtnkcoooifjjmbaaDoorWQPut
import Derived.Test.YtnkcoooifjjmbaaDoorWApart
import Derived.Test.YtnkcoooifjjmbaaDoorWArr
import Derived.Test.YtnkcoooifjjmbaaDoorWZeros
import Derived.Test.YtnkcoooifjjmbaaDoorWFoot
import Derived.Test.YtnkcoooifjjmbaaDoorWKept
import Derived.Test.YtnkcoooifjjmbaaDoorWShare
import Derived.Test.YtnkcoooifjjmbaaDoorWN
import Derived.Test.YtnkcoooifjjmbaaDoorWFootNe
import Derived.Test.YtnkcoooifjjmbaaDoorWAt
import Derived.Test.YtnkcoooifjjmbaaDoorWEqStruct
import Derived.Test.YtnkcoooifjjmbaaDoorWRepsOne
import Derived.Test.YtnkcoooifjjmbaaDoorWInv
import Derived.Test.YtnkcoooifjjmbaaDoorWInvWords
import Derived.Test.YtnkcoooifjjmbaaDoorWGuard
import Derived.Test.YtnkcoooifjjmbaaDoorWNEv
import Derived.Test.YtnkcoooifjjmbaaDoorWMore
namespace Go.Proofs.YtnkcoooifjjmbaaDoor.QFnExactPicksText
open Go.RowKit Go.Proofs.YtnkcoooifjjmbaaDoorW.PrintWords Go.Proofs.YtnkcoooifjjmbaaDoorW.PrintLast Go.Proofs.YtnkcoooifjjmbaaDoorW.PrintMore
attribute [local go_sem] max2_int min2_int max_two min_two max_three min_three max_four min_four   -- for this text's walks alone
set_option linter.unusedVariables false
set_option linter.unusedSimpArgs false



def errW : Option Int → Value
  | none => .nilIface
  | some c => .iface 0 (.int .i64 c)
theorem errW_none : errW none = .nilIface := rfl
theorem errW_some (c : Int) : errW (some c) = .iface 0 (.int .i64 c) := rfl

theorem info3 : (Tryd.prog.info? 3).map (fun i => (i.zero, i.size, i.bytes)) = some (some (.int .i64 0), 1, 8) := by kernel_rfl
theorem info5 : (Tryd.prog.info? 5).map (fun i => (i.zero, i.size, i.bytes)) = some (some (.int .u8 0), 1, 1) := by kernel_rfl
theorem info9 : (Tryd.prog.info? 9).map (fun i => (i.zero, i.size, i.bytes)) = some (some (.string ⟨#[]⟩), 1, 16) := by kernel_rfl
-- the values' own types

end Go.Proofs.YtnkcoooifjjmbaaDoor.QFnExactPicksText
