/- WRITTEN by a program of this session (wip/hprint.py, over the kit's print): Go functions as plain Lean functions, and that the code comes to just these answers. No condition beyond those that stand in each theorem. -/
import Derived.Test.YtfmlpcdbllpcaaaDoorProg
import Derived.Below
import Derived.Deep.Draws
import Derived.Deep.AppendLies
import Derived.Maps.AppendAt
import Derived.OwnWalk
import Derived.Laws.BytesArg
import Derived.Laws.MakeOwn
import Derived.Laws.OwnMore
import Derived.Deep.OwnRows
import Derived.Tactics
import Derived.Lib.ConvBytes
import Derived.Laws.Slices
import Derived.WalkKit
import Derived.KernelRfl
import Derived.RowKit3
import Derived.Deep.LoopGhost
import Derived.Deep.QuietTactic
import Derived.BigQuiet
import Derived.WideLaws
import Derived.Deep.DeepCutAuto
import Derived.Deep.CutBlock
import Derived.Deep.RegionHeld3
import Derived.Laws.Rows
import Derived.Lib.AppendStr
import Derived.ArgAppend
import Derived.Laws.IdiomCopy
import Derived.OrdersHeld
import Derived.Laws.BitsLemmas
import Derived.RowKit
import Derived.Test.YtfmlpcdbllpcaaaDoorHK
import Derived.Test.YtfmlpcdbllpcaaaDoorWWords
import Derived.Test.YtfmlpcdbllpcaaaDoorWLast
import Derived.Test.YtfmlpcdbllpcaaaDoorWTab
import Derived.Test.YtfmlpcdbllpcaaaDoorWFour
import Derived.Test.YtfmlpcdbllpcaaaDoorWQPut
import Derived.Test.YtfmlpcdbllpcaaaDoorWApart
import Derived.Test.YtfmlpcdbllpcaaaDoorWArr
import Derived.Test.YtfmlpcdbllpcaaaDoorWZeros
import Derived.Test.YtfmlpcdbllpcaaaDoorWFoot
import Derived.Test.YtfmlpcdbllpcaaaDoorWKept
import Derived.Test.YtfmlpcdbllpcaaaDoorWShare
import Derived.Test.YtfmlpcdbllpcaaaDoorWN
import Derived.Test.YtfmlpcdbllpcaaaDoorWFootNe
import Derived.Test.YtfmlpcdbllpcaaaDoorWAt
import Derived.Test.YtfmlpcdbllpcaaaDoorWEqStruct
import Derived.Test.YtfmlpcdbllpcaaaDoorWRepsOne
import Derived.Test.YtfmlpcdbllpcaaaDoorWInv
import Derived.Test.YtfmlpcdbllpcaaaDoorWInvWords
import Derived.Test.YtfmlpcdbllpcaaaDoorWGuard
import Derived.Test.YtfmlpcdbllpcaaaDoorWNEv
import Derived.Test.YtfmlpcdbllpcaaaDoorWMore
namespace Go.Proofs.YtfmlpcdbllpcaaaDoor.Qpbase
open Go.RowKit Go.Proofs.YtfmlpcdbllpcaaaDoor.HK Go.Proofs.YtfmlpcdbllpcaaaDoorW.PrintWords Go.Proofs.YtfmlpcdbllpcaaaDoorW.PrintLast Go.Proofs.YtfmlpcdbllpcaaaDoorW.PrintMore
attribute [local go_sem] max2_int min2_int max_two min_two max_three min_three max_four min_four   -- for this text's walks alone
set_option linter.unusedVariables false
set_option linter.unusedSimpArgs false



def errW : Option Int → Value
  | none => .nilIface
  | some c => .iface 0 (.int .i64 c)
theorem errW_none : errW none = .nilIface := rfl
theorem errW_some (c : Int) : errW (some c) = .iface 0 (.int .i64 c) := rfl

theorem info49 : (Tryd.prog.info? 49).map (fun i => (i.zero, i.size, i.bytes)) = some (some (.agg #[(.int .i64 0), (.int .i64 0), (.int .i64 0), (.int .i64 0), (.int .i64 0)]), 5, 40) := by kernel_rfl
-- the values' own types: in HK
end Go.Proofs.YtfmlpcdbllpcaaaDoor.Qpbase
