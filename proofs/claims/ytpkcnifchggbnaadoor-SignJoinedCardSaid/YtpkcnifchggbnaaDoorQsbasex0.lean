/- WRITTEN by a program of this session (wip/hprint.py, over the kit's print): Go functions as plain Lean functions, and that the code comes to just these answers. No condition beyond those that stand in each theorem. -/
import Derived.Test.YtpkcnifchggbnaaDoorProg
import Derived.Below
import Derived.Deep.Draws
import Derived.Deep.AppendLies
import Derived.Maps.AppendAt
import Derived.OwnWalk
import Derived.Laws.BytesArg
import Derived.Laws.MakeOwn
import Derived.Laws.OwnMore
import Derived.Deep.OwnRows
import Derived.Tactics
import Derived.Lib.ConvBytes
import Derived.Laws.Slices
import Derived.WalkKit
import Derived.KernelRfl
import Derived.RowKit3
import Derived.Deep.LoopGhost
import Derived.Deep.QuietTactic
import Derived.BigQuiet
import Derived.WideLaws
import Derived.Deep.DeepCutAuto
import Derived.Deep.CutBlock
import Derived.Deep.RegionHeld3
import Derived.Laws.Rows
import Derived.Lib.AppendStr
import Derived.ArgAppend
import Derived.Laws.IdiomCopy
import Derived.OrdersHeld
import Derived.Laws.BitsLemmas
import Derived.RowKit
import Derived.Test.YtpkcnifchggbnaaDoorHK
import Derived.Test.YtpkcnifchggbnaaDoorWWords
import Derived.Test.YtpkcnifchggbnaaDoorWLast
import Derived.Test.YtpkcnifchggbnaaDoorWTab
import Derived.Test.YtpkcnifchggbnaaDoorWFour
import Derived.Test.YtpkcnifchggbnaaDoorWQPut
import Derived.Test.YtpkcnifchggbnaaDoorWApart
import Derived.Test.YtpkcnifchggbnaaDoorWArr
import Derived.Test.YtpkcnifchggbnaaDoorWZeros
import Derived.Test.YtpkcnifchggbnaaDoorWFoot
import Derived.Test.YtpkcnifchggbnaaDoorWKept
import Derived.Test.YtpkcnifchggbnaaDoorWShare
import Derived.Test.YtpkcnifchggbnaaDoorWN
import Derived.Test.YtpkcnifchggbnaaDoorWFootNe
import Derived.Test.YtpkcnifchggbnaaDoorWAt
import Derived.Test.YtpkcnifchggbnaaDoorWEqStruct
import Derived.Test.YtpkcnifchggbnaaDoorWRepsOne
import Derived.Test.YtpkcnifchggbnaaDoorWInv
import Derived.Test.YtpkcnifchggbnaaDoorWInvWords
import Derived.Test.YtpkcnifchggbnaaDoorWGuard
import Derived.Test.YtpkcnifchggbnaaDoorWNEv
import Derived.Test.YtpkcnifchggbnaaDoorWMore
namespace Go.Proofs.YtpkcnifchggbnaaDoor.Qsbase
open Go.RowKit Go.Proofs.YtpkcnifchggbnaaDoor.HK Go.Proofs.YtpkcnifchggbnaaDoorW.PrintWords Go.Proofs.YtpkcnifchggbnaaDoorW.PrintLast Go.Proofs.YtpkcnifchggbnaaDoorW.PrintMore
attribute [local go_sem] max2_int min2_int max_two min_two max_three min_three max_four min_four   -- for this text's walks alone
set_option linter.unusedVariables false
set_option linter.unusedSimpArgs false



def errW : Option Int → Value
  | none => .nilIface
  | some c => .iface 0 (.int .i64 c)
theorem errW_none : errW none = .nilIface := rfl
theorem errW_some (c : Int) : errW (some c) = .iface 0 (.int .i64 c) := rfl

theorem info3 : (Tryd.prog.info? 3).map (fun i => (i.zero, i.size, i.bytes)) = some (some (.int .i64 0), 1, 8) := by kernel_rfl
-- the values' own types: in HK
end Go.Proofs.YtpkcnifchggbnaaDoor.Qsbase
