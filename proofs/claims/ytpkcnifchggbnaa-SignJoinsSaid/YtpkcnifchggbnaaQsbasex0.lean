/- WRITTEN by a program of this session (wip/hprint.py, over the kit's print): Go functions as plain Lean functions, and that the code comes to just these answers. No condition beyond those that stand in each theorem. -/
import Derived.Test.YtpkcnifchggbnaaProg
import Derived.Below
import Derived.Deep.Draws
import Derived.Deep.AppendLies
import Derived.Maps.AppendAt
import Derived.OwnWalk
import Derived.Laws.BytesArg
import Derived.Laws.MakeOwn
import Derived.Laws.OwnMore
import Derived.Deep.OwnRows
import Derived.Tactics
import Derived.Lib.ConvBytes
import Derived.Laws.Slices
import Derived.WalkKit
import Derived.KernelRfl
import Derived.RowKit3
import Derived.Deep.LoopGhost
import Derived.Deep.QuietTactic
import Derived.BigQuiet
import Derived.WideLaws
import Derived.Deep.DeepCutAuto
import Derived.Deep.CutBlock
import Derived.Deep.RegionHeld3
import Derived.Laws.Rows
import Derived.Lib.AppendStr
import Derived.ArgAppend
import Derived.Laws.IdiomCopy
import Derived.OrdersHeld
import Derived.Laws.BitsLemmas
import Derived.RowKit
import Derived.Test.YtpkcnifchggbnaaHK
import Derived.Test.YtpkcnifchggbnaaWWords
import Derived.Test.YtpkcnifchggbnaaWLast
import Derived.Test.YtpkcnifchggbnaaWTab
import Derived.Test.YtpkcnifchggbnaaWFour
import Derived.Test.YtpkcnifchggbnaaWQPut
import Derived.Test.YtpkcnifchggbnaaWApart
import Derived.Test.YtpkcnifchggbnaaWArr
import Derived.Test.YtpkcnifchggbnaaWZeros
import Derived.Test.YtpkcnifchggbnaaWFoot
import Derived.Test.YtpkcnifchggbnaaWKept
import Derived.Test.YtpkcnifchggbnaaWShare
import Derived.Test.YtpkcnifchggbnaaWN
import Derived.Test.YtpkcnifchggbnaaWFootNe
import Derived.Test.YtpkcnifchggbnaaWAt
import Derived.Test.YtpkcnifchggbnaaWEqStruct
import Derived.Test.YtpkcnifchggbnaaWRepsOne
import Derived.Test.YtpkcnifchggbnaaWInv
import Derived.Test.YtpkcnifchggbnaaWInvWords
import Derived.Test.YtpkcnifchggbnaaWGuard
import Derived.Test.YtpkcnifchggbnaaWNEv
import Derived.Test.YtpkcnifchggbnaaWMore
namespace Go.Proofs.Ytpkcnifchggbnaa.Qsbase
open Go.RowKit Go.Proofs.Ytpkcnifchggbnaa.HK Go.Proofs.YtpkcnifchggbnaaW.PrintWords Go.Proofs.YtpkcnifchggbnaaW.PrintLast Go.Proofs.YtpkcnifchggbnaaW.PrintMore
attribute [local go_sem] max2_int min2_int max_two min_two max_three min_three max_four min_four   -- for this text's walks alone
set_option linter.unusedVariables false
set_option linter.unusedSimpArgs false



def errW : Option Int → Value
  | none => .nilIface
  | some c => .iface 0 (.int .i64 c)
theorem errW_none : errW none = .nilIface := rfl
theorem errW_some (c : Int) : errW (some c) = .iface 0 (.int .i64 c) := rfl

theorem info3 : (Try.prog.info? 3).map (fun i => (i.zero, i.size, i.bytes)) = some (some (.int .i64 0), 1, 8) := by kernel_rfl
-- the values' own types: in HK
end Go.Proofs.Ytpkcnifchggbnaa.Qsbase
