/- WRITTEN by a program of this session (wip/hprint.py, over the kit's print): Go functions as plain Lean functions, and that the code comes to just these answers. No condition beyond those that stand in each theorem. -/
import Derived.Test.YtdcmdmlbpcekaaaProg
import Derived.Below
import Derived.Deep.Draws
import Derived.Deep.AppendLies
import Derived.Maps.AppendAt
import Derived.OwnWalk
import Derived.Laws.BytesArg
import Derived.Laws.MakeOwn
import Derived.Laws.OwnMore
import Derived.Deep.OwnRows
import Derived.Tactics
import Derived.Lib.ConvBytes
import Derived.Laws.Slices
import Derived.WalkKit
import Derived.KernelRfl
import Derived.RowKit3
import Derived.Deep.LoopGhost
import Derived.Deep.QuietTactic
import Derived.BigQuiet
import Derived.WideLaws
import Derived.Deep.DeepCutAuto
import Derived.Deep.CutBlock
import Derived.Deep.RegionHeld3
import Derived.Laws.Rows
import Derived.Lib.AppendStr
import Derived.ArgAppend
import Derived.Laws.IdiomCopy
import Derived.OrdersHeld
import Derived.Laws.BitsLemmas
import Derived.RowKit
import Derived.Test.YtdcmdmlbpcekaaaHdA
import Derived.Test.YtdcmdmlbpcekaaaHdB
import Derived.Test.YtdcmdmlbpcekaaaHdC
import Derived.Test.YtdcmdmlbpcekaaaHdE
import Derived.Test.YtdcmdmlbpcekaaaWWords
import Derived.Test.YtdcmdmlbpcekaaaWLast
import Derived.Test.YtdcmdmlbpcekaaaWTab
import Derived.Test.YtdcmdmlbpcekaaaWFour
import Derived.Test.YtdcmdmlbpcekaaaWQPut
import Derived.Test.YtdcmdmlbpcekaaaWApart
import Derived.Test.YtdcmdmlbpcekaaaWArr
import Derived.Test.YtdcmdmlbpcekaaaWZeros
import Derived.Test.YtdcmdmlbpcekaaaWFoot
import Derived.Test.YtdcmdmlbpcekaaaWKept
import Derived.Test.YtdcmdmlbpcekaaaWShare
import Derived.Test.YtdcmdmlbpcekaaaWN
import Derived.Test.YtdcmdmlbpcekaaaWFootNe
import Derived.Test.YtdcmdmlbpcekaaaWAt
import Derived.Test.YtdcmdmlbpcekaaaWEqStruct
import Derived.Test.YtdcmdmlbpcekaaaWRepsOne
import Derived.Test.YtdcmdmlbpcekaaaWInv
import Derived.Test.YtdcmdmlbpcekaaaWInvWords
import Derived.Test.YtdcmdmlbpcekaaaWGuard
import Derived.Test.YtdcmdmlbpcekaaaWNEv
import Derived.Test.YtdcmdmlbpcekaaaWMore
namespace Go.Proofs.Ytdcmdmlbpcekaaa.Qawake
open Go.RowKit Go.Proofs.YtdcmdmlbpcekaaaW.PrintWords Go.Proofs.YtdcmdmlbpcekaaaW.PrintLast Go.Proofs.YtdcmdmlbpcekaaaW.PrintMore
attribute [local go_sem] max2_int min2_int max_two min_two max_three min_three max_four min_four   -- for this text's walks alone
set_option linter.unusedVariables false
set_option linter.unusedSimpArgs false



def errW : Option Int → Value
  | none => .nilIface
  | some c => .iface 0 (.int .i64 c)
theorem errW_none : errW none = .nilIface := rfl
theorem errW_some (c : Int) : errW (some c) = .iface 0 (.int .i64 c) := rfl

theorem info3 : (Try.prog.info? 3).map (fun i => (i.zero, i.size, i.bytes)) = some (some (.int .i64 0), 1, 8) := by kernel_rfl
-- the values' own types

end Go.Proofs.Ytdcmdmlbpcekaaa.Qawake
