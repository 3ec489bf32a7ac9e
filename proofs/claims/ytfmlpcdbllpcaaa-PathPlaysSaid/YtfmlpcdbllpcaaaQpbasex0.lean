/- WRITTEN by a program of this session (wip/hprint.py, over the kit's print): Go functions as plain Lean functions, and that the code comes to just these answers. No condition beyond those that stand in each theorem. -/
import Derived.Test.YtfmlpcdbllpcaaaProg
import Derived.Below
import Derived.Deep.Draws
import Derived.Deep.AppendLies
import Derived.Maps.AppendAt
import Derived.OwnWalk
import Derived.Laws.BytesArg
import Derived.Laws.MakeOwn
import Derived.Laws.OwnMore
import Derived.Deep.OwnRows
import Derived.Tactics
import Derived.Lib.ConvBytes
import Derived.Laws.Slices
import Derived.WalkKit
import Derived.KernelRfl
import Derived.RowKit3
import Derived.Deep.LoopGhost
import Derived.Deep.QuietTactic
import Derived.BigQuiet
import Derived.WideLaws
import Derived.Deep.DeepCutAuto
import Derived.Deep.CutBlock
import Derived.Deep.RegionHeld3
import Derived.Laws.Rows
import Derived.Lib.AppendStr
import Derived.ArgAppend
import Derived.Laws.IdiomCopy
import Derived.OrdersHeld
import Derived.Laws.BitsLemmas
import Derived.RowKit
import Derived.Test.YtfmlpcdbllpcaaaHK
import Derived.Test.YtfmlpcdbllpcaaaWWords
import Derived.Test.YtfmlpcdbllpcaaaWLast
import Derived.Test.YtfmlpcdbllpcaaaWTab
import Derived.Test.YtfmlpcdbllpcaaaWFour
import Derived.Test.YtfmlpcdbllpcaaaWQPut
import Derived.Test.YtfmlpcdbllpcaaaWApart
import Derived.Test.YtfmlpcdbllpcaaaWArr
import Derived.Test.YtfmlpcdbllpcaaaWZeros
import Derived.Test.YtfmlpcdbllpcaaaWFoot
import Derived.Test.YtfmlpcdbllpcaaaWKept
import Derived.Test.YtfmlpcdbllpcaaaWShare
import Derived.Test.YtfmlpcdbllpcaaaWN
import Derived.Test.YtfmlpcdbllpcaaaWFootNe
import Derived.Test.YtfmlpcdbllpcaaaWAt
import Derived.Test.YtfmlpcdbllpcaaaWEqStruct
import Derived.Test.YtfmlpcdbllpcaaaWRepsOne
import Derived.Test.YtfmlpcdbllpcaaaWInv
import Derived.Test.YtfmlpcdbllpcaaaWInvWords
import Derived.Test.YtfmlpcdbllpcaaaWGuard
import Derived.Test.YtfmlpcdbllpcaaaWNEv
import Derived.Test.YtfmlpcdbllpcaaaWMore
namespace Go.Proofs.Ytfmlpcdbllpcaaa.Qpbase
open Go.RowKit Go.Proofs.Ytfmlpcdbllpcaaa.HK Go.Proofs.YtfmlpcdbllpcaaaW.PrintWords Go.Proofs.YtfmlpcdbllpcaaaW.PrintLast Go.Proofs.YtfmlpcdbllpcaaaW.PrintMore
attribute [local go_sem] max2_int min2_int max_two min_two max_three min_three max_four min_four   -- for this text's walks alone
set_option linter.unusedVariables false
set_option linter.unusedSimpArgs false



def errW : Option Int → Value
  | none => .nilIface
  | some c => .iface 0 (.int .i64 c)
theorem errW_none : errW none = .nilIface := rfl
theorem errW_some (c : Int) : errW (some c) = .iface 0 (.int .i64 c) := rfl

theorem info43 : (Try.prog.info? 43).map (fun i => (i.zero, i.size, i.bytes)) = some (some (.agg #[(.int .i64 0), (.int .i64 0), (.int .i64 0), (.int .i64 0), (.int .i64 0)]), 5, 40) := by kernel_rfl
-- the values' own types: in HK
end Go.Proofs.Ytfmlpcdbllpcaaa.Qpbase
