/- WRITTEN by a program of this session (wip/hprint.py, over the kit's print): Go functions as plain Lean functions, and that the code comes to just these answers. No condition beyond those that stand in each theorem. -/
import Derived.Test.YtnblmjkaieibhaaProg
import Derived.Below
import Derived.Deep.Draws
import Derived.Deep.AppendLies
import Derived.Maps.AppendAt
import Derived.OwnWalk
import Derived.Laws.BytesArg
import Derived.Laws.MakeOwn
import Derived.Laws.OwnMore
import Derived.Deep.OwnRows
import Derived.Tactics
import Derived.Lib.ConvBytes
import Derived.Laws.Slices
import Derived.WalkKit
import Derived.KernelRfl
import Derived.RowKit3
import Derived.Deep.LoopGhost
import Derived.Deep.QuietTactic
import Derived.BigQuiet
import Derived.WideLaws
import Derived.Deep.DeepCutAuto
import Derived.Deep.CutBlock
import Derived.Deep.RegionHeld3
import Derived.Laws.Rows
import Derived.Lib.AppendStr
import Derived.ArgAppend
import Derived.Laws.IdiomCopy
import Derived.OrdersHeld
import Derived.Laws.BitsLemmas
import Derived.RowKit
import Derived.Test.YtnblmjkaieibhaaHK
import Derived.Test.YtnblmjkaieibhaaHdA
import Derived.Test.YtnblmjkaieibhaaHdB
import Derived.Test.YtnblmjkaieibhaaWWords
import Derived.Test.YtnblmjkaieibhaaWLast
import Derived.Test.YtnblmjkaieibhaaWTab
import Derived.Test.YtnblmjkaieibhaaWFour
import Derived.Test.YtnblmjkaieibhaaWQPut
import Derived.Test.YtnblmjkaieibhaaWApart
import Derived.Test.YtnblmjkaieibhaaWArr
import Derived.Test.YtnblmjkaieibhaaWZeros
import Derived.Test.YtnblmjkaieibhaaWFoot
import Derived.Test.YtnblmjkaieibhaaWKept
import Derived.Test.YtnblmjkaieibhaaWShare
import Derived.Test.YtnblmjkaieibhaaWN
import Derived.Test.YtnblmjkaieibhaaWFootNe
import Derived.Test.YtnblmjkaieibhaaWAt
import Derived.Test.YtnblmjkaieibhaaWEqStruct
import Derived.Test.YtnblmjkaieibhaaWRepsOne
import Derived.Test.YtnblmjkaieibhaaWInv
import Derived.Test.YtnblmjkaieibhaaWInvWords
import Derived.Test.YtnblmjkaieibhaaWGuard
import Derived.Test.YtnblmjkaieibhaaWNEv
import Derived.Test.YtnblmjkaieibhaaWMore
namespace Go.Proofs.Ytnblmjkaieibhaa.Qobase
open Go.RowKit Go.Proofs.Ytnblmjkaieibhaa.HK Go.Proofs.YtnblmjkaieibhaaW.PrintWords Go.Proofs.YtnblmjkaieibhaaW.PrintLast Go.Proofs.YtnblmjkaieibhaaW.PrintMore
attribute [local go_sem] max2_int min2_int max_two min_two max_three min_three max_four min_four   -- for this text's walks alone
set_option linter.unusedVariables false
set_option linter.unusedSimpArgs false



def errW : Option Int → Value
  | none => .nilIface
  | some c => .iface 0 (.int .i64 c)
theorem errW_none : errW none = .nilIface := rfl
theorem errW_some (c : Int) : errW (some c) = .iface 0 (.int .i64 c) := rfl

theorem info3 : (Try.prog.info? 3).map (fun i => (i.zero, i.size, i.bytes)) = some (some (.int .i64 0), 1, 8) := by kernel_rfl
theorem info4 : (Try.prog.info? 4).map (fun i => (i.zero, i.size, i.bytes)) = some (some (.bool false), 1, 1) := by kernel_rfl
-- the values' own types: in HK
end Go.Proofs.Ytnblmjkaieibhaa.Qobase
