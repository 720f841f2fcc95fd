/- Contracts, walks and rows for laws of the seat YtlagckiombkngaaDoor, written by a program of this session out of the translation: plain Lean, checked by Lean. No condition. -/
import Derived.Test.YtlagckiombkngaaDoorProg
import Derived.Below
import Derived.Deep.Draws
import Derived.Deep.AppendLies
import Derived.Maps.AppendAt
import Derived.OwnWalk
import Derived.Laws.BytesArg
import Derived.Laws.MakeOwn
import Derived.Laws.OwnMore
import Derived.Deep.OwnRows
import Derived.Tactics
import Derived.Lib.ConvBytes
import Derived.Laws.Slices
import Derived.WalkKit
import Derived.KernelRfl
import Derived.RowKit3
import Derived.Deep.LoopGhost
import Derived.Deep.QuietTactic
import Derived.BigQuiet
import Derived.WideLaws
import Derived.Deep.DeepCutAuto
import Derived.Deep.CutBlock
import Derived.Deep.RegionHeld3
import Derived.Laws.Rows
import Derived.Lib.AppendStr
import Derived.ArgAppend
import Derived.Laws.IdiomCopy
import Derived.OrdersHeld
import Derived.Laws.BitsLemmas
import Derived.RowKit
import Derived.Test.YtlagckiombkngaaDoorHandDec
import Derived.Test.YtlagckiombkngaaDoorWWords
import Derived.Test.YtlagckiombkngaaDoorWLast
import Derived.Test.YtlagckiombkngaaDoorWTab
import Derived.Test.YtlagckiombkngaaDoorWFour
import Derived.Test.YtlagckiombkngaaDoorWQPut
import Derived.Test.YtlagckiombkngaaDoorWApart
import Derived.Test.YtlagckiombkngaaDoorWArr
import Derived.Test.YtlagckiombkngaaDoorWZeros
import Derived.Test.YtlagckiombkngaaDoorWFoot
import Derived.Test.YtlagckiombkngaaDoorWKept
import Derived.Test.YtlagckiombkngaaDoorWShare
import Derived.Test.YtlagckiombkngaaDoorWN
import Derived.Test.YtlagckiombkngaaDoorWFootNe
import Derived.Test.YtlagckiombkngaaDoorWAt
import Derived.Test.YtlagckiombkngaaDoorWEqStruct
import Derived.Test.YtlagckiombkngaaDoorWRepsOne
import Derived.Test.YtlagckiombkngaaDoorWInv
import Derived.Test.YtlagckiombkngaaDoorWInvWords
import Derived.Test.YtlagckiombkngaaDoorWGuard
import Derived.Test.YtlagckiombkngaaDoorWNEv
import Derived.Test.YtlagckiombkngaaDoorWMore
namespace Go.Proofs.YtlagckiombkngaaDoor.Q
open Go.Proofs.YtlagckiombkngaaDoor.Hand
open Go.RowKit Go.Proofs.YtlagckiombkngaaDoorW.PrintWords Go.Proofs.YtlagckiombkngaaDoorW.PrintLast Go.Proofs.YtlagckiombkngaaDoorW.PrintMore
attribute [local go_sem] max2_int min2_int max_two min_two max_three min_three max_four min_four   -- for this text's walks alone
set_option linter.unusedVariables false
set_option linter.unusedSimpArgs false



def errW : Option Int → Value
  | none => .nilIface
  | some c => .iface 0 (.int .i64 c)
theorem errW_none : errW none = .nilIface := rfl
theorem errW_some (c : Int) : errW (some c) = .iface 0 (.int .i64 c) := rfl

theorem info2 : (Tryd.prog.info? 2).map (fun i => (i.zero, i.size, i.bytes)) = some (some (.int .i64 0), 1, 8) := by kernel_rfl
theorem info5 : (Tryd.prog.info? 5).map (fun i => (i.zero, i.size, i.bytes)) = some (some (.int .u8 0), 1, 1) := by kernel_rfl
-- the values' own types

end Go.Proofs.YtlagckiombkngaaDoor.Q
