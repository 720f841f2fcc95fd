/- Contracts, walks and rows for laws of the seat Ytlagckiombkngaa, written by a program of this session out of the translation: plain Lean, checked by Lean. No condition. -/
import Derived.Test.YtlagckiombkngaaProg
import Derived.Below
import Derived.Deep.Draws
import Derived.Deep.AppendLies
import Derived.Maps.AppendAt
import Derived.OwnWalk
import Derived.Laws.BytesArg
import Derived.Laws.MakeOwn
import Derived.Laws.OwnMore
import Derived.Deep.OwnRows
import Derived.Tactics
import Derived.Lib.ConvBytes
import Derived.Laws.Slices
import Derived.WalkKit
import Derived.KernelRfl
import Derived.RowKit3
import Derived.Deep.LoopGhost
import Derived.Deep.QuietTactic
import Derived.BigQuiet
import Derived.WideLaws
import Derived.Deep.DeepCutAuto
import Derived.Deep.CutBlock
import Derived.Deep.RegionHeld3
import Derived.Laws.Rows
import Derived.Lib.AppendStr
import Derived.ArgAppend
import Derived.Laws.IdiomCopy
import Derived.OrdersHeld
import Derived.Laws.BitsLemmas
import Derived.RowKit
import Derived.Test.YtlagckiombkngaaHandIsP
import Derived.Test.YtlagckiombkngaaWWords
import Derived.Test.YtlagckiombkngaaWLast
import Derived.Test.YtlagckiombkngaaWTab
import Derived.Test.YtlagckiombkngaaWFour
import Derived.Test.YtlagckiombkngaaWQPut
import Derived.Test.YtlagckiombkngaaWApart
import Derived.Test.YtlagckiombkngaaWArr
import Derived.Test.YtlagckiombkngaaWZeros
import Derived.Test.YtlagckiombkngaaWFoot
import Derived.Test.YtlagckiombkngaaWKept
import Derived.Test.YtlagckiombkngaaWShare
import Derived.Test.YtlagckiombkngaaWN
import Derived.Test.YtlagckiombkngaaWFootNe
import Derived.Test.YtlagckiombkngaaWAt
import Derived.Test.YtlagckiombkngaaWEqStruct
import Derived.Test.YtlagckiombkngaaWRepsOne
import Derived.Test.YtlagckiombkngaaWInv
import Derived.Test.YtlagckiombkngaaWInvWords
import Derived.Test.YtlagckiombkngaaWGuard
import Derived.Test.YtlagckiombkngaaWNEv
import Derived.Test.YtlagckiombkngaaWMore
namespace Go.Proofs.Ytlagckiombkngaa.Q
open Go.Proofs.Ytlagckiombkngaa.Hand
open Go.RowKit Go.Proofs.YtlagckiombkngaaW.PrintWords Go.Proofs.YtlagckiombkngaaW.PrintLast Go.Proofs.YtlagckiombkngaaW.PrintMore
attribute [local go_sem] max2_int min2_int max_two min_two max_three min_three max_four min_four   -- for this text's walks alone
set_option linter.unusedVariables false
set_option linter.unusedSimpArgs false



def errW : Option Int → Value
  | none => .nilIface
  | some c => .iface 0 (.int .i64 c)
theorem errW_none : errW none = .nilIface := rfl
theorem errW_some (c : Int) : errW (some c) = .iface 0 (.int .i64 c) := rfl

theorem info2 : (Try.prog.info? 2).map (fun i => (i.zero, i.size, i.bytes)) = some (some (.int .i64 0), 1, 8) := by kernel_rfl
-- the values' own types

end Go.Proofs.Ytlagckiombkngaa.Q
