/- Contracts, walks and rows for laws of the seat Ytkaokemnmaddkaa, written by a program of this session out of the translation: plain Lean, checked by Lean. No condition. -/
import Derived.Test.YtkaokemnmaddkaaProg
import Derived.Below
import Derived.Deep.Draws
import Derived.Deep.AppendLies
import Derived.Maps.AppendAt
import Derived.OwnWalk
import Derived.Laws.BytesArg
import Derived.Laws.MakeOwn
import Derived.Laws.OwnMore
import Derived.Deep.OwnRows
import Derived.Tactics
import Derived.Lib.ConvBytes
import Derived.Laws.Slices
import Derived.WalkKit
import Derived.KernelRfl
import Derived.RowKit3
import Derived.Deep.LoopGhost
import Derived.Deep.QuietTactic
import Derived.BigQuiet
import Derived.WideLaws
import Derived.Deep.DeepCutAuto
import Derived.Deep.CutBlock
import Derived.Deep.RegionHeld3
import Derived.Laws.Rows
import Derived.Lib.AppendStr
import Derived.ArgAppend
import Derived.Laws.IdiomCopy
import Derived.OrdersHeld
import Derived.Laws.BitsLemmas
import Derived.RowKit
import Derived.Test.YtkaokemnmaddkaaHandArcs
import Derived.Test.YtkaokemnmaddkaaWWords
import Derived.Test.YtkaokemnmaddkaaWLast
import Derived.Test.YtkaokemnmaddkaaWTab
import Derived.Test.YtkaokemnmaddkaaWFour
import Derived.Test.YtkaokemnmaddkaaWQPut
import Derived.Test.YtkaokemnmaddkaaWApart
import Derived.Test.YtkaokemnmaddkaaWArr
import Derived.Test.YtkaokemnmaddkaaWZeros
import Derived.Test.YtkaokemnmaddkaaWFoot
import Derived.Test.YtkaokemnmaddkaaWKept
import Derived.Test.YtkaokemnmaddkaaWShare
import Derived.Test.YtkaokemnmaddkaaWN
import Derived.Test.YtkaokemnmaddkaaWFootNe
import Derived.Test.YtkaokemnmaddkaaWAt
import Derived.Test.YtkaokemnmaddkaaWEqStruct
import Derived.Test.YtkaokemnmaddkaaWRepsOne
import Derived.Test.YtkaokemnmaddkaaWInv
import Derived.Test.YtkaokemnmaddkaaWInvWords
import Derived.Test.YtkaokemnmaddkaaWGuard
import Derived.Test.YtkaokemnmaddkaaWNEv
import Derived.Test.YtkaokemnmaddkaaWMore
namespace Go.Proofs.Ytkaokemnmaddkaa.Q
open Go.Proofs.Ytkaokemnmaddkaa.Hand
open Go.RowKit Go.Proofs.YtkaokemnmaddkaaW.PrintWords Go.Proofs.YtkaokemnmaddkaaW.PrintLast Go.Proofs.YtkaokemnmaddkaaW.PrintMore
attribute [local go_sem] max2_int min2_int max_two min_two max_three min_three max_four min_four   -- for this text's walks alone
set_option linter.unusedVariables false
set_option linter.unusedSimpArgs false



def errW : Option Int → Value
  | none => .nilIface
  | some c => .iface 0 (.int .i64 c)
theorem errW_none : errW none = .nilIface := rfl
theorem errW_some (c : Int) : errW (some c) = .iface 0 (.int .i64 c) := rfl

theorem info3 : (Try.prog.info? 3).map (fun i => (i.zero, i.size, i.bytes)) = some (some (.int .i64 0), 1, 8) := by kernel_rfl
-- the values' own types

end Go.Proofs.Ytkaokemnmaddkaa.Q
