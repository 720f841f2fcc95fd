/- Contracts, walks and rows for laws of the seat Ytfboiigejaiodaa, written by a program of this session out of the translation: plain Lean, checked by Lean. No condition. -/
import Derived.Test.YtfboiigejaiodaaProg
import Derived.Below
import Derived.Deep.Draws
import Derived.Deep.AppendLies
import Derived.Maps.AppendAt
import Derived.OwnWalk
import Derived.Laws.BytesArg
import Derived.Laws.MakeOwn
import Derived.Laws.OwnMore
import Derived.Deep.OwnRows
import Derived.Tactics
import Derived.Lib.ConvBytes
import Derived.Laws.Slices
import Derived.WalkKit
import Derived.KernelRfl
import Derived.RowKit3
import Derived.Deep.LoopGhost
import Derived.Deep.QuietTactic
import Derived.BigQuiet
import Derived.WideLaws
import Derived.Deep.DeepCutAuto
import Derived.Deep.CutBlock
import Derived.Deep.RegionHeld3
import Derived.Laws.Rows
import Derived.Lib.AppendStr
import Derived.ArgAppend
import Derived.Laws.IdiomCopy
import Derived.OrdersHeld
import Derived.Laws.BitsLemmas
import Derived.RowKit
import Derived.Test.YtfboiigejaiodaaHandBraid
import Derived.Test.YtfboiigejaiodaaWWords
import Derived.Test.YtfboiigejaiodaaWLast
import Derived.Test.YtfboiigejaiodaaWTab
import Derived.Test.YtfboiigejaiodaaWFour
import Derived.Test.YtfboiigejaiodaaWQPut
import Derived.Test.YtfboiigejaiodaaWApart
import Derived.Test.YtfboiigejaiodaaWArr
import Derived.Test.YtfboiigejaiodaaWZeros
import Derived.Test.YtfboiigejaiodaaWFoot
import Derived.Test.YtfboiigejaiodaaWKept
import Derived.Test.YtfboiigejaiodaaWShare
import Derived.Test.YtfboiigejaiodaaWN
import Derived.Test.YtfboiigejaiodaaWFootNe
import Derived.Test.YtfboiigejaiodaaWAt
import Derived.Test.YtfboiigejaiodaaWEqStruct
import Derived.Test.YtfboiigejaiodaaWRepsOne
import Derived.Test.YtfboiigejaiodaaWInv
import Derived.Test.YtfboiigejaiodaaWInvWords
import Derived.Test.YtfboiigejaiodaaWGuard
import Derived.Test.YtfboiigejaiodaaWNEv
import Derived.Test.YtfboiigejaiodaaWMore
namespace Go.Proofs.Ytfboiigejaiodaa.Q
open Go.Proofs.Ytfboiigejaiodaa.Hand
open Go.RowKit Go.Proofs.YtfboiigejaiodaaW.PrintWords Go.Proofs.YtfboiigejaiodaaW.PrintLast Go.Proofs.YtfboiigejaiodaaW.PrintMore
attribute [local go_sem] max2_int min2_int max_two min_two max_three min_three max_four min_four   -- for this text's walks alone
set_option linter.unusedVariables false
set_option linter.unusedSimpArgs false



def errW : Option Int → Value
  | none => .nilIface
  | some c => .iface 0 (.int .i64 c)
theorem errW_none : errW none = .nilIface := rfl
theorem errW_some (c : Int) : errW (some c) = .iface 0 (.int .i64 c) := rfl

theorem info2 : (Try.prog.info? 2).map (fun i => (i.zero, i.size, i.bytes)) = some (some (.int .i64 0), 1, 8) := by kernel_rfl
theorem info4 : (Try.prog.info? 4).map (fun i => (i.zero, i.size, i.bytes)) = some (some (.bool false), 1, 1) := by kernel_rfl
-- the values' own types

end Go.Proofs.Ytfboiigejaiodaa.Q
