/- Contracts, walks and rows for laws of the seat Ytbkokdpginghoaa, written by a program of this session out of the translation: plain Lean, checked by Lean. No condition. -/
import Derived.Test.YtbkokdpginghoaaProg
import Derived.Below
import Derived.Deep.Draws
import Derived.Deep.AppendLies
import Derived.Maps.AppendAt
import Derived.OwnWalk
import Derived.Laws.BytesArg
import Derived.Laws.MakeOwn
import Derived.Laws.OwnMore
import Derived.Deep.OwnRows
import Derived.Tactics
import Derived.Lib.ConvBytes
import Derived.Laws.Slices
import Derived.WalkKit
import Derived.KernelRfl
import Derived.RowKit3
import Derived.Deep.LoopGhost
import Derived.Deep.QuietTactic
import Derived.BigQuiet
import Derived.WideLaws
import Derived.Deep.DeepCutAuto
import Derived.Deep.CutBlock
import Derived.Deep.RegionHeld3
import Derived.Laws.Rows
import Derived.Lib.AppendStr
import Derived.ArgAppend
import Derived.Laws.IdiomCopy
import Derived.OrdersHeld
import Derived.Laws.BitsLemmas
import Derived.RowKit
import Derived.Test.YtbkokdpginghoaaHandTheta
import Derived.Test.YtbkokdpginghoaaWWords
import Derived.Test.YtbkokdpginghoaaWLast
import Derived.Test.YtbkokdpginghoaaWTab
import Derived.Test.YtbkokdpginghoaaWFour
import Derived.Test.YtbkokdpginghoaaWQPut
import Derived.Test.YtbkokdpginghoaaWApart
import Derived.Test.YtbkokdpginghoaaWArr
import Derived.Test.YtbkokdpginghoaaWZeros
import Derived.Test.YtbkokdpginghoaaWFoot
import Derived.Test.YtbkokdpginghoaaWKept
import Derived.Test.YtbkokdpginghoaaWShare
import Derived.Test.YtbkokdpginghoaaWN
import Derived.Test.YtbkokdpginghoaaWFootNe
import Derived.Test.YtbkokdpginghoaaWAt
import Derived.Test.YtbkokdpginghoaaWEqStruct
import Derived.Test.YtbkokdpginghoaaWRepsOne
import Derived.Test.YtbkokdpginghoaaWInv
import Derived.Test.YtbkokdpginghoaaWInvWords
import Derived.Test.YtbkokdpginghoaaWGuard
import Derived.Test.YtbkokdpginghoaaWNEv
import Derived.Test.YtbkokdpginghoaaWMore
namespace Go.Proofs.Ytbkokdpginghoaa.Q
open Go.Proofs.Ytbkokdpginghoaa.Hand
open Go.RowKit Go.Proofs.YtbkokdpginghoaaW.PrintWords Go.Proofs.YtbkokdpginghoaaW.PrintLast Go.Proofs.YtbkokdpginghoaaW.PrintMore
attribute [local go_sem] max2_int min2_int max_two min_two max_three min_three max_four min_four   -- for this text's walks alone
set_option linter.unusedVariables false
set_option linter.unusedSimpArgs false



def errW : Option Int → Value
  | none => .nilIface
  | some c => .iface 0 (.int .i64 c)
theorem errW_none : errW none = .nilIface := rfl
theorem errW_some (c : Int) : errW (some c) = .iface 0 (.int .i64 c) := rfl

theorem info2 : (Try.prog.info? 2).map (fun i => (i.zero, i.size, i.bytes)) = some (some (.int .i64 0), 1, 8) := by kernel_rfl
-- the values' own types

end Go.Proofs.Ytbkokdpginghoaa.Q
