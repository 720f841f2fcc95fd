/- Contracts, walks and rows for laws of the seat Ytdkpgnbamecifaa, written by a program of this session out of the translation: plain Lean, checked by Lean. No condition. -/
import Derived.Test.YtdkpgnbamecifaaProg
import Derived.Below
import Derived.Deep.Draws
import Derived.Deep.AppendLies
import Derived.Maps.AppendAt
import Derived.OwnWalk
import Derived.Laws.BytesArg
import Derived.Laws.MakeOwn
import Derived.Laws.OwnMore
import Derived.Deep.OwnRows
import Derived.Tactics
import Derived.Lib.ConvBytes
import Derived.Laws.Slices
import Derived.WalkKit
import Derived.KernelRfl
import Derived.RowKit3
import Derived.Deep.LoopGhost
import Derived.Deep.QuietTactic
import Derived.BigQuiet
import Derived.WideLaws
import Derived.Deep.DeepCutAuto
import Derived.Deep.CutBlock
import Derived.Deep.RegionHeld3
import Derived.Laws.Rows
import Derived.Lib.AppendStr
import Derived.ArgAppend
import Derived.Laws.IdiomCopy
import Derived.OrdersHeld
import Derived.Laws.BitsLemmas
import Derived.RowKit
import Derived.Test.YtdkpgnbamecifaaHandPairs
import Derived.Test.YtdkpgnbamecifaaWWords
import Derived.Test.YtdkpgnbamecifaaWLast
import Derived.Test.YtdkpgnbamecifaaWTab
import Derived.Test.YtdkpgnbamecifaaWFour
import Derived.Test.YtdkpgnbamecifaaWQPut
import Derived.Test.YtdkpgnbamecifaaWApart
import Derived.Test.YtdkpgnbamecifaaWArr
import Derived.Test.YtdkpgnbamecifaaWZeros
import Derived.Test.YtdkpgnbamecifaaWFoot
import Derived.Test.YtdkpgnbamecifaaWKept
import Derived.Test.YtdkpgnbamecifaaWShare
import Derived.Test.YtdkpgnbamecifaaWN
import Derived.Test.YtdkpgnbamecifaaWFootNe
import Derived.Test.YtdkpgnbamecifaaWAt
import Derived.Test.YtdkpgnbamecifaaWEqStruct
import Derived.Test.YtdkpgnbamecifaaWRepsOne
import Derived.Test.YtdkpgnbamecifaaWInv
import Derived.Test.YtdkpgnbamecifaaWInvWords
import Derived.Test.YtdkpgnbamecifaaWGuard
import Derived.Test.YtdkpgnbamecifaaWNEv
import Derived.Test.YtdkpgnbamecifaaWMore
namespace Go.Proofs.Ytdkpgnbamecifaa.Q
open Go.Proofs.Ytdkpgnbamecifaa.Hand
open Go.RowKit Go.Proofs.YtdkpgnbamecifaaW.PrintWords Go.Proofs.YtdkpgnbamecifaaW.PrintLast Go.Proofs.YtdkpgnbamecifaaW.PrintMore
attribute [local go_sem] max2_int min2_int max_two min_two max_three min_three max_four min_four   -- for this text's walks alone
set_option linter.unusedVariables false
set_option linter.unusedSimpArgs false



def errW : Option Int → Value
  | none => .nilIface
  | some c => .iface 0 (.int .i64 c)
theorem errW_none : errW none = .nilIface := rfl
theorem errW_some (c : Int) : errW (some c) = .iface 0 (.int .i64 c) := rfl

theorem info3 : (Try.prog.info? 3).map (fun i => (i.zero, i.size, i.bytes)) = some (some (.int .i64 0), 1, 8) := by kernel_rfl
-- the values' own types

end Go.Proofs.Ytdkpgnbamecifaa.Q
