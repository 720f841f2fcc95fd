/- Contracts, walks and rows for laws of the seat Ytaifdpndbffhiaa, written by a program of this session out of the translation: plain Lean, checked by Lean. No condition. -/
import Derived.Test.YtaifdpndbffhiaaProg
import Derived.Below
import Derived.Deep.Draws
import Derived.Deep.AppendLies
import Derived.Maps.AppendAt
import Derived.OwnWalk
import Derived.Laws.BytesArg
import Derived.Laws.MakeOwn
import Derived.Laws.OwnMore
import Derived.Deep.OwnRows
import Derived.Tactics
import Derived.Lib.ConvBytes
import Derived.Laws.Slices
import Derived.WalkKit
import Derived.KernelRfl
import Derived.RowKit3
import Derived.Deep.LoopGhost
import Derived.Deep.QuietTactic
import Derived.BigQuiet
import Derived.WideLaws
import Derived.Deep.DeepCutAuto
import Derived.Deep.CutBlock
import Derived.Deep.RegionHeld3
import Derived.Laws.Rows
import Derived.Lib.AppendStr
import Derived.ArgAppend
import Derived.Laws.IdiomCopy
import Derived.OrdersHeld
import Derived.Laws.BitsLemmas
import Derived.RowKit
import Derived.Test.YtaifdpndbffhiaaHandMOI
import Derived.Test.YtaifdpndbffhiaaWWords
import Derived.Test.YtaifdpndbffhiaaWLast
import Derived.Test.YtaifdpndbffhiaaWTab
import Derived.Test.YtaifdpndbffhiaaWFour
import Derived.Test.YtaifdpndbffhiaaWQPut
import Derived.Test.YtaifdpndbffhiaaWApart
import Derived.Test.YtaifdpndbffhiaaWArr
import Derived.Test.YtaifdpndbffhiaaWZeros
import Derived.Test.YtaifdpndbffhiaaWFoot
import Derived.Test.YtaifdpndbffhiaaWKept
import Derived.Test.YtaifdpndbffhiaaWShare
import Derived.Test.YtaifdpndbffhiaaWN
import Derived.Test.YtaifdpndbffhiaaWFootNe
import Derived.Test.YtaifdpndbffhiaaWAt
import Derived.Test.YtaifdpndbffhiaaWEqStruct
import Derived.Test.YtaifdpndbffhiaaWRepsOne
import Derived.Test.YtaifdpndbffhiaaWInv
import Derived.Test.YtaifdpndbffhiaaWInvWords
import Derived.Test.YtaifdpndbffhiaaWGuard
import Derived.Test.YtaifdpndbffhiaaWNEv
import Derived.Test.YtaifdpndbffhiaaWMore
namespace Go.Proofs.Ytaifdpndbffhiaa.Q
open Go.Proofs.Ytaifdpndbffhiaa.Hand
open Go.RowKit Go.Proofs.YtaifdpndbffhiaaW.PrintWords Go.Proofs.YtaifdpndbffhiaaW.PrintLast Go.Proofs.YtaifdpndbffhiaaW.PrintMore
attribute [local go_sem] max2_int min2_int max_two min_two max_three min_three max_four min_four   -- for this text's walks alone
set_option linter.unusedVariables false
set_option linter.unusedSimpArgs false



def errW : Option Int → Value
  | none => .nilIface
  | some c => .iface 0 (.int .i64 c)
theorem errW_none : errW none = .nilIface := rfl
theorem errW_some (c : Int) : errW (some c) = .iface 0 (.int .i64 c) := rfl

theorem info2 : (Try.prog.info? 2).map (fun i => (i.zero, i.size, i.bytes)) = some (some (.int .i64 0), 1, 8) := by kernel_rfl
-- the values' own types

end Go.Proofs.Ytaifdpndbffhiaa.Q
