/- Contracts, walks and rows for laws of the seat Ytenignpfelipgaa, written by a program of this session out of the translation: plain Lean, checked by Lean. No condition. -/
import Derived.Test.YtenignpfelipgaaProg
import Derived.Below
import Derived.Deep.Draws
import Derived.Deep.AppendLies
import Derived.Maps.AppendAt
import Derived.OwnWalk
import Derived.Laws.BytesArg
import Derived.Laws.MakeOwn
import Derived.Laws.OwnMore
import Derived.Deep.OwnRows
import Derived.Tactics
import Derived.Lib.ConvBytes
import Derived.Laws.Slices
import Derived.WalkKit
import Derived.KernelRfl
import Derived.RowKit3
import Derived.Deep.LoopGhost
import Derived.Deep.QuietTactic
import Derived.BigQuiet
import Derived.WideLaws
import Derived.Deep.DeepCutAuto
import Derived.Deep.CutBlock
import Derived.Deep.RegionHeld3
import Derived.Laws.Rows
import Derived.Lib.AppendStr
import Derived.ArgAppend
import Derived.Laws.IdiomCopy
import Derived.OrdersHeld
import Derived.Laws.BitsLemmas
import Derived.RowKit
import Derived.Test.YtenignpfelipgaaHandRain
import Derived.Test.YtenignpfelipgaaWWords
import Derived.Test.YtenignpfelipgaaWLast
import Derived.Test.YtenignpfelipgaaWTab
import Derived.Test.YtenignpfelipgaaWFour
import Derived.Test.YtenignpfelipgaaWQPut
import Derived.Test.YtenignpfelipgaaWApart
import Derived.Test.YtenignpfelipgaaWArr
import Derived.Test.YtenignpfelipgaaWZeros
import Derived.Test.YtenignpfelipgaaWFoot
import Derived.Test.YtenignpfelipgaaWKept
import Derived.Test.YtenignpfelipgaaWShare
import Derived.Test.YtenignpfelipgaaWN
import Derived.Test.YtenignpfelipgaaWFootNe
import Derived.Test.YtenignpfelipgaaWAt
import Derived.Test.YtenignpfelipgaaWEqStruct
import Derived.Test.YtenignpfelipgaaWRepsOne
import Derived.Test.YtenignpfelipgaaWInv
import Derived.Test.YtenignpfelipgaaWInvWords
import Derived.Test.YtenignpfelipgaaWGuard
import Derived.Test.YtenignpfelipgaaWNEv
import Derived.Test.YtenignpfelipgaaWMore
namespace Go.Proofs.Ytenignpfelipgaa.Q
open Go.Proofs.Ytenignpfelipgaa.Hand
open Go.RowKit Go.Proofs.YtenignpfelipgaaW.PrintWords Go.Proofs.YtenignpfelipgaaW.PrintLast Go.Proofs.YtenignpfelipgaaW.PrintMore
attribute [local go_sem] max2_int min2_int max_two min_two max_three min_three max_four min_four   -- for this text's walks alone
set_option linter.unusedVariables false
set_option linter.unusedSimpArgs false



def errW : Option Int → Value
  | none => .nilIface
  | some c => .iface 0 (.int .i64 c)
theorem errW_none : errW none = .nilIface := rfl
theorem errW_some (c : Int) : errW (some c) = .iface 0 (.int .i64 c) := rfl

theorem info5 : (Try.prog.info? 5).map (fun i => (i.zero, i.size, i.bytes)) = some (some (.int .u8 0), 1, 1) := by kernel_rfl
-- the values' own types

end Go.Proofs.Ytenignpfelipgaa.Q
