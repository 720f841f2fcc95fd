-- PRINTED BY print.sh 35421559b90ae4d0a3588c463048766b98c2df88dd9212a6774a882060cdf62d: not written by this session
import Derived.Test.YthkaeacfokfhpaaProg
import Derived.Below
import Derived.Deep.Draws
import Derived.Deep.AppendLies
import Derived.Maps.AppendAt
import Derived.OwnWalk
import Derived.Laws.BytesArg
import Derived.Laws.MakeOwn
import Derived.Laws.OwnMore
import Derived.Deep.OwnRows
import Derived.Tactics
import Derived.Lib.ConvBytes
import Derived.Laws.Slices
import Derived.WalkKit
import Derived.KernelRfl
import Derived.RowKit3
import Derived.Deep.LoopGhost
import Derived.Deep.QuietTactic
import Derived.BigQuiet
import Derived.WideLaws
import Derived.Deep.DeepCutAuto
import Derived.Deep.CutBlock
import Derived.Deep.RegionHeld3
import Derived.Laws.Rows
import Derived.Lib.AppendStr
import Derived.ArgAppend
import Derived.Laws.IdiomCopy
import Derived.OrdersHeld
import Derived.Laws.BitsLemmas
import Derived.RowKit
import Derived.Test.YthkaeacfokfhpaaWWords
import Derived.Test.YthkaeacfokfhpaaWLast
import Derived.Test.YthkaeacfokfhpaaWTab
import Derived.Test.YthkaeacfokfhpaaWFour
import Derived.Test.YthkaeacfokfhpaaWQPut
import Derived.Test.YthkaeacfokfhpaaWApart
import Derived.Test.YthkaeacfokfhpaaWArr
import Derived.Test.YthkaeacfokfhpaaWZeros
import Derived.Test.YthkaeacfokfhpaaWFoot
import Derived.Test.YthkaeacfokfhpaaWKept
import Derived.Test.YthkaeacfokfhpaaWShare
import Derived.Test.YthkaeacfokfhpaaWN
import Derived.Test.YthkaeacfokfhpaaWFootNe
import Derived.Test.YthkaeacfokfhpaaWAt
import Derived.Test.YthkaeacfokfhpaaWEqStruct
import Derived.Test.YthkaeacfokfhpaaWRepsOne
import Derived.Test.YthkaeacfokfhpaaWInv
import Derived.Test.YthkaeacfokfhpaaWInvWords
import Derived.Test.YthkaeacfokfhpaaWGuard
import Derived.Test.YthkaeacfokfhpaaWNEv
import Derived.Test.YthkaeacfokfhpaaWMore
namespace Go.Proofs.Ythkaeacfokfhpaa.PFnExactCountPaths
open Go.RowKit Go.Proofs.YthkaeacfokfhpaaW.PrintWords Go.Proofs.YthkaeacfokfhpaaW.PrintLast Go.Proofs.YthkaeacfokfhpaaW.PrintMore
attribute [local go_sem] max2_int min2_int max_two min_two max_three min_three max_four min_four   -- for this text's walks alone
set_option linter.unusedVariables false
set_option linter.unusedSimpArgs false



def errW : Option Int → Value
  | none => .nilIface
  | some c => .iface 0 (.int .i64 c)
theorem errW_none : errW none = .nilIface := rfl
theorem errW_some (c : Int) : errW (some c) = .iface 0 (.int .i64 c) := rfl

theorem info2 : (Try.prog.info? 2).map (fun i => (i.zero, i.size, i.bytes)) = some (some (.int .i64 0), 1, 8) := by kernel_rfl
-- the values' own types

end Go.Proofs.Ythkaeacfokfhpaa.PFnExactCountPaths
