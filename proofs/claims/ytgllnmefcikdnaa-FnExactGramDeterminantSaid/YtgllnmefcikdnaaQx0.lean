/- Contracts, walks and rows for laws of the seat Ytgllnmefcikdnaa, written by a program of this session out of the translation: plain Lean, checked by Lean. No condition. -/
import Derived.Test.YtgllnmefcikdnaaProg
import Derived.Below
import Derived.Deep.Draws
import Derived.Deep.AppendLies
import Derived.Maps.AppendAt
import Derived.OwnWalk
import Derived.Laws.BytesArg
import Derived.Laws.MakeOwn
import Derived.Laws.OwnMore
import Derived.Deep.OwnRows
import Derived.Tactics
import Derived.Lib.ConvBytes
import Derived.Laws.Slices
import Derived.WalkKit
import Derived.KernelRfl
import Derived.RowKit3
import Derived.Deep.LoopGhost
import Derived.Deep.QuietTactic
import Derived.BigQuiet
import Derived.WideLaws
import Derived.Deep.DeepCutAuto
import Derived.Deep.CutBlock
import Derived.Deep.RegionHeld3
import Derived.Laws.Rows
import Derived.Lib.AppendStr
import Derived.ArgAppend
import Derived.Laws.IdiomCopy
import Derived.OrdersHeld
import Derived.Laws.BitsLemmas
import Derived.RowKit
import Derived.Test.YtgllnmefcikdnaaHandGram
import Derived.Test.YtgllnmefcikdnaaWWords
import Derived.Test.YtgllnmefcikdnaaWLast
import Derived.Test.YtgllnmefcikdnaaWTab
import Derived.Test.YtgllnmefcikdnaaWFour
import Derived.Test.YtgllnmefcikdnaaWQPut
import Derived.Test.YtgllnmefcikdnaaWApart
import Derived.Test.YtgllnmefcikdnaaWArr
import Derived.Test.YtgllnmefcikdnaaWZeros
import Derived.Test.YtgllnmefcikdnaaWFoot
import Derived.Test.YtgllnmefcikdnaaWKept
import Derived.Test.YtgllnmefcikdnaaWShare
import Derived.Test.YtgllnmefcikdnaaWN
import Derived.Test.YtgllnmefcikdnaaWFootNe
import Derived.Test.YtgllnmefcikdnaaWAt
import Derived.Test.YtgllnmefcikdnaaWEqStruct
import Derived.Test.YtgllnmefcikdnaaWRepsOne
import Derived.Test.YtgllnmefcikdnaaWInv
import Derived.Test.YtgllnmefcikdnaaWInvWords
import Derived.Test.YtgllnmefcikdnaaWGuard
import Derived.Test.YtgllnmefcikdnaaWNEv
import Derived.Test.YtgllnmefcikdnaaWMore
namespace Go.Proofs.Ytgllnmefcikdnaa.Q
open Go.Proofs.Ytgllnmefcikdnaa.Hand
open Go.RowKit Go.Proofs.YtgllnmefcikdnaaW.PrintWords Go.Proofs.YtgllnmefcikdnaaW.PrintLast Go.Proofs.YtgllnmefcikdnaaW.PrintMore
attribute [local go_sem] max2_int min2_int max_two min_two max_three min_three max_four min_four   -- for this text's walks alone
set_option linter.unusedVariables false
set_option linter.unusedSimpArgs false



def errW : Option Int → Value
  | none => .nilIface
  | some c => .iface 0 (.int .i64 c)
theorem errW_none : errW none = .nilIface := rfl
theorem errW_some (c : Int) : errW (some c) = .iface 0 (.int .i64 c) := rfl

-- the values' own types

end Go.Proofs.Ytgllnmefcikdnaa.Q
