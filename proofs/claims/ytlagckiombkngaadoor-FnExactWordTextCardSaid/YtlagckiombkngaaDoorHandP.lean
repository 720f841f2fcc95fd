/- Printed contracts of small functions, for the hand contracts of the seat YtlagckiombkngaaDoor. No condition. -/
import Derived.Test.YtlagckiombkngaaDoorProg
import Derived.Below
import Derived.Deep.Draws
import Derived.Deep.AppendLies
import Derived.Maps.AppendAt
import Derived.OwnWalk
import Derived.Laws.BytesArg
import Derived.Laws.MakeOwn
import Derived.Laws.OwnMore
import Derived.Deep.OwnRows
import Derived.Tactics
import Derived.Lib.ConvBytes
import Derived.Laws.Slices
import Derived.WalkKit
import Derived.KernelRfl
import Derived.RowKit3
import Derived.Deep.LoopGhost
import Derived.Deep.QuietTactic
import Derived.BigQuiet
import Derived.WideLaws
import Derived.Deep.DeepCutAuto
import Derived.Deep.CutBlock
import Derived.Deep.RegionHeld3
import Derived.Laws.Rows
import Derived.Lib.AppendStr
import Derived.ArgAppend
import Derived.Laws.IdiomCopy
import Derived.OrdersHeld
import Derived.Laws.BitsLemmas
import Derived.RowKit
import Derived.Test.YtlagckiombkngaaDoorWWords
import Derived.Test.YtlagckiombkngaaDoorWLast
import Derived.Test.YtlagckiombkngaaDoorWTab
import Derived.Test.YtlagckiombkngaaDoorWFour
import Derived.Test.YtlagckiombkngaaDoorWQPut
import Derived.Test.YtlagckiombkngaaDoorWApart
import Derived.Test.YtlagckiombkngaaDoorWArr
import Derived.Test.YtlagckiombkngaaDoorWZeros
import Derived.Test.YtlagckiombkngaaDoorWFoot
import Derived.Test.YtlagckiombkngaaDoorWKept
import Derived.Test.YtlagckiombkngaaDoorWShare
import Derived.Test.YtlagckiombkngaaDoorWN
import Derived.Test.YtlagckiombkngaaDoorWFootNe
import Derived.Test.YtlagckiombkngaaDoorWAt
import Derived.Test.YtlagckiombkngaaDoorWEqStruct
import Derived.Test.YtlagckiombkngaaDoorWRepsOne
import Derived.Test.YtlagckiombkngaaDoorWInv
import Derived.Test.YtlagckiombkngaaDoorWInvWords
import Derived.Test.YtlagckiombkngaaDoorWGuard
import Derived.Test.YtlagckiombkngaaDoorWNEv
import Derived.Test.YtlagckiombkngaaDoorWMore
namespace Go.Proofs.YtlagckiombkngaaDoor.Hand
open Go.RowKit Go.Proofs.YtlagckiombkngaaDoorW.PrintWords Go.Proofs.YtlagckiombkngaaDoorW.PrintLast Go.Proofs.YtlagckiombkngaaDoorW.PrintMore
attribute [local go_sem] max2_int min2_int max_two min_two max_three min_three max_four min_four
set_option linter.unusedVariables false
set_option linter.unusedSimpArgs false

def errW : Option Int → Value
  | none => .nilIface
  | some c => .iface 0 (.int .i64 c)
theorem errW_none : errW none = .nilIface := rfl
theorem errW_some (c : Int) : errW (some c) = .iface 0 (.int .i64 c) := rfl

theorem info2 : (Tryd.prog.info? 2).map (fun i => (i.zero, i.size, i.bytes)) = some (some (.int .i64 0), 1, 8) := by kernel_rfl
theorem info5 : (Tryd.prog.info? 5).map (fun i => (i.zero, i.size, i.bytes)) = some (some (.int .u8 0), 1, 1) := by kernel_rfl
-- the values' own types

/-! ### impl_in: function 13 -/
def impl_in.f (a0 : Int) (a1 : Int) (a2 : Int) : Option (Bool) := if a0 ≥ a1 then (some (decide (a0 ≤ a2))) else (some false)
set_option maxHeartbeats 8000000 in
set_option maxRecDepth 100000 in
theorem impl_in.calls (a0 : Int) (a1 : Int) (a2 : Int) (r : Bool) (w : World) (h : impl_in.f a0 a1 a2 = some r) :
    Calls Tryd.prog 13 #[.int .i64 a0, .int .i64 a1, .int .i64 a2] w fun e w' => e = .returned (.bool r) ∧ Drawn0 w w' := by
  have H : (if a0 ≥ a1 then (some (decide (a0 ≤ a2))) else (some false)) = some r := h
  clear h
  by_cases c4 : a0 ≥ a1
  · rw [if_pos c4] at H
    have c4b0 : decide (a1 ≤ a0) = true := decide_eq_true c4
    clear c4
    obtain rfl := Option.some.inj H
    go_enter Tryd.func13, Tryd.ntmps13
    go_wp2
    go_ret
    exact ⟨by first | rfl | (simp; done) | (simp [*]; done), by repeat (first | exact Drawn0.refl _ | apply Drawn0.step)⟩
  · rw [if_neg c4] at H
    have c4b0 : decide (a1 ≤ a0) = false := decide_eq_false c4
    clear c4
    obtain rfl := Option.some.inj H
    go_enter Tryd.func13, Tryd.ntmps13
    go_wp2
    go_ret
    exact ⟨by first | rfl | (simp; done) | (simp [*]; done), by repeat (first | exact Drawn0.refl _ | apply Drawn0.step)⟩

-- NOT PRINTED: function 17 (slices_IndexFunc_int64_int64)

-- NOT PRINTED: function 14 (slices_ContainsFunc_int64_int64)

-- NOT PRINTED: function 10 (impl_wordOk)


end Go.Proofs.YtlagckiombkngaaDoor.Hand
