/- Printed contracts of small functions, for the hand contracts of the seat Ytcmkibljlfnkbaa. No condition. -/
import Derived.Test.YtcmkibljlfnkbaaProg
import Derived.Below
import Derived.Deep.Draws
import Derived.Deep.AppendLies
import Derived.Maps.AppendAt
import Derived.OwnWalk
import Derived.Laws.BytesArg
import Derived.Laws.MakeOwn
import Derived.Laws.OwnMore
import Derived.Deep.OwnRows
import Derived.Tactics
import Derived.Lib.ConvBytes
import Derived.Laws.Slices
import Derived.WalkKit
import Derived.KernelRfl
import Derived.RowKit3
import Derived.Deep.LoopGhost
import Derived.Deep.QuietTactic
import Derived.BigQuiet
import Derived.WideLaws
import Derived.Deep.DeepCutAuto
import Derived.Deep.CutBlock
import Derived.Deep.RegionHeld3
import Derived.Laws.Rows
import Derived.Lib.AppendStr
import Derived.ArgAppend
import Derived.Laws.IdiomCopy
import Derived.OrdersHeld
import Derived.Laws.BitsLemmas
import Derived.RowKit
import Derived.Test.YtcmkibljlfnkbaaWWords
import Derived.Test.YtcmkibljlfnkbaaWLast
import Derived.Test.YtcmkibljlfnkbaaWTab
import Derived.Test.YtcmkibljlfnkbaaWFour
import Derived.Test.YtcmkibljlfnkbaaWQPut
import Derived.Test.YtcmkibljlfnkbaaWApart
import Derived.Test.YtcmkibljlfnkbaaWArr
import Derived.Test.YtcmkibljlfnkbaaWZeros
import Derived.Test.YtcmkibljlfnkbaaWFoot
import Derived.Test.YtcmkibljlfnkbaaWKept
import Derived.Test.YtcmkibljlfnkbaaWShare
import Derived.Test.YtcmkibljlfnkbaaWN
import Derived.Test.YtcmkibljlfnkbaaWFootNe
import Derived.Test.YtcmkibljlfnkbaaWAt
import Derived.Test.YtcmkibljlfnkbaaWEqStruct
import Derived.Test.YtcmkibljlfnkbaaWRepsOne
import Derived.Test.YtcmkibljlfnkbaaWInv
import Derived.Test.YtcmkibljlfnkbaaWInvWords
import Derived.Test.YtcmkibljlfnkbaaWGuard
import Derived.Test.YtcmkibljlfnkbaaWNEv
import Derived.Test.YtcmkibljlfnkbaaWMore
namespace Go.Proofs.Ytcmkibljlfnkbaa.Hand
open Go.RowKit Go.Proofs.YtcmkibljlfnkbaaW.PrintWords Go.Proofs.YtcmkibljlfnkbaaW.PrintLast Go.Proofs.YtcmkibljlfnkbaaW.PrintMore
attribute [local go_sem] max2_int min2_int max_two min_two max_three min_three max_four min_four
set_option linter.unusedVariables false
set_option linter.unusedSimpArgs false

def errW : Option Int → Value
  | none => .nilIface
  | some c => .iface 0 (.int .i64 c)
theorem errW_none : errW none = .nilIface := rfl
theorem errW_some (c : Int) : errW (some c) = .iface 0 (.int .i64 c) := rfl

-- the values' own types

/-! ### spec_l01In: function 9 -/
def spec_l01In.f (a0 : Int) (a1 : Int) (a2 : Int) : Option (Bool) := if a0 ≥ a1 then (some (decide (a0 ≤ a2))) else (some false)
set_option maxHeartbeats 8000000 in
set_option maxRecDepth 100000 in
theorem spec_l01In.calls (a0 : Int) (a1 : Int) (a2 : Int) (r : Bool) (w : World) (h : spec_l01In.f a0 a1 a2 = some r) :
    Calls Try.prog 9 #[.int .i64 a0, .int .i64 a1, .int .i64 a2] w fun e w' => e = .returned (.bool r) ∧ Drawn0 w w' := by
  have H : (if a0 ≥ a1 then (some (decide (a0 ≤ a2))) else (some false)) = some r := h
  clear h
  by_cases c4 : a0 ≥ a1
  · rw [if_pos c4] at H
    have c4b0 : decide (a1 ≤ a0) = true := decide_eq_true c4
    clear c4
    obtain rfl := Option.some.inj H
    go_enter Try.func9, Try.ntmps9
    go_wp2
    go_ret
    exact ⟨by first | rfl | (simp; done) | (simp [*]; done), by repeat (first | exact Drawn0.refl _ | apply Drawn0.step)⟩
  · rw [if_neg c4] at H
    have c4b0 : decide (a1 ≤ a0) = false := decide_eq_false c4
    clear c4
    obtain rfl := Option.some.inj H
    go_enter Try.func9, Try.ntmps9
    go_wp2
    go_ret
    exact ⟨by first | rfl | (simp; done) | (simp [*]; done), by repeat (first | exact Drawn0.refl _ | apply Drawn0.step)⟩

-- NOT PRINTED: function 15 (spec_l07Fill)

-- NOT PRINTED: function 10 (spec_l07All)

-- NOT PRINTED: function 4 (spec_AllPartitions)


/-! ### impl_in: function 11 -/
def impl_in.f (a0 : Int) (a1 : Int) (a2 : Int) : Option (Bool) := if a0 ≥ a1 then (some (decide (a0 ≤ a2))) else (some false)
set_option maxHeartbeats 8000000 in
set_option maxRecDepth 100000 in
theorem impl_in.calls (a0 : Int) (a1 : Int) (a2 : Int) (r : Bool) (w : World) (h : impl_in.f a0 a1 a2 = some r) :
    Calls Try.prog 11 #[.int .i64 a0, .int .i64 a1, .int .i64 a2] w fun e w' => e = .returned (.bool r) ∧ Drawn0 w w' := by
  have H : (if a0 ≥ a1 then (some (decide (a0 ≤ a2))) else (some false)) = some r := h
  clear h
  by_cases c4 : a0 ≥ a1
  · rw [if_pos c4] at H
    have c4b0 : decide (a1 ≤ a0) = true := decide_eq_true c4
    clear c4
    obtain rfl := Option.some.inj H
    go_enter Try.func11, Try.ntmps11
    go_wp2
    go_ret
    exact ⟨by first | rfl | (simp; done) | (simp [*]; done), by repeat (first | exact Drawn0.refl _ | apply Drawn0.step)⟩
  · rw [if_neg c4] at H
    have c4b0 : decide (a1 ≤ a0) = false := decide_eq_false c4
    clear c4
    obtain rfl := Option.some.inj H
    go_enter Try.func11, Try.ntmps11
    go_wp2
    go_ret
    exact ⟨by first | rfl | (simp; done) | (simp [*]; done), by repeat (first | exact Drawn0.refl _ | apply Drawn0.step)⟩

-- NOT PRINTED: function 12 (impl_allPartitions)

-- NOT PRINTED: function 5 (impl_AllPartitions)

-- NOT PRINTED: function 17 (laws_eqByteA8)

-- NOT PRINTED: function 14 (laws_eqPartition)

-- NOT PRINTED: function 6 (laws_eqPartitionS)

-- NOT PRINTED: function 7 (laws_markPartitionS)

-- NOT PRINTED: function 8 (laws_heldPartitionS)

-- NOT PRINTED: function 3 (laws_FnExactAllPartitions)


end Go.Proofs.Ytcmkibljlfnkbaa.Hand
