/- Partitions as they lie. No condition. -/
import Derived.Test.YtcmkibljlfnkbaaProg
import Derived.WalkKit
import Derived.KernelRfl
import Derived.Deep.LoopGhost
import Derived.Deep.Draws
import Derived.Lib.Walk
import Derived.OwnWalk
import Derived.Lib.Hide
import Derived.Test.YtcmkibljlfnkbaaWWords
import Derived.Test.YtcmkibljlfnkbaaWLast
import Derived.Test.YtcmkibljlfnkbaaWMore
namespace Go.Proofs.Ytcmkibljlfnkbaa.Hand
open Go.RowKit Go.Proofs.YtcmkibljlfnkbaaW.PrintWords Go.Proofs.YtcmkibljlfnkbaaW.PrintLast
set_option linter.unusedVariables false
set_option linter.unusedSimpArgs false

/-- The cells of a partition. -/
def par (n : Int) (b : List Int) : Array Value := (Value.int .i64 n :: b.map (Value.int .u8)).toArray
theorem par_size (n : Int) (b : List Int) : (par n b).size = b.length + 1 := by simp [par]
theorem arr8 (b : List Int) (h : b.length = 8) : ∃ x0 x1 x2 x3 x4 x5 x6 x7 : Int, b = [x0, x1, x2, x3, x4, x5, x6, x7] := by
  match b, h with
  | [x0, x1, x2, x3, x4, x5, x6, x7], _ => exact ⟨x0, x1, x2, x3, x4, x5, x6, x7, rfl⟩
theorem sizePar : (Try.prog.info? 33).map (·.size) = some 9 := by kernel_rfl
theorem par_one (n : Int) (b : List Int) : (par n b).all (·.oneCell') = true := by
  unfold par
  simp [Value.oneCell']
theorem below_setRow {base : Nat} {w W : World} {g : Nat} {cs : Array Value} (h : Below base w W) (hg : base ≤ g) : Below base w (W.setRow g cs) := ⟨h.os, h.tape, h.output, by rw [setRow_size]; exact h.size, fun i hi => (setRow_other W g i cs (by omega)).trans (h.block i hi)⟩
end Go.Proofs.Ytcmkibljlfnkbaa.Hand
