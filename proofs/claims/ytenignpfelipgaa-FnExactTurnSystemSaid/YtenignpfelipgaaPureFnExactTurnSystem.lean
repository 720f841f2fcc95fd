/- TurnSystem of the program returns what the reference returns, for all texts: the pure statement. No condition. -/
import Derived.Test.YtenignpfelipgaaPE
import Derived.Test.YtenignpfelipgaaQx1
namespace Go.Proofs.Ytenignpfelipgaa.Pure
open Go.RowKit Go.Proofs.Ytenignpfelipgaa.Q Go.Proofs.Ytenignpfelipgaa.Hand Go.Proofs.YtenignpfelipgaaW.PrintWords Go.Proofs.YtenignpfelipgaaW.PrintLast Go.Proofs.Ytenignpfelipgaa.PA Go.Proofs.Ytenignpfelipgaa.PC Go.Proofs.Ytenignpfelipgaa.PE


theorem FnExactTurnSystem : laws_FnExactTurnSystem.Pure := by
  intro a _
  refine ⟨1048580, ?_⟩
  unfold laws_FnExactTurnSystem.f
  by_cases ha : a.size ≤ 1048576
  · rw [if_neg (by omega)]
    obtain ⟨s, e, h1, h2⟩ := turnBoth a ha
    rw [h1, h2, Option.bind_some, Option.bind_some]
    simp
  · rw [if_pos (by omega)]

end Go.Proofs.Ytenignpfelipgaa.Pure
