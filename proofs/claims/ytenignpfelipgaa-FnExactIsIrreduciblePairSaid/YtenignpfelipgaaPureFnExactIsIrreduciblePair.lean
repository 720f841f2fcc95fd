/- IsIrreduciblePair of the program returns what the reference returns, for all texts: the pure statement. No condition. -/
import Derived.Test.YtenignpfelipgaaPD
import Derived.Test.YtenignpfelipgaaQx1
namespace Go.Proofs.Ytenignpfelipgaa.Pure
open Go.RowKit Go.Proofs.Ytenignpfelipgaa.Q Go.Proofs.Ytenignpfelipgaa.Hand Go.Proofs.YtenignpfelipgaaW.PrintWords Go.Proofs.YtenignpfelipgaaW.PrintLast Go.Proofs.Ytenignpfelipgaa.PA Go.Proofs.Ytenignpfelipgaa.PC Go.Proofs.Ytenignpfelipgaa.PD


theorem FnExactIsIrreduciblePair : laws_FnExactIsIrreduciblePair.Pure := by
  intro a b _ _
  refine ⟨1048580, ?_⟩
  unfold laws_FnExactIsIrreduciblePair.f
  by_cases ha : a.size ≤ 1048576
  · rw [if_neg (by omega)]
    by_cases hb : b.size ≤ 1048576
    · rw [if_neg (by omega)]
      obtain ⟨y, e, h1, h2⟩ := irrBoth a b ha hb
      rw [h1, h2, Option.bind_some, Option.bind_some]
      simp
    · rw [if_pos (by omega)]
  · rw [if_pos (by omega)]

end Go.Proofs.Ytenignpfelipgaa.Pure
