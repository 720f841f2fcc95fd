/- ComponentDeterminant of the program returns what the reference returns, for all whole numbers: the pure statement. No condition. -/
import Derived.Test.YtaaemhjdnncgdaaPC
import Derived.Test.YtaaemhjdnncgdaaQx1
namespace Go.Proofs.Ytaaemhjdnncgdaa.Pure
open Go.RowKit Go.Proofs.Ytaaemhjdnncgdaa.Q Go.Proofs.Ytaaemhjdnncgdaa.Hand Go.Proofs.YtaaemhjdnncgdaaW.PrintWords Go.Proofs.YtaaemhjdnncgdaaW.PrintLast Go.Proofs.Ytaaemhjdnncgdaa.PC
set_option linter.unusedVariables false
set_option linter.unusedSimpArgs false


theorem FnExactComponentDeterminant : laws_FnExactComponentDeterminant.Pure := by
  intro p c m _ _ _
  obtain ⟨a, b, h1, h2⟩ := compDet p c m
  unfold laws_FnExactComponentDeterminant.f
  rw [h1, h2]
  simp

end Go.Proofs.Ytaaemhjdnncgdaa.Pure
