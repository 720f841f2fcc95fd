/- The program's constants are those of the reference: the pure statement of FnExactConstants. No condition. -/
import Derived.Test.YthkaeacfokfhpaaPFnExactConstantsx1
namespace Go.Proofs.Ythkaeacfokfhpaa.PureFnExactConstants
open Go.RowKit Go.Proofs.Ythkaeacfokfhpaa.PFnExactConstants Go.Proofs.YthkaeacfokfhpaaW.PrintWords Go.Proofs.YthkaeacfokfhpaaW.PrintLast

theorem law : laws_FnExactConstants.Pure := by
  unfold laws_FnExactConstants.Pure laws_FnExactConstants.f
  rfl

end Go.Proofs.Ythkaeacfokfhpaa.PureFnExactConstants
namespace Go.Proofs.Ythkaeacfokfhpaa.Pure
open Go.Proofs.Ythkaeacfokfhpaa.PFnExactConstants
theorem FnExactConstants : laws_FnExactConstants.Pure := Go.Proofs.Ythkaeacfokfhpaa.PureFnExactConstants.law
end Go.Proofs.Ythkaeacfokfhpaa.Pure
