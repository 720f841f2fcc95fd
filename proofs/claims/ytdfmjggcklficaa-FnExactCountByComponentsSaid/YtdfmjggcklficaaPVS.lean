/- The counts of the pairs of systems with 1 to 5 arcs, run by the kernel. No condition. -/
import Derived.Test.YtdfmjggcklficaaQx2
namespace Go.Proofs.Ytdfmjggcklficaa.PV
open Go.RowKit Go.Proofs.Ytdfmjggcklficaa.Q Go.Proofs.Ytdfmjggcklficaa.Hand Go.Proofs.YtdfmjggcklficaaW.PrintWords Go.Proofs.YtdfmjggcklficaaW.PrintLast

set_option maxRecDepth 100000
theorem spec_CountByComponents_1 : spec_CountByComponents.f 3000 1 = some ([1], 0) := by decide +kernel
theorem spec_CountByComponents_2 : spec_CountByComponents.f 3000 2 = some ([2, 2], 0) := by decide +kernel
theorem spec_CountByComponents_3 : spec_CountByComponents.f 3000 3 = some ([8, 12, 5], 0) := by decide +kernel
theorem spec_CountByComponents_4 : spec_CountByComponents.f 3000 4 = some ([42, 84, 56, 14], 0) := by decide +kernel
theorem spec_CountByComponents_5 : spec_CountByComponents.f 3000 5 = some ([262, 640, 580, 240, 42], 0) := by decide +kernel

end Go.Proofs.Ytdfmjggcklficaa.PV
